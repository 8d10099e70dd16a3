/- The plain laws of the stable sort's blocks. No program is in sight. -/
import Derived.Test.YtaphjehkpdjolaaMergeP
namespace Go.Proofs.Ytaphjehkpdjolaa
open Go.RowKit
set_option linter.unusedVariables false
set_option linter.unusedSimpArgs false

theorem sorted_same {xs ys : List Pts} {a b : Nat} (h : SortedOn xs a b) (e : ∀ k, a ≤ k → k < b → rg ys k = rg xs k) : SortedOn ys a b := fun p q h1 h2 h3 => by
  rw [e p h1 (by omega), e q (by omega) h3]; exact h p q h1 h2 h3
def Inv1 (zs : List Pts) (c k : Nat) : Prop := ∀ j, j < k → SortedOn zs (j * c) (j * c + c)
def Blocks (zs : List Pts) (c n : Nat) : Prop := ∀ j, SortedOn zs (j * c) (min (j * c + c) n)
def Inv2 (zs : List Pts) (c k n : Nat) : Prop := (∀ j, j < k → SortedOn zs (j * (2 * c)) (j * (2 * c) + 2 * c)) ∧ ∀ j, 2 * k ≤ j → SortedOn zs (j * c) (min (j * c + c) n)
theorem mul_step {j k c : Nat} (h : j < k) : j * c + c ≤ k * c := by
  have : (j + 1) * c ≤ k * c := Nat.mul_le_mul_right c h
  rwa [Nat.succ_mul] at this
theorem inv1_step {xs ys : List Pts} {c k : Nat} (h : Inv1 xs c k) (hs : SortedOn ys (k * c) (k * c + c)) (ho : ∀ q, (q < k * c ∨ k * c + c ≤ q) → rg ys q = rg xs q) : Inv1 ys c (k + 1) := fun j hj => by
  by_cases e : j = k
  · subst e; exact hs
  · have := mul_step (c := c) (show j < k by omega)
    exact sorted_same (h j (by omega)) (fun q h1 h2 => ho q (.inl (by omega)))
theorem inv1_end {xs ys : List Pts} {c k n : Nat} (h : Inv1 xs c k) (hk : k * c ≤ n) (hn : n < k * c + c) (hs : SortedOn ys (k * c) n) (ho : ∀ q, (q < k * c ∨ n ≤ q) → rg ys q = rg xs q) : Blocks ys c n := fun j => by
  rcases Nat.lt_trichotomy j k with e | e | e
  · have := mul_step (c := c) e
    exact (sorted_same (h j e) (fun q h1 h2 => ho q (.inl (by omega)))).sub (Nat.le_refl _) (Nat.min_le_left _ _)
  · subst e; exact hs.sub (Nat.le_refl _) (Nat.min_le_right _ _)
  · have := mul_step (c := c) e
    intro p q h1 h2 h3; omega
theorem inv2_start {zs : List Pts} {c n : Nat} (h : Blocks zs c n) : Inv2 zs c 0 n := ⟨fun j hj => absurd hj (Nat.not_lt_zero _), fun j _ => h j⟩
theorem two_mul' (k c : Nat) : 2 * k * c = k * (2 * c) := by rw [Nat.mul_comm 2 k, Nat.mul_assoc]
theorem inv2_left {zs : List Pts} {c k n : Nat} (h : Inv2 zs c k n) : SortedOn zs (k * (2 * c)) (min (k * (2 * c) + c) n) := by
  have := h.2 (2 * k) (Nat.le_refl _)
  rwa [two_mul'] at this
theorem inv2_right {zs : List Pts} {c k n : Nat} (h : Inv2 zs c k n) : SortedOn zs (k * (2 * c) + c) (min (k * (2 * c) + c + c) n) := by
  have := h.2 (2 * k + 1) (by omega)
  rwa [Nat.succ_mul, two_mul'] at this
theorem inv2_step {xs ys : List Pts} {c k n : Nat} (h : Inv2 xs c k n) (hm : Merges xs ys (k * (2 * c)) (k * (2 * c) + 2 * c)) : Inv2 ys c (k + 1) n := by
  refine ⟨inv1_step h.1 hm.2.1 hm.2.2.1, fun j hj => ?_⟩
  have e : (k * (2 * c) + 2 * c) ≤ j * c := by
    have := Nat.mul_le_mul_right c (show 2 * (k + 1) ≤ j from hj)
    rw [two_mul', Nat.succ_mul] at this; exact this
  exact sorted_same (h.2 j (by omega)) (fun q h1 h2 => hm.2.2.1 q (.inr (by omega)))
theorem inv2_end {xs ys : List Pts} {c k n : Nat} (h : Inv2 xs c k n) (hk : k * (2 * c) ≤ n) (hn : n < k * (2 * c) + 2 * c) (hs : SortedOn ys (k * (2 * c)) n) (ho : ∀ q, (q < k * (2 * c) ∨ n ≤ q) → rg ys q = rg xs q) : Blocks ys (2 * c) n :=
  inv1_end h.1 hk hn hs ho
theorem blocks_done {zs : List Pts} {c n : Nat} (h : Blocks zs c n) (hn : n ≤ c) : SortedOn zs 0 n := by
  have := h 0
  rw [Nat.zero_mul, Nat.zero_add, Nat.min_eq_right hn] at this
  exact this
end Go.Proofs.Ytaphjehkpdjolaa
