/- The plain laws of the stable sort's merging: two ranges change places, rotation, the symmetric merge. No program is in sight. -/
import Derived.Test.YtaphjehkpdjolaaSortP
namespace Go.Proofs.Ytaphjehkpdjolaa
open Go.RowKit
set_option linter.unusedVariables false
set_option linter.unusedSimpArgs false

/-- where the elements come from when the ranges [a, m) and [m, b) change places -/
def rho (a m b k : Nat) : Nat := if a ≤ k ∧ k < a + (b - m) then k - a + m else if a + (b - m) ≤ k ∧ k < b then k - (b - m) else k
/-- where they come from when the ranges of n elements from a and from b on change places -/
def sig (a b n k : Nat) : Nat := if a ≤ k ∧ k < a + n then k - a + b else if b ≤ k ∧ k < b + n then k - b + a else k
theorem sig_step {xs zs : List Pts} {a b n i : Nat} (hab : a + n ≤ b) (hb : b + n ≤ zs.length) (hi : i < n) (h : ∀ k, rg zs k = rg xs (sig a b i k)) (k : Nat) : rg (swp zs (a + i) (b + i) []) k = rg xs (sig a b (i + 1) k) := by
  show (swp zs (a + i) (b + i) []).getD k [] = _
  rw [swp_get (by omega) (by omega)]
  have e : ∀ q, zs.getD q [] = rg zs q := fun q => rfl
  rw [e, e, e, h, h, h]
  split
  · congr 1; unfold sig; split <;> split <;> (try split) <;> (try split) <;> omega
  · split
    · congr 1; unfold sig; split <;> split <;> (try split) <;> (try split) <;> omega
    · congr 1; unfold sig; split <;> split <;> (try split) <;> (try split) <;> omega
theorem sig_zero (a b k : Nat) : sig a b 0 k = k := by unfold sig; split <;> (try split) <;> omega
theorem rot_gt {m i j : Nat} (hi : i ≤ m) (hij : j < i) (k : Nat) : sig (m - i) m j (rho (m - (i - j)) m (m + j) k) = rho (m - i) m (m + j) k := by
  unfold rho sig
  repeat' split
  all_goals omega
theorem rot_lt {m i j : Nat} (hi : i ≤ m) (hij : i < j) (k : Nat) : sig (m - i) (m + j - i) i (rho (m - i) m (m + (j - i)) k) = rho (m - i) m (m + j) k := by
  unfold rho sig
  repeat' split
  all_goals omega
theorem rot_eq {m i : Nat} (hi : i ≤ m) (k : Nat) : sig (m - i) m i k = rho (m - i) m (m + i) k := by
  unfold rho sig
  repeat' split
  all_goals omega
theorem rho_id {a m b : Nat} (h : a = m ∨ m = b) (k : Nat) : rho a m b k = k := by
  unfold rho; split <;> (try split) <;> omega

/-- ys is xs with [a, b) sorted. -/
def Merges (xs ys : List Pts) (a b : Nat) : Prop := ys.Perm xs ∧ SortedOn ys a b ∧ (∀ k, (k < a ∨ b ≤ k) → rg ys k = rg xs k) ∧ (∀ p, a ≤ p → p < b → ∃ p', a ≤ p' ∧ p' < b ∧ rg ys p = rg xs p')
theorem Merges.refl {xs : List Pts} {a b : Nat} (h : SortedOn xs a b) : Merges xs xs a b := ⟨List.Perm.refl _, h, fun _ _ => rfl, fun p h1 h2 => ⟨p, h1, h2, rfl⟩⟩
theorem SortedOn.le {xs : List Pts} {a b p q : Nat} (h : SortedOn xs a b) (h1 : a ≤ p) (h2 : p ≤ q) (h3 : q < b) : leR (rg xs p) (rg xs q) := by
  by_cases e : p = q
  · rw [e]; exact leR_refl _
  · exact h p q h1 (by omega) h3
theorem SortedOn.sub {xs : List Pts} {a b a' b' : Nat} (h : SortedOn xs a b) (h1 : a ≤ a') (h2 : b' ≤ b) : SortedOn xs a' b' := fun p q h3 h4 h5 => h p q (by omega) h4 (by omega)

/-- One element on the left is put among those on the right. -/
theorem merges_left {xs ys : List Pts} {a b i : Nat} (hs : SortedOn xs (a + 1) b) (h1 : a + 1 ≤ i) (h2 : i ≤ b) (hl : i = a + 1 ∨ leR (rg xs (i - 1)) (rg xs a)) (hr : i = b ∨ leR (rg xs a) (rg xs i)) (hp : ys.Perm xs) (hg : ∀ k, rg ys k = rg xs (rho a (a + 1) i k)) : Merges xs ys a b := by
  have g1 : ∀ k, a ≤ k → k < i - 1 → rg ys k = rg xs (k + 1) := fun k h3 h4 => by rw [hg]; congr 1; unfold rho; rw [if_pos (by omega)]; omega
  have g2 : rg ys (i - 1) = rg xs a := by rw [hg]; congr 1; unfold rho; rw [if_neg (by omega), if_pos (by omega)]; omega
  have g3 : ∀ k, k < a ∨ i ≤ k → rg ys k = rg xs k := fun k h3 => by rw [hg]; congr 1; unfold rho; rw [if_neg (by omega), if_neg (by omega)]
  refine ⟨hp, fun p q h3 h4 h5 => ?_, fun k hk => g3 k (by omega), fun p h3 h4 => ?_⟩
  · rcases Nat.lt_trichotomy q (i - 1) with hq | hq | hq
    · rw [g1 p h3 (by omega), g1 q (by omega) hq]; exact hs (p + 1) (q + 1) (by omega) (by omega) (by omega)
    · subst hq
      rw [g1 p h3 h4, g2]
      rcases hl with hl | hl
      · omega
      · exact leR_trans (hs.le (by omega) (by omega) (by omega)) hl
    · rw [g3 q (by omega)]
      rcases Nat.lt_trichotomy p (i - 1) with hp | hp | hp
      · rw [g1 p h3 hp]; exact hs (p + 1) q (by omega) (by omega) h5
      · subst hp
        rw [g2]
        rcases hr with hr | hr
        · omega
        · exact leR_trans hr (hs.le (by omega) (by omega) h5)
      · rw [g3 p (by omega)]; exact hs p q (by omega) h4 h5
  · rw [hg]
    refine ⟨_, ?_, ?_, rfl⟩ <;> (unfold rho; split <;> (try split) <;> omega)
/-- One element on the right is put among those on the left. -/
theorem merges_right {xs ys : List Pts} {a m i : Nat} (hs : SortedOn xs a m) (h1 : a ≤ i) (h2 : i ≤ m) (hl : i = a ∨ leR (rg xs (i - 1)) (rg xs m)) (hr : i = m ∨ leR (rg xs m) (rg xs i)) (hp : ys.Perm xs) (hg : ∀ k, rg ys k = rg xs (rho i m (m + 1) k)) : Merges xs ys a (m + 1) := by
  have g1 : ∀ k, i < k → k ≤ m → rg ys k = rg xs (k - 1) := fun k h3 h4 => by rw [hg]; congr 1; unfold rho; rw [if_neg (by omega), if_pos (by omega)]; omega
  have g2 : rg ys i = rg xs m := by rw [hg]; congr 1; unfold rho; rw [if_pos (by omega)]; omega
  have g3 : ∀ k, k < i ∨ m < k → rg ys k = rg xs k := fun k h3 => by rw [hg]; congr 1; unfold rho; rw [if_neg (by omega), if_neg (by omega)]
  refine ⟨hp, fun p q h3 h4 h5 => ?_, fun k hk => g3 k (by omega), fun p h3 h4 => ?_⟩
  · rcases Nat.lt_trichotomy p i with hp | hp | hp
    · rw [g3 p (.inl hp)]
      rcases Nat.lt_trichotomy q i with hq | hq | hq
      · rw [g3 q (.inl hq)]; exact hs p q h3 h4 (by omega)
      · subst hq
        rw [g2]
        rcases hl with hl | hl
        · omega
        · exact leR_trans (hs.le h3 (by omega) (by omega)) hl
      · rw [g1 q hq (by omega)]; exact hs.le h3 (by omega) (by omega)
    · subst hp
      rw [g2, g1 q h4 (by omega)]
      rcases hr with hr | hr
      · omega
      · exact leR_trans hr (hs.le h1 (by omega) (by omega))
    · rw [g1 p hp (by omega), g1 q (by omega) (by omega)]; exact hs.le (by omega) (by omega) (by omega)
  · rw [hg]
    refine ⟨_, ?_, ?_, rfl⟩ <;> (unfold rho; split <;> (try split) <;> omega)

/-- The halves behind the rotation. -/
theorem halves {xs zs : List Pts} {a s m t b mid : Nat} (h1 : SortedOn xs a m) (h2 : SortedOn xs m b) (has : a ≤ s) (hsm : s ≤ m) (hmt : m ≤ t) (htb : t ≤ b) (hmid : mid = s + (t - m))
    (hx : a < s → t < b → leR (rg xs (s - 1)) (rg xs t)) (hy : m < t → s < m → leR (rg xs (t - 1)) (rg xs s)) (hg : ∀ k, rg zs k = rg xs (rho s m t k)) :
    SortedOn zs a s ∧ SortedOn zs s mid ∧ SortedOn zs mid t ∧ SortedOn zs t b ∧ ∀ p q, a ≤ p → p < mid → mid ≤ q → q < b → leR (rg zs p) (rg zs q) := by
  subst hmid
  have g1 : ∀ k, s ≤ k → k < s + (t - m) → rg zs k = rg xs (k - s + m) := fun k h3 h4 => by rw [hg]; congr 1; unfold rho; rw [if_pos (by omega)]
  have g2 : ∀ k, s + (t - m) ≤ k → k < t → rg zs k = rg xs (k - (t - m)) := fun k h3 h4 => by rw [hg]; congr 1; unfold rho; rw [if_neg (by omega), if_pos (by omega)]
  have g3 : ∀ k, k < s ∨ t ≤ k → rg zs k = rg xs k := fun k h3 => by rw [hg]; congr 1; unfold rho; rw [if_neg (by omega), if_neg (by omega)]
  refine ⟨fun p q h3 h4 h5 => ?_, fun p q h3 h4 h5 => ?_, fun p q h3 h4 h5 => ?_, fun p q h3 h4 h5 => ?_, fun p q h3 h4 h5 h6 => ?_⟩
  · rw [g3 p (by omega), g3 q (by omega)]; exact h1 p q h3 h4 (by omega)
  · rw [g1 p h3 (by omega), g1 q (by omega) h5]; exact h2 _ _ (by omega) (by omega) (by omega)
  · rw [g2 p h3 (by omega), g2 q (by omega) h5]; exact h1 _ _ (by omega) (by omega) (by omega)
  · rw [g3 p (by omega), g3 q (by omega)]; exact h2 p q (by omega) h4 h5
  · by_cases hp : p < s
    · rw [g3 p (.inl hp)]
      by_cases hq : q < t
      · rw [g2 q h5 hq]; exact h1.le h3 (by omega) (by omega)
      · rw [g3 q (by omega)]
        exact leR_trans (h1.le h3 (show p ≤ s - 1 by omega) (by omega)) (leR_trans (hx (by omega) (by omega)) (h2.le (by omega) (by omega) h6))
    · rw [g1 p (by omega) h4]
      by_cases hq : q < t
      · rw [g2 q h5 hq]
        exact leR_trans (h2.le (by omega) (show _ ≤ t - 1 by omega) (by omega)) (leR_trans (hy (by omega) (by omega)) (h1.le (by omega) (by omega) (by omega)))
      · rw [g3 q (by omega)]; exact h2.le (by omega) (by omega) h6
/-- Both halves sorted. -/
theorem join {xs zs us vs : List Pts} {a s m t b mid : Nat} (has : a ≤ s) (hsm : s ≤ m) (hmt : m ≤ t) (htb : t ≤ b) (hmid : mid = s + (t - m)) (hg : ∀ k, rg zs k = rg xs (rho s m t k)) (hp : zs.Perm xs)
    (hx : ∀ p q, a ≤ p → p < mid → mid ≤ q → q < b → leR (rg zs p) (rg zs q)) (hu : Merges zs us a mid) (hv : Merges us vs mid b) : Merges xs vs a b := by
  have out : ∀ k, k < mid → rg vs k = rg us k := fun k hk => hv.2.2.1 k (.inl hk)
  have src : ∀ p, a ≤ p → p < b → ∃ p', a ≤ p' ∧ p' < b ∧ rg vs p = rg zs p' ∧ (p < mid → p' < mid) ∧ (mid ≤ p → mid ≤ p') := by
    intro p h1 h2
    by_cases h : p < mid
    · obtain ⟨p', h3, h4, h5⟩ := hu.2.2.2 p h1 h
      exact ⟨p', h3, by omega, by rw [out p h, h5], fun _ => h4, fun h => by omega⟩
    · obtain ⟨p', h3, h4, h5⟩ := hv.2.2.2 p (by omega) h2
      exact ⟨p', by omega, h4, by rw [h5, hu.2.2.1 p' (.inr h3)], fun h' => absurd h' h, fun _ => h3⟩
  refine ⟨hv.1.trans (hu.1.trans hp), fun p q h1 h2 h3 => ?_, fun k hk => ?_, fun p h1 h2 => ?_⟩
  · by_cases hq : q < mid
    · rw [out p (by omega), out q hq]; exact hu.2.1 p q h1 h2 hq
    · by_cases hp' : p < mid
      · obtain ⟨p', e1, e2, e3, e4, _⟩ := src p h1 (by omega)
        obtain ⟨q', f1, f2, f3, _, f5⟩ := src q (by omega) h3
        rw [e3, f3]
        exact hx p' q' e1 (e4 hp') (f5 (by omega)) f2
      · exact hv.2.1 p q (by omega) h2 h3
  · have e : rho s m t k = k := by unfold rho; rw [if_neg (by omega), if_neg (by omega)]
    rw [hv.2.2.1 k (by omega), hu.2.2.1 k (by omega), hg, e]
  · obtain ⟨p', e1, e2, e3, _⟩ := src p h1 h2
    rw [e3, hg]
    refine ⟨_, ?_, ?_, rfl⟩ <;> (unfold rho; split <;> (try split) <;> omega)
end Go.Proofs.Ytaphjehkpdjolaa
