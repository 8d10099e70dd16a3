/- Contract of the reference's all: the rings of polygons, in a row of its own. -/
import Derived.Test.YtaphjehkpdjolaaNestS
namespace Go.Proofs.Ytaphjehkpdjolaa
open Go.RowKit Go.Proofs.YtaphjehkpdjolaaW.PrintLast
set_option linter.unusedVariables false
set_option linter.unusedSimpArgs false

theorem infoRing : (Try.prog.info? 32).map (fun i => (i.zero, i.size, i.bytes)) = some (some (.slice none 0 0), 1, 24) := by kernel_rfl
def allR (l : List Poly) : Rings := l.flatMap fun p => p.1 :: p.2
/-- A row of the call's own, and no other that may still be written. -/
def Own1 {α : Type} (T : Ty α) (e : TypeId) (base : Nat) (w : World) (v : Value) (xs : List α) : Prop := OwnR T e base (fun k => v.ownBlock = some k) w v xs
theorem Own1.of {α : Type} {T : Ty α} {e : TypeId} {base : Nat} {M : Nat → Prop} {w : World} {v : Value} {xs : List α} (h : OwnR T e base M w v xs) : Own1 T e base w v xs :=
  h.remut (fun k _ hk => h.mine k hk) (fun k hk => hk)
theorem Own1.below {α : Type} {T : Ty α} {e : TypeId} {base : Nat} {w w' : World} {v : Value} {xs : List α} (h : Own1 T e base w v xs) (hb : Below w.heap.size w w') : Own1 T e base w' v xs := OwnR.below h hb
theorem Own1.reads {α : Type} {T : Ty α} {e : TypeId} {base : Nat} {w : World} {v : Value} {xs : List α} (h : Own1 T e base w v xs) : ∃ A c, v = .slice A xs.length c ∧ xs.length ≤ c ∧ Row T (fun _ => True) w A xs := by
  obtain ⟨A, c, e, hl, hr, _⟩ := OwnR.reads h
  exact ⟨A, c, e, hl, hr.mono (fun _ _ => trivial)⟩
theorem ringR {ok : Nat → Prop} {w : World} {A : Option Addr} {xs : Pts} {c : Nat} (hl : xs.length ≤ c) (h : Row Ty.pt ok w A xs) : Ty.ring.R ok w xs [.slice A xs.length c] := ⟨A, c, rfl, hl, h⟩
theorem slice_eq {A : Option Addr} {n m c : Nat} (h : n = m) : Value.slice A n c = .slice A m c := by rw [h]
theorem below_own {w W w1 : World} {v : Value} (hb : Below w.heap.size w W) (hg : W.grownBy w1 v.ownBlock) (ho : ∀ k, v.ownBlock = some k → w.heap.size ≤ k) : Below w.heap.size w w1 := below_grown hb hg (fun b e => ho b e)

theorem allR_len {l : List Poly} (h : ∀ p ∈ l, p.2.length ≤ 12) : (allR l).length ≤ 13 * l.length := by
  induction l with
  | nil => simp [allR]
  | cons p l ih =>
    have h1 := h p (List.mem_cons_self)
    have h2 := ih (fun q hq => h q (List.mem_cons_of_mem _ hq))
    unfold allR at h2 ⊢
    simp only [List.flatMap_cons, List.length_append, List.length_cons]
    omega
theorem few_holes {l : List Poly} (h : fewB l = true) : l.length ≤ 8 ∧ ∀ p ∈ l, p.2.length ≤ 12 := by
  simp only [fewB, Bool.and_eq_true, decide_eq_true_eq, List.all_eq_true, FewB] at h
  exact ⟨h.1, fun p hp => (h.2 p hp).2.1⟩
theorem allR_take {l : List Poly} (h : fewB l = true) (k : Nat) : (allR (l.take k)).length ≤ 104 := by
  obtain ⟨h1, h2⟩ := few_holes h
  have := allR_len (l := l.take k) (fun p hp => h2 p (List.mem_of_mem_take hp))
  have := List.length_take_le k l
  have : (l.take k).length ≤ l.length := by rw [List.length_take]; omega
  omega
theorem allR_snoc (l : List Poly) (k : Nat) (h : k < l.length) : allR (l.take (k + 1)) = allR (l.take k) ++ ((pyD l k).1 :: (pyD l k).2) := by
  rw [take_snoc l k ([], []) h, allR, List.flatMap_append]; simp [allR, pyD]

theorem allR_part {l : List Poly} (h : fewB l = true) {k : Nat} (hk : k < l.length) (m : Nat) : ((allR (l.take k) ++ ((pyD l k).1 :: (pyD l k).2.take m)).length + 1) * 24 ≤ 140737488355328 := by
  have h1 := allR_take h (k + 1)
  rw [allR_snoc l k hk] at h1
  have h2 : ((pyD l k).2.take m).length ≤ (pyD l k).2.length := by rw [List.length_take]; omega
  simp only [List.length_append, List.length_cons] at h1 ⊢
  omega
set_option maxHeartbeats 1000000 in
theorem ref22_all {ok : Nat → Prop} (l : List Poly) (A : Option Addr) (n c : Nat) (w : World) (hr : Row Ty.poly ok w A l) (hn : n = l.length) (hsm : fewB l = true) :
    Calls Try.prog 36 #[.slice A n c] w fun e w' => ∃ v, e = .returned v ∧ Own1 Ty.ring 32 w.heap.size w' v (allR l) ∧ Below w.heap.size w w' := by
  subst hn
  have hl1 := hr.len
  have hr0 : Row Ty.poly (fun k => k < w.heap.size) w A l := hr.bnd.mono (fun k hk => hk.2)
  clear hr
  have HSM := Lib.hid hsm
  clear hsm
  go_enter Try.func36, Try.ntmps36
  go_wp2
  go_loopw [3, 4] (fun v i wr => ∃ k : Nat, k ≤ l.length ∧ i = .int .i64 k ∧ Below w.heap.size w wr ∧ Own1 Ty.ring 32 w.heap.size wr v (allR (l.take k))) (fun _ i _ => l.length - (intOf i).toNat)
  case atStart => exact ⟨0, Nat.zero_le _, rfl, Below.refl _ _, OwnR.nil _ _ _ _ _⟩
  case round =>
    obtain ⟨k, hk, rfl, hb, ho⟩ := hrel
    by_cases hlt : k < l.length
    · obtain ⟨ad, A0, c0, A1, c1, rfl, hc1, hc2, hl0, hr1, hl2, hr2⟩ := (hr0.below hb).poly_at k hlt
      have hsz := hb.size
      have HOut := Lib.hid ho
      have R1 : Hid (Ty.ring.R (fun k => ¬ u3.ownBlock = some k) wr (pyD l k).1 [.slice A0 (pyD l k).1.length c0]) := ringR hl0 (hr1.mono (fun b hb' e => by have := (OwnR.lt ho b e).1; omega))
      have hlen : ((allR (l.take k)).length + 1) * 24 ≤ 140737488355328 := by have := allR_take HSM.out k; omega
      clear ho hr1
      go_wp2_with (first | (at_builtin; refine app_one Ty.ring (W := wr) w.heap.size rfl _ _ 22 32 _ 24 rfl Try.underlying22 infoRing rfl (by decide) u3 (allR (l.take k)) (pyD l k).1 [.slice A0 (pyD l k).1.length c0] _ rfl rfl (by simp) R1.out HOut.out hsz hlen ?_; intro v1 w1 HO1 hg1 hat1))
      have hb1 : Below w.heap.size w w1 := below_own hb hg1 (fun b e => (HOut.out.lt b e).1)
      have ho1 : Own1 Ty.ring 32 w.heap.size w1 v1 (allR (l.take k) ++ ((pyD l k).1 :: (pyD l k).2.take 0)) := Own1.of HO1
      have HO1' := Lib.hid ho1
      have HB1 := Lib.hid hb1
      clear HO1 ho1 hg1 hat1 hb1 R1 HOut hc1 hc2 hr2
      clear hb hsz
      obtain ⟨wo, rfl⟩ : ∃ wo : World, wo = wr := ⟨_, rfl⟩
      go_loopw [3, 5] (fun v j wr => ∃ m : Nat, m ≤ (pyD l k).2.length ∧ j = .int .i64 m ∧ Below w.heap.size w wr ∧ Own1 Ty.ring 32 w.heap.size wr v (allR (l.take k) ++ ((pyD l k).1 :: (pyD l k).2.take m))) (fun _ j _ => (pyD l k).2.length - (intOf j).toNat)
      case atStart => exact ⟨0, Nat.zero_le _, rfl, HB1.out, HO1'.out⟩
      case round =>
        obtain ⟨m, hm, rfl, hb, ho⟩ := hrel
        obtain ⟨ad', A0', c0', A1', c1', e', hc1, hc2, hl0', hr1, hl2', hr2⟩ := (hr0.below hb).poly_at k hlt
        cases e'
        clear hr1 hc1
        have hll := hr2.len
        by_cases hlm : m < (pyD l k).2.length
        · obtain ⟨ah, Ar, cr, rfl, hd1, hl3, hr3⟩ := hr2.ring_at m hlm
          have hsz := hb.size
          have HOut := Lib.hid ho
          have R1 : Hid (Ty.ring.R (fun k => ¬ u3.ownBlock = some k) wr (rgD (pyD l k).2 m) [.slice Ar (rgD (pyD l k).2 m).length cr]) := ringR hl3 (hr3.mono (fun b hb' e => by have := (OwnR.lt ho b e).1; omega))
          have hlen2 : ((allR (l.take k) ++ ((pyD l k).1 :: (pyD l k).2.take m)).length + 1) * 24 ≤ 140737488355328 := allR_part HSM.out hlt m
          clear ho hr3
          go_wp2_with (first | (at_builtin; refine app_one Ty.ring (W := wr) w.heap.size rfl _ _ 22 32 _ 24 rfl Try.underlying22 infoRing rfl (by decide) u3 (allR (l.take k) ++ ((pyD l k).1 :: (pyD l k).2.take m)) (rgD (pyD l k).2 m) [.slice Ar (rgD (pyD l k).2 m).length cr] _ rfl rfl (by simp) R1.out HOut.out hsz hlen2 ?_; intro v2 w2 HO2 hg2 hat2))
          have hb2 : Below w.heap.size w w2 := below_own hb hg2 (fun b e => (HOut.out.lt b e).1)
          clear hat2 hg2
          go_roundw
          case rel => exact ⟨m + 1, by omega, by go_num, hb2, by have := Own1.of HO2; rwa [List.append_assoc, List.cons_append, show (pyD l k).2.take m ++ [rgD (pyD l k).2 m] = (pyD l k).2.take (m + 1) from (take_snoc _ m [] hlm).symm] at this⟩
          case measure => simp [intOf]; omega
        · obtain rfl : m = (pyD l k).2.length := by omega
          have HOut := Lib.hid ho
          clear ho
          by_cases h0 : 0 < (pyD l k).2.length
          all_goals
            go_wp2
            go_roundw
            case rel => exact ⟨k + 1, by omega, by go_num, hb, by have := HOut.out; rwa [List.take_length, ← allR_snoc l k hlt] at this⟩
            case measure => simp [intOf]; omega
    · obtain rfl : k = l.length := by omega
      have HOut := Lib.hid ho
      clear ho
      go_wp2
      go_ret
      exact ⟨_, rfl, by have := HOut.out; rwa [List.take_length] at this, hb⟩
end Go.Proofs.Ytaphjehkpdjolaa
