/- Contracts of slices.SortStableFunc over rings and of nest.Rings, given a contract of the stable sort up to N rings. -/
import Derived.Test.YtaphjehkpdjolaaSort3
namespace Go.Proofs.Ytaphjehkpdjolaa
open Go.RowKit Go.Proofs.YtaphjehkpdjolaaW.PrintLast
set_option linter.unusedVariables false
set_option linter.unusedSimpArgs false

/-- What is asked of the stable sort: at most N rings. -/
def StableAt (N : Nat) : Prop := ∀ (xs : Rings) (g n cap base : Nat) (M : Nat → Prop) (w : World) (ni : Int), ni = (n : Int) → OwnR Ty.ring 32 base M w (.slice (some ⟨g, 0, none⟩) n cap) xs → xs.length ≤ N →
    Calls Try.prog 50 #[.slice (some ⟨g, 0, none⟩) n cap, .int .i64 ni, .func (.func 34) #[] #[]] w fun e w' =>
      e = .returned (.tuple #[]) ∧ ∃ ys : Rings, OwnR Ty.ring 32 base M w' (.slice (some ⟨g, 0, none⟩) n cap) ys ∧ ys.Perm xs ∧ SortedOn ys 0 ys.length ∧ KeptS (fun k => k = g) w w'
theorem stableAt_19 : StableAt 19 := fun xs g n cap base M w ni h1 h2 h3 => stable_small xs g n cap base M w ni h1 h2 h3

theorem insertionSort_none (A : Option Addr) (cap : Nat) (w : World) :
    Calls Try.prog 59 #[.slice A 0 cap, .int .i64 0, .int .i64 0, .func (.func 34) #[] #[]] w fun e w' => e = .returned (.tuple #[]) ∧ Below w.heap.size w w' := by
  go_enter Try.func59, Try.ntmps59
  go_wp2
  refine wp_loop_rounds 1 ?_
  rw [rounds_succ]
  go_wp2
  exact bodyPost_end (results_none rfl _ _ _) rfl ⟨rfl, Below.refl _ _⟩
theorem stable_none (A : Option Addr) (cap : Nat) (w : World) :
    Calls Try.prog 50 #[.slice A 0 cap, .int .i64 0, .func (.func 34) #[] #[]] w fun e w' => e = .returned (.tuple #[]) ∧ Below w.heap.size w w' := by
  go_enter Try.func50, Try.ntmps50
  go_wp2
  refine wp_loop_rounds 1 ?_
  rw [rounds_succ]
  go_wp2_with fail
  (refine (insertionSort_none _ _ _).mono ?_; rintro e w1 ⟨rfl, hb1⟩)
  go_wp2
  refine wp_loop_rounds 1 ?_
  rw [rounds_succ]
  go_wp2
  exact bodyPost_end (results_none rfl _ _ _) rfl ⟨rfl, hb1⟩

theorem SortStable_rings {N : Nat} (hst : StableAt N) (xs : Rings) (v : Value) (A : Option Addr) (n cap base : Nat) (M : Nat → Prop) (w : World) (hv : v = .slice A n cap) (h : OwnR Ty.ring 32 base M w v xs) (hlen : xs.length ≤ N) :
    Calls Try.prog 33 #[.slice A n cap, .func (.func 34) #[] #[]] w fun e w' =>
      e = .returned (.tuple #[]) ∧ ∃ ys : Rings, OwnR Ty.ring 32 base M w' v ys ∧ ys.Perm xs ∧ SortedOn ys 0 ys.length ∧ KeptS (fun k => v.ownBlock = some k) w w' := by
  have HST := Lib.hid hst
  clear hst
  subst hv
  have H := Lib.hid h
  have HN := Lib.hid h.lenN
  rcases Nat.eq_zero_or_pos xs.length with h0 | h0
  · obtain rfl : xs = [] := List.eq_nil_of_length_eq_zero h0
    have e0 : n = 0 := HN.out
    subst e0
    clear h
    go_enter Try.func33, Try.ntmps33
    go_wp2_with fail
    (refine (stable_none _ _ _).mono ?_; rintro e w1 ⟨rfl, hb1⟩)
    go_wp2
    exact bodyPost_end (results_none rfl _ _ _) rfl ⟨rfl, [], H.out.below hb1, List.Perm.refl _, fun p q h1 h2 h3 => by simp at h3, kept_of_below hb1⟩
  · obtain ⟨A', c', e, _, _, hg⟩ := h.reads
    injection e with e1 e2 e3
    obtain ⟨g, hA, _⟩ := hg h0
    subst e1
    subst hA
    clear h hg e2 e3
    go_enter Try.func33, Try.ntmps33
    go_wp2_with fail
    refine (HST.out xs g n cap base M w _ rfl H.out hlen).mono ?_
    rintro e w1 ⟨rfl, ys, ho, hp, hs, hk⟩
    go_wp2
    exact bodyPost_end (results_none rfl _ _ _) rfl ⟨rfl, ys, ho, hp, hs, kept_mono hk (fun k _ e => by rw [e]; rfl)⟩

set_option maxHeartbeats 1000000 in
theorem nest_Rings {N : Nat} (hst : StableAt N) {ok : Nat → Prop} (l : List Poly) (A : Option Addr) (n c : Nat) (w : World) (hr : Row Ty.poly ok w A l) (hn : n = l.length) (hsm : fewB l = true) (hN : (allR l).length ≤ N) :
    Calls Try.prog 17 #[.slice A n c] w fun e w' => ∃ v ys, e = .returned v ∧ Own1 Ty.ring 32 w.heap.size w' v ys ∧ ys.Perm (allR l) ∧ SortedOn ys 0 ys.length ∧ Below w.heap.size w w' := by
  have HST := Lib.hid hst
  have HN := Lib.hid hN
  clear hst hN
  subst hn
  have hl1 := hr.len
  have hr0 : Row Ty.poly (fun k => k < w.heap.size) w A l := hr.bnd.mono (fun k hk => hk.2)
  clear hr
  have HSM := Lib.hid hsm
  clear hsm
  go_enter Try.func17, Try.ntmps17
  go_wp2
  go_loopw [3, 8] (fun v i wr => ∃ k : Nat, k ≤ l.length ∧ i = .int .i64 k ∧ Below w.heap.size w wr ∧ Own1 Ty.ring 32 w.heap.size wr v (allR (l.take k))) (fun _ i _ => l.length - (intOf i).toNat)
  case atStart => exact ⟨0, Nat.zero_le _, rfl, Below.refl _ _, OwnR.nil _ _ _ _ _⟩
  case round =>
    obtain ⟨k, hk, rfl, hb, ho⟩ := hrel
    by_cases hlt : k < l.length
    · obtain ⟨ad, A0, c0, A1, c1, rfl, hc1, hc2, hl0, hr1, hl2, hr2⟩ := (hr0.below hb).poly_at k hlt
      have hsz := hb.size
      have HB := Lib.hid hb
      have HOut := Lib.hid ho
      have R1 : Hid (Ty.ring.R (fun k => ¬ u3.ownBlock = some k) wr (pyD l k).1 [.slice A0 (pyD l k).1.length c0]) := ringR hl0 (hr1.mono (fun b hb' e => by have := (OwnR.lt ho b e).1; omega))
      have R2 := Lib.hid hr2
      have hlen : ((allR (l.take k)).length + 1) * 24 ≤ 140737488355328 := by have := allR_take HSM.out k; omega
      clear ho hr1 hr2 hb
      have hl0' : ((allR (l.take k) ++ [(pyD l k).1]).length + (pyD l k).2.length) * 24 ≤ 140737488355328 := by
        have := allR_part HSM.out hlt (pyD l k).2.length
        rw [List.take_length] at this
        simp only [List.length_append, List.length_cons, List.length_nil] at this ⊢
        omega
      go_wp2_with (first | (at_builtin; refine app_one Ty.ring (W := wr.alloc _) w.heap.size rfl (.tmp 12) _ 22 32 _ 24 rfl Try.underlying22 infoRing rfl (by decide) u3 (allR (l.take k)) (pyD l k).1 [.slice A0 (pyD l k).1.length c0] _ rfl rfl (by simp) (Ty.ring.below R1.out (below_alloc (Below.refl _ _) _)) (HOut.out.alloc _) (by simp; omega) hlen ?_; intro v1 w1 HO1 hg1 hat1; have hbx : w1.cell? ⟨wr.heap.size, 1, none⟩ = some (.slice A1 (pyD l k).2.length c1) := (hg1.cell (by go_simp) (fun e => by have := (HOut.out.lt _ e.symm).2; simp at this)); have hb1 := Lib.hid (below_own (below_alloc HB.out _) hg1 (fun b e => (HOut.out.lt b e).1)); have HP1 : Hid (Row Ty.ring (fun k => ¬ (u3.ownBlock = some k ∨ v1.ownBlock = some k)) w1 A1 (pyD l k).2) := ((R2.out.step (w' := w1) (fun b hb' _ => (hb1.out.block b hb').trans (HB.out.block b hb').symm)).mono (fun b hb' hm => by rcases hm with hm | hm; exact absurd (HOut.out.lt b hm).1 (by omega); exact absurd (OwnR.lt HO1 b hm).1 (by omega))); have hsz1 := hb1.out.size; clear hg1 hat1) | (at_builtin; refine app_row Ty.ring (W := w1) w.heap.size rfl (.tmp 17) _ 22 32 _ 24 rfl Try.underlying22 infoRing rfl (by decide) v1 (allR (l.take k) ++ [(pyD l k).1]) (pyD l k).2 A1 _ c1 _ rfl rfl rfl HP1.out HO1 hsz1 hl0' ?_; intro v2 w2 HO2 hg2 hat2))
      have hb2 : Below w.heap.size w w2 := below_own hb1.out hg2 (fun b e => (OwnR.lt HO1 b e).1)
      clear hat2 hg2
      have HO3 := Lib.hid (Own1.of HO2)
      clear HO2 HO1
      go_roundw
      case rel => exact ⟨k + 1, by omega, by go_num, hb2, by have := HO3.out; rwa [List.append_assoc, List.singleton_append, ← allR_snoc l k hlt] at this⟩
      case measure => simp [intOf]; omega
    · obtain rfl : k = l.length := by omega
      rw [List.take_length] at ho
      have HOut := Lib.hid ho
      obtain ⟨Av, cv, ev, _, _, _⟩ := OwnR.reads ho
      subst ev
      clear ho
      go_wp2_with fail
      refine (SortStable_rings HST.out (allR l) _ Av _ cv w.heap.size _ wr rfl HOut.out HN.out).mono ?_
      rintro e w1 ⟨rfl, ys, ho1, hp1, hs1, hk1⟩
      have HO1 := Lib.hid ho1
      have HP1 := Lib.hid hp1
      have HS1 := Lib.hid hs1
      clear ho1 hp1 hs1
      go_wp2
      go_ret
      exact ⟨_, ys, rfl, HO1.out, HP1.out, HS1.out, below_kept hb hk1 (fun b e => (OwnR.lt HOut.out b e).1)⟩
end Go.Proofs.Ytaphjehkpdjolaa
