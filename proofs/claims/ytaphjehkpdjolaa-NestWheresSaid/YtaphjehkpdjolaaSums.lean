/- Contracts of nest's and its reference's Area2 and Where over polygons. -/
import Derived.Test.YtaphjehkpdjolaaRings
namespace Go.Proofs.Ytaphjehkpdjolaa
open Go.RowKit Go.Proofs.YtaphjehkpdjolaaW.PrintLast
set_option linter.unusedVariables false
set_option linter.unusedSimpArgs false

def sumR (rs : Rings) : Int := (rs.map area2).sum
def SmallR (rs : Rings) : Prop := rs.length ≤ 200 ∧ ∀ r ∈ rs, r.length ≤ 1000
def onR (rs : Rings) (p : Pt) : Bool := rs.any fun r => whereZ r p == 1
def cntR (rs : Rings) (p : Pt) : Nat := rs.countP fun r => whereZ r p == 2
def whereR (rs : Rings) (p : Pt) : Int := if onR rs p then 1 else if cntR rs p % 2 = 1 then 2 else 0
theorem sumR_perm {a b : Rings} (h : a.Perm b) : sumR a = sumR b := by
  unfold sumR
  induction h with
  | nil => rfl
  | cons x _ ih => simp [ih]
  | swap x y l => simp; omega
  | trans _ _ h1 h2 => exact h1.trans h2
theorem whereR_perm {a b : Rings} (h : a.Perm b) (p : Pt) : whereR a p = whereR b p := by
  have h1 : onR a p = onR b p := by
    unfold onR
    rw [Bool.eq_iff_iff, List.any_eq_true, List.any_eq_true]
    exact ⟨fun ⟨x, hx, hp⟩ => ⟨x, h.subset hx, hp⟩, fun ⟨x, hx, hp⟩ => ⟨x, h.symm.subset hx, hp⟩⟩
  unfold whereR cntR
  rw [h1, h.countP_eq]
theorem SmallR.perm {a b : Rings} (h : SmallR a) (hp : b.Perm a) : SmallR b := ⟨by rw [hp.length_eq]; exact h.1, fun r hr => h.2 r (hp.subset hr)⟩
theorem small_all {l : List Poly} (h : fewB l = true) : SmallR (allR l) := by
  have h1 := allR_take h l.length
  rw [List.take_length] at h1
  refine ⟨by omega, fun r hr => ?_⟩
  simp only [fewB, Bool.and_eq_true, decide_eq_true_eq, List.all_eq_true, FewB] at h
  obtain ⟨p, hp, hr⟩ := List.mem_flatMap.1 hr
  rcases List.mem_cons.1 hr with rfl | hr
  · have := (h.2 p hp).1; omega
  · have := (h.2 p hp).2.2 r hr; omega
theorem area2_bd {r : Pts} (h : r.length ≤ 1000) : -1073741824000 ≤ area2 r ∧ area2 r ≤ 1073741824000 := by
  unfold area2
  split
  · rename_i hv
    have := sumTo_bd hv r.length
    omega
  · omega
theorem sumR_snoc (rs : Rings) (k : Nat) (h : k < rs.length) : sumR (rs.take (k + 1)) = sumR (rs.take k) + area2 (rgD rs k) := by
  rw [take_snoc rs k [] h]; simp [sumR, rgD]
theorem sumR_bd {rs : Rings} (h : SmallR rs) (k : Nat) : -1073741824000 * (k : Int) ≤ sumR (rs.take k) ∧ sumR (rs.take k) ≤ 1073741824000 * (k : Int) := by
  induction k with
  | zero => simp [sumR]
  | succ k ih =>
    by_cases hk : k < rs.length
    · rw [sumR_snoc rs k hk]
      have := area2_bd (r := rgD rs k) (h.2 _ (by simp [rgD, hk]))
      omega
    · rw [List.take_of_length_le (by omega), ← List.take_of_length_le (show rs.length ≤ k by omega)]; omega
theorem sumR_step {rs : Rings} (h : SmallR rs) {k : Nat} (hk : k < rs.length) : wrap64 (sumR (rs.take k) + area2 (rgD rs k)) = sumR (rs.take (k + 1)) := by
  rw [sumR_snoc rs k hk]
  have h1 := sumR_bd h k
  have h2 := h.1
  have h3 := area2_bd (r := rgD rs k) (h.2 _ (by simp [rgD, hk]))
  unfold wrap64; omega
theorem on_snoc {rs : Rings} {p : Pt} {k : Nat} (h : k < rs.length) : onR (rs.take (k + 1)) p = (onR (rs.take k) p || (whereZ (rgD rs k) p == 1)) := by
  rw [take_snoc rs k [] h]; simp [onR, rgD]
theorem cnt_snoc {rs : Rings} {p : Pt} {k : Nat} (h : k < rs.length) : cntR (rs.take (k + 1)) p = cntR (rs.take k) p + if whereZ (rgD rs k) p == 2 then 1 else 0 := by
  rw [take_snoc rs k [] h]; unfold cntR; rw [List.countP_append]; simp [rgD, List.countP_cons]
theorem on_later {rs : Rings} {p : Pt} {k : Nat} (h : onR (rs.take (k + 1)) p = true) : onR rs p = true := by
  unfold onR at *
  rw [List.any_eq_true] at *
  obtain ⟨x, hx, hp⟩ := h
  exact ⟨x, List.mem_of_mem_take hx, hp⟩
theorem cnt_le (rs : Rings) (p : Pt) (k : Nat) : cntR (rs.take k) p ≤ rs.length := by
  unfold cntR
  have h1 : (rs.take k).countP (fun r => whereZ r p == 2) ≤ (rs.take k).length := List.countP_le_length
  have h2 : (rs.take k).length ≤ rs.length := by rw [List.length_take]; omega
  omega
theorem whereZ_cases (r : Pts) (p : Pt) : whereZ r p = 0 ∨ whereZ r p = 1 ∨ whereZ r p = 2 := by
  unfold whereZ; split
  · split
    · simp
    · split <;> simp
  · simp

set_option maxHeartbeats 1000000 in
theorem nest_Area2 {N : Nat} (hst : StableAt N) {ok : Nat → Prop} (l : List Poly) (A : Option Addr) (n c : Nat) (w : World) (hr : Row Ty.poly ok w A l) (hn : n = l.length) (hsm : fewB l = true) (hN : (allR l).length ≤ N) :
    Calls Try.prog 19 #[.slice A n c] w fun e w' => e = .returned (.int .i64 (sumR (allR l))) ∧ Below w.heap.size w w' := by
  have HR := Lib.hid (nest_Rings hst l A n c w hr hn hsm hN)
  have hsml := Lib.hid (small_all hsm)
  clear hst hr hn hsm hN
  go_enter Try.func19, Try.ntmps19
  go_wp2_with fail
  refine HR.out.mono ?_
  rintro e w1 ⟨v, ys, rfl, ho, hp, hs, hb1⟩
  obtain ⟨A', c', rfl, hl1, hrow⟩ := ho.reads
  have hm := hrow.len
  have hys : Hid (SmallR ys) := hsml.out.perm hp
  have HP := Lib.hid hp
  clear ho hp hs HR
  go_wp2
  go_loopw [3, 9] (fun s i wr => ∃ k : Nat, k ≤ ys.length ∧ i = .int .i64 k ∧ s = .int .i64 (sumR (ys.take k)) ∧ Below w1.heap.size w1 wr) (fun _ i _ => ys.length - (intOf i).toNat)
  case atStart => exact ⟨0, Nat.zero_le _, rfl, rfl, Below.refl _ _⟩
  case round =>
    obtain ⟨k, hk, rfl, rfl, hb⟩ := hrel
    by_cases hlt : k < ys.length
    · obtain ⟨ad, A0, c0, rfl, hc1, hl2, hr1⟩ := (hrow.below hb).ring_at k hlt
      have R1 := Lib.hid hr1
      have hl3 : Hid ((rgD ys k).length ≤ 1048576) := by have := hys.out.2 (rgD ys k) (by simp [rgD, hlt]); show _ ≤ _; omega
      have hst := Lib.hid (sumR_step hys.out hlt)
      clear hr1
      go_wp2_with fail
      (refine (poly_Area2 (rgD ys k) A0 _ c0 _ R1.out rfl hl3.out).mono ?_; rintro e w2 ⟨rfl, hb2⟩)
      go_wp2
      go_roundw
      case rel => exact ⟨k + 1, by omega, by go_num, congrArg (Value.int .i64) hst.out, below_step hb hb2⟩
      case measure => simp [intOf]; omega
    · obtain rfl : k = ys.length := by omega
      go_wp2
      go_ret
      exact ⟨ret_int (by rw [List.take_length, sumR_perm HP.out]), (by repeat (first | exact Below.refl _ _ | apply below_alloc | apply below_drewN | apply below_drew | (refine below_set2 ?_ ?_; (first | (simp; done) | (simp; omega))) | (refine below_step ?_ hb) | (refine below_step ?_ hb1)))⟩

set_option maxHeartbeats 1000000 in
theorem ref22_Area2 {ok : Nat → Prop} (l : List Poly) (A : Option Addr) (n c : Nat) (w : World) (hr : Row Ty.poly ok w A l) (hn : n = l.length) (hsm : fewB l = true) :
    Calls Try.prog 20 #[.slice A n c] w fun e w' => e = .returned (.int .i64 (sumR (allR l))) ∧ Below w.heap.size w w' := by
  have HR := Lib.hid (ref22_all l A n c w hr hn hsm)
  have hys := Lib.hid (small_all hsm)
  clear hr hn hsm
  obtain ⟨ys, hy⟩ : ∃ ys, ys = allR l := ⟨_, rfl⟩
  rw [← hy] at HR hys ⊢
  clear hy
  go_enter Try.func20, Try.ntmps20
  go_wp2_with fail
  refine HR.out.mono ?_
  rintro e w1 ⟨v, rfl, ho, hb1⟩
  obtain ⟨A', c', rfl, hl1, hrow⟩ := ho.reads
  have hm := hrow.len
  clear ho HR
  go_wp2
  go_loopw [4, 5] (fun s i wr => ∃ k : Nat, k ≤ ys.length ∧ i = .int .i64 k ∧ s = .int .i64 (sumR (ys.take k)) ∧ Below w1.heap.size w1 wr) (fun _ i _ => ys.length - (intOf i).toNat)
  case atStart => exact ⟨0, Nat.zero_le _, rfl, rfl, Below.refl _ _⟩
  case round =>
    obtain ⟨k, hk, rfl, rfl, hb⟩ := hrel
    by_cases hlt : k < ys.length
    · obtain ⟨ad, A0, c0, rfl, hc1, hl2, hr1⟩ := (hrow.below hb).ring_at k hlt
      have R1 := Lib.hid hr1
      have hl3 : Hid ((rgD ys k).length ≤ 1048576) := by have := hys.out.2 (rgD ys k) (by simp [rgD, hlt]); show _ ≤ _; omega
      have hst := Lib.hid (sumR_step hys.out hlt)
      clear hr1
      go_wp2_with fail
      (refine (ref11_Area2 (rgD ys k) A0 _ c0 _ R1.out rfl hl3.out).mono ?_; rintro e w2 ⟨rfl, hb2⟩)
      go_wp2
      go_roundw
      case rel => exact ⟨k + 1, by omega, by go_num, congrArg (Value.int .i64) hst.out, below_step hb hb2⟩
      case measure => simp [intOf]; omega
    · obtain rfl : k = ys.length := by omega
      go_wp2
      go_ret
      exact ⟨ret_int (by rw [List.take_length]), (by repeat (first | exact Below.refl _ _ | apply below_alloc | apply below_drewN | apply below_drew | (refine below_set2 ?_ ?_; (first | (simp; done) | (simp; omega))) | (refine below_step ?_ hb) | (refine below_step ?_ hb1)))⟩

set_option maxHeartbeats 1000000 in
theorem nest_Where {N : Nat} (hst : StableAt N) {ok : Nat → Prop} (l : List Poly) (A : Option Addr) (n c : Nat) (px py : Int) (w : World) (hr : Row Ty.poly ok w A l) (hn : n = l.length) (hsm : fewB l = true) (hN : (allR l).length ≤ N) :
    Calls Try.prog 21 #[.slice A n c, .agg #[.int .i64 px, .int .i64 py]] w fun e w' => e = .returned (.int .i64 (whereR (allR l) (px, py))) ∧ Below w.heap.size w w' := by
  have HR := Lib.hid (fun (W : World) (hW : Below w.heap.size w W) => nest_Rings hst l A n c W (hr.below hW) hn hsm hN)
  clear hst hr hn hsm hN
  go_enter Try.func21, Try.ntmps21
  go_wp2_with fail
  refine (HR.out _ (by repeat (first | exact Below.refl _ _ | apply below_alloc | apply below_drewN | apply below_drew | (refine below_set2 ?_ ?_; (first | (simp; done) | (simp; omega)))))).mono ?_
  rintro e w1 ⟨v, ys, rfl, ho, hp, hs, hb1⟩
  obtain ⟨A', c', rfl, hl1, hrow⟩ := ho.reads
  have hm := hrow.len
  have HP := Lib.hid hp
  have hc0 : w1.cell? ⟨w.heap.size, 0, none⟩ = some (.int .i64 px) := cell_below hb1 (by go_simp)
  have hc1 : w1.cell? ⟨w.heap.size, 1, none⟩ = some (.int .i64 py) := cell_below hb1 (by go_simp)
  have B1 := Lib.hid ((by repeat (first | exact Below.refl _ _ | apply below_alloc | apply below_drewN | apply below_drew | (refine below_set2 ?_ ?_; (first | (simp; done) | (simp; omega))) | (refine below_step ?_ hb1))) : Below w.heap.size w w1)
  have hz1 := hb1.size
  clear ho hp hs HR hb1
  go_wp2
  go_loopw [5, 11] (fun s i wr => ∃ k : Nat, k ≤ ys.length ∧ i = .int .i64 k ∧ s = .int .i64 (if cntR (ys.take k) (px, py) % 2 = 1 then 2 else 0) ∧ Below w1.heap.size w1 wr ∧ Hid (onR (ys.take k) (px, py) = false)) (fun _ i _ => ys.length - (intOf i).toNat)
  case atStart => exact ⟨0, Nat.zero_le _, rfl, rfl, Below.refl _ _, rfl⟩
  case round =>
    obtain ⟨k, hk, rfl, rfl, hb, hon⟩ := hrel
    obtain ⟨s, hs⟩ : ∃ s : Int, s = if cntR (ys.take k) (px, py) % 2 = 1 then 2 else 0 := ⟨_, rfl⟩
    rw [← hs]
    have HS := Lib.hid hs
    have hs0 : 0 ≤ s := by rw [hs]; split <;> omega
    have hs2 : s ≤ 2 := by rw [hs]; split <;> omega
    clear hs
    by_cases hlt : k < ys.length
    · obtain ⟨ad, A0, c0, rfl, hd1, hl2, hr1⟩ := (hrow.below hb).ring_at k hlt
      have R1 := Lib.hid hr1
      have hc0' := cell_below hb hc0
      have hc1' := cell_below hb hc1
      clear hr1
      rcases whereZ_cases (rgD ys k) (px, py) with hw | hw | hw
      · have HW := Lib.hid hw
        have w1b : (whereZ (rgD ys k) (px, py) == 1) = false := by rw [hw]; rfl
        have w2b : (whereZ (rgD ys k) (px, py) == 2) = false := by rw [hw]; rfl
        clear hw
        go_wp2_with fail
        (refine (poly_Where (rgD ys k) A0 _ c0 _ _ _ R1.out rfl).mono ?_; rintro e w2 ⟨rfl, hb2⟩)
        go_wp2
        go_roundw
        case rel => exact ⟨k + 1, by omega, by go_num, congrArg (Value.int .i64) (by rw [HS.out, cnt_snoc hlt, HW.out]; rfl), below_step hb hb2, by show _ = _; rw [on_snoc hlt, hon.out, HW.out]; rfl⟩
        case measure => simp [intOf]; omega
      · have HW := Lib.hid hw
        have w1b : (whereZ (rgD ys k) (px, py) == 1) = true := by rw [hw]; rfl
        clear hw
        go_wp2_with fail
        (refine (poly_Where (rgD ys k) A0 _ c0 _ _ _ R1.out rfl).mono ?_; rintro e w2 ⟨rfl, hb2⟩)
        go_wp2
        go_ret
        exact ⟨ret_int (by rw [← whereR_perm HP.out, whereR, on_later (k := k) (by rw [on_snoc hlt, HW.out]; simp)]; rfl), below_step B1.out (below_step hb hb2)⟩
      · have HW := Lib.hid hw
        have w1b : (whereZ (rgD ys k) (px, py) == 1) = false := by rw [hw]; rfl
        have w2b : (whereZ (rgD ys k) (px, py) == 2) = true := by rw [hw]; rfl
        clear hw
        go_wp2_with fail
        (refine (poly_Where (rgD ys k) A0 _ c0 _ _ _ R1.out rfl).mono ?_; rintro e w2 ⟨rfl, hb2⟩)
        go_wp2
        go_roundw
        case rel => exact ⟨k + 1, by omega, by go_num, congrArg (Value.int .i64) (by rw [HS.out, cnt_snoc hlt, HW.out]; simp only [BEq.rfl, if_true]; split <;> split <;> omega), below_step hb hb2, by show _ = _; rw [on_snoc hlt, hon.out, HW.out]; rfl⟩
        case measure => simp [intOf]; omega
    · obtain rfl : k = ys.length := by omega
      go_wp2
      go_ret
      exact ⟨ret_int (by have := hon.out; rw [List.take_length] at this; rw [HS.out, List.take_length, ← whereR_perm HP.out, whereR, this]; rfl), below_step B1.out hb⟩
end Go.Proofs.Ytaphjehkpdjolaa
