/- Contracts of poly.Where and of the reference's Where. -/
import Derived.Test.YtaphjehkpdjolaaFunc
import Derived.Test.YtaphjehkpdjolaaWLast
namespace Go.Proofs.Ytaphjehkpdjolaa
open Go.RowKit Go.Proofs.YtaphjehkpdjolaaW.PrintLast
set_option linter.unusedVariables false
set_option linter.unusedSimpArgs false

def onTo (xs : Pts) (p : Pt) : Nat → Bool
  | 0 => false
  | k + 1 => onTo xs p k || onB p (ptD xs k) (nx xs k)
def parTo (xs : Pts) (p : Pt) : Nat → Bool
  | 0 => false
  | k + 1 => !(parTo xs p k == crossesB (ptD xs k) (nx xs k) p)
def whereZ (xs : Pts) (p : Pt) : Int :=
  if decide (3 ≤ xs.length) && (xs.all validB && validB p) then (if onTo xs p xs.length then 1 else if parTo xs p xs.length then 2 else 0) else 0
theorem onTo_later {xs : Pts} {p : Pt} {k : Nat} (h : onTo xs p k = true) (m : Nat) (hm : k ≤ m) : onTo xs p m = true := by
  induction m with
  | zero => obtain rfl : k = 0 := by omega
            exact h
  | succ m ih =>
    by_cases e : k = m + 1
    · subst e; exact h
    · simp [onTo, ih (by omega)]

theorem cell_set_other {w : World} {p a : Addr} {v u : Value} (h : w.cell? p = some v) (hne : p.block ≠ a.block) : (w.setCell a u).cell? p = some v := (cell_heap (w := w) (Below.heap_setCell w a u _ hne)).trans h
set_option maxHeartbeats 1000000 in
theorem polyWhere1 (ax ay bx by_ px py : Int) (x y : Bool) (gp go gi : Nat) (w : World) (hv : (validB (ax, ay) && validB (bx, by_) && validB (px, py)) = true)
    (hp0 : w.cell? ⟨gp, 0, none⟩ = some (.int .i64 px)) (hp1 : w.cell? ⟨gp, 1, none⟩ = some (.int .i64 py)) (ho : OneC w go 4 (.bool x)) (hi : OneC w gi 4 (.bool y)) (hpo : gp ≠ go) (hpi : gp ≠ gi) (hoi : go ≠ gi) :
    Calls Try.prog 44 #[.agg #[.int .i64 ax, .int .i64 ay], .agg #[.int .i64 bx, .int .i64 by_], .pointer (some ⟨gp, 0, none⟩), .pointer (some ⟨go, 0, none⟩), .pointer (some ⟨gi, 0, none⟩)] w fun e w' =>
      e = .returned (.bool (!onB (px, py) (ax, ay) (bx, by_))) ∧ KeptS (fun k => k = go ∨ k = gi) w w' ∧ OneC w' go 4 (.bool (onB (px, py) (ax, ay) (bx, by_))) ∧ OneC w' gi 4 (.bool (!(y == crossesB (ax, ay) (bx, by_) (px, py)))) := by
  have hgp : gp < w.heap.size := World.block_lt_of_cell? w _ hp0
  have hgo := ho.lt
  have hgi := hi.lt
  have hco := ho.cell
  have hci := hi.cell
  have hfo := ho.free
  have hfi := hi.free
  have HO := Lib.hid ho
  have HI := Lib.hid hi
  have HV := Lib.hid hv
  clear ho hi hv
  go_enter Try.func44, Try.ntmps44
  go_wp2_with fail
  (refine (seg_On _ _ _ _ _ _ _).mono ?_; rintro e w1 ⟨rfl, hb1⟩; obtain ⟨c_hb1, f_hb1⟩ := bcell hb1; have z_hb1 := hb1.size; (try simp at z_hb1); (try have y0_hb1 : w.heap.size < w1.heap.size := by omega); (try have y1_hb1 : w.heap.size + 1 < w1.heap.size := by omega); (try have y2_hb1 : w.heap.size + 1 + 1 < w1.heap.size := by omega); (try have y3_hb1 : w.heap.size + 1 + 1 + 1 < w1.heap.size := by omega); (try have y4_hb1 : w.heap.size + 1 + 1 + 1 + 1 < w1.heap.size := by omega))
  have B1 : Below w.heap.size w w1 := (by repeat (first | exact Below.refl _ _ | apply below_alloc | apply below_drewN | apply below_drew | (refine below_set2 ?_ ?_; (first | (simp; done) | (simp; omega))) | (refine below_step ?_ hb1)))
  have hp0' := cell_below B1 hp0
  have hp1' := cell_below B1 hp1
  have HO1 := Lib.hid (HO.out.below B1)
  have HI1 := Lib.hid (HI.out.below B1)
  have hco1 := HO1.out.cell
  have hfo1 := HO1.out.free
  have hci1 := HI1.out.cell
  have hfi1 := HI1.out.free
  have ba0 : w1.cell? ⟨w.heap.size, 0, none⟩ = some (.int .i64 ax) := (c_hb1 _ _ (by simp; try omega)).trans (by go_simp)
  have ba1 : w1.cell? ⟨w.heap.size, 1, none⟩ = some (.int .i64 ay) := (c_hb1 _ _ (by simp; try omega)).trans (by go_simp)
  have bb0 : w1.cell? ⟨w.heap.size + 1, 0, none⟩ = some (.int .i64 bx) := (c_hb1 _ _ (by simp; try omega)).trans (by go_simp)
  have bb1 : w1.cell? ⟨w.heap.size + 1, 1, none⟩ = some (.int .i64 by_) := (c_hb1 _ _ (by simp; try omega)).trans (by go_simp)
  clear hco hci hfo hfi hp0 hp1 c_hb1 f_hb1
  go_wp2_with fail
  obtain ⟨Wx, hWx⟩ : ∃ Wx, Wx = w1.setCell ⟨go, 0, none⟩ (.bool (onB (px, py) (ax, ay) (bx, by_))) := ⟨_, rfl⟩
  rw [← hWx]
  have HWx := Lib.hid hWx
  clear hWx
  have HO2 : OneC Wx go 4 (.bool (onB (px, py) (ax, ay) (bx, by_))) := by rw [HWx.out]; exact HO1.out.set _
  have HI2 : OneC Wx gi 4 (.bool y) := by rw [HWx.out]; exact HI1.out.other (by simp; omega) _
  have K2 : KeptS (fun k => k = go ∨ k = gi) w Wx := by rw [HWx.out]; exact kept_set (by simp) (kept_of_below B1)
  have ca0 : Wx.cell? ⟨w.heap.size, 0, none⟩ = some (.int .i64 ax) := by rw [HWx.out]; exact cell_set_other ba0 (by simp; omega)
  have ca1 : Wx.cell? ⟨w.heap.size, 1, none⟩ = some (.int .i64 ay) := by rw [HWx.out]; exact cell_set_other ba1 (by simp; omega)
  have cb0 : Wx.cell? ⟨w.heap.size + 1, 0, none⟩ = some (.int .i64 bx) := by rw [HWx.out]; exact cell_set_other bb0 (by simp; omega)
  have cb1 : Wx.cell? ⟨w.heap.size + 1, 1, none⟩ = some (.int .i64 by_) := by rw [HWx.out]; exact cell_set_other bb1 (by simp; omega)
  have cp0 : Wx.cell? ⟨gp, 0, none⟩ = some (.int .i64 px) := by rw [HWx.out]; exact cell_set_other hp0' (by simp; omega)
  have cp1 : Wx.cell? ⟨gp, 1, none⟩ = some (.int .i64 py) := by rw [HWx.out]; exact cell_set_other hp1' (by simp; omega)
  have hci2 := HI2.cell
  have hfi2 := HI2.free
  clear hco1 hfo1 hci1 hfi1 ba0 ba1 bb0 bb1 hp0' hp1'
  refine start_ (n := 7) (S := fun w' => w'.cell? ⟨gi, 0, none⟩ = some (.bool y) ∧ w'.cell? ⟨w.heap.size, 0, none⟩ = some (.int .i64 ax) ∧ w'.cell? ⟨w.heap.size, 1, none⟩ = some (.int .i64 ay) ∧ w'.cell? ⟨w.heap.size + 1, 0, none⟩ = some (.int .i64 bx) ∧ w'.cell? ⟨w.heap.size + 1, 1, none⟩ = some (.int .i64 by_) ∧ w'.cell? ⟨gp, 0, none⟩ = some (.int .i64 px) ∧ w'.cell? ⟨gp, 1, none⟩ = some (.int .i64 py)) (ds := [6]) #[false, false, false, false, false, false, false] (by kernel_rfl) rfl rfl ⟨hci2, ca0, ca1, cb0, cb1, cp0, cp1⟩ (fun hHeld => ?_)
  refine take_ (i := 0) (N := some 12) (v := ?_) (a' := ?_) #[true, false, false, false, false, false, false] rfl rfl (by kernel_rfl) (fun _ _ _ h => h) (Or.inl ⟨by rfl, ?_⟩) hHeld ?_ ?_
  rotate_left
  · rintro w' ⟨s0, s1, s2, s3, s4, s5, s6⟩
    go_simp
    with_reducible rfl
  rotate_left
  · simp only [Act.put, List.setIfInBounds_toArray, List.set_cons_zero, List.set_cons_succ, i64_w, i32_w]
    rfl
  refine take_ (i := 1) (N := some 13) (v := ?_) (a' := ?_) #[true, true, false, false, false, false, false] rfl rfl (by kernel_rfl) (fun _ _ _ h => h) (Or.inl ⟨by rfl, ?_⟩) hHeld ?_ ?_
  rotate_left
  · rintro w' ⟨s0, s1, s2, s3, s4, s5, s6⟩
    go_simp
    with_reducible rfl
  rotate_left
  · simp only [Act.put, List.setIfInBounds_toArray, List.set_cons_zero, List.set_cons_succ, i64_w, i32_w]
    rfl
  refine take_ (i := 2) (N := some 14) (v := ?_) (a' := ?_) #[true, true, true, false, false, false, false] rfl rfl (by kernel_rfl) (fun _ _ _ h => h) (Or.inl ⟨by rfl, ?_⟩) hHeld ?_ ?_
  rotate_left
  · rintro w' ⟨s0, s1, s2, s3, s4, s5, s6⟩
    go_simp
    with_reducible rfl
  rotate_left
  · simp only [Act.put, List.setIfInBounds_toArray, List.set_cons_zero, List.set_cons_succ, i64_w, i32_w]
    rfl
  refine take_ (i := 3) (N := some 15) (v := ?_) (a' := ?_) #[true, true, true, true, false, false, false] rfl rfl (by kernel_rfl) (fun _ _ _ h => h) (Or.inl ⟨by rfl, ?_⟩) hHeld ?_ ?_
  rotate_left
  · rintro w' ⟨s0, s1, s2, s3, s4, s5, s6⟩
    go_simp
    with_reducible rfl
  rotate_left
  · simp only [Act.put, List.setIfInBounds_toArray, List.set_cons_zero, List.set_cons_succ, i64_w, i32_w]
    rfl
  refine one_ (i := 4) (N := some 16) #[true, true, true, true, true, false, false] rfl rfl (by kernel_rfl) (by decide) (fun K hK => ?_)
  refine goes_ Try.func46 (by kernel_rfl) rfl #[.agg #[.int .i64 ax, .int .i64 ay], .agg #[.int .i64 bx, .int .i64 by_], .agg #[.int .i64 px, .int .i64 py]] (by rfl) rfl rfl (by simp only [List.map_toArray, List.map_cons, List.map_nil]; rfl) ?_
  with_reducible refine (poly_crosses _ _ _ _ _ _ _ HV.out).mono ?_
  rintro e w2 ⟨rfl, hb2⟩
  refine ⟨_, rfl, ?_⟩
  have HI3 : OneC w2 gi 4 (.bool y) := OneC.below (OneC.drew HI2) hb2
  have hci3 := HI3.cell
  have hfi3 := HI3.free
  refine hK.out _ _ ⟨hci3, cell_below hb2 ca0, cell_below hb2 ca1, cell_below hb2 cb0, cell_below hb2 cb1, cell_below hb2 cp0, cell_below hb2 cp1⟩ (fun hHeld => ?_)
  clear hK K
  refine norm_ (a' := ?_) ?_ ?_
  rotate_left
  · show Act.put _ (some 16) _ = _
    simp only [Act.put, List.setIfInBounds_toArray, List.set_cons_zero, List.set_cons_succ, i64_w, i32_w]
    rfl
  refine pure_ (i := 5) (N := some 17) (v := ?_) (a' := ?_) #[true, true, true, true, true, true, false] rfl rfl (by kernel_rfl) (fun _ _ _ h => h) (Or.inl ⟨by rfl, ?_⟩) ?_ ?_
  rotate_left
  · intro w'
    go_simp
    with_reducible rfl
  rotate_left
  · simp only [Act.put, List.setIfInBounds_toArray, List.set_cons_zero, List.set_cons_succ, i64_w, i32_w]
    rfl
  refine last_ (i := 6) (N := none) #[true, true, true, true, true, true, true] rfl rfl (by kernel_rfl) (by decide) (fun K hK => ?_)
  refine skip_ (w1 := ?_) (by rfl) rfl ?_ ?_
  rotate_left
  · go_simp
    rfl
  refine hK.out _ _ ?_
  clear hK K
  refine done_ (by kernel_rfl) ?_
  have HO3 : OneC w2 go 4 (.bool (onB (px, py) (ax, ay) (bx, by_))) := OneC.below (OneC.drew HO2) hb2
  have hco4 : (w2.setCell ⟨gi, 0, none⟩ (.bool (!(y == crossesB (ax, ay) (bx, by_) (px, py))))).cell? ⟨go, 0, none⟩ = some (.bool (onB (px, py) (ax, ay) (bx, by_))) := cell_set_other HO3.cell (by simp; omega)
  go_wp2
  go_ret
  exact ⟨rfl, (by repeat (with_reducible first | exact kept_refl _ _ | apply kept_alloc | apply kept_drewN | apply kept_drew | (refine kept_set ?_ ?_; (first | exact rfl | exact Or.inl rfl | exact Or.inr rfl | exact Or.inr (Or.inl rfl) | exact Or.inr (Or.inr rfl))) | (refine kept_setnew ?_ ?_; (first | (simp; done) | (simp; omega))) | (refine kept_below ?_ hb2) | (refine kept_step ?_ hb2) | (refine kept_below ?_ K2) | (refine kept_step ?_ K2))), HO3.other (by simp; omega) _, HI3.set _⟩

theorem onB_start {p b : Pt} (hp : validB p = true) (hb : validB b = true) : onB p p b = true := by
  have h : crossZ p b p = 0 := by unfold crossZ; grind
  simp only [onB, hp, hb, h, Bool.and_self, decide_true, Bool.true_and, decide_eq_true_eq]
  omega

/-- what visit does with Where's function -/
theorem visWhere {ok : Nat → Prop} (xs : Pts) (A : Option Addr) (n c : Nat) (px py : Int) (w w2 : World) (gp go gi : Nat) (hr : Row Ty.pt ok w A xs) (hn : n = xs.length) (hv : xs.all validB = true) (hp : validB (px, py) = true)
    (hb : Below w.heap.size w w2) (hgp : w.heap.size ≤ gp) (hlt : gp < w2.heap.size) (hc0 : w2.cell? ⟨gp, 0, none⟩ = some (.int .i64 px)) (hc1 : w2.cell? ⟨gp, 1, none⟩ = some (.int .i64 py)) (hgo : go = w2.heap.size) (hgi : gi = w2.heap.size + 1) :
    Calls Try.prog 40 #[.slice A n c, .func (.func 44) #[] #[.pointer (some ⟨gp, 0, none⟩), .pointer (some ⟨go, 0, none⟩), .pointer (some ⟨gi, 0, none⟩)]] ((w2.alloc (.cells #[.bool false] 4)).alloc (.cells #[.bool false] 4)) fun e w' =>
      e = .returned (.tuple #[]) ∧ Below w.heap.size w w' ∧ OneC w' go 4 (.bool (onTo xs (px, py) xs.length)) ∧ (onTo xs (px, py) xs.length = false → OneC w' gi 4 (.bool (parTo xs (px, py) xs.length))) := by
  have hz := hb.size
  have hK : EntersP 44 := enters_num Try.func44 (by kernel_rfl) rfl
  refine (poly_visit xs A n c _ _ _ (fun k W => Below w.heap.size w W ∧ W.cell? ⟨gp, 0, none⟩ = some (.int .i64 px) ∧ W.cell? ⟨gp, 1, none⟩ = some (.int .i64 py) ∧ onTo xs (px, py) k = false ∧ OneC W go 4 (.bool (onTo xs (px, py) k)) ∧ OneC W gi 4 (.bool (parTo xs (px, py) k)))
    (fun W => Below w.heap.size w W ∧ OneC W go 4 (.bool true) ∧ onTo xs (px, py) xs.length = true) hn hK ?_ (fun k W h => hr.below h.1) (fun k W h => ⟨below_drew h.1, h.2.1, h.2.2.1, h.2.2.2.1, h.2.2.2.2.1, h.2.2.2.2.2⟩) ?_).mono ?_
  · subst hgo hgi
    refine ⟨below_alloc (below_alloc hb _) _, cell_below (below_alloc (below_alloc (Below.refl _ _) _) _) hc0, cell_below (below_alloc (below_alloc (Below.refl _ _) _) _) hc1, rfl, (OneC.new _ _ _).alloc _, ?_⟩
    have := OneC.new (w2.alloc (.cells #[.bool false] 4)) 4 (.bool false)
    rwa [show (w2.alloc (.cells #[.bool false] 4)).heap.size = w2.heap.size + 1 from by simp] at this
  · rintro k W hk ⟨hb', h0, h1, ho, hgo', hgi'⟩
    have va := ptD_valid hv k
    have vb := ptD_valid hv ((k + 1) % xs.length)
    refine (polyWhere1 _ _ _ _ _ _ _ _ _ _ _ _ (by rw [Bool.and_eq_true, Bool.and_eq_true]; exact ⟨⟨va, vb⟩, hp⟩) h0 h1 hgo' hgi' (by omega) (by omega) (by omega)).mono ?_
    rintro e w3 ⟨rfl, hk3, ho3, hi3⟩
    have hb3 : Below w.heap.size w w3 := below_kept hb' hk3 (by rintro b (rfl | rfl) <;> omega)
    refine ⟨_, rfl, ?_⟩
    cases e : onB (px, py) (ptD xs k) (nx xs k)
    · refine .inl ⟨by simp [nx] at e; simp [e], hb3, hk3.cell h0 (by simp; omega), hk3.cell h1 (by simp; omega), by simp [onTo, ho, e], ?_, ?_⟩
      · simp only [onTo, ho, e, Bool.false_or]
        have e' : onB (px, py) ((ptD xs k).1, (ptD xs k).2) ((nx xs k).1, (nx xs k).2) = false := e
        rw [e'] at ho3; exact ho3
      · exact hi3
    · refine .inr ⟨by simp [nx] at e; simp [e], hb3, ?_, onTo_later (k := k + 1) (by simp [onTo, e]) _ (by omega)⟩
      have e' : onB (px, py) ((ptD xs k).1, (ptD xs k).2) ((nx xs k).1, (nx xs k).2) = true := e
      rw [e'] at ho3; exact ho3
  · rintro e w3 ⟨rfl, h | h⟩
    · exact ⟨rfl, h.1, h.2.2.2.2.1, fun _ => h.2.2.2.2.2⟩
    · exact ⟨rfl, h.1, by rw [h.2.2]; exact h.2.1, fun hf => by rw [h.2.2] at hf; cases hf⟩

set_option maxHeartbeats 1000000 in
theorem poly_Where {ok : Nat → Prop} (xs : Pts) (A : Option Addr) (n c : Nat) (px py : Int) (w : World) (hr : Row Ty.pt ok w A xs) (hn : n = xs.length) :
    Calls Try.prog 31 #[.slice A n c, .agg #[.int .i64 px, .int .i64 py]] w fun e w' => e = .returned (.int .i64 (whereZ xs (px, py))) ∧ Below w.heap.size w w' := by
  have HR := Lib.hid hr
  have HN := Lib.hid hn
  have hm := hr.len
  clear hr
  by_cases h3 : n < 3
  · clear hn
    go_enter Try.func31, Try.ntmps31
    go_wp2
    go_ret
    refine ⟨ret_int ?_, (by repeat (first | exact Below.refl _ _ | apply below_alloc | apply below_drewN | apply below_drew | (refine below_set2 ?_ ?_; (first | (simp; done) | (simp; omega)))))⟩
    have := HN.out
    simp only [whereZ]
    rw [show decide (3 ≤ xs.length) = false from by simp; omega]; rfl
  · clear hn
    have h3' : Hid (decide (3 ≤ xs.length) = true) := by show _ = true; have := HN.out; simp; omega
    cases hv : xs.all validB
    · have HV := Lib.hid hv
      go_enter Try.func31, Try.ntmps31
      go_wp2_with fail
      (refine (poly_valid xs A n c _ (HR.out.alloc _) HN.out).mono ?_; rintro e w1 ⟨rfl, hb1⟩)
      go_wp2
      go_ret
      exact ⟨ret_int (by simp [whereZ, HV.out]), (by repeat (first | exact Below.refl _ _ | apply below_alloc | apply below_drewN | apply below_drew | (refine below_set2 ?_ ?_; (first | (simp; done) | (simp; omega))) | (refine below_step ?_ hb1)))⟩
    · have HV := Lib.hid hv
      cases hp : validB (px, py)
      · have HP := Lib.hid hp
        go_enter Try.func31, Try.ntmps31
        go_wp2_with fail
        (refine (poly_valid xs A n c _ (HR.out.alloc _) HN.out).mono ?_; rintro e w1 ⟨rfl, hb1⟩; obtain ⟨c_hb1, f_hb1⟩ := bcell hb1; have z_hb1 := hb1.size; (try simp at z_hb1); (try have y0_hb1 : w.heap.size < w1.heap.size := by omega); (try have y1_hb1 : w.heap.size + 1 < w1.heap.size := by omega); (try have y2_hb1 : w.heap.size + 1 + 1 < w1.heap.size := by omega); (try have y3_hb1 : w.heap.size + 1 + 1 + 1 < w1.heap.size := by omega); (try have y4_hb1 : w.heap.size + 1 + 1 + 1 + 1 < w1.heap.size := by omega))
        go_wp2_with fail
        (refine (grid_Valid _ _ _).mono ?_; rintro e w2 ⟨rfl, hb2⟩)
        go_wp2
        go_ret
        exact ⟨ret_int (by simp [whereZ, HP.out]), (by repeat (first | exact Below.refl _ _ | apply below_alloc | apply below_drewN | apply below_drew | (refine below_set2 ?_ ?_; (first | (simp; done) | (simp; omega))) | (refine below_step ?_ hb2) | (refine below_step ?_ hb1)))⟩
      · have HP := Lib.hid hp
        go_enter Try.func31, Try.ntmps31
        go_wp2_with fail
        (refine (poly_valid xs A n c _ (HR.out.alloc _) HN.out).mono ?_; rintro e w1 ⟨rfl, hb1⟩; obtain ⟨c_hb1, f_hb1⟩ := bcell hb1; have z_hb1 := hb1.size; (try simp at z_hb1); (try have y0_hb1 : w.heap.size < w1.heap.size := by omega); (try have y1_hb1 : w.heap.size + 1 < w1.heap.size := by omega); (try have y2_hb1 : w.heap.size + 1 + 1 < w1.heap.size := by omega); (try have y3_hb1 : w.heap.size + 1 + 1 + 1 < w1.heap.size := by omega); (try have y4_hb1 : w.heap.size + 1 + 1 + 1 + 1 < w1.heap.size := by omega))
        go_wp2_with fail
        (refine (grid_Valid _ _ _).mono ?_; rintro e w2 ⟨rfl, hb2⟩)
        go_wp2_with fail
        have B2 : Below w.heap.size w w2 := (by repeat (first | exact Below.refl _ _ | apply below_alloc | apply below_drewN | apply below_drew | (refine below_set2 ?_ ?_; (first | (simp; done) | (simp; omega))) | (refine below_step ?_ hb2) | (refine below_step ?_ hb1)))
        have hc0 : w2.cell? ⟨w.heap.size, 0, none⟩ = some (.int .i64 px) := (cell_below hb2 ((c_hb1 _ _ (by simp)).trans (by go_simp)))
        have hc1 : w2.cell? ⟨w.heap.size, 1, none⟩ = some (.int .i64 py) := (cell_below hb2 ((c_hb1 _ _ (by simp)).trans (by go_simp)))
        have hz2 := hb2.size
        clear c_hb1 f_hb1
        refine (visWhere xs A n c px py w w2 _ _ _ HR.out HN.out HV.out HP.out B2 (Nat.le_refl _) (by omega) hc0 hc1 rfl rfl).mono ?_
        rintro e w3 ⟨rfl, hb3, ho3, hi3⟩
        have hbl := Lib.hid hb3
        clear hb3
        cases ho : onTo xs (px, py) xs.length
        · have HO := Lib.hid ho
          rw [ho] at ho3
          have hi3' := hi3 ho
          have hco := ho3.cell
          have hci := hi3'.cell
          clear ho hi3
          cases hpar : parTo xs (px, py) xs.length
          all_goals
            have HPAR := Lib.hid hpar
            rw [hpar] at hci
            clear hpar
            go_wp2
            go_ret
            exact ⟨ret_int (by rw [whereZ, h3'.out, HV.out, HP.out, HO.out, HPAR.out]; rfl), hbl.out⟩
        · have HO := Lib.hid ho
          rw [ho] at ho3
          have hco := ho3.cell
          clear ho hi3
          go_wp2
          go_ret
          exact ⟨ret_int (by rw [whereZ, h3'.out, HV.out, HP.out, HO.out]; rfl), hbl.out⟩

end Go.Proofs.Ytaphjehkpdjolaa
