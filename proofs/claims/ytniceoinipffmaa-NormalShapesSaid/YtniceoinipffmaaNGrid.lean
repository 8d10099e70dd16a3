/- Contracts of num.Clamp, num.FloorDiv, grid.Project, grid.Center, mapmakerref08.Project, where their arguments are valid. -/
import Derived.Test.YtniceoinipffmaaNTy
import Derived.Test.YtniceoinipffmaaProg
import Derived.Test.YtniceoinipffmaaWLast
namespace Go.Proofs.Ytniceoinipffmaa
open Go.RowKit Go.Proofs.YtniceoinipffmaaW.PrintLast
set_option linter.unusedVariables false
set_option linter.unusedSimpArgs false

theorem num_Clamp (x lo hi : Int) (w : World) (h1 : lo ≤ x) (h2 : x ≤ hi) : Calls Try.prog 50 #[.int .i64 x, .int .i64 lo, .int .i64 hi] w fun e w' => e = .returned (.int .i64 x) ∧ Below w.heap.size w w' := by
  have q1 : decide (x < lo) = false := decide_eq_false (by omega)
  have q2 : decide (hi < x) = false := decide_eq_false (by omega)
  go_enter Try.func50, Try.ntmps50
  go_wp2
  go_ret
  exact ⟨rfl, (by repeat (first | exact Below.refl _ _ | apply below_alloc | apply below_drewN | apply below_drew | (refine below_set2 ?_ ?_; (first | (simp; done) | (simp; omega)))))⟩
theorem num_FloorDiv (a b : Int) (w : World) (h1 : 0 ≤ a) (h2 : 0 < b) (h3 : a ≤ 1000000000000000000) : Calls Try.prog 46 #[.int .i64 a, .int .i64 b] w fun e w' => e = .returned (.int .i64 (a / b)) ∧ Below w.heap.size w w' := by
  have q1 : decide (b ≤ 0) = false := decide_eq_false (by omega)
  have q2 : decide (a % b < 0) = false := decide_eq_false (by have := Int.emod_nonneg a (show b ≠ 0 by omega); omega)
  have q3 : ¬ b = 0 := by omega
  have hd : a.tdiv b = a / b := Int.tdiv_eq_ediv_of_nonneg h1
  have hd1 : 0 ≤ a / b := Int.ediv_nonneg h1 (by omega)
  have hd2 : a / b ≤ a := Int.ediv_le_self _ h1
  have qw : IntKind.i64.wrap (a / b) = a / b := IntWalk.i64_in _ (by omega)
  go_enter Try.func46, Try.ntmps46
  go_wp2
  go_ret
  exact ⟨rfl, (by repeat (first | exact Below.refl _ _ | apply below_alloc | apply below_drewN | apply below_drew | (refine below_set2 ?_ ?_; (first | (simp; done) | (simp; omega)))))⟩
def lonZ (x : Int) : Int := (x + 1800000000) * 32768 / 3600000000
def latZ (y : Int) : Int := (900000000 - y) * 32768 / 1800000000
def projZ (c : Pt) : Pt := (min (lonZ c.1) 32767, min (latZ c.2) 32767)
def okC (c : Pt) : Prop := -1800000000 ≤ c.1 ∧ c.1 ≤ 1800000000 ∧ -900000000 ≤ c.2 ∧ c.2 ≤ 900000000
set_option maxRecDepth 100000 in
theorem grid_Project (x y : Int) (w : World) (h : okC (x, y)) :
    Calls Try.prog 32 #[.agg #[.int .i64 x, .int .i64 y]] w fun e w' => e = .returned (.tuple #[.agg #[.int .i64 (projZ (x, y)).1, .int .i64 (projZ (x, y)).2], .int .i64 0]) ∧ Below w.heap.size w w' := by
  obtain ⟨h1, h2, h3, h4⟩ := h
  simp only at h1 h2 h3 h4
  have qe1 : (x != x) = false := by simp
  have qe2 : (y != y) = false := by simp
  have hx : 0 ≤ (x + 1800000000) * 32768 := by omega
  have hy : 0 ≤ (900000000 - y) * 32768 := by omega
  have HP : Hid (projZ (x, y) = (min ((x + 1800000000) * 32768 / 3600000000) 32767, min ((900000000 - y) * 32768 / 1800000000) 32767)) := rfl
  go_enter Try.func32, Try.ntmps32
  go_wp2_with fail
  obtain ⟨W0, hW⟩ : ∃ W0, W0 = (w.alloc (.cells #[.int .i64 x, .int .i64 y] 58)).alloc (.cells #[.int .i64 0, .int .i64 0] 44) := ⟨_, rfl⟩
  have hc0 : W0.cell? ⟨w.heap.size, 0, none⟩ = some (.int .i64 x) := by rw [hW]; go_simp
  have hc1 : W0.cell? ⟨w.heap.size, 1, none⟩ = some (.int .i64 y) := by rw [hW]; go_simp
  have hc2 : W0.cell? ⟨w.heap.size + 1, 0, none⟩ = some (.int .i64 0) := by rw [hW]; go_simp
  have hc3 : W0.cell? ⟨w.heap.size + 1, 1, none⟩ = some (.int .i64 0) := by rw [hW]; go_simp
  have hf2 : W0.frozen? ⟨w.heap.size + 1, 0, none⟩ = false := by rw [hW]; go_simp
  have hf3 : W0.frozen? ⟨w.heap.size + 1, 1, none⟩ = false := by rw [hW]; go_simp
  have B0 : Below w.heap.size w W0 := by rw [hW]; exact (by repeat (first | exact Below.refl _ _ | apply below_alloc | apply below_drewN | apply below_drew | (refine below_set2 ?_ ?_; (first | (simp; done) | (simp; omega)))))
  have hz : w.heap.size + 1 < W0.heap.size := by rw [hW]; simp
  rw [← hW]
  clear hW
  refine start_ (n := 14) (S := fun w' => w'.cell? ⟨w.heap.size, 0, none⟩ = some (.int .i64 x) ∧ w'.cell? ⟨w.heap.size, 1, none⟩ = some (.int .i64 y)) (ds := []) #[false, false, false, false, false, false, false, false, false, false, false, false, false, false] (by kernel_rfl) rfl rfl ⟨hc0, hc1⟩ (fun hHeld => ?_)
  refine pure_ (i := 0) (N := some 6) (v := ?_) (a' := ?_) #[true, false, false, false, false, false, false, false, false, false, false, false, false, false] rfl rfl (by kernel_rfl) (fun _ _ _ h => h) (Or.inl ⟨by rfl, ?_⟩) ?_ ?_
  rotate_left
  · intro w'
    go_simp
    with_reducible rfl
  rotate_left
  · simp only [Act.put, List.setIfInBounds_toArray, List.set_cons_zero, List.set_cons_succ, i64_w, i32_w]
    rfl
  refine pure_ (i := 3) (N := some 9) (v := ?_) (a' := ?_) #[true, false, false, true, false, false, false, false, false, false, false, false, false, false] rfl rfl (by kernel_rfl) (fun _ _ _ h => h) (Or.inl ⟨by rfl, ?_⟩) ?_ ?_
  rotate_left
  · intro w'
    go_simp
    with_reducible rfl
  rotate_left
  · simp only [Act.put, List.setIfInBounds_toArray, List.set_cons_zero, List.set_cons_succ, i64_w, i32_w]
    rfl
  refine take_ (i := 1) (N := some 7) (v := ?_) (a' := ?_) #[true, true, false, true, false, false, false, false, false, false, false, false, false, false] rfl rfl (by kernel_rfl) (fun _ _ _ h => h) (Or.inl ⟨by rfl, ?_⟩) hHeld ?_ ?_
  rotate_left
  · rintro w' ⟨s0, s1⟩
    go_simp
    with_reducible rfl
  rotate_left
  · simp only [Act.put, List.setIfInBounds_toArray, List.set_cons_zero, List.set_cons_succ, i64_w, i32_w]
    rfl
  refine take_ (i := 4) (N := some 10) (v := ?_) (a' := ?_) #[true, true, false, true, true, false, false, false, false, false, false, false, false, false] rfl rfl (by kernel_rfl) (fun _ _ _ h => h) (Or.inl ⟨by rfl, ?_⟩) hHeld ?_ ?_
  rotate_left
  · rintro w' ⟨s0, s1⟩
    go_simp
    with_reducible rfl
  rotate_left
  · simp only [Act.put, List.setIfInBounds_toArray, List.set_cons_zero, List.set_cons_succ, i64_w, i32_w]
    rfl
  refine one_ (i := 2) (N := some 8) #[true, true, true, true, true, false, false, false, false, false, false, false, false, false] rfl rfl (by kernel_rfl) (by decide) (fun K hK => ?_)
  refine goes_ Try.func50 (by kernel_rfl) rfl #[.int .i64 x, .int .i64 _, .int .i64 _] (by rfl) rfl rfl (by simp only [List.map_toArray, List.map_cons, List.map_nil]; rfl) ?_
  with_reducible refine (num_Clamp x _ _ _ (by omega) (by omega)).mono ?_
  rintro e w1 ⟨rfl, hb1⟩
  refine ⟨_, rfl, ?_⟩
  refine hK.out _ _ ⟨cell_below hb1 hc0, cell_below hb1 hc1⟩ (fun hHeld => ?_)
  clear hK K
  refine norm_ (a' := ?_) ?_ ?_
  rotate_left
  · show Act.put _ (some 8) _ = _
    simp only [Act.put, List.setIfInBounds_toArray, List.set_cons_zero, List.set_cons_succ, i64_w, i32_w]
    rfl
  refine pure_ (i := 5) (N := some 11) (v := ?_) (a' := ?_) #[true, true, true, true, true, true, false, false, false, false, false, false, false, false] rfl rfl (by kernel_rfl) (fun _ _ _ h => h) (Or.inl ⟨by rfl, ?_⟩) ?_ ?_
  rotate_left
  · intro w'
    go_simp
    with_reducible rfl
  rotate_left
  · simp only [Act.put, List.setIfInBounds_toArray, List.set_cons_zero, List.set_cons_succ, i64_w, i32_w]
    rfl
  refine pure_ (i := 6) (N := some 12) (v := ?_) (a' := ?_) #[true, true, true, true, true, true, true, false, false, false, false, false, false, false] rfl rfl (by kernel_rfl) (fun _ _ _ h => h) (Or.inl ⟨by rfl, ?_⟩) ?_ ?_
  rotate_left
  · intro w'
    go_simp
    with_reducible rfl
  rotate_left
  · simp only [Act.put, List.setIfInBounds_toArray, List.set_cons_zero, List.set_cons_succ, i64_w, i32_w]
    rfl
  refine pure_ (i := 7) (N := some 13) (v := ?_) (a' := ?_) #[true, true, true, true, true, true, true, true, false, false, false, false, false, false] rfl rfl (by kernel_rfl) (fun _ _ _ h => h) (Or.inl ⟨by rfl, ?_⟩) ?_ ?_
  rotate_left
  · intro w'
    go_simp
    with_reducible rfl
  rotate_left
  · simp only [Act.put, List.setIfInBounds_toArray, List.set_cons_zero, List.set_cons_succ, i64_w, i32_w]
    rfl
  refine pure_ (i := 10) (N := some 16) (v := ?_) (a' := ?_) #[true, true, true, true, true, true, true, true, false, false, true, false, false, false] rfl rfl (by kernel_rfl) (fun _ _ _ h => h) (Or.inl ⟨by rfl, ?_⟩) ?_ ?_
  rotate_left
  · intro w'
    go_simp
    with_reducible rfl
  rotate_left
  · simp only [Act.put, List.setIfInBounds_toArray, List.set_cons_zero, List.set_cons_succ, i64_w, i32_w]
    rfl
  refine take_ (i := 8) (N := some 14) (v := ?_) (a' := ?_) #[true, true, true, true, true, true, true, true, true, false, true, false, false, false] rfl rfl (by kernel_rfl) (fun _ _ _ h => h) (Or.inl ⟨by rfl, ?_⟩) hHeld ?_ ?_
  rotate_left
  · rintro w' ⟨s0, s1⟩
    go_simp
    with_reducible rfl
  rotate_left
  · simp only [Act.put, List.setIfInBounds_toArray, List.set_cons_zero, List.set_cons_succ, i64_w, i32_w]
    rfl
  refine take_ (i := 11) (N := some 17) (v := ?_) (a' := ?_) #[true, true, true, true, true, true, true, true, true, false, true, true, false, false] rfl rfl (by kernel_rfl) (fun _ _ _ h => h) (Or.inl ⟨by rfl, ?_⟩) hHeld ?_ ?_
  rotate_left
  · rintro w' ⟨s0, s1⟩
    go_simp
    with_reducible rfl
  rotate_left
  · simp only [Act.put, List.setIfInBounds_toArray, List.set_cons_zero, List.set_cons_succ, i64_w, i32_w]
    rfl
  refine one_ (i := 9) (N := some 15) #[true, true, true, true, true, true, true, true, true, true, true, true, false, false] rfl rfl (by kernel_rfl) (by decide) (fun K hK => ?_)
  refine goes_ Try.func50 (by kernel_rfl) rfl #[.int .i64 y, .int .i64 _, .int .i64 _] (by rfl) rfl rfl (by simp only [List.map_toArray, List.map_cons, List.map_nil]; rfl) ?_
  with_reducible refine (num_Clamp y _ _ _ (by omega) (by omega)).mono ?_
  rintro e w2 ⟨rfl, hb2⟩
  refine ⟨_, rfl, ?_⟩
  refine hK.out _ _ ⟨cell_below hb2 (cell_below hb1 hc0), cell_below hb2 (cell_below hb1 hc1)⟩ (fun hHeld => ?_)
  clear hK K
  refine norm_ (a' := ?_) ?_ ?_
  rotate_left
  · show Act.put _ (some 15) _ = _
    simp only [Act.put, List.setIfInBounds_toArray, List.set_cons_zero, List.set_cons_succ, i64_w, i32_w]
    rfl
  refine pure_ (i := 12) (N := some 18) (v := ?_) (a' := ?_) #[true, true, true, true, true, true, true, true, true, true, true, true, true, false] rfl rfl (by kernel_rfl) (fun _ _ _ h => h) (Or.inl ⟨by rfl, ?_⟩) ?_ ?_
  rotate_left
  · intro w'
    go_simp
    with_reducible rfl
  rotate_left
  · simp only [Act.put, List.setIfInBounds_toArray, List.set_cons_zero, List.set_cons_succ, i64_w, i32_w]
    rfl
  refine pure_ (i := 13) (N := some 19) (v := ?_) (a' := ?_) #[true, true, true, true, true, true, true, true, true, true, true, true, true, true] rfl rfl (by kernel_rfl) (fun _ _ _ h => h) (Or.inl ⟨by rfl, ?_⟩) ?_ ?_
  rotate_left
  · intro w'
    go_simp
    with_reducible rfl
  rotate_left
  · simp only [Act.put, List.setIfInBounds_toArray, List.set_cons_zero, List.set_cons_succ, i64_w, i32_w]
    rfl
  refine done_ (by kernel_rfl) ?_
  have B2 : Below W0.heap.size W0 w2 := (by repeat (first | exact Below.refl _ _ | apply below_alloc | apply below_drewN | apply below_drew | (refine below_set2 ?_ ?_; (first | (simp; done) | (simp; omega))) | (refine below_step ?_ hb2) | (refine below_step ?_ hb1)))
  have hd0 := cell_below B2 hc0
  have hd1 := cell_below B2 hc1
  clear hc0 hc1
  have qw0 : IntKind.i64.wrap (x + 1800000000) = x + 1800000000 := IntWalk.i64_in _ (by omega)
  have qw1 : IntKind.i64.wrap ((x + 1800000000) * 32768) = (x + 1800000000) * 32768 := IntWalk.i64_in _ (by omega)
  have qw2 : IntKind.i64.wrap (900000000 - y) = 900000000 - y := IntWalk.i64_in _ (by omega)
  have qw3 : IntKind.i64.wrap ((900000000 - y) * 32768) = (900000000 - y) * 32768 := IntWalk.i64_in _ (by omega)
  go_wp2_with fail
  refine (num_FloorDiv ((x + 1800000000) * 32768) 3600000000 _ hx (by decide) (by omega)).mono ?_
  rintro e w3 ⟨rfl, hb3⟩
  have he1 := cell_below hb3 hd1
  have B3 : Below W0.heap.size W0 w3 := (by repeat (first | exact Below.refl _ _ | apply below_alloc | apply below_drewN | apply below_drew | (refine below_set2 ?_ ?_; (first | (simp; done) | (simp; omega))) | (refine below_step ?_ hb3) | (refine below_step ?_ B2)))
  go_wp2_with fail
  refine (num_FloorDiv ((900000000 - y) * 32768) 1800000000 _ hy (by decide) (by omega)).mono ?_
  rintro e w4 ⟨rfl, hb4⟩
  have B4 : Below W0.heap.size W0 w4 := (by repeat (first | exact Below.refl _ _ | apply below_alloc | apply below_drewN | apply below_drew | (refine below_set2 ?_ ?_; (first | (simp; done) | (simp; omega))) | (refine below_step ?_ hb4) | (refine below_step ?_ B3)))
  have hg2 := cell_below B4 hc2
  have hg3 := cell_below B4 hc3
  have hr2 : w4.frozen? ⟨w.heap.size + 1, 0, none⟩ = false := (B4.frozen (p := ⟨w.heap.size + 1, 0, none⟩) hz).trans hf2
  have hr3 : w4.frozen? ⟨w.heap.size + 1, 1, none⟩ = false := (B4.frozen (p := ⟨w.heap.size + 1, 1, none⟩) hz).trans hf3
  go_wp2
  all_goals refine bodyPost_ret (v := .tuple #[.agg #[.int .i64 (projZ (x, y)).1, .int .i64 (projZ (x, y)).2], .int .i64 0]) ?_ rfl ⟨rfl, (by first | exact below_set2 (by simp) (below_set2 (by simp) (below_step B0 B4)) | exact below_step B0 B4)⟩
  all_goals rw [HP.out]
  all_goals simp [results, Try.results32]
  all_goals go_simp
  all_goals omega
set_option maxRecDepth 100000 in
theorem ref08_Project (x y : Int) (w : World) (h : okC (x, y)) :
    Calls Try.prog 34 #[.agg #[.int .i64 x, .int .i64 y]] w fun e w' => e = .returned (.tuple #[.agg #[.int .i64 (projZ (x, y)).1, .int .i64 (projZ (x, y)).2], .int .i64 0]) ∧ Below w.heap.size w w' := by
  obtain ⟨h1, h2, h3, h4⟩ := h
  simp only at h1 h2 h3 h4
  have q1 : decide (x < -1800000000) = false := decide_eq_false (by omega)
  have q2 : decide (1800000000 < x) = false := decide_eq_false (by omega)
  have q3 : decide (y < -900000000) = false := decide_eq_false (by omega)
  have q4 : decide (900000000 < y) = false := decide_eq_false (by omega)
  have HP : Hid (projZ (x, y) = (min ((x + 1800000000) * 32768 / 3600000000) 32767, min ((900000000 - y) * 32768 / 1800000000) 32767)) := rfl
  have qw0 : IntKind.i64.wrap (x + 1800000000) = x + 1800000000 := IntWalk.i64_in _ (by omega)
  have qw1 : IntKind.i64.wrap ((x + 1800000000) * 32768) = (x + 1800000000) * 32768 := IntWalk.i64_in _ (by omega)
  have qw2 : IntKind.i64.wrap (900000000 - y) = 900000000 - y := IntWalk.i64_in _ (by omega)
  have qw3 : IntKind.i64.wrap ((900000000 - y) * 32768) = (900000000 - y) * 32768 := IntWalk.i64_in _ (by omega)
  have hd1 : ((x + 1800000000) * 32768).tdiv 3600000000 = (x + 1800000000) * 32768 / 3600000000 := Int.tdiv_eq_ediv_of_nonneg (by omega)
  have hd2 : ((900000000 - y) * 32768).tdiv 1800000000 = (900000000 - y) * 32768 / 1800000000 := Int.tdiv_eq_ediv_of_nonneg (by omega)
  go_enter Try.func34, Try.ntmps34
  go_wp2
  all_goals refine bodyPost_ret (v := .tuple #[.agg #[.int .i64 (projZ (x, y)).1, .int .i64 (projZ (x, y)).2], .int .i64 0]) ?_ rfl ⟨rfl, (by repeat (first | exact Below.refl _ _ | apply below_alloc | apply below_drewN | apply below_drew | (refine below_set2 ?_ ?_; (first | (simp; done) | (simp; omega)))))⟩
  all_goals rw [HP.out]
  all_goals simp [results, Try.results34]
  all_goals go_simp
  all_goals omega
def centerZ (p : Pt) : Pt := ((2 * p.1 + 1) * 1800000000 / 32768 - 1800000000, 900000000 - (2 * p.2 + 1) * 900000000 / 32768)
end Go.Proofs.Ytniceoinipffmaa
