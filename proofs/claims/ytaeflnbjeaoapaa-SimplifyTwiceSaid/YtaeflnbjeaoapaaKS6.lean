/- Contract of simplify.inside. Contracts of the two function values in corner.blocks: ends, far. Contract of seg.Relate. -/
import Derived.Test.YtaeflnbjeaoapaaKS5
import Derived.Test.YtaeflnbjeaoapaaKS2
namespace Go.Proofs.Ytaeflnbjeaoapaa
set_option linter.unusedVariables false
set_option linter.unusedSimpArgs false
section
open Go.RowKit Go.Proofs.YtaeflnbjeaoapaaW.PrintLast

attribute [local go_sem high] eqPt eqSg
theorem inside_of (a c d b : Pt) (h : ¬ turnZ a c d < 0) : insideZ a c d b = (decide (turnZ a c b ≥ 0) && decide (turnZ a b d ≥ 0)) := by unfold insideZ; simp [h]
theorem inside_sw (a c d b : Pt) (h : turnZ a c d < 0) : insideZ a c d b = (decide (turnZ a d b ≥ 0) && decide (turnZ a b c ≥ 0)) := by unfold insideZ; simp [h]
set_option maxHeartbeats 1000000 in
theorem simplify_inside (a c d b : Pt) (w : World) : Calls Try.prog 58 #[ptA a, ptA c, ptA d, ptA b] w fun e w' => e = .returned (.bool (insideZ a c d b)) ∧ Below w.heap.size w w' := by
 obtain ⟨a1, a2⟩ := a
 obtain ⟨b1, b2⟩ := b
 obtain ⟨c1, c2⟩ := c
 obtain ⟨d1, d2⟩ := d
 obtain ⟨W0, hW0⟩ : ∃ W0, W0 = (((w.alloc (.cells #[.int .i64 a1, .int .i64 a2] 31)).alloc (.cells #[.int .i64 c1, .int .i64 c2] 31)).alloc (.cells #[.int .i64 d1, .int .i64 d2] 31)).alloc (.cells #[.int .i64 b1, .int .i64 b2] 31) := ⟨_, rfl⟩
 have B0 : Below w.heap.size w W0 := by rw [hW0]; exact bq
 have HA : W0.heap[w.heap.size]? = some (.cells #[.int .i64 a1, .int .i64 a2] 31 (0, 0)) := by rw [hW0]; exact blk_alloc (blk_alloc (blk_alloc (heap_alloc_new _ _) _) _) _
 have HC : W0.heap[w.heap.size + 1]? = some (.cells #[.int .i64 c1, .int .i64 c2] 31 (0, 0)) := by rw [hW0]; refine blk_alloc (blk_alloc ?_ _) _; have := heap_alloc_new (w.alloc (.cells #[.int .i64 a1, .int .i64 a2] 31)) (.cells #[.int .i64 c1, .int .i64 c2] 31); simpa using this
 have HD : W0.heap[w.heap.size + 1 + 1]? = some (.cells #[.int .i64 d1, .int .i64 d2] 31 (0, 0)) := by rw [hW0]; refine blk_alloc ?_ _; have := heap_alloc_new ((w.alloc (.cells #[.int .i64 a1, .int .i64 a2] 31)).alloc (.cells #[.int .i64 c1, .int .i64 c2] 31)) (.cells #[.int .i64 d1, .int .i64 d2] 31); simpa using this
 have HB : W0.heap[w.heap.size + 1 + 1 + 1]? = some (.cells #[.int .i64 b1, .int .i64 b2] 31 (0, 0)) := by rw [hW0]; have := heap_alloc_new (((w.alloc (.cells #[.int .i64 a1, .int .i64 a2] 31)).alloc (.cells #[.int .i64 c1, .int .i64 c2] 31)).alloc (.cells #[.int .i64 d1, .int .i64 d2] 31)) (.cells #[.int .i64 b1, .int .i64 b2] 31); simpa using this
 have CT := Lib.hid (fun W => seg_Turn a1 a2 c1 c2 d1 d2 W)
 by_cases ht : turnZ (a1, a2) (c1, c2) (d1, d2) < 0
 ·have HI := Lib.hid (inside_sw (a1, a2) (c1, c2) (d1, d2) (b1, b2) ht)
  have C1 := Lib.hid (fun W => seg_Turn a1 a2 d1 d2 b1 b2 W)
  have C2 := Lib.hid (fun W => seg_Turn a1 a2 b1 b2 c1 c2 W)
  have q0 := decide_eq_true ht
  clear ht
  generalize turnZ (a1, a2) (c1, c2) (d1, d2) = t0 at *
  generalize turnZ (a1, a2) (d1, d2) (b1, b2) = t1 at *
  generalize turnZ (a1, a2) (b1, b2) (c1, c2) = t2 at *
  go_enter Try.func58, Try.ntmps58
  go_wp2_with fail
  rw [← hW0]
  clear hW0
  refine (CT.out _).mono ?_
  rintro e w1 ⟨rfl, hb1⟩
  have E1 : Below w.heap.size w w1 := below_step B0 hb1
  have EA := blk_below HA hb1
  have EC := blk_below HC hb1
  have ED := blk_below HD hb1
  have EB := blk_below HB hb1
  clear HA HC HD HB B0 hb1 CT
  have xa0 := blk_cell EA 0 rfl
  have xa1 := blk_cell EA 1 rfl
  have xc0 := blk_cell EC 0 rfl
  have xc1 := blk_cell EC 1 rfl
  have xd0 := blk_cell ED 0 rfl
  have xd1 := blk_cell ED 1 rfl
  have xb0 := blk_cell EB 0 rfl
  have xb1 := blk_cell EB 1 rfl
  have fc0 := blk_free EC 0
  have fc1 := blk_free EC 1
  have fd0 := blk_free ED 0
  have fd1 := blk_free ED 1
  go_wp2_with fail
  obtain ⟨WP, hWP⟩ : ∃ WP, WP = (((w1.setCell ⟨w.heap.size + 1, 0, none⟩ (.int .i64 d1)).setCell ⟨w.heap.size + 1, 1, none⟩ (.int .i64 d2)).setCell ⟨w.heap.size + 1 + 1, 0, none⟩ (.int .i64 c1)).setCell ⟨w.heap.size + 1 + 1, 1, none⟩ (.int .i64 c2) := ⟨_, rfl⟩
  have BP : Below w.heap.size w WP := by rw [hWP]; exact below_set2 (Nat.le_add_right _ 2) (below_set2 (Nat.le_add_right _ 2) (below_set2 (Nat.le_add_right _ 1) (below_set2 (Nat.le_add_right _ 1) E1)))
  have KP : KeptS (fun k => k = w.heap.size + 1 ∨ k = w.heap.size + 1 + 1) w1 WP := by rw [hWP]; exact kept_set (.inr rfl) (kept_set (.inr rfl) (kept_set (.inl rfl) (kept_set (.inl rfl) (kept_refl _ _))))
  have FA : WP.heap[w.heap.size]? = some (.cells #[.int .i64 a1, .int .i64 a2] 31 (0, 0)) := (KP.block _ (lt_of_block EA) (by omega)).trans EA
  have FB : WP.heap[w.heap.size + 1 + 1 + 1]? = some (.cells #[.int .i64 b1, .int .i64 b2] 31 (0, 0)) := (KP.block _ (lt_of_block EB) (by omega)).trans EB
  have FC : WP.heap[w.heap.size + 1]? = some (.cells #[.int .i64 d1, .int .i64 d2] 31 (0, 0)) := by rw [hWP]; exact blk_far (blk_far (blk_set (i := 1) (blk_set (i := 0) EC _) _) (by omega) _) (by omega) _
  have FD : WP.heap[w.heap.size + 1 + 1]? = some (.cells #[.int .i64 c1, .int .i64 c2] 31 (0, 0)) := by rw [hWP]; exact blk_set (i := 1) (blk_set (i := 0) (blk_far (blk_far ED (by omega) _) (by omega) _) _) _
  rw [← hWP]
  clear hWP KP EA EB EC ED E1 fc0 fc1 fd0 fd1 xa0 xa1 xc0 xc1 xd0 xd1 xb0 xb1
  have xa0 := blk_cell FA 0 rfl
  have xa1 := blk_cell FA 1 rfl
  have xc0 := blk_cell FC 0 rfl
  have xc1 := blk_cell FC 1 rfl
  have xd0 := blk_cell FD 0 rfl
  have xd1 := blk_cell FD 1 rfl
  have xb0 := blk_cell FB 0 rfl
  have xb1 := blk_cell FB 1 rfl
  rcases Int.lt_or_le t1 0 with h1 | h1
  ·have q1 : decide (t1 ≥ 0) = false := decide_eq_false (by omega)
   have q1' : decide (0 ≤ t1) = false := decide_eq_false (by omega)
   have HI2 : Hid (insideZ (a1, a2) (c1, c2) (d1, d2) (b1, b2) = false) := HI.out.trans (by rw [q1]; rfl)
   clear HI h1
   go_wp2_with fail
   refine (C1.out _).mono ?_
   rintro e w3 ⟨rfl, hb3⟩
   go_wp2
   go_ret
   exact ⟨ret_bool HI2.out.symm, (by repeat (first | exact Below.refl _ _ | apply below_alloc | apply below_drewN | apply below_drew | (refine below_set2 ?_ ?_; (first | (simp; done) | (simp; omega))) | (refine below_step ?_ hb3) | (refine below_step ?_ BP)))⟩
  ·have q1 : decide (t1 ≥ 0) = true := decide_eq_true (by omega)
   have q1' : decide (0 ≤ t1) = true := decide_eq_true (by omega)
   have HI2 : Hid (insideZ (a1, a2) (c1, c2) (d1, d2) (b1, b2) = decide (t2 ≥ 0)) := HI.out.trans (by rw [q1]; rfl)
   clear HI h1
   go_wp2_with fail
   refine (C1.out _).mono ?_
   rintro e w3 ⟨rfl, hb3⟩
   have GA := blk_below FA hb3
   have GC := blk_below FC hb3
   have GD := blk_below FD hb3
   have GB := blk_below FB hb3
   clear xa0 xa1 xc0 xc1 xd0 xd1 xb0 xb1 FA FC FD FB
   have xa0 := blk_cell GA 0 rfl
   have xa1 := blk_cell GA 1 rfl
   have xc0 := blk_cell GC 0 rfl
   have xc1 := blk_cell GC 1 rfl
   have xd0 := blk_cell GD 0 rfl
   have xd1 := blk_cell GD 1 rfl
   have xb0 := blk_cell GB 0 rfl
   have xb1 := blk_cell GB 1 rfl
   go_wp2_with fail
   refine (C2.out _).mono ?_
   rintro e w4 ⟨rfl, hb4⟩
   go_wp2
   go_ret
   exact ⟨ret_bool HI2.out.symm, (by repeat (first | exact Below.refl _ _ | apply below_alloc | apply below_drewN | apply below_drew | (refine below_set2 ?_ ?_; (first | (simp; done) | (simp; omega))) | (refine below_step ?_ hb4) | (refine below_step ?_ hb3) | (refine below_step ?_ BP)))⟩
 ·have HI := Lib.hid (inside_of (a1, a2) (c1, c2) (d1, d2) (b1, b2) ht)
  have C1 := Lib.hid (fun W => seg_Turn a1 a2 c1 c2 b1 b2 W)
  have C2 := Lib.hid (fun W => seg_Turn a1 a2 b1 b2 d1 d2 W)
  have q0 := decide_eq_false ht
  clear ht
  generalize turnZ (a1, a2) (c1, c2) (d1, d2) = t0 at *
  generalize turnZ (a1, a2) (c1, c2) (b1, b2) = t1 at *
  generalize turnZ (a1, a2) (b1, b2) (d1, d2) = t2 at *
  go_enter Try.func58, Try.ntmps58
  go_wp2_with fail
  rw [← hW0]
  clear hW0
  refine (CT.out _).mono ?_
  rintro e w1 ⟨rfl, hb1⟩
  have BP : Below w.heap.size w w1 := below_step B0 hb1
  have FA := blk_below HA hb1
  have FC := blk_below HC hb1
  have FD := blk_below HD hb1
  have FB := blk_below HB hb1
  clear HA HC HD HB B0 hb1 CT
  have xa0 := blk_cell FA 0 rfl
  have xa1 := blk_cell FA 1 rfl
  have xc0 := blk_cell FC 0 rfl
  have xc1 := blk_cell FC 1 rfl
  have xd0 := blk_cell FD 0 rfl
  have xd1 := blk_cell FD 1 rfl
  have xb0 := blk_cell FB 0 rfl
  have xb1 := blk_cell FB 1 rfl
  rcases Int.lt_or_le t1 0 with h1 | h1
  ·have q1 : decide (t1 ≥ 0) = false := decide_eq_false (by omega)
   have q1' : decide (0 ≤ t1) = false := decide_eq_false (by omega)
   have HI2 : Hid (insideZ (a1, a2) (c1, c2) (d1, d2) (b1, b2) = false) := HI.out.trans (by rw [q1]; rfl)
   clear HI h1
   go_wp2_with fail
   refine (C1.out _).mono ?_
   rintro e w3 ⟨rfl, hb3⟩
   go_wp2
   go_ret
   exact ⟨ret_bool HI2.out.symm, (by repeat (first | exact Below.refl _ _ | apply below_alloc | apply below_drewN | apply below_drew | (refine below_set2 ?_ ?_; (first | (simp; done) | (simp; omega))) | (refine below_step ?_ hb3) | (refine below_step ?_ BP)))⟩
  ·have q1 : decide (t1 ≥ 0) = true := decide_eq_true (by omega)
   have q1' : decide (0 ≤ t1) = true := decide_eq_true (by omega)
   have HI2 : Hid (insideZ (a1, a2) (c1, c2) (d1, d2) (b1, b2) = decide (t2 ≥ 0)) := HI.out.trans (by rw [q1]; rfl)
   clear HI h1
   go_wp2_with fail
   refine (C1.out _).mono ?_
   rintro e w3 ⟨rfl, hb3⟩
   have GA := blk_below FA hb3
   have GC := blk_below FC hb3
   have GD := blk_below FD hb3
   have GB := blk_below FB hb3
   clear xa0 xa1 xc0 xc1 xd0 xd1 xb0 xb1 FA FC FD FB
   have xa0 := blk_cell GA 0 rfl
   have xa1 := blk_cell GA 1 rfl
   have xc0 := blk_cell GC 0 rfl
   have xc1 := blk_cell GC 1 rfl
   have xd0 := blk_cell GD 0 rfl
   have xd1 := blk_cell GD 1 rfl
   have xb0 := blk_cell GB 0 rfl
   have xb1 := blk_cell GB 1 rfl
   go_wp2_with fail
   refine (C2.out _).mono ?_
   rintro e w4 ⟨rfl, hb4⟩
   go_wp2
   go_ret
   exact ⟨ret_bool HI2.out.symm, (by repeat (first | exact Below.refl _ _ | apply below_alloc | apply below_drewN | apply below_drew | (refine below_set2 ?_ ?_; (first | (simp; done) | (simp; omega))) | (refine below_step ?_ hb4) | (refine below_step ?_ hb3) | (refine below_step ?_ BP)))⟩
end
section
open Go.RowKit Go.Proofs.YtaeflnbjeaoapaaW.PrintLast

attribute [local go_sem high] eqPt eqSg
theorem blocks_ends (g : Nat) (a1 a2 b1 b2 : Int) (L R : List Int) (p : Pt) (w : World) (h0 : w.cell? ⟨g, 0, none⟩ = some (.int .i64 a1)) (h1 : w.cell? ⟨g, 1, none⟩ = some (.int .i64 a2)) (h2 : w.cell? ⟨g, 2, none⟩ = some (.int .i64 b1)) (h3 : w.cell? ⟨g, 3, none⟩ = some (.int .i64 b2)) :
  Calls Try.prog 55 #[ptA p, .pointer (some ⟨g, 0, none⟩)] w fun e w' => e = .returned (.bool (endE p (((a1, a2), (b1, b2)), (L, R)))) ∧ Below w.heap.size w w' := by
 obtain ⟨p1, p2⟩ := p
 have hg := World.block_lt_of_cell? w _ h0
 simp only at hg
 by_cases q1 : a1 = p1 ∧ a2 = p2
 ·obtain ⟨rfl, rfl⟩ := q1
  go_enter Try.func55, Try.ntmps55
  go_wp2
  go_ret
  exact ⟨ret_bool (by simp [endE]), bq⟩
 ·have e1 : (decide (a1 = p1) && decide (a2 = p2)) = false := by simpa using q1
  by_cases q2 : b1 = p1 ∧ b2 = p2
  ·obtain ⟨rfl, rfl⟩ := q2
   clear q1
   go_enter Try.func55, Try.ntmps55
   go_wp2
   go_ret
   exact ⟨ret_bool (by simp [endE]), bq⟩
  ·have e2 : (decide (b1 = p1) && decide (b2 = p2)) = false := by simpa using q2
   have HH : Hid (endE (p1, p2) (((a1, a2), (b1, b2)), (L, R)) = false) := by show _ = false; simp [endE]; exact ⟨fun x y => q1 ⟨x, y⟩, fun x y => q2 ⟨x, y⟩⟩
   clear q1 q2
   go_enter Try.func55, Try.ntmps55
   go_wp2
   go_ret
   exact ⟨ret_bool HH.out.symm, bq⟩
theorem blocks_far (g : Nat) (a1 a2 b1 b2 : Int) (L R : List Int) (p : Pt) (w : World) (h0 : w.cell? ⟨g, 0, none⟩ = some (.int .i64 a1)) (h1 : w.cell? ⟨g, 1, none⟩ = some (.int .i64 a2)) (h2 : w.cell? ⟨g, 2, none⟩ = some (.int .i64 b1)) (h3 : w.cell? ⟨g, 3, none⟩ = some (.int .i64 b2)) :
  Calls Try.prog 56 #[ptA p, .pointer (some ⟨g, 0, none⟩)] w fun e w' => e = .returned (ptA (farE (((a1, a2), (b1, b2)), (L, R)) p)) ∧ Below w.heap.size w w' := by
 obtain ⟨p1, p2⟩ := p
 have hg := World.block_lt_of_cell? w _ h0
 simp only at hg
 by_cases q1 : a1 = p1 ∧ a2 = p2
 ·obtain ⟨rfl, rfl⟩ := q1
  go_enter Try.func56, Try.ntmps56
  go_wp2
  refine bodyPost_ret (v := .agg #[.int .i64 b1, .int .i64 b2]) ?_ rfl ⟨by simp [farE, ptA], bq⟩
  simp [results, Try.results56]
  go_simp
 ·have e1 : (decide (a1 = p1) && decide (a2 = p2)) = false := by simpa using q1
  have HH : Hid (farE (((a1, a2), (b1, b2)), (L, R)) (p1, p2) = (a1, a2)) := by show farE _ _ = _; unfold farE; rw [if_neg (by simpa using q1)]
  clear q1
  go_enter Try.func56, Try.ntmps56
  go_wp2
  refine bodyPost_ret (v := .agg #[.int .i64 a1, .int .i64 a2]) ?_ rfl ⟨by rw [HH.out], bq⟩
  simp [results, Try.results56]
  go_simp
end
section
open Go.RowKit Go.Proofs.YtaeflnbjeaoapaaW.PrintLast

attribute [local go_sem high] eqPt eqSg
theorem sgn_bd (n : Int) : -1 ≤ signZ n ∧ signZ n ≤ 1 := by unfold signZ; omega
theorem sgn_mul {a b : Int} (h1 : -1 ≤ a ∧ a ≤ 1) (h2 : -1 ≤ b ∧ b ≤ 1) : wrap64 (a * b) = a * b := by
 have : a = -1 ∨ a = 0 ∨ a = 1 := by omega
 rcases this with rfl | rfl | rfl <;> (unfold wrap64; omega)
theorem relZ_inv {s t : Sg} (h : [s.1, s.2, t.1, t.2].all validB = false) : relZ s t = 0 := by
 simp only [List.all_cons, List.all_nil, Bool.and_true] at h
 unfold relZ
 rw [if_pos (by rw [show (validB s.1 && validB s.2 && validB t.1 && validB t.2) = false by rw [← h]; simp only [Bool.and_assoc]]; rfl)]
theorem relZ_e1 {s t : Sg} (h : s.1 = s.2) : relZ s t = 0 := by unfold relZ; rw [if_pos (by simp [h])]
theorem relZ_e2 {s t : Sg} (h : t.1 = t.2) : relZ s t = 0 := by unfold relZ; rw [if_pos (by simp [h])]
def relM (s t : Sg) (a b c d : Int) : Int := if a = 0 ∧ b = 0 then flatZ s t else if a * b < 0 ∧ c * d < 0 then 2 else
 if onB t.1 s.1 s.2 || (onB t.2 s.1 s.2 || (onB s.1 t.1 t.2 || onB s.2 t.1 t.2)) then 1 else 0
theorem relZ_main {s t : Sg} (h : [s.1, s.2, t.1, t.2].all validB = true) (h1 : ¬ s.1 = s.2) (h2 : ¬ t.1 = t.2) : relZ s t = relM (ofS s) (ofS t) (signZ (turnZ (ofS s).1 (ofS s).2 (ofS t).1)) (signZ (turnZ (ofS s).1 (ofS s).2 (ofS t).2)) (signZ (turnZ (ofS t).1 (ofS t).2 (ofS s).1)) (signZ (turnZ (ofS t).1 (ofS t).2 (ofS s).2)) := by
 unfold relZ relM
 rw [if_neg (by simp only [List.all_cons, List.all_nil, Bool.and_true, Bool.and_eq_true] at h; simp [h, h1, h2])]
set_option maxRecDepth 100000 in
set_option maxHeartbeats 2000000 in
theorem seg_Relate (s1 s2 s3 s4 t1 t2 t3 t4 : Int) (w : World) : Calls Try.prog 57 #[.agg #[.int .i64 s1, .int .i64 s2, .int .i64 s3, .int .i64 s4], .agg #[.int .i64 t1, .int .i64 t2, .int .i64 t3, .int .i64 t4]] w fun e w' => e = .returned (.int .i64 (relZ ((s1, s2), (s3, s4)) ((t1, t2), (t3, t4)))) ∧ Below w.heap.size w w' := by
 obtain ⟨r, hr⟩ : ∃ r, r = relZ ((s1, s2), (s3, s4)) ((t1, t2), (t3, t4)) := ⟨_, rfl⟩
 rw [← hr]
 have HF := Lib.hid hr
 clear hr
 have hlit : ∀ (W : World) (g : Nat), g = W.heap.size → Row Ty.pt (fun _ => True) (W.alloc (.cells #[.int .i64 s1, .int .i64 s2, .int .i64 s3, .int .i64 s4, .int .i64 t1, .int .i64 t2, .int .i64 t3, .int .i64 t4] 31)) (some ⟨g, 0, none⟩) [(s1, s2), (s3, s4), (t1, t2), (t3, t4)] :=
  fun W g hg => hg ▸ Row.pt_lit W [(s1, s2), (s3, s4), (t1, t2), (t3, t4)] _ _ trivial (by simp)
 have HL := Lib.hid hlit
 clear hlit
 cases hv : [(s1, s2), (s3, s4), (t1, t2), (t3, t4)].all validB
 ·have HV := Lib.hid hv
  have HR : Hid (r = 0) := by show r = _; rw [HF.out]; exact relZ_inv hv
  clear HF
  go_enter Try.func57, Try.ntmps57
  go_wp2_with (go_at_call 54; (refine (seg_valid [(s1, s2), (s3, s4), (t1, t2), (t3, t4)] _ _ _ _ (HL.out _ _ (by simp)) rfl).mono ?_; rintro e w1 ⟨rfl, hb1⟩; obtain ⟨c_hb1, f_hb1⟩ := bcell hb1; have z_hb1 := hb1.size; (try simp at z_hb1); (try have y0_hb1 : w.heap.size < w1.heap.size := by omega); (try have y1_hb1 : w.heap.size + 1 < w1.heap.size := by omega); (try have y2_hb1 : w.heap.size + 1 + 1 < w1.heap.size := by omega); (try have y3_hb1 : w.heap.size + 1 + 1 + 1 < w1.heap.size := by omega); (try have y4_hb1 : w.heap.size + 1 + 1 + 1 + 1 < w1.heap.size := by omega)))
  go_ret
  exact ⟨ret_int HR.out.symm, (by repeat (first | exact Below.refl _ _ | apply below_alloc | apply below_drewN | apply below_drew | (refine below_set2 ?_ ?_; (first | (simp; done) | (simp; omega))) | (refine below_step ?_ hb1)))⟩
 ·by_cases e1 : ((s1, s2) : Pt) = (s3, s4)
  ·have HR : Hid (r = 0) := by show r = _; rw [HF.out]; exact relZ_e1 e1
   have hd1 := (ptB (s1, s2) (s3, s4)).trans (decide_eq_true e1)
   clear HF e1
   go_enter Try.func57, Try.ntmps57
   go_wp2_with (go_at_call 54; (refine (seg_valid [(s1, s2), (s3, s4), (t1, t2), (t3, t4)] _ _ _ _ (HL.out _ _ (by simp)) rfl).mono ?_; rintro e w1 ⟨rfl, hb1⟩; obtain ⟨c_hb1, f_hb1⟩ := bcell hb1; have z_hb1 := hb1.size; (try simp at z_hb1); (try have y0_hb1 : w.heap.size < w1.heap.size := by omega); (try have y1_hb1 : w.heap.size + 1 < w1.heap.size := by omega); (try have y2_hb1 : w.heap.size + 1 + 1 < w1.heap.size := by omega); (try have y3_hb1 : w.heap.size + 1 + 1 + 1 < w1.heap.size := by omega); (try have y4_hb1 : w.heap.size + 1 + 1 + 1 + 1 < w1.heap.size := by omega)))
   go_ret
   exact ⟨ret_int HR.out.symm, (by repeat (first | exact Below.refl _ _ | apply below_alloc | apply below_drewN | apply below_drew | (refine below_set2 ?_ ?_; (first | (simp; done) | (simp; omega))) | (refine below_step ?_ hb1)))⟩
  ·have hd1 := (ptB (s1, s2) (s3, s4)).trans (decide_eq_false e1)
   by_cases e2 : ((t1, t2) : Pt) = (t3, t4)
   ·have HR : Hid (r = 0) := by show r = _; rw [HF.out]; exact relZ_e2 e2
    have hd2 := (ptB (t1, t2) (t3, t4)).trans (decide_eq_true e2)
    clear HF e1 e2
    go_enter Try.func57, Try.ntmps57
    go_wp2_with (go_at_call 54; (refine (seg_valid [(s1, s2), (s3, s4), (t1, t2), (t3, t4)] _ _ _ _ (HL.out _ _ (by simp)) rfl).mono ?_; rintro e w1 ⟨rfl, hb1⟩; obtain ⟨c_hb1, f_hb1⟩ := bcell hb1; have z_hb1 := hb1.size; (try simp at z_hb1); (try have y0_hb1 : w.heap.size < w1.heap.size := by omega); (try have y1_hb1 : w.heap.size + 1 < w1.heap.size := by omega); (try have y2_hb1 : w.heap.size + 1 + 1 < w1.heap.size := by omega); (try have y3_hb1 : w.heap.size + 1 + 1 + 1 < w1.heap.size := by omega); (try have y4_hb1 : w.heap.size + 1 + 1 + 1 + 1 < w1.heap.size := by omega)))
    go_ret
    exact ⟨ret_int HR.out.symm, (by repeat (first | exact Below.refl _ _ | apply below_alloc | apply below_drewN | apply below_drew | (refine below_set2 ?_ ?_; (first | (simp; done) | (simp; omega))) | (refine below_step ?_ hb1)))⟩
   ·have hd2 := (ptB (t1, t2) (t3, t4)).trans (decide_eq_false e2)
    replace HF := Lib.hid (HF.out.trans (relZ_main hv e1 e2))
    clear e1 e2
    have C1 := Lib.hid (fun W => seg_Of s1 s2 s3 s4 W)
    have C2 := Lib.hid (fun W => seg_Of t1 t2 t3 t4 W)
    have e3 : ofS ((s1, s2), (s3, s4)) = ofB (s1, s2) (s3, s4) := rfl
    have e4 : ofS ((t1, t2), (t3, t4)) = ofB (t1, t2) (t3, t4) := rfl
    rw [e3, e4] at HF
    clear e3 e4
    generalize ofB (s1, s2) (s3, s4) = u at *
    generalize ofB (t1, t2) (t3, t4) = v at *
    obtain ⟨⟨u1, u2⟩, ⟨u3, u4⟩⟩ := u
    obtain ⟨⟨v1, v2⟩, ⟨v3, v4⟩⟩ := v
    simp only at HF C1 C2
    have Sa := Lib.hid (fun W => seg_sign (turnZ (u1, u2) (u3, u4) (v1, v2)) W)
    have Ba := sgn_bd (turnZ (u1, u2) (u3, u4) (v1, v2))
    have Ta := Lib.hid (fun W => seg_Turn u1 u2 u3 u4 v1 v2 W)
    have Sb := Lib.hid (fun W => seg_sign (turnZ (u1, u2) (u3, u4) (v3, v4)) W)
    have Bb := sgn_bd (turnZ (u1, u2) (u3, u4) (v3, v4))
    have Tb := Lib.hid (fun W => seg_Turn u1 u2 u3 u4 v3 v4 W)
    have Sc := Lib.hid (fun W => seg_sign (turnZ (v1, v2) (v3, v4) (u1, u2)) W)
    have Bc := sgn_bd (turnZ (v1, v2) (v3, v4) (u1, u2))
    have Tc := Lib.hid (fun W => seg_Turn v1 v2 v3 v4 u1 u2 W)
    have Sd := Lib.hid (fun W => seg_sign (turnZ (v1, v2) (v3, v4) (u3, u4)) W)
    have Bd := sgn_bd (turnZ (v1, v2) (v3, v4) (u3, u4))
    have Td := Lib.hid (fun W => seg_Turn v1 v2 v3 v4 u3 u4 W)
    obtain ⟨a, ha⟩ : ∃ q, q = signZ (turnZ (u1, u2) (u3, u4) (v1, v2)) := ⟨_, rfl⟩
    rw [← ha] at HF Sa Ba
    clear ha
    obtain ⟨b, hb⟩ : ∃ q, q = signZ (turnZ (u1, u2) (u3, u4) (v3, v4)) := ⟨_, rfl⟩
    rw [← hb] at HF Sb Bb
    clear hb
    obtain ⟨c, hc⟩ : ∃ q, q = signZ (turnZ (v1, v2) (v3, v4) (u1, u2)) := ⟨_, rfl⟩
    rw [← hc] at HF Sc Bc
    clear hc
    obtain ⟨d, hd⟩ : ∃ q, q = signZ (turnZ (v1, v2) (v3, v4) (u3, u4)) := ⟨_, rfl⟩
    rw [← hd] at HF Sd Bd
    clear hd
    have wab := Lib.hid (sgn_mul Ba Bb)
    have wcd := Lib.hid (sgn_mul Bc Bd)
    clear Ba Bb Bc Bd
    go_enter Try.func57, Try.ntmps57
    go_wp2_with fail
    refine (seg_valid [(s1, s2), (s3, s4), (t1, t2), (t3, t4)] _ _ _ _ (HL.out _ _ (by simp)) rfl).mono ?_
    rintro e w1 ⟨rfl, hb1⟩
    have HA : w1.heap[w.heap.size]? = some (.cells #[.int .i64 s1, .int .i64 s2, .int .i64 s3, .int .i64 s4] 51 (0, 0)) := blk_below (blk_alloc (two_alloc w _ _).1 _) hb1
    have HT : w1.heap[w.heap.size + 1]? = some (.cells #[.int .i64 t1, .int .i64 t2, .int .i64 t3, .int .i64 t4] 51 (0, 0)) := blk_below (blk_alloc (two_alloc w _ _).2 _) hb1
    have HB1 : Hid (Below w.heap.size w w1) := (by repeat (first | exact Below.refl _ _ | apply below_alloc | apply below_drewN | apply below_drew | (refine below_set2 ?_ ?_; (first | (simp; done) | (simp; omega))) | (refine below_step ?_ hb1)))
    clear hb1 HL
    have sc0 := blk_cell HA 0 rfl
    have sc1 := blk_cell HA 1 rfl
    have sc2 := blk_cell HA 2 rfl
    have sc3 := blk_cell HA 3 rfl
    have tc0 := blk_cell HT 0 rfl
    have tc1 := blk_cell HT 1 rfl
    have tc2 := blk_cell HT 2 rfl
    have tc3 := blk_cell HT 3 rfl
    rw [hv]
    go_wp2_with fail
    refine start_ (n := 12) (S := fun w' => w'.cell? ⟨w.heap.size, 0, none⟩ = some (.int .i64 s1) ∧ w'.cell? ⟨w.heap.size, 1, none⟩ = some (.int .i64 s2) ∧ w'.cell? ⟨w.heap.size, 2, none⟩ = some (.int .i64 s3) ∧ w'.cell? ⟨w.heap.size, 3, none⟩ = some (.int .i64 s4) ∧ w'.cell? ⟨w.heap.size + 1, 0, none⟩ = some (.int .i64 t1) ∧ w'.cell? ⟨w.heap.size + 1, 1, none⟩ = some (.int .i64 t2) ∧ w'.cell? ⟨w.heap.size + 1, 2, none⟩ = some (.int .i64 t3) ∧ w'.cell? ⟨w.heap.size + 1, 3, none⟩ = some (.int .i64 t4)) (ds := [10, 11]) #[Z,Z,Z,Z,Z,Z,Z,Z,Z,Z,Z,Z] (by kernel_rfl) rfl rfl ⟨sc0, sc1, sc2, sc3, tc0, tc1, tc2, tc3⟩ (fun hHeld => ?_)
    refine pure_ (i := 0) (N := some 34) (v := ?_) (a' := ?_) #[J,Z,Z,Z,Z,Z,Z,Z,Z,Z,Z,Z] rfl rfl (by kernel_rfl) (fun _ _ _ h => h) (Or.inl ⟨by rfl, ?_⟩) ?_ ?_
    rotate_left
    ·intro w'; go_simp; with_reducible rfl
    rotate_left
    ·simp only [Act.put, sA, sB, sC, i64_w, i32_w]; rfl
    refine pure_ (i := 2) (N := some 36) (v := ?_) (a' := ?_) #[J,Z,J,Z,Z,Z,Z,Z,Z,Z,Z,Z] rfl rfl (by kernel_rfl) (fun _ _ _ h => h) (Or.inl ⟨by rfl, ?_⟩) ?_ ?_
    rotate_left
    ·intro w'; go_simp; with_reducible rfl
    rotate_left
    ·simp only [Act.put, sA, sB, sC, i64_w, i32_w]; rfl
    refine pure_ (i := 5) (N := some 39) (v := ?_) (a' := ?_) #[J,Z,J,Z,Z,J,Z,Z,Z,Z,Z,Z] rfl rfl (by kernel_rfl) (fun _ _ _ h => h) (Or.inl ⟨by rfl, ?_⟩) ?_ ?_
    rotate_left
    ·intro w'; go_simp; with_reducible rfl
    rotate_left
    ·simp only [Act.put, sA, sB, sC, i64_w, i32_w]; rfl
    refine pure_ (i := 7) (N := some 41) (v := ?_) (a' := ?_) #[J,Z,J,Z,Z,J,Z,J,Z,Z,Z,Z] rfl rfl (by kernel_rfl) (fun _ _ _ h => h) (Or.inl ⟨by rfl, ?_⟩) ?_ ?_
    rotate_left
    ·intro w'; go_simp; with_reducible rfl
    rotate_left
    ·simp only [Act.put, sA, sB, sC, i64_w, i32_w]; rfl
    refine take_ (i := 1) (N := some 35) (v := ?_) (a' := ?_) #[J,J,J,Z,Z,J,Z,J,Z,Z,Z,Z] rfl rfl (by kernel_rfl) (fun _ _ _ h => h) (Or.inl ⟨by rfl, ?_⟩) hHeld ?_ ?_
    rotate_left
    ·rintro w' ⟨s0, s1, s2, s3, s4, s5, s6, s7⟩; go_simp; with_reducible rfl
    rotate_left
    ·simp only [Act.put, sA, sB, sC, i64_w, i32_w]; rfl
    refine take_ (i := 3) (N := some 37) (v := ?_) (a' := ?_) #[J,J,J,J,Z,J,Z,J,Z,Z,Z,Z] rfl rfl (by kernel_rfl) (fun _ _ _ h => h) (Or.inl ⟨by rfl, ?_⟩) hHeld ?_ ?_
    rotate_left
    ·rintro w' ⟨s0, s1, s2, s3, s4, s5, s6, s7⟩; go_simp; with_reducible rfl
    rotate_left
    ·simp only [Act.put, sA, sB, sC, i64_w, i32_w]; rfl
    refine take_ (i := 6) (N := some 40) (v := ?_) (a' := ?_) #[J,J,J,J,Z,J,J,J,Z,Z,Z,Z] rfl rfl (by kernel_rfl) (fun _ _ _ h => h) (Or.inl ⟨by rfl, ?_⟩) hHeld ?_ ?_
    rotate_left
    ·rintro w' ⟨s0, s1, s2, s3, s4, s5, s6, s7⟩; go_simp; with_reducible rfl
    rotate_left
    ·simp only [Act.put, sA, sB, sC, i64_w, i32_w]; rfl
    refine take_ (i := 8) (N := some 42) (v := ?_) (a' := ?_) #[J,J,J,J,Z,J,J,J,J,Z,Z,Z] rfl rfl (by kernel_rfl) (fun _ _ _ h => h) (Or.inl ⟨by rfl, ?_⟩) hHeld ?_ ?_
    rotate_left
    ·rintro w' ⟨s0, s1, s2, s3, s4, s5, s6, s7⟩; go_simp; with_reducible rfl
    rotate_left
    ·simp only [Act.put, sA, sB, sC, i64_w, i32_w]; rfl
    refine one_ (i := 4) (N := some 38) #[J,J,J,J,J,J,J,J,J,Z,Z,Z] rfl rfl (by kernel_rfl) (by decide) (fun K hK => ?_)
    refine goes_ Try.func45 (by kernel_rfl) rfl #[.agg #[.int .i64 s1, .int .i64 s2], .agg #[.int .i64 s3, .int .i64 s4]] (by rfl) rfl rfl (by simp only [List.map_toArray, List.map_cons, List.map_nil]; rfl) ?_
    with_reducible refine (C1.out _).mono ?_
    rintro e w2 ⟨rfl, hb2⟩
    refine ⟨_, rfl, ?_⟩
    refine hK.out _ _ ⟨blk_cell (blk_below (W := w1.drew) HA hb2) 0 rfl, blk_cell (blk_below (W := w1.drew) HA hb2) 1 rfl, blk_cell (blk_below (W := w1.drew) HA hb2) 2 rfl, blk_cell (blk_below (W := w1.drew) HA hb2) 3 rfl, blk_cell (blk_below (W := w1.drew) HT hb2) 0 rfl, blk_cell (blk_below (W := w1.drew) HT hb2) 1 rfl, blk_cell (blk_below (W := w1.drew) HT hb2) 2 rfl, blk_cell (blk_below (W := w1.drew) HT hb2) 3 rfl⟩ (fun hHeld => ?_)
    clear hK K
    refine norm_ (a' := ?_) ?_ ?_
    rotate_left
    ·show Act.put _ (some 38) _ = _
     simp only [Act.put, sA, sB, sC, i64_w, i32_w]; rfl
    refine one_ (i := 9) (N := some 43) #[J,J,J,J,J,J,J,J,J,J,Z,Z] rfl rfl (by kernel_rfl) (by decide) (fun K hK => ?_)
    refine goes_ Try.func45 (by kernel_rfl) rfl #[.agg #[.int .i64 t1, .int .i64 t2], .agg #[.int .i64 t3, .int .i64 t4]] (by rfl) rfl rfl (by simp only [List.map_toArray, List.map_cons, List.map_nil]; rfl) ?_
    with_reducible refine (C2.out _).mono ?_
    rintro e w3 ⟨rfl, hb3⟩
    refine ⟨_, rfl, ?_⟩
    have af0 := blk_free (blk_below (blk_below (W := w1.drew) HA hb2) hb3) 0
    have af1 := blk_free (blk_below (blk_below (W := w1.drew) HA hb2) hb3) 1
    have af2 := blk_free (blk_below (blk_below (W := w1.drew) HA hb2) hb3) 2
    have af3 := blk_free (blk_below (blk_below (W := w1.drew) HA hb2) hb3) 3
    have bf0 := blk_free (blk_below (blk_below (W := w1.drew) HT hb2) hb3) 0
    have bf1 := blk_free (blk_below (blk_below (W := w1.drew) HT hb2) hb3) 1
    have bf2 := blk_free (blk_below (blk_below (W := w1.drew) HT hb2) hb3) 2
    have bf3 := blk_free (blk_below (blk_below (W := w1.drew) HT hb2) hb3) 3
    refine hK.out _ _ ⟨blk_cell (blk_below (blk_below (W := w1.drew) HA hb2) hb3) 0 rfl, blk_cell (blk_below (blk_below (W := w1.drew) HA hb2) hb3) 1 rfl, blk_cell (blk_below (blk_below (W := w1.drew) HA hb2) hb3) 2 rfl, blk_cell (blk_below (blk_below (W := w1.drew) HA hb2) hb3) 3 rfl, blk_cell (blk_below (blk_below (W := w1.drew) HT hb2) hb3) 0 rfl, blk_cell (blk_below (blk_below (W := w1.drew) HT hb2) hb3) 1 rfl, blk_cell (blk_below (blk_below (W := w1.drew) HT hb2) hb3) 2 rfl, blk_cell (blk_below (blk_below (W := w1.drew) HT hb2) hb3) 3 rfl⟩ (fun hHeld => ?_)
    clear hK K
    refine norm_ (a' := ?_) ?_ ?_
    rotate_left
    ·show Act.put _ (some 43) _ = _
     simp only [Act.put, sA, sB, sC, i64_w, i32_w]; rfl
    refine last_ (i := 10) (N := none) #[J,J,J,J,J,J,J,J,J,J,J,Z] rfl rfl (by kernel_rfl) (by decide) (fun K hK => ?_)
    refine skip_ (w1 := ?_) (by rfl) rfl ?_ ?_
    rotate_left
    ·go_simp
     rfl
    refine hK.out _ _ ?_
    clear hK K
    refine last_ (i := 11) (N := none) #[J,J,J,J,J,J,J,J,J,J,J,J] rfl rfl (by kernel_rfl) (by decide) (fun K hK => ?_)
    refine skip_ (w1 := ?_) (by rfl) rfl ?_ ?_
    rotate_left
    ·go_simp
     rfl
    refine hK.out _ _ ?_
    clear hK K
    refine done_ (by kernel_rfl) ?_
    clear af0 af1 af2 af3 bf0 bf1 bf2 bf3
    clear sc0 sc1 sc2 sc3 tc0 tc1 tc2 tc3
    obtain ⟨W4, hW4⟩ : ∃ W4, W4 = ((((((((w3.setCell ⟨w.heap.size, 0, none⟩ (.int .i64 u1)).setCell ⟨w.heap.size, 1, none⟩ (.int .i64 u2)).setCell ⟨w.heap.size, 2, none⟩ (.int .i64 u3)).setCell ⟨w.heap.size, 3, none⟩ (.int .i64 u4)).setCell ⟨w.heap.size + 1, 0, none⟩ (.int .i64 v1)).setCell ⟨w.heap.size + 1, 1, none⟩ (.int .i64 v2)).setCell ⟨w.heap.size + 1, 2, none⟩ (.int .i64 v3)).setCell ⟨w.heap.size + 1, 3, none⟩ (.int .i64 v4)) := ⟨_, rfl⟩
    have hne : ¬ w.heap.size = w.heap.size + 1 := by omega
    have hen : ¬ w.heap.size + 1 = w.heap.size := by omega
    have HA4 : W4.heap[w.heap.size]? = some (.cells #[.int .i64 u1, .int .i64 u2, .int .i64 u3, .int .i64 u4] 51 (0, 0)) := by rw [hW4]; exact (blk_far (blk_far (blk_far (blk_far (blk_set (blk_set (blk_set (blk_set (blk_below (blk_below (W := w1.drew) HA hb2) hb3) _) _) _) _) hne _) hne _) hne _) hne _)
    have HT4 : W4.heap[w.heap.size + 1]? = some (.cells #[.int .i64 v1, .int .i64 v2, .int .i64 v3, .int .i64 v4] 51 (0, 0)) := by rw [hW4]; exact (blk_set (blk_set (blk_set (blk_set (blk_far (blk_far (blk_far (blk_far (blk_below (blk_below (W := w1.drew) HT hb2) hb3) hen _) hen _) hen _) hen _) _) _) _) _)
    have HB4 : Hid (Below w.heap.size w W4) := by show Below _ _ _; rw [hW4]; exact (below_set2 (Nat.le_succ _) (below_set2 (Nat.le_succ _) (below_set2 (Nat.le_succ _) (below_set2 (Nat.le_succ _) (below_set2 (Nat.le_refl _) (below_set2 (Nat.le_refl _) (below_set2 (Nat.le_refl _) (below_set2 (Nat.le_refl _) (below_step (below_step (below_drew HB1.out) hb2) hb3)))))))))
    rw [← hW4]
    clear hW4 hne hen HA HT hb2 hb3 HB1
    have sc0 := blk_cell HA4 0 rfl
    have sc1 := blk_cell HA4 1 rfl
    have sc2 := blk_cell HA4 2 rfl
    have sc3 := blk_cell HA4 3 rfl
    have tc0 := blk_cell HT4 0 rfl
    have tc1 := blk_cell HT4 1 rfl
    have tc2 := blk_cell HT4 2 rfl
    have tc3 := blk_cell HT4 3 rfl
    go_wp2_with fail
    refine start_ (n := 18) (S := fun w' => w'.cell? ⟨w.heap.size, 0, none⟩ = some (.int .i64 u1) ∧ w'.cell? ⟨w.heap.size, 1, none⟩ = some (.int .i64 u2) ∧ w'.cell? ⟨w.heap.size, 2, none⟩ = some (.int .i64 u3) ∧ w'.cell? ⟨w.heap.size, 3, none⟩ = some (.int .i64 u4) ∧ w'.cell? ⟨w.heap.size + 1, 0, none⟩ = some (.int .i64 v1) ∧ w'.cell? ⟨w.heap.size + 1, 1, none⟩ = some (.int .i64 v2) ∧ w'.cell? ⟨w.heap.size + 1, 2, none⟩ = some (.int .i64 v3) ∧ w'.cell? ⟨w.heap.size + 1, 3, none⟩ = some (.int .i64 v4)) (ds := []) #[Z,Z,Z,Z,Z,Z,Z,Z,Z,Z,Z,Z,Z,Z,Z,Z,Z,Z] (by kernel_rfl) rfl rfl ⟨sc0, sc1, sc2, sc3, tc0, tc1, tc2, tc3⟩ (fun hHeld => ?_)
    refine pure_ (i := 0) (N := some 44) (v := ?_) (a' := ?_) #[J,Z,Z,Z,Z,Z,Z,Z,Z,Z,Z,Z,Z,Z,Z,Z,Z,Z] rfl rfl (by kernel_rfl) (fun _ _ _ h => h) (Or.inl ⟨by rfl, ?_⟩) ?_ ?_
    rotate_left
    ·intro w'; go_simp; with_reducible rfl
    rotate_left
    ·simp only [Act.put, sA, sB, sC, i64_w, i32_w]; rfl
    refine pure_ (i := 2) (N := some 46) (v := ?_) (a' := ?_) #[J,Z,J,Z,Z,Z,Z,Z,Z,Z,Z,Z,Z,Z,Z,Z,Z,Z] rfl rfl (by kernel_rfl) (fun _ _ _ h => h) (Or.inl ⟨by rfl, ?_⟩) ?_ ?_
    rotate_left
    ·intro w'; go_simp; with_reducible rfl
    rotate_left
    ·simp only [Act.put, sA, sB, sC, i64_w, i32_w]; rfl
    refine pure_ (i := 4) (N := some 48) (v := ?_) (a' := ?_) #[J,Z,J,Z,J,Z,Z,Z,Z,Z,Z,Z,Z,Z,Z,Z,Z,Z] rfl rfl (by kernel_rfl) (fun _ _ _ h => h) (Or.inl ⟨by rfl, ?_⟩) ?_ ?_
    rotate_left
    ·intro w'; go_simp; with_reducible rfl
    rotate_left
    ·simp only [Act.put, sA, sB, sC, i64_w, i32_w]; rfl
    refine pure_ (i := 8) (N := some 52) (v := ?_) (a' := ?_) #[J,Z,J,Z,J,Z,Z,Z,J,Z,Z,Z,Z,Z,Z,Z,Z,Z] rfl rfl (by kernel_rfl) (fun _ _ _ h => h) (Or.inl ⟨by rfl, ?_⟩) ?_ ?_
    rotate_left
    ·intro w'; go_simp; with_reducible rfl
    rotate_left
    ·simp only [Act.put, sA, sB, sC, i64_w, i32_w]; rfl
    refine pure_ (i := 10) (N := some 54) (v := ?_) (a' := ?_) #[J,Z,J,Z,J,Z,Z,Z,J,Z,J,Z,Z,Z,Z,Z,Z,Z] rfl rfl (by kernel_rfl) (fun _ _ _ h => h) (Or.inl ⟨by rfl, ?_⟩) ?_ ?_
    rotate_left
    ·intro w'; go_simp; with_reducible rfl
    rotate_left
    ·simp only [Act.put, sA, sB, sC, i64_w, i32_w]; rfl
    refine pure_ (i := 12) (N := some 56) (v := ?_) (a' := ?_) #[J,Z,J,Z,J,Z,Z,Z,J,Z,J,Z,J,Z,Z,Z,Z,Z] rfl rfl (by kernel_rfl) (fun _ _ _ h => h) (Or.inl ⟨by rfl, ?_⟩) ?_ ?_
    rotate_left
    ·intro w'; go_simp; with_reducible rfl
    rotate_left
    ·simp only [Act.put, sA, sB, sC, i64_w, i32_w]; rfl
    refine take_ (i := 1) (N := some 45) (v := ?_) (a' := ?_) #[J,J,J,Z,J,Z,Z,Z,J,Z,J,Z,J,Z,Z,Z,Z,Z] rfl rfl (by kernel_rfl) (fun _ _ _ h => h) (Or.inl ⟨by rfl, ?_⟩) hHeld ?_ ?_
    rotate_left
    ·rintro w' ⟨s0, s1, s2, s3, s4, s5, s6, s7⟩; go_simp; with_reducible rfl
    rotate_left
    ·simp only [Act.put, sA, sB, sC, i64_w, i32_w]; rfl
    refine take_ (i := 3) (N := some 47) (v := ?_) (a' := ?_) #[J,J,J,J,J,Z,Z,Z,J,Z,J,Z,J,Z,Z,Z,Z,Z] rfl rfl (by kernel_rfl) (fun _ _ _ h => h) (Or.inl ⟨by rfl, ?_⟩) hHeld ?_ ?_
    rotate_left
    ·rintro w' ⟨s0, s1, s2, s3, s4, s5, s6, s7⟩; go_simp; with_reducible rfl
    rotate_left
    ·simp only [Act.put, sA, sB, sC, i64_w, i32_w]; rfl
    refine take_ (i := 5) (N := some 49) (v := ?_) (a' := ?_) #[J,J,J,J,J,J,Z,Z,J,Z,J,Z,J,Z,Z,Z,Z,Z] rfl rfl (by kernel_rfl) (fun _ _ _ h => h) (Or.inl ⟨by rfl, ?_⟩) hHeld ?_ ?_
    rotate_left
    ·rintro w' ⟨s0, s1, s2, s3, s4, s5, s6, s7⟩; go_simp; with_reducible rfl
    rotate_left
    ·simp only [Act.put, sA, sB, sC, i64_w, i32_w]; rfl
    refine take_ (i := 9) (N := some 53) (v := ?_) (a' := ?_) #[J,J,J,J,J,J,Z,Z,J,J,J,Z,J,Z,Z,Z,Z,Z] rfl rfl (by kernel_rfl) (fun _ _ _ h => h) (Or.inl ⟨by rfl, ?_⟩) hHeld ?_ ?_
    rotate_left
    ·rintro w' ⟨s0, s1, s2, s3, s4, s5, s6, s7⟩; go_simp; with_reducible rfl
    rotate_left
    ·simp only [Act.put, sA, sB, sC, i64_w, i32_w]; rfl
    refine take_ (i := 11) (N := some 55) (v := ?_) (a' := ?_) #[J,J,J,J,J,J,Z,Z,J,J,J,J,J,Z,Z,Z,Z,Z] rfl rfl (by kernel_rfl) (fun _ _ _ h => h) (Or.inl ⟨by rfl, ?_⟩) hHeld ?_ ?_
    rotate_left
    ·rintro w' ⟨s0, s1, s2, s3, s4, s5, s6, s7⟩; go_simp; with_reducible rfl
    rotate_left
    ·simp only [Act.put, sA, sB, sC, i64_w, i32_w]; rfl
    refine take_ (i := 13) (N := some 57) (v := ?_) (a' := ?_) #[J,J,J,J,J,J,Z,Z,J,J,J,J,J,J,Z,Z,Z,Z] rfl rfl (by kernel_rfl) (fun _ _ _ h => h) (Or.inl ⟨by rfl, ?_⟩) hHeld ?_ ?_
    rotate_left
    ·rintro w' ⟨s0, s1, s2, s3, s4, s5, s6, s7⟩; go_simp; with_reducible rfl
    rotate_left
    ·simp only [Act.put, sA, sB, sC, i64_w, i32_w]; rfl
    refine one_ (i := 6) (N := some 50) #[J,J,J,J,J,J,J,Z,J,J,J,J,J,J,Z,Z,Z,Z] rfl rfl (by kernel_rfl) (by decide) (fun K hK => ?_)
    refine goes_ Try.func32 (by kernel_rfl) rfl #[.agg #[.int .i64 u1, .int .i64 u2], .agg #[.int .i64 u3, .int .i64 u4], .agg #[.int .i64 v1, .int .i64 v2]] (by rfl) rfl rfl (by simp only [List.map_toArray, List.map_cons, List.map_nil]; rfl) ?_
    with_reducible refine (Ta.out _).mono ?_
    rintro e w5 ⟨rfl, hb5⟩
    refine ⟨_, rfl, ?_⟩
    refine hK.out _ _ ⟨blk_cell (blk_below (W := W4.drew) HA4 hb5) 0 rfl, blk_cell (blk_below (W := W4.drew) HA4 hb5) 1 rfl, blk_cell (blk_below (W := W4.drew) HA4 hb5) 2 rfl, blk_cell (blk_below (W := W4.drew) HA4 hb5) 3 rfl, blk_cell (blk_below (W := W4.drew) HT4 hb5) 0 rfl, blk_cell (blk_below (W := W4.drew) HT4 hb5) 1 rfl, blk_cell (blk_below (W := W4.drew) HT4 hb5) 2 rfl, blk_cell (blk_below (W := W4.drew) HT4 hb5) 3 rfl⟩ (fun hHeld => ?_)
    clear hK K
    refine norm_ (a' := ?_) ?_ ?_
    rotate_left
    ·show Act.put _ (some 50) _ = _
     simp only [Act.put, sA, sB, sC, i64_w, i32_w]; rfl
    refine one_ (i := 7) (N := some 51) #[J,J,J,J,J,J,J,J,J,J,J,J,J,J,Z,Z,Z,Z] rfl rfl (by kernel_rfl) (by decide) (fun K hK => ?_)
    refine goes_ Try.func78 (by kernel_rfl) rfl #[.int .i64 (turnZ (u1, u2) (u3, u4) (v1, v2))] (by rfl) rfl rfl (by simp only [List.map_toArray, List.map_cons, List.map_nil]; rfl) ?_
    with_reducible refine (Sa.out _).mono ?_
    rintro e w6 ⟨rfl, hb6⟩
    refine ⟨_, rfl, ?_⟩
    refine hK.out _ _ ⟨blk_cell (blk_below (blk_below (W := W4.drew) HA4 hb5) hb6) 0 rfl, blk_cell (blk_below (blk_below (W := W4.drew) HA4 hb5) hb6) 1 rfl, blk_cell (blk_below (blk_below (W := W4.drew) HA4 hb5) hb6) 2 rfl, blk_cell (blk_below (blk_below (W := W4.drew) HA4 hb5) hb6) 3 rfl, blk_cell (blk_below (blk_below (W := W4.drew) HT4 hb5) hb6) 0 rfl, blk_cell (blk_below (blk_below (W := W4.drew) HT4 hb5) hb6) 1 rfl, blk_cell (blk_below (blk_below (W := W4.drew) HT4 hb5) hb6) 2 rfl, blk_cell (blk_below (blk_below (W := W4.drew) HT4 hb5) hb6) 3 rfl⟩ (fun hHeld => ?_)
    clear hK K
    refine norm_ (a' := ?_) ?_ ?_
    rotate_left
    ·show Act.put _ (some 51) _ = _
     simp only [Act.put, sA, sB, sC, i64_w, i32_w]; rfl
    refine one_ (i := 14) (N := some 58) #[J,J,J,J,J,J,J,J,J,J,J,J,J,J,J,Z,Z,Z] rfl rfl (by kernel_rfl) (by decide) (fun K hK => ?_)
    refine goes_ Try.func32 (by kernel_rfl) rfl #[.agg #[.int .i64 u1, .int .i64 u2], .agg #[.int .i64 u3, .int .i64 u4], .agg #[.int .i64 v3, .int .i64 v4]] (by rfl) rfl rfl (by simp only [List.map_toArray, List.map_cons, List.map_nil]; rfl) ?_
    with_reducible refine (Tb.out _).mono ?_
    rintro e w7 ⟨rfl, hb7⟩
    refine ⟨_, rfl, ?_⟩
    refine hK.out _ _ ⟨blk_cell (blk_below (blk_below (blk_below (W := W4.drew) HA4 hb5) hb6) hb7) 0 rfl, blk_cell (blk_below (blk_below (blk_below (W := W4.drew) HA4 hb5) hb6) hb7) 1 rfl, blk_cell (blk_below (blk_below (blk_below (W := W4.drew) HA4 hb5) hb6) hb7) 2 rfl, blk_cell (blk_below (blk_below (blk_below (W := W4.drew) HA4 hb5) hb6) hb7) 3 rfl, blk_cell (blk_below (blk_below (blk_below (W := W4.drew) HT4 hb5) hb6) hb7) 0 rfl, blk_cell (blk_below (blk_below (blk_below (W := W4.drew) HT4 hb5) hb6) hb7) 1 rfl, blk_cell (blk_below (blk_below (blk_below (W := W4.drew) HT4 hb5) hb6) hb7) 2 rfl, blk_cell (blk_below (blk_below (blk_below (W := W4.drew) HT4 hb5) hb6) hb7) 3 rfl⟩ (fun hHeld => ?_)
    clear hK K
    refine norm_ (a' := ?_) ?_ ?_
    rotate_left
    ·show Act.put _ (some 58) _ = _
     simp only [Act.put, sA, sB, sC, i64_w, i32_w]; rfl
    refine one_ (i := 15) (N := some 59) #[J,J,J,J,J,J,J,J,J,J,J,J,J,J,J,J,Z,Z] rfl rfl (by kernel_rfl) (by decide) (fun K hK => ?_)
    refine goes_ Try.func78 (by kernel_rfl) rfl #[.int .i64 (turnZ (u1, u2) (u3, u4) (v3, v4))] (by rfl) rfl rfl (by simp only [List.map_toArray, List.map_cons, List.map_nil]; rfl) ?_
    with_reducible refine (Sb.out _).mono ?_
    rintro e w8 ⟨rfl, hb8⟩
    refine ⟨_, rfl, ?_⟩
    refine hK.out _ _ ⟨blk_cell (blk_below (blk_below (blk_below (blk_below (W := W4.drew) HA4 hb5) hb6) hb7) hb8) 0 rfl, blk_cell (blk_below (blk_below (blk_below (blk_below (W := W4.drew) HA4 hb5) hb6) hb7) hb8) 1 rfl, blk_cell (blk_below (blk_below (blk_below (blk_below (W := W4.drew) HA4 hb5) hb6) hb7) hb8) 2 rfl, blk_cell (blk_below (blk_below (blk_below (blk_below (W := W4.drew) HA4 hb5) hb6) hb7) hb8) 3 rfl, blk_cell (blk_below (blk_below (blk_below (blk_below (W := W4.drew) HT4 hb5) hb6) hb7) hb8) 0 rfl, blk_cell (blk_below (blk_below (blk_below (blk_below (W := W4.drew) HT4 hb5) hb6) hb7) hb8) 1 rfl, blk_cell (blk_below (blk_below (blk_below (blk_below (W := W4.drew) HT4 hb5) hb6) hb7) hb8) 2 rfl, blk_cell (blk_below (blk_below (blk_below (blk_below (W := W4.drew) HT4 hb5) hb6) hb7) hb8) 3 rfl⟩ (fun hHeld => ?_)
    clear hK K
    refine norm_ (a' := ?_) ?_ ?_
    rotate_left
    ·show Act.put _ (some 59) _ = _
     simp only [Act.put, sA, sB, sC, i64_w, i32_w]; rfl
    refine pure_ (i := 16) (N := some 5) (v := ?_) (a' := ?_) #[J,J,J,J,J,J,J,J,J,J,J,J,J,J,J,J,J,Z] rfl rfl (by kernel_rfl) (fun _ _ _ h => h) (Or.inl ⟨by rfl, ?_⟩) ?_ ?_
    rotate_left
    ·intro w'; go_simp; with_reducible rfl
    rotate_left
    ·simp only [Act.put, sA, sB, sC, i64_w, i32_w]; rfl
    refine pure_ (i := 17) (N := some 6) (v := ?_) (a' := ?_) #[J,J,J,J,J,J,J,J,J,J,J,J,J,J,J,J,J,J] rfl rfl (by kernel_rfl) (fun _ _ _ h => h) (Or.inl ⟨by rfl, ?_⟩) ?_ ?_
    rotate_left
    ·intro w'; go_simp; with_reducible rfl
    rotate_left
    ·simp only [Act.put, sA, sB, sC, i64_w, i32_w]; rfl
    refine done_ (by kernel_rfl) ?_
    clear sc0 sc1 sc2 sc3 tc0 tc1 tc2 tc3
    have HA8 := (blk_below (blk_below (blk_below (blk_below (W := W4.drew) HA4 hb5) hb6) hb7) hb8)
    have HT8 := (blk_below (blk_below (blk_below (blk_below (W := W4.drew) HT4 hb5) hb6) hb7) hb8)
    have HB8 : Hid (Below w.heap.size w w8) := (below_step (below_step (below_step (below_step (below_drew HB4.out) hb5) hb6) hb7) hb8)
    clear HA4 HT4 HB4 hb5 hb6 hb7 hb8
    have sc0 := blk_cell HA8 0 rfl
    have sc1 := blk_cell HA8 1 rfl
    have sc2 := blk_cell HA8 2 rfl
    have sc3 := blk_cell HA8 3 rfl
    have tc0 := blk_cell HT8 0 rfl
    have tc1 := blk_cell HT8 1 rfl
    have tc2 := blk_cell HT8 2 rfl
    have tc3 := blk_cell HT8 3 rfl
    go_wp2_with fail
    refine start_ (n := 18) (S := fun w' => w'.cell? ⟨w.heap.size, 0, none⟩ = some (.int .i64 u1) ∧ w'.cell? ⟨w.heap.size, 1, none⟩ = some (.int .i64 u2) ∧ w'.cell? ⟨w.heap.size, 2, none⟩ = some (.int .i64 u3) ∧ w'.cell? ⟨w.heap.size, 3, none⟩ = some (.int .i64 u4) ∧ w'.cell? ⟨w.heap.size + 1, 0, none⟩ = some (.int .i64 v1) ∧ w'.cell? ⟨w.heap.size + 1, 1, none⟩ = some (.int .i64 v2) ∧ w'.cell? ⟨w.heap.size + 1, 2, none⟩ = some (.int .i64 v3) ∧ w'.cell? ⟨w.heap.size + 1, 3, none⟩ = some (.int .i64 v4)) (ds := []) #[Z,Z,Z,Z,Z,Z,Z,Z,Z,Z,Z,Z,Z,Z,Z,Z,Z,Z] (by kernel_rfl) rfl rfl ⟨sc0, sc1, sc2, sc3, tc0, tc1, tc2, tc3⟩ (fun hHeld => ?_)
    refine pure_ (i := 0) (N := some 60) (v := ?_) (a' := ?_) #[J,Z,Z,Z,Z,Z,Z,Z,Z,Z,Z,Z,Z,Z,Z,Z,Z,Z] rfl rfl (by kernel_rfl) (fun _ _ _ h => h) (Or.inl ⟨by rfl, ?_⟩) ?_ ?_
    rotate_left
    ·intro w'; go_simp; with_reducible rfl
    rotate_left
    ·simp only [Act.put, sA, sB, sC, i64_w, i32_w]; rfl
    refine pure_ (i := 2) (N := some 62) (v := ?_) (a' := ?_) #[J,Z,J,Z,Z,Z,Z,Z,Z,Z,Z,Z,Z,Z,Z,Z,Z,Z] rfl rfl (by kernel_rfl) (fun _ _ _ h => h) (Or.inl ⟨by rfl, ?_⟩) ?_ ?_
    rotate_left
    ·intro w'; go_simp; with_reducible rfl
    rotate_left
    ·simp only [Act.put, sA, sB, sC, i64_w, i32_w]; rfl
    refine pure_ (i := 4) (N := some 64) (v := ?_) (a' := ?_) #[J,Z,J,Z,J,Z,Z,Z,Z,Z,Z,Z,Z,Z,Z,Z,Z,Z] rfl rfl (by kernel_rfl) (fun _ _ _ h => h) (Or.inl ⟨by rfl, ?_⟩) ?_ ?_
    rotate_left
    ·intro w'; go_simp; with_reducible rfl
    rotate_left
    ·simp only [Act.put, sA, sB, sC, i64_w, i32_w]; rfl
    refine pure_ (i := 8) (N := some 68) (v := ?_) (a' := ?_) #[J,Z,J,Z,J,Z,Z,Z,J,Z,Z,Z,Z,Z,Z,Z,Z,Z] rfl rfl (by kernel_rfl) (fun _ _ _ h => h) (Or.inl ⟨by rfl, ?_⟩) ?_ ?_
    rotate_left
    ·intro w'; go_simp; with_reducible rfl
    rotate_left
    ·simp only [Act.put, sA, sB, sC, i64_w, i32_w]; rfl
    refine pure_ (i := 10) (N := some 70) (v := ?_) (a' := ?_) #[J,Z,J,Z,J,Z,Z,Z,J,Z,J,Z,Z,Z,Z,Z,Z,Z] rfl rfl (by kernel_rfl) (fun _ _ _ h => h) (Or.inl ⟨by rfl, ?_⟩) ?_ ?_
    rotate_left
    ·intro w'; go_simp; with_reducible rfl
    rotate_left
    ·simp only [Act.put, sA, sB, sC, i64_w, i32_w]; rfl
    refine pure_ (i := 12) (N := some 72) (v := ?_) (a' := ?_) #[J,Z,J,Z,J,Z,Z,Z,J,Z,J,Z,J,Z,Z,Z,Z,Z] rfl rfl (by kernel_rfl) (fun _ _ _ h => h) (Or.inl ⟨by rfl, ?_⟩) ?_ ?_
    rotate_left
    ·intro w'; go_simp; with_reducible rfl
    rotate_left
    ·simp only [Act.put, sA, sB, sC, i64_w, i32_w]; rfl
    refine take_ (i := 1) (N := some 61) (v := ?_) (a' := ?_) #[J,J,J,Z,J,Z,Z,Z,J,Z,J,Z,J,Z,Z,Z,Z,Z] rfl rfl (by kernel_rfl) (fun _ _ _ h => h) (Or.inl ⟨by rfl, ?_⟩) hHeld ?_ ?_
    rotate_left
    ·rintro w' ⟨s0, s1, s2, s3, s4, s5, s6, s7⟩; go_simp; with_reducible rfl
    rotate_left
    ·simp only [Act.put, sA, sB, sC, i64_w, i32_w]; rfl
    refine take_ (i := 3) (N := some 63) (v := ?_) (a' := ?_) #[J,J,J,J,J,Z,Z,Z,J,Z,J,Z,J,Z,Z,Z,Z,Z] rfl rfl (by kernel_rfl) (fun _ _ _ h => h) (Or.inl ⟨by rfl, ?_⟩) hHeld ?_ ?_
    rotate_left
    ·rintro w' ⟨s0, s1, s2, s3, s4, s5, s6, s7⟩; go_simp; with_reducible rfl
    rotate_left
    ·simp only [Act.put, sA, sB, sC, i64_w, i32_w]; rfl
    refine take_ (i := 5) (N := some 65) (v := ?_) (a' := ?_) #[J,J,J,J,J,J,Z,Z,J,Z,J,Z,J,Z,Z,Z,Z,Z] rfl rfl (by kernel_rfl) (fun _ _ _ h => h) (Or.inl ⟨by rfl, ?_⟩) hHeld ?_ ?_
    rotate_left
    ·rintro w' ⟨s0, s1, s2, s3, s4, s5, s6, s7⟩; go_simp; with_reducible rfl
    rotate_left
    ·simp only [Act.put, sA, sB, sC, i64_w, i32_w]; rfl
    refine take_ (i := 9) (N := some 69) (v := ?_) (a' := ?_) #[J,J,J,J,J,J,Z,Z,J,J,J,Z,J,Z,Z,Z,Z,Z] rfl rfl (by kernel_rfl) (fun _ _ _ h => h) (Or.inl ⟨by rfl, ?_⟩) hHeld ?_ ?_
    rotate_left
    ·rintro w' ⟨s0, s1, s2, s3, s4, s5, s6, s7⟩; go_simp; with_reducible rfl
    rotate_left
    ·simp only [Act.put, sA, sB, sC, i64_w, i32_w]; rfl
    refine take_ (i := 11) (N := some 71) (v := ?_) (a' := ?_) #[J,J,J,J,J,J,Z,Z,J,J,J,J,J,Z,Z,Z,Z,Z] rfl rfl (by kernel_rfl) (fun _ _ _ h => h) (Or.inl ⟨by rfl, ?_⟩) hHeld ?_ ?_
    rotate_left
    ·rintro w' ⟨s0, s1, s2, s3, s4, s5, s6, s7⟩; go_simp; with_reducible rfl
    rotate_left
    ·simp only [Act.put, sA, sB, sC, i64_w, i32_w]; rfl
    refine take_ (i := 13) (N := some 73) (v := ?_) (a' := ?_) #[J,J,J,J,J,J,Z,Z,J,J,J,J,J,J,Z,Z,Z,Z] rfl rfl (by kernel_rfl) (fun _ _ _ h => h) (Or.inl ⟨by rfl, ?_⟩) hHeld ?_ ?_
    rotate_left
    ·rintro w' ⟨s0, s1, s2, s3, s4, s5, s6, s7⟩; go_simp; with_reducible rfl
    rotate_left
    ·simp only [Act.put, sA, sB, sC, i64_w, i32_w]; rfl
    refine one_ (i := 6) (N := some 66) #[J,J,J,J,J,J,J,Z,J,J,J,J,J,J,Z,Z,Z,Z] rfl rfl (by kernel_rfl) (by decide) (fun K hK => ?_)
    refine goes_ Try.func32 (by kernel_rfl) rfl #[.agg #[.int .i64 v1, .int .i64 v2], .agg #[.int .i64 v3, .int .i64 v4], .agg #[.int .i64 u1, .int .i64 u2]] (by rfl) rfl rfl (by simp only [List.map_toArray, List.map_cons, List.map_nil]; rfl) ?_
    with_reducible refine (Tc.out _).mono ?_
    rintro e w9 ⟨rfl, hb9⟩
    refine ⟨_, rfl, ?_⟩
    refine hK.out _ _ ⟨blk_cell (blk_below (W := w8.drew) HA8 hb9) 0 rfl, blk_cell (blk_below (W := w8.drew) HA8 hb9) 1 rfl, blk_cell (blk_below (W := w8.drew) HA8 hb9) 2 rfl, blk_cell (blk_below (W := w8.drew) HA8 hb9) 3 rfl, blk_cell (blk_below (W := w8.drew) HT8 hb9) 0 rfl, blk_cell (blk_below (W := w8.drew) HT8 hb9) 1 rfl, blk_cell (blk_below (W := w8.drew) HT8 hb9) 2 rfl, blk_cell (blk_below (W := w8.drew) HT8 hb9) 3 rfl⟩ (fun hHeld => ?_)
    clear hK K
    refine norm_ (a' := ?_) ?_ ?_
    rotate_left
    ·show Act.put _ (some 66) _ = _
     simp only [Act.put, sA, sB, sC, i64_w, i32_w]; rfl
    refine one_ (i := 7) (N := some 67) #[J,J,J,J,J,J,J,J,J,J,J,J,J,J,Z,Z,Z,Z] rfl rfl (by kernel_rfl) (by decide) (fun K hK => ?_)
    refine goes_ Try.func78 (by kernel_rfl) rfl #[.int .i64 (turnZ (v1, v2) (v3, v4) (u1, u2))] (by rfl) rfl rfl (by simp only [List.map_toArray, List.map_cons, List.map_nil]; rfl) ?_
    with_reducible refine (Sc.out _).mono ?_
    rintro e w10 ⟨rfl, hb10⟩
    refine ⟨_, rfl, ?_⟩
    refine hK.out _ _ ⟨blk_cell (blk_below (blk_below (W := w8.drew) HA8 hb9) hb10) 0 rfl, blk_cell (blk_below (blk_below (W := w8.drew) HA8 hb9) hb10) 1 rfl, blk_cell (blk_below (blk_below (W := w8.drew) HA8 hb9) hb10) 2 rfl, blk_cell (blk_below (blk_below (W := w8.drew) HA8 hb9) hb10) 3 rfl, blk_cell (blk_below (blk_below (W := w8.drew) HT8 hb9) hb10) 0 rfl, blk_cell (blk_below (blk_below (W := w8.drew) HT8 hb9) hb10) 1 rfl, blk_cell (blk_below (blk_below (W := w8.drew) HT8 hb9) hb10) 2 rfl, blk_cell (blk_below (blk_below (W := w8.drew) HT8 hb9) hb10) 3 rfl⟩ (fun hHeld => ?_)
    clear hK K
    refine norm_ (a' := ?_) ?_ ?_
    rotate_left
    ·show Act.put _ (some 67) _ = _
     simp only [Act.put, sA, sB, sC, i64_w, i32_w]; rfl
    refine one_ (i := 14) (N := some 74) #[J,J,J,J,J,J,J,J,J,J,J,J,J,J,J,Z,Z,Z] rfl rfl (by kernel_rfl) (by decide) (fun K hK => ?_)
    refine goes_ Try.func32 (by kernel_rfl) rfl #[.agg #[.int .i64 v1, .int .i64 v2], .agg #[.int .i64 v3, .int .i64 v4], .agg #[.int .i64 u3, .int .i64 u4]] (by rfl) rfl rfl (by simp only [List.map_toArray, List.map_cons, List.map_nil]; rfl) ?_
    with_reducible refine (Td.out _).mono ?_
    rintro e w11 ⟨rfl, hb11⟩
    refine ⟨_, rfl, ?_⟩
    refine hK.out _ _ ⟨blk_cell (blk_below (blk_below (blk_below (W := w8.drew) HA8 hb9) hb10) hb11) 0 rfl, blk_cell (blk_below (blk_below (blk_below (W := w8.drew) HA8 hb9) hb10) hb11) 1 rfl, blk_cell (blk_below (blk_below (blk_below (W := w8.drew) HA8 hb9) hb10) hb11) 2 rfl, blk_cell (blk_below (blk_below (blk_below (W := w8.drew) HA8 hb9) hb10) hb11) 3 rfl, blk_cell (blk_below (blk_below (blk_below (W := w8.drew) HT8 hb9) hb10) hb11) 0 rfl, blk_cell (blk_below (blk_below (blk_below (W := w8.drew) HT8 hb9) hb10) hb11) 1 rfl, blk_cell (blk_below (blk_below (blk_below (W := w8.drew) HT8 hb9) hb10) hb11) 2 rfl, blk_cell (blk_below (blk_below (blk_below (W := w8.drew) HT8 hb9) hb10) hb11) 3 rfl⟩ (fun hHeld => ?_)
    clear hK K
    refine norm_ (a' := ?_) ?_ ?_
    rotate_left
    ·show Act.put _ (some 74) _ = _
     simp only [Act.put, sA, sB, sC, i64_w, i32_w]; rfl
    refine one_ (i := 15) (N := some 75) #[J,J,J,J,J,J,J,J,J,J,J,J,J,J,J,J,Z,Z] rfl rfl (by kernel_rfl) (by decide) (fun K hK => ?_)
    refine goes_ Try.func78 (by kernel_rfl) rfl #[.int .i64 (turnZ (v1, v2) (v3, v4) (u3, u4))] (by rfl) rfl rfl (by simp only [List.map_toArray, List.map_cons, List.map_nil]; rfl) ?_
    with_reducible refine (Sd.out _).mono ?_
    rintro e w12 ⟨rfl, hb12⟩
    refine ⟨_, rfl, ?_⟩
    refine hK.out _ _ ⟨blk_cell (blk_below (blk_below (blk_below (blk_below (W := w8.drew) HA8 hb9) hb10) hb11) hb12) 0 rfl, blk_cell (blk_below (blk_below (blk_below (blk_below (W := w8.drew) HA8 hb9) hb10) hb11) hb12) 1 rfl, blk_cell (blk_below (blk_below (blk_below (blk_below (W := w8.drew) HA8 hb9) hb10) hb11) hb12) 2 rfl, blk_cell (blk_below (blk_below (blk_below (blk_below (W := w8.drew) HA8 hb9) hb10) hb11) hb12) 3 rfl, blk_cell (blk_below (blk_below (blk_below (blk_below (W := w8.drew) HT8 hb9) hb10) hb11) hb12) 0 rfl, blk_cell (blk_below (blk_below (blk_below (blk_below (W := w8.drew) HT8 hb9) hb10) hb11) hb12) 1 rfl, blk_cell (blk_below (blk_below (blk_below (blk_below (W := w8.drew) HT8 hb9) hb10) hb11) hb12) 2 rfl, blk_cell (blk_below (blk_below (blk_below (blk_below (W := w8.drew) HT8 hb9) hb10) hb11) hb12) 3 rfl⟩ (fun hHeld => ?_)
    clear hK K
    refine norm_ (a' := ?_) ?_ ?_
    rotate_left
    ·show Act.put _ (some 75) _ = _
     simp only [Act.put, sA, sB, sC, i64_w, i32_w]; rfl
    refine pure_ (i := 16) (N := some 7) (v := ?_) (a' := ?_) #[J,J,J,J,J,J,J,J,J,J,J,J,J,J,J,J,J,Z] rfl rfl (by kernel_rfl) (fun _ _ _ h => h) (Or.inl ⟨by rfl, ?_⟩) ?_ ?_
    rotate_left
    ·intro w'; go_simp; with_reducible rfl
    rotate_left
    ·simp only [Act.put, sA, sB, sC, i64_w, i32_w]; rfl
    refine pure_ (i := 17) (N := some 8) (v := ?_) (a' := ?_) #[J,J,J,J,J,J,J,J,J,J,J,J,J,J,J,J,J,J] rfl rfl (by kernel_rfl) (fun _ _ _ h => h) (Or.inl ⟨by rfl, ?_⟩) ?_ ?_
    rotate_left
    ·intro w'; go_simp; with_reducible rfl
    rotate_left
    ·simp only [Act.put, sA, sB, sC, i64_w, i32_w]; rfl
    refine done_ (by kernel_rfl) ?_
    clear sc0 sc1 sc2 sc3 tc0 tc1 tc2 tc3
    have HA12 := (blk_below (blk_below (blk_below (blk_below (W := w8.drew) HA8 hb9) hb10) hb11) hb12)
    have HT12 := (blk_below (blk_below (blk_below (blk_below (W := w8.drew) HT8 hb9) hb10) hb11) hb12)
    have HB12 : Hid (Below w.heap.size w w12) := (below_step (below_step (below_step (below_step (below_drew HB8.out) hb9) hb10) hb11) hb12)
    clear HA8 HT8 HB8 hb9 hb10 hb11 hb12
    have wa := wab.out
    have wc := wcd.out
    by_cases ha : a = 0
    ·have qa : (a == 0) = true := by simp [ha]
     by_cases hb : b = 0
     ·have qb : (b == 0) = true := by simp [hb]
      have HR : Hid (r = flatZ ((u1, u2), (u3, u4)) ((v1, v2), (v3, v4))) := by show r = _; rw [HF.out]; exact if_pos ⟨ha, hb⟩
      clear HF ha hb wa wc
      have sc0 := blk_cell HA12 0 rfl
      have sc1 := blk_cell HA12 1 rfl
      have sc2 := blk_cell HA12 2 rfl
      have sc3 := blk_cell HA12 3 rfl
      have tc0 := blk_cell HT12 0 rfl
      have tc1 := blk_cell HT12 1 rfl
      have tc2 := blk_cell HT12 2 rfl
      have tc3 := blk_cell HT12 3 rfl
      go_wp2_with fail
      refine (seg_flat _ _ _ _ _ _ _ _ _).mono ?_
      rintro e w13 ⟨rfl, hb13⟩
      clear sc0 sc1 sc2 sc3 tc0 tc1 tc2 tc3
      rw [← HR.out]
      go_wp2
      go_ret
      exact ⟨rfl, below_step HB12.out hb13⟩
     ·have qb : (b == 0) = false := by simp [hb]
      have qx : decide (a * b < 0) = false := by rw [ha, Int.zero_mul]; rfl
      have hnx : ¬ (a * b < 0 ∧ c * d < 0) := fun h => by have := h.1; rw [ha, Int.zero_mul] at this; omega
      have hnz : ¬ (a = 0 ∧ b = 0) := fun h => hb h.2
      clear ha hb
      have HN : Hid (r = if onB (v1, v2) (u1, u2) (u3, u4) || (onB (v3, v4) (u1, u2) (u3, u4) || (onB (u1, u2) (v1, v2) (v3, v4) || onB (u3, u4) (v1, v2) (v3, v4))) then 1 else 0) := by show r = _; rw [HF.out]; unfold relM; rw [if_neg hnz, if_neg hnx]
      have sc0 := blk_cell HA12 0 rfl
      have sc1 := blk_cell HA12 1 rfl
      have sc2 := blk_cell HA12 2 rfl
      have sc3 := blk_cell HA12 3 rfl
      have tc0 := blk_cell HT12 0 rfl
      have tc1 := blk_cell HT12 1 rfl
      have tc2 := blk_cell HT12 2 rfl
      have tc3 := blk_cell HT12 3 rfl
      go_wp2_with fail
      refine (seg_On v1 v2 u1 u2 u3 u4 _).mono ?_
      rintro e w13 ⟨rfl, hb13⟩
      clear sc0 sc1 sc2 sc3 tc0 tc1 tc2 tc3
      have HA13 := blk_below HA12 hb13
      have HT13 := blk_below HT12 hb13
      have HB13 : Hid (Below w.heap.size w w13) := below_step HB12.out hb13
      clear HB12 hb13
      cases o0 : onB (v1, v2) (u1, u2) (u3, u4)
      ·have O0 := Lib.hid o0
       have sc0 := blk_cell HA13 0 rfl
       have sc1 := blk_cell HA13 1 rfl
       have sc2 := blk_cell HA13 2 rfl
       have sc3 := blk_cell HA13 3 rfl
       have tc0 := blk_cell HT13 0 rfl
       have tc1 := blk_cell HT13 1 rfl
       have tc2 := blk_cell HT13 2 rfl
       have tc3 := blk_cell HT13 3 rfl
       go_wp2_with fail
       refine (seg_On v3 v4 u1 u2 u3 u4 _).mono ?_
       rintro e w14 ⟨rfl, hb14⟩
       clear sc0 sc1 sc2 sc3 tc0 tc1 tc2 tc3
       have HA14 := blk_below HA13 hb14
       have HT14 := blk_below HT13 hb14
       have HB14 : Hid (Below w.heap.size w w14) := below_step HB13.out hb14
       clear HB13 hb14
       cases o1 : onB (v3, v4) (u1, u2) (u3, u4)
       ·have O1 := Lib.hid o1
        have sc0 := blk_cell HA14 0 rfl
        have sc1 := blk_cell HA14 1 rfl
        have sc2 := blk_cell HA14 2 rfl
        have sc3 := blk_cell HA14 3 rfl
        have tc0 := blk_cell HT14 0 rfl
        have tc1 := blk_cell HT14 1 rfl
        have tc2 := blk_cell HT14 2 rfl
        have tc3 := blk_cell HT14 3 rfl
        go_wp2_with fail
        refine (seg_On u1 u2 v1 v2 v3 v4 _).mono ?_
        rintro e w15 ⟨rfl, hb15⟩
        clear sc0 sc1 sc2 sc3 tc0 tc1 tc2 tc3
        have HA15 := blk_below HA14 hb15
        have HT15 := blk_below HT14 hb15
        have HB15 : Hid (Below w.heap.size w w15) := below_step HB14.out hb15
        clear HB14 hb15
        cases o2 : onB (u1, u2) (v1, v2) (v3, v4)
        ·have O2 := Lib.hid o2
         have sc0 := blk_cell HA15 0 rfl
         have sc1 := blk_cell HA15 1 rfl
         have sc2 := blk_cell HA15 2 rfl
         have sc3 := blk_cell HA15 3 rfl
         have tc0 := blk_cell HT15 0 rfl
         have tc1 := blk_cell HT15 1 rfl
         have tc2 := blk_cell HT15 2 rfl
         have tc3 := blk_cell HT15 3 rfl
         go_wp2_with fail
         refine (seg_On u3 u4 v1 v2 v3 v4 _).mono ?_
         rintro e w16 ⟨rfl, hb16⟩
         clear sc0 sc1 sc2 sc3 tc0 tc1 tc2 tc3
         have HA16 := blk_below HA15 hb16
         have HT16 := blk_below HT15 hb16
         have HB16 : Hid (Below w.heap.size w w16) := below_step HB15.out hb16
         clear HB15 hb16
         cases o3 : onB (u3, u4) (v1, v2) (v3, v4)
         ·have HR : Hid (r = 0) := by show r = _; rw [HN.out]; simp only [O0.out, O1.out, O2.out, o3, Bool.or_false, Bool.false_eq_true, if_false]
          clear HF HN
          go_wp2
          go_ret
          exact ⟨ret_int HR.out.symm, HB16.out⟩
         ·have HR : Hid (r = 1) := by show r = _; rw [HN.out]; simp only [O0.out, O1.out, O2.out, o3, Bool.or_true, Bool.true_or, Bool.false_or, if_true]
          clear HF HN
          go_wp2
          go_ret
          exact ⟨ret_int HR.out.symm, HB16.out⟩
        ·have HR : Hid (r = 1) := by show r = _; rw [HN.out]; simp only [O0.out, O1.out, o2, Bool.or_true, Bool.true_or, Bool.false_or, if_true]
         clear HF HN
         go_wp2
         go_ret
         exact ⟨ret_int HR.out.symm, HB15.out⟩
       ·have HR : Hid (r = 1) := by show r = _; rw [HN.out]; simp only [O0.out, o1, Bool.or_true, Bool.true_or, Bool.false_or, if_true]
        clear HF HN
        go_wp2
        go_ret
        exact ⟨ret_int HR.out.symm, HB14.out⟩
      ·have HR : Hid (r = 1) := by show r = _; rw [HN.out]; simp only [o0, Bool.or_true, Bool.true_or, Bool.false_or, if_true]
       clear HF HN
       go_wp2
       go_ret
       exact ⟨ret_int HR.out.symm, HB13.out⟩
    ·have qa : (a == 0) = false := by simp [ha]
     have hnz : ¬ (a = 0 ∧ b = 0) := fun h => ha h.1
     clear ha
     by_cases hx : a * b < 0
     ·have qx : decide (a * b < 0) = true := decide_eq_true hx
      by_cases hy : c * d < 0
      ·have qy : decide (c * d < 0) = true := decide_eq_true hy
       have HR : Hid (r = 2) := by show r = _; rw [HF.out]; unfold relM; rw [if_neg hnz, if_pos ⟨hx, hy⟩]
       clear HF hnz hx hy
       go_wp2
       go_ret
       exact ⟨ret_int HR.out.symm, HB12.out⟩
      ·have qy : decide (c * d < 0) = false := decide_eq_false hy
       have hnx : ¬ (a * b < 0 ∧ c * d < 0) := fun h => hy h.2
       clear hx hy
       have HN : Hid (r = if onB (v1, v2) (u1, u2) (u3, u4) || (onB (v3, v4) (u1, u2) (u3, u4) || (onB (u1, u2) (v1, v2) (v3, v4) || onB (u3, u4) (v1, v2) (v3, v4))) then 1 else 0) := by show r = _; rw [HF.out]; unfold relM; rw [if_neg hnz, if_neg hnx]
       have sc0 := blk_cell HA12 0 rfl
       have sc1 := blk_cell HA12 1 rfl
       have sc2 := blk_cell HA12 2 rfl
       have sc3 := blk_cell HA12 3 rfl
       have tc0 := blk_cell HT12 0 rfl
       have tc1 := blk_cell HT12 1 rfl
       have tc2 := blk_cell HT12 2 rfl
       have tc3 := blk_cell HT12 3 rfl
       go_wp2_with fail
       refine (seg_On v1 v2 u1 u2 u3 u4 _).mono ?_
       rintro e w13 ⟨rfl, hb13⟩
       clear sc0 sc1 sc2 sc3 tc0 tc1 tc2 tc3
       have HA13 := blk_below HA12 hb13
       have HT13 := blk_below HT12 hb13
       have HB13 : Hid (Below w.heap.size w w13) := below_step HB12.out hb13
       clear HB12 hb13
       cases o0 : onB (v1, v2) (u1, u2) (u3, u4)
       ·have O0 := Lib.hid o0
        have sc0 := blk_cell HA13 0 rfl
        have sc1 := blk_cell HA13 1 rfl
        have sc2 := blk_cell HA13 2 rfl
        have sc3 := blk_cell HA13 3 rfl
        have tc0 := blk_cell HT13 0 rfl
        have tc1 := blk_cell HT13 1 rfl
        have tc2 := blk_cell HT13 2 rfl
        have tc3 := blk_cell HT13 3 rfl
        go_wp2_with fail
        refine (seg_On v3 v4 u1 u2 u3 u4 _).mono ?_
        rintro e w14 ⟨rfl, hb14⟩
        clear sc0 sc1 sc2 sc3 tc0 tc1 tc2 tc3
        have HA14 := blk_below HA13 hb14
        have HT14 := blk_below HT13 hb14
        have HB14 : Hid (Below w.heap.size w w14) := below_step HB13.out hb14
        clear HB13 hb14
        cases o1 : onB (v3, v4) (u1, u2) (u3, u4)
        ·have O1 := Lib.hid o1
         have sc0 := blk_cell HA14 0 rfl
         have sc1 := blk_cell HA14 1 rfl
         have sc2 := blk_cell HA14 2 rfl
         have sc3 := blk_cell HA14 3 rfl
         have tc0 := blk_cell HT14 0 rfl
         have tc1 := blk_cell HT14 1 rfl
         have tc2 := blk_cell HT14 2 rfl
         have tc3 := blk_cell HT14 3 rfl
         go_wp2_with fail
         refine (seg_On u1 u2 v1 v2 v3 v4 _).mono ?_
         rintro e w15 ⟨rfl, hb15⟩
         clear sc0 sc1 sc2 sc3 tc0 tc1 tc2 tc3
         have HA15 := blk_below HA14 hb15
         have HT15 := blk_below HT14 hb15
         have HB15 : Hid (Below w.heap.size w w15) := below_step HB14.out hb15
         clear HB14 hb15
         cases o2 : onB (u1, u2) (v1, v2) (v3, v4)
         ·have O2 := Lib.hid o2
          have sc0 := blk_cell HA15 0 rfl
          have sc1 := blk_cell HA15 1 rfl
          have sc2 := blk_cell HA15 2 rfl
          have sc3 := blk_cell HA15 3 rfl
          have tc0 := blk_cell HT15 0 rfl
          have tc1 := blk_cell HT15 1 rfl
          have tc2 := blk_cell HT15 2 rfl
          have tc3 := blk_cell HT15 3 rfl
          go_wp2_with fail
          refine (seg_On u3 u4 v1 v2 v3 v4 _).mono ?_
          rintro e w16 ⟨rfl, hb16⟩
          clear sc0 sc1 sc2 sc3 tc0 tc1 tc2 tc3
          have HA16 := blk_below HA15 hb16
          have HT16 := blk_below HT15 hb16
          have HB16 : Hid (Below w.heap.size w w16) := below_step HB15.out hb16
          clear HB15 hb16
          cases o3 : onB (u3, u4) (v1, v2) (v3, v4)
          ·have HR : Hid (r = 0) := by show r = _; rw [HN.out]; simp only [O0.out, O1.out, O2.out, o3, Bool.or_false, Bool.false_eq_true, if_false]
           clear HF HN
           go_wp2
           go_ret
           exact ⟨ret_int HR.out.symm, HB16.out⟩
          ·have HR : Hid (r = 1) := by show r = _; rw [HN.out]; simp only [O0.out, O1.out, O2.out, o3, Bool.or_true, Bool.true_or, Bool.false_or, if_true]
           clear HF HN
           go_wp2
           go_ret
           exact ⟨ret_int HR.out.symm, HB16.out⟩
         ·have HR : Hid (r = 1) := by show r = _; rw [HN.out]; simp only [O0.out, O1.out, o2, Bool.or_true, Bool.true_or, Bool.false_or, if_true]
          clear HF HN
          go_wp2
          go_ret
          exact ⟨ret_int HR.out.symm, HB15.out⟩
        ·have HR : Hid (r = 1) := by show r = _; rw [HN.out]; simp only [O0.out, o1, Bool.or_true, Bool.true_or, Bool.false_or, if_true]
         clear HF HN
         go_wp2
         go_ret
         exact ⟨ret_int HR.out.symm, HB14.out⟩
       ·have HR : Hid (r = 1) := by show r = _; rw [HN.out]; simp only [o0, Bool.or_true, Bool.true_or, Bool.false_or, if_true]
        clear HF HN
        go_wp2
        go_ret
        exact ⟨ret_int HR.out.symm, HB13.out⟩
     ·have qx : decide (a * b < 0) = false := decide_eq_false hx
      have hnx : ¬ (a * b < 0 ∧ c * d < 0) := fun h => hx h.1
      clear hx
      have HN : Hid (r = if onB (v1, v2) (u1, u2) (u3, u4) || (onB (v3, v4) (u1, u2) (u3, u4) || (onB (u1, u2) (v1, v2) (v3, v4) || onB (u3, u4) (v1, v2) (v3, v4))) then 1 else 0) := by show r = _; rw [HF.out]; unfold relM; rw [if_neg hnz, if_neg hnx]
      have sc0 := blk_cell HA12 0 rfl
      have sc1 := blk_cell HA12 1 rfl
      have sc2 := blk_cell HA12 2 rfl
      have sc3 := blk_cell HA12 3 rfl
      have tc0 := blk_cell HT12 0 rfl
      have tc1 := blk_cell HT12 1 rfl
      have tc2 := blk_cell HT12 2 rfl
      have tc3 := blk_cell HT12 3 rfl
      go_wp2_with fail
      refine (seg_On v1 v2 u1 u2 u3 u4 _).mono ?_
      rintro e w13 ⟨rfl, hb13⟩
      clear sc0 sc1 sc2 sc3 tc0 tc1 tc2 tc3
      have HA13 := blk_below HA12 hb13
      have HT13 := blk_below HT12 hb13
      have HB13 : Hid (Below w.heap.size w w13) := below_step HB12.out hb13
      clear HB12 hb13
      cases o0 : onB (v1, v2) (u1, u2) (u3, u4)
      ·have O0 := Lib.hid o0
       have sc0 := blk_cell HA13 0 rfl
       have sc1 := blk_cell HA13 1 rfl
       have sc2 := blk_cell HA13 2 rfl
       have sc3 := blk_cell HA13 3 rfl
       have tc0 := blk_cell HT13 0 rfl
       have tc1 := blk_cell HT13 1 rfl
       have tc2 := blk_cell HT13 2 rfl
       have tc3 := blk_cell HT13 3 rfl
       go_wp2_with fail
       refine (seg_On v3 v4 u1 u2 u3 u4 _).mono ?_
       rintro e w14 ⟨rfl, hb14⟩
       clear sc0 sc1 sc2 sc3 tc0 tc1 tc2 tc3
       have HA14 := blk_below HA13 hb14
       have HT14 := blk_below HT13 hb14
       have HB14 : Hid (Below w.heap.size w w14) := below_step HB13.out hb14
       clear HB13 hb14
       cases o1 : onB (v3, v4) (u1, u2) (u3, u4)
       ·have O1 := Lib.hid o1
        have sc0 := blk_cell HA14 0 rfl
        have sc1 := blk_cell HA14 1 rfl
        have sc2 := blk_cell HA14 2 rfl
        have sc3 := blk_cell HA14 3 rfl
        have tc0 := blk_cell HT14 0 rfl
        have tc1 := blk_cell HT14 1 rfl
        have tc2 := blk_cell HT14 2 rfl
        have tc3 := blk_cell HT14 3 rfl
        go_wp2_with fail
        refine (seg_On u1 u2 v1 v2 v3 v4 _).mono ?_
        rintro e w15 ⟨rfl, hb15⟩
        clear sc0 sc1 sc2 sc3 tc0 tc1 tc2 tc3
        have HA15 := blk_below HA14 hb15
        have HT15 := blk_below HT14 hb15
        have HB15 : Hid (Below w.heap.size w w15) := below_step HB14.out hb15
        clear HB14 hb15
        cases o2 : onB (u1, u2) (v1, v2) (v3, v4)
        ·have O2 := Lib.hid o2
         have sc0 := blk_cell HA15 0 rfl
         have sc1 := blk_cell HA15 1 rfl
         have sc2 := blk_cell HA15 2 rfl
         have sc3 := blk_cell HA15 3 rfl
         have tc0 := blk_cell HT15 0 rfl
         have tc1 := blk_cell HT15 1 rfl
         have tc2 := blk_cell HT15 2 rfl
         have tc3 := blk_cell HT15 3 rfl
         go_wp2_with fail
         refine (seg_On u3 u4 v1 v2 v3 v4 _).mono ?_
         rintro e w16 ⟨rfl, hb16⟩
         clear sc0 sc1 sc2 sc3 tc0 tc1 tc2 tc3
         have HA16 := blk_below HA15 hb16
         have HT16 := blk_below HT15 hb16
         have HB16 : Hid (Below w.heap.size w w16) := below_step HB15.out hb16
         clear HB15 hb16
         cases o3 : onB (u3, u4) (v1, v2) (v3, v4)
         ·have HR : Hid (r = 0) := by show r = _; rw [HN.out]; simp only [O0.out, O1.out, O2.out, o3, Bool.or_false, Bool.false_eq_true, if_false]
          clear HF HN
          go_wp2
          go_ret
          exact ⟨ret_int HR.out.symm, HB16.out⟩
         ·have HR : Hid (r = 1) := by show r = _; rw [HN.out]; simp only [O0.out, O1.out, O2.out, o3, Bool.or_true, Bool.true_or, Bool.false_or, if_true]
          clear HF HN
          go_wp2
          go_ret
          exact ⟨ret_int HR.out.symm, HB16.out⟩
        ·have HR : Hid (r = 1) := by show r = _; rw [HN.out]; simp only [O0.out, O1.out, o2, Bool.or_true, Bool.true_or, Bool.false_or, if_true]
         clear HF HN
         go_wp2
         go_ret
         exact ⟨ret_int HR.out.symm, HB15.out⟩
       ·have HR : Hid (r = 1) := by show r = _; rw [HN.out]; simp only [O0.out, o1, Bool.or_true, Bool.true_or, Bool.false_or, if_true]
        clear HF HN
        go_wp2
        go_ret
        exact ⟨ret_int HR.out.symm, HB14.out⟩
      ·have HR : Hid (r = 1) := by show r = _; rw [HN.out]; simp only [o0, Bool.or_true, Bool.true_or, Bool.false_or, if_true]
       clear HF HN
       go_wp2
       go_ret
       exact ⟨ret_int HR.out.symm, HB13.out⟩
end
end Go.Proofs.Ytaeflnbjeaoapaa
