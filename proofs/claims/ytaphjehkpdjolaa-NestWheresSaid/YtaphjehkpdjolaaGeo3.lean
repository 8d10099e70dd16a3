/- Contracts of poly.crosses and of the reference's Crosses, at grid points. -/
import Derived.Test.YtaphjehkpdjolaaGeo2
namespace Go.Proofs.Ytaphjehkpdjolaa
open Go.RowKit

def crossesB (a b p : Pt) : Bool :=
  if decide (p.2 < a.2) = decide (p.2 < b.2) then false else if a.2 < b.2 then decide (0 < crossZ a b p) else decide (crossZ a b p < 0)
theorem cross_swap (a b p : Pt) : crossZ b a p = - crossZ a b p := by unfold crossZ; grind
theorem cross_alt (a b p : Pt) : (p.2 - a.2) * (b.1 - a.1) - (p.1 - a.1) * (b.2 - a.2) = crossZ a b p := by unfold crossZ; grind

theorem poly_crosses (ax ay bx by_ px py : Int) (w : World) (hv : (validB (ax, ay) && validB (bx, by_) && validB (px, py)) = true) :
    Calls Try.prog 46 #[.agg #[.int .i64 ax, .int .i64 ay], .agg #[.int .i64 bx, .int .i64 by_], .agg #[.int .i64 px, .int .i64 py]] w fun e w' => e = .returned (.bool (crossesB (ax, ay) (bx, by_) (px, py))) ∧ Below w.heap.size w w' := by
  by_cases hs : by_ < ay
  · have HT : Hid (turnZ (bx, by_) (ax, ay) (px, py) = crossZ (bx, by_) (ax, ay) (px, py)) := turn_valid (by simp only [Bool.and_eq_true] at hv ⊢; exact ⟨⟨hv.1.2, hv.1.1⟩, hv.2⟩)
    clear hv
    go_enter Try.func46, Try.ntmps46
    go_wp2_with (go_at_call 55; (refine (seg_Turn _ _ _ _ _ _ _).mono ?_; rintro e w1 ⟨rfl, hb1⟩; obtain ⟨c_hb1, f_hb1⟩ := bcell hb1; have z_hb1 := hb1.size; (try simp at z_hb1); (try have y0_hb1 : w.heap.size < w1.heap.size := by omega); (try have y1_hb1 : w.heap.size + 1 < w1.heap.size := by omega); (try have y2_hb1 : w.heap.size + 1 + 1 < w1.heap.size := by omega); (try have y3_hb1 : w.heap.size + 1 + 1 + 1 < w1.heap.size := by omega); (try have y4_hb1 : w.heap.size + 1 + 1 + 1 + 1 < w1.heap.size := by omega)))
    all_goals go_ret
    all_goals refine ⟨ret_bool ?_, (by repeat (first | exact Below.refl _ _ | apply below_alloc | apply below_drewN | apply below_drew | (refine below_set2 ?_ ?_; (first | (simp; done) | (simp; omega))) | (refine below_step ?_ hb1)))⟩
    all_goals simp only [crossesB]
    · rw [HT.out, cross_swap, if_neg (by rw [decide_eq_decide]; omega), if_neg (by omega), decide_eq_decide]; omega
    · rw [if_pos (by rw [decide_eq_decide]; omega)]
    · rw [if_pos (by rw [decide_eq_decide]; omega)]
  · have HT : Hid (turnZ (ax, ay) (bx, by_) (px, py) = crossZ (ax, ay) (bx, by_) (px, py)) := turn_valid hv
    clear hv
    go_enter Try.func46, Try.ntmps46
    go_wp2_with (go_at_call 55; (refine (seg_Turn _ _ _ _ _ _ _).mono ?_; rintro e w1 ⟨rfl, hb1⟩; obtain ⟨c_hb1, f_hb1⟩ := bcell hb1; have z_hb1 := hb1.size; (try simp at z_hb1); (try have y0_hb1 : w.heap.size < w1.heap.size := by omega); (try have y1_hb1 : w.heap.size + 1 < w1.heap.size := by omega); (try have y2_hb1 : w.heap.size + 1 + 1 < w1.heap.size := by omega); (try have y3_hb1 : w.heap.size + 1 + 1 + 1 < w1.heap.size := by omega); (try have y4_hb1 : w.heap.size + 1 + 1 + 1 + 1 < w1.heap.size := by omega)))
    all_goals go_ret
    all_goals refine ⟨ret_bool ?_, (by repeat (first | exact Below.refl _ _ | apply below_alloc | apply below_drewN | apply below_drew | (refine below_set2 ?_ ?_; (first | (simp; done) | (simp; omega))) | (refine below_step ?_ hb1)))⟩
    all_goals simp only [crossesB]
    · rw [HT.out, if_neg (by rw [decide_eq_decide]; omega), if_pos (by omega)]
    · rw [if_pos (by rw [decide_eq_decide]; omega)]
    · rw [if_pos (by rw [decide_eq_decide]; omega)]

theorem ref11_Crosses (ax ay bx by_ px py : Int) (w : World) (hv : (validB (ax, ay) && validB (bx, by_) && validB (px, py)) = true) :
    Calls Try.prog 49 #[.agg #[.int .i64 ax, .int .i64 ay], .agg #[.int .i64 bx, .int .i64 by_], .agg #[.int .i64 px, .int .i64 py]] w fun e w' => e = .returned (.bool (crossesB (ax, ay) (bx, by_) (px, py))) ∧ Below w.heap.size w w' := by
  simp only [Bool.and_eq_true] at hv
  obtain ⟨⟨va, vb⟩, vc⟩ := hv
  obtain ⟨a1, a2, a3, a4⟩ := valid_bd va
  obtain ⟨b1, b2, b3, b4⟩ := valid_bd vb
  obtain ⟨c1, c2, c3, c4⟩ := valid_bd vc
  clear va vb vc
  simp only at a1 a2 a3 a4 b1 b2 b3 b4 c1 c2 c3 c4
  have HC : Hid (wrap64 (wrap64 ((py - ay) * (bx - ax)) - wrap64 ((px - ax) * (by_ - ay))) = crossZ (ax, ay) (bx, by_) (px, py)) := by
    show _ = _
    rw [cross_wrap (mul_bd (a := py - ay) (b := bx - ax) (by omega) (by omega) (by omega) (by omega)) (mul_bd (a := px - ax) (b := by_ - ay) (by omega) (by omega) (by omega) (by omega)), ← cross_alt]
  go_enter Try.func49, Try.ntmps49
  go_wp2
  all_goals go_ret
  all_goals refine ⟨ret_bool ?_, (by repeat (first | exact Below.refl _ _ | apply below_alloc | apply below_drewN | apply below_drew | (refine below_set2 ?_ ?_; (first | (simp; done) | (simp; omega)))))⟩
  all_goals simp only [crossesB]
  · have h : (decide (py < ay) == decide (py < by_)) = true := by assumption
    rw [if_pos (by simpa using h)]
  · have h : (decide (py < ay) == decide (py < by_)) = false := by assumption
    rw [HC.out, if_neg (by simpa using h), if_pos (by assumption)]
  · have h : (decide (py < ay) == decide (py < by_)) = false := by assumption
    rw [HC.out, if_neg (by simpa using h), if_neg (by omega)]
end Go.Proofs.Ytaphjehkpdjolaa
