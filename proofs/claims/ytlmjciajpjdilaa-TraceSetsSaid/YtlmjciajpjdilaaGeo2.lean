/- Contracts of seg.On, poly.crosses and of the references' Turn, On, Crosses. -/
import Derived.Test.YtlmjciajpjdilaaGeo
namespace Go.Proofs.Ytlmjciajpjdilaa
open Go.RowKit

def onB (p a b : Pt) : Bool := (validB p && validB a && validB b) && (decide (crossZ a b p = 0) && decide (min a.1 b.1 ≤ p.1 ∧ p.1 ≤ max a.1 b.1 ∧ min a.2 b.2 ≤ p.2 ∧ p.2 ≤ max a.2 b.2))
theorem onB_invalid {p a b : Pt} (h : (validB p && validB a && validB b) = false) : onB p a b = false := by simp [onB, h]
theorem onB_off {p a b : Pt} (h : ¬ crossZ a b p = 0) : onB p a b = false := by simp [onB, h]
theorem turn_valid {a b c : Pt} (h : (validB a && validB b && validB c) = true) : turnZ a b c = crossZ a b c := by simp [turnZ, h]
theorem ofB_x (a b : Pt) : (ofB a b).1.1 = min a.1 b.1 ∧ (ofB a b).2.1 = max a.1 b.1 := by
  by_cases h1 : b.1 = a.1
  · by_cases h2 : b.2 < a.2
    · simp [ofB, lessB, h1, h2]
    · simp [ofB, lessB, h1, h2]
  · by_cases h2 : b.1 < a.1
    · simp [ofB, lessB, h1, h2]; omega
    · simp [ofB, lessB, h1, h2]; omega

theorem seg_On (px py ax ay bx by_ : Int) (w : World) :
    Calls Try.prog 21 #[.agg #[.int .i64 px, .int .i64 py], .agg #[.int .i64 ax, .int .i64 ay], .agg #[.int .i64 bx, .int .i64 by_]] w fun e w' => e = .returned (.bool (onB (px, py) (ax, ay) (bx, by_))) ∧ Below w.heap.size w w' := by
  have hlit : ∀ (W : World) (g : Nat), g = W.heap.size → Row Ty.pt (fun _ => True) (W.alloc (.cells #[.int .i64 px, .int .i64 py, .int .i64 ax, .int .i64 ay, .int .i64 bx, .int .i64 by_] 25)) (some ⟨g, 0, none⟩) [(px, py), (ax, ay), (bx, by_)] :=
    fun W g hg => hg ▸ Row.pt_lit W [(px, py), (ax, ay), (bx, by_)] _ _ trivial (by simp)
  have HL := Lib.hid hlit
  clear hlit
  cases hv : [(px, py), (ax, ay), (bx, by_)].all validB
  · have HV := Lib.hid hv
    go_enter Try.func21, Try.ntmps21
    go_wp2_with (go_at_call 37; (refine (seg_valid [(px, py), (ax, ay), (bx, by_)] _ _ _ _ (HL.out _ _ (by simp)) rfl).mono ?_; rintro e w1 ⟨rfl, hb1⟩; obtain ⟨c_hb1, f_hb1⟩ := bcell hb1; have z_hb1 := hb1.size; (try simp at z_hb1); (try have y0_hb1 : w.heap.size < w1.heap.size := by omega); (try have y1_hb1 : w.heap.size + 1 < w1.heap.size := by omega); (try have y2_hb1 : w.heap.size + 1 + 1 < w1.heap.size := by omega); (try have y3_hb1 : w.heap.size + 1 + 1 + 1 < w1.heap.size := by omega); (try have y4_hb1 : w.heap.size + 1 + 1 + 1 + 1 < w1.heap.size := by omega)))
    go_ret
    refine ⟨ret_bool ?_, (by repeat (first | exact Below.refl _ _ | apply below_alloc | apply below_drewN | apply below_drew | (refine below_set2 ?_ ?_; (first | (simp; done) | (simp; omega))) | (refine below_step ?_ hb1)))⟩
    rw [onB_invalid (by have := HV.out; simpa [Bool.and_assoc] using this)]
  · obtain ⟨vp, va, vb⟩ : validB (px, py) = true ∧ validB (ax, ay) = true ∧ validB (bx, by_) = true := by simpa using hv
    have ht : turnZ (ax, ay) (bx, by_) (px, py) = crossZ (ax, ay) (bx, by_) (px, py) := turn_valid (by rw [va, vb, vp]; rfl)
    have HT := Lib.hid ht
    have VV : Hid ((validB (px, py) && validB (ax, ay) && validB (bx, by_)) = true) := by show _ = true; rw [vp, va, vb]; rfl
    clear vp va vb ht
    by_cases hz : crossZ (ax, ay) (bx, by_) (px, py) = 0
    · have hzb : (turnZ (ax, ay) (bx, by_) (px, py) != 0) = false := by rw [HT.out, hz]; rfl
      have HZ := Lib.hid hz
      clear hz
      go_enter Try.func21, Try.ntmps21
      go_wp2_with fail
      (refine (seg_valid [(px, py), (ax, ay), (bx, by_)] _ _ _ _ (HL.out _ _ (by simp)) rfl).mono ?_; rintro e w1 ⟨rfl, hb1⟩; obtain ⟨c_hb1, f_hb1⟩ := bcell hb1; have z_hb1 := hb1.size; (try simp at z_hb1); (try have y0_hb1 : w.heap.size < w1.heap.size := by omega); (try have y1_hb1 : w.heap.size + 1 < w1.heap.size := by omega); (try have y2_hb1 : w.heap.size + 1 + 1 < w1.heap.size := by omega); (try have y3_hb1 : w.heap.size + 1 + 1 + 1 < w1.heap.size := by omega); (try have y4_hb1 : w.heap.size + 1 + 1 + 1 + 1 < w1.heap.size := by omega))
      go_wp2_with fail
      (refine (seg_Turn _ _ _ _ _ _ _).mono ?_; rintro e w2 ⟨rfl, hb2⟩; obtain ⟨c_hb2, f_hb2⟩ := bcell hb2; have z_hb2 := hb2.size; (try simp at z_hb2); (try have y0_hb2 : w.heap.size < w2.heap.size := by omega); (try have y1_hb2 : w.heap.size + 1 < w2.heap.size := by omega); (try have y2_hb2 : w.heap.size + 1 + 1 < w2.heap.size := by omega); (try have y3_hb2 : w.heap.size + 1 + 1 + 1 < w2.heap.size := by omega); (try have y4_hb2 : w.heap.size + 1 + 1 + 1 + 1 < w2.heap.size := by omega))
      go_wp2_with fail
      (refine (seg_Of _ _ _ _ _).mono ?_; rintro e w3 ⟨rfl, hb3⟩; obtain ⟨c_hb3, f_hb3⟩ := bcell hb3; have z_hb3 := hb3.size; (try simp at z_hb3); (try have y0_hb3 : w.heap.size < w3.heap.size := by omega); (try have y1_hb3 : w.heap.size + 1 < w3.heap.size := by omega); (try have y2_hb3 : w.heap.size + 1 + 1 < w3.heap.size := by omega); (try have y3_hb3 : w.heap.size + 1 + 1 + 1 < w3.heap.size := by omega); (try have y4_hb3 : w.heap.size + 1 + 1 + 1 + 1 < w3.heap.size := by omega))
      go_wp2_with fail
      go_quiet (fail)
      go_wp2
      all_goals go_ret
      all_goals refine ⟨ret_bool ?_, (by repeat (first | exact Below.refl _ _ | apply below_alloc | apply below_drewN | apply below_drew | (refine below_set2 ?_ ?_; (first | (simp; done) | (simp; omega))) | (refine below_step ?_ hb3) | (refine below_step ?_ hb2) | (refine below_step ?_ hb1)))⟩
      all_goals have hx := ofB_x (ax, ay) (bx, by_)
      all_goals simp only at hx
      all_goals simp only [onB, VV.out, HZ.out, Bool.true_and, decide_true]
      all_goals first | (rw [decide_eq_decide]; omega) | (rw [eq_comm, decide_eq_false_iff_not]; omega)
    · have hzb : (turnZ (ax, ay) (bx, by_) (px, py) != 0) = true := by rw [HT.out]; simpa using hz
      have HZ := Lib.hid hz
      clear hz
      go_enter Try.func21, Try.ntmps21
      go_wp2_with fail
      (refine (seg_valid [(px, py), (ax, ay), (bx, by_)] _ _ _ _ (HL.out _ _ (by simp)) rfl).mono ?_; rintro e w1 ⟨rfl, hb1⟩; obtain ⟨c_hb1, f_hb1⟩ := bcell hb1; have z_hb1 := hb1.size; (try simp at z_hb1); (try have y0_hb1 : w.heap.size < w1.heap.size := by omega); (try have y1_hb1 : w.heap.size + 1 < w1.heap.size := by omega); (try have y2_hb1 : w.heap.size + 1 + 1 < w1.heap.size := by omega); (try have y3_hb1 : w.heap.size + 1 + 1 + 1 < w1.heap.size := by omega); (try have y4_hb1 : w.heap.size + 1 + 1 + 1 + 1 < w1.heap.size := by omega))
      go_wp2_with fail
      (refine (seg_Turn _ _ _ _ _ _ _).mono ?_; rintro e w2 ⟨rfl, hb2⟩; obtain ⟨c_hb2, f_hb2⟩ := bcell hb2; have z_hb2 := hb2.size; (try simp at z_hb2); (try have y0_hb2 : w.heap.size < w2.heap.size := by omega); (try have y1_hb2 : w.heap.size + 1 < w2.heap.size := by omega); (try have y2_hb2 : w.heap.size + 1 + 1 < w2.heap.size := by omega); (try have y3_hb2 : w.heap.size + 1 + 1 + 1 < w2.heap.size := by omega); (try have y4_hb2 : w.heap.size + 1 + 1 + 1 + 1 < w2.heap.size := by omega))
      go_wp2
      go_ret
      exact ⟨ret_bool (onB_off HZ.out).symm, (by repeat (first | exact Below.refl _ _ | apply below_alloc | apply below_drewN | apply below_drew | (refine below_set2 ?_ ?_; (first | (simp; done) | (simp; omega))) | (refine below_step ?_ hb2) | (refine below_step ?_ hb1)))⟩

end Go.Proofs.Ytlmjciajpjdilaa
