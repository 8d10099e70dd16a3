/- Contracts of seg.On, poly.crosses and of the references' Turn, On, Crosses. Plain words on sets of segments: what noding and trace compute. No program is in sight. Words of this session's own, second part: rows that a call owns; append's laws over kinds of values. No program is in sight. Worlds that have drawn and grown, no more. No program is in sight. Contracts of grid.Less, seg.Less, noding.order and of the comparison of noding.Split: what they answer, and that they only draw and lay blocks. Words of this session's own: rows out of cells; copy over elements of any size; append at a step of a region that draws. No program is in sight. -/
import Derived.Test.YtlmjciajpjdilaaGreatKC0
import Derived.Maps.AppendAt
import Derived.Deep.AppendLies
import Derived.Sort.Grow
import Derived.Laws.CopyRow
import Derived.Lib.SliceRun

section
namespace Go.Proofs.YtlmjciajpjdilaaGreat
open Go.RowKit

def onB (p a b : Pt) : Bool := (validB p && validB a && validB b) && (decide (crossZ a b p = 0) && decide (min a.1 b.1 ≤ p.1 ∧ p.1 ≤ max a.1 b.1 ∧ min a.2 b.2 ≤ p.2 ∧ p.2 ≤ max a.2 b.2))
theorem onB_invalid {p a b : Pt} (h : (validB p && validB a && validB b) = false) : onB p a b = false := by simp [onB, h]
theorem onB_off {p a b : Pt} (h : ¬ crossZ a b p = 0) : onB p a b = false := by simp [onB, h]
theorem turn_valid {a b c : Pt} (h : (validB a && validB b && validB c) = true) : turnZ a b c = crossZ a b c := by simp [turnZ, h]
theorem ofB_x (a b : Pt) : (ofB a b).1.1 = min a.1 b.1 ∧ (ofB a b).2.1 = max a.1 b.1 := by
  by_cases h1 : b.1 = a.1
  · by_cases h2 : b.2 < a.2
    · simp [ofB, lessB, h1, h2]
    · simp [ofB, lessB, h1, h2]
  · by_cases h2 : b.1 < a.1
    · simp [ofB, lessB, h1, h2]; omega
    · simp [ofB, lessB, h1, h2]; omega

theorem seg_On (px py ax ay bx by_ : Int) (w : World) :
    Calls Tryz.prog 39 #[.agg #[.int .i64 px, .int .i64 py], .agg #[.int .i64 ax, .int .i64 ay], .agg #[.int .i64 bx, .int .i64 by_]] w fun e w' => e = .returned (.bool (onB (px, py) (ax, ay) (bx, by_))) ∧ Below w.heap.size w w' := by
  have hlit : ∀ (W : World) (g : Nat), g = W.heap.size → Row Ty.pt (fun _ => True) (W.alloc (.cells #[.int .i64 px, .int .i64 py, .int .i64 ax, .int .i64 ay, .int .i64 bx, .int .i64 by_] 24)) (some ⟨g, 0, none⟩) [(px, py), (ax, ay), (bx, by_)] :=
    fun W g hg => hg ▸ Row.pt_lit W [(px, py), (ax, ay), (bx, by_)] _ _ trivial (by simp)
  have HL := Lib.hid hlit
  clear hlit
  cases hv : [(px, py), (ax, ay), (bx, by_)].all validB
  · have HV := Lib.hid hv
    go_enter Tryz.func39, Tryz.ntmps39
    go_wp2_with (go_at_call 81; (refine (seg_valid [(px, py), (ax, ay), (bx, by_)] _ _ _ _ (HL.out _ _ (by simp)) rfl).mono ?_; rintro e w1 ⟨rfl, hb1⟩; obtain ⟨c_hb1, f_hb1⟩ := bcell hb1; have z_hb1 := hb1.size; (try simp at z_hb1); (try have y0_hb1 : w.heap.size < w1.heap.size := by omega); (try have y1_hb1 : w.heap.size + 1 < w1.heap.size := by omega); (try have y2_hb1 : w.heap.size + 1 + 1 < w1.heap.size := by omega); (try have y3_hb1 : w.heap.size + 1 + 1 + 1 < w1.heap.size := by omega); (try have y4_hb1 : w.heap.size + 1 + 1 + 1 + 1 < w1.heap.size := by omega)))
    go_ret
    refine ⟨ret_bool ?_, (by repeat (first | exact Below.refl _ _ | apply below_alloc | apply below_drewN | apply below_drew | (refine below_set2 ?_ ?_; (first | (simp; done) | (simp; omega))) | (refine below_step ?_ hb1)))⟩
    rw [onB_invalid (by have := HV.out; simpa [Bool.and_assoc] using this)]
  · obtain ⟨vp, va, vb⟩ : validB (px, py) = true ∧ validB (ax, ay) = true ∧ validB (bx, by_) = true := by simpa using hv
    have ht : turnZ (ax, ay) (bx, by_) (px, py) = crossZ (ax, ay) (bx, by_) (px, py) := turn_valid (by rw [va, vb, vp]; rfl)
    have HT := Lib.hid ht
    have VV : Hid ((validB (px, py) && validB (ax, ay) && validB (bx, by_)) = true) := by show _ = true; rw [vp, va, vb]; rfl
    clear vp va vb ht
    by_cases hz : crossZ (ax, ay) (bx, by_) (px, py) = 0
    · have hzb : (turnZ (ax, ay) (bx, by_) (px, py) != 0) = false := by rw [HT.out, hz]; rfl
      have HZ := Lib.hid hz
      clear hz
      go_enter Tryz.func39, Tryz.ntmps39
      go_wp2_with fail
      (refine (seg_valid [(px, py), (ax, ay), (bx, by_)] _ _ _ _ (HL.out _ _ (by simp)) rfl).mono ?_; rintro e w1 ⟨rfl, hb1⟩; obtain ⟨c_hb1, f_hb1⟩ := bcell hb1; have z_hb1 := hb1.size; (try simp at z_hb1); (try have y0_hb1 : w.heap.size < w1.heap.size := by omega); (try have y1_hb1 : w.heap.size + 1 < w1.heap.size := by omega); (try have y2_hb1 : w.heap.size + 1 + 1 < w1.heap.size := by omega); (try have y3_hb1 : w.heap.size + 1 + 1 + 1 < w1.heap.size := by omega); (try have y4_hb1 : w.heap.size + 1 + 1 + 1 + 1 < w1.heap.size := by omega))
      go_wp2_with fail
      (refine (seg_Turn _ _ _ _ _ _ _).mono ?_; rintro e w2 ⟨rfl, hb2⟩; obtain ⟨c_hb2, f_hb2⟩ := bcell hb2; have z_hb2 := hb2.size; (try simp at z_hb2); (try have y0_hb2 : w.heap.size < w2.heap.size := by omega); (try have y1_hb2 : w.heap.size + 1 < w2.heap.size := by omega); (try have y2_hb2 : w.heap.size + 1 + 1 < w2.heap.size := by omega); (try have y3_hb2 : w.heap.size + 1 + 1 + 1 < w2.heap.size := by omega); (try have y4_hb2 : w.heap.size + 1 + 1 + 1 + 1 < w2.heap.size := by omega))
      go_wp2_with fail
      (refine (seg_Of _ _ _ _ _).mono ?_; rintro e w3 ⟨rfl, hb3⟩; obtain ⟨c_hb3, f_hb3⟩ := bcell hb3; have z_hb3 := hb3.size; (try simp at z_hb3); (try have y0_hb3 : w.heap.size < w3.heap.size := by omega); (try have y1_hb3 : w.heap.size + 1 < w3.heap.size := by omega); (try have y2_hb3 : w.heap.size + 1 + 1 < w3.heap.size := by omega); (try have y3_hb3 : w.heap.size + 1 + 1 + 1 < w3.heap.size := by omega); (try have y4_hb3 : w.heap.size + 1 + 1 + 1 + 1 < w3.heap.size := by omega))
      go_wp2_with fail
      go_quiet (fail)
      go_wp2
      all_goals go_ret
      all_goals refine ⟨ret_bool ?_, (by repeat (first | exact Below.refl _ _ | apply below_alloc | apply below_drewN | apply below_drew | (refine below_set2 ?_ ?_; (first | (simp; done) | (simp; omega))) | (refine below_step ?_ hb3) | (refine below_step ?_ hb2) | (refine below_step ?_ hb1)))⟩
      all_goals have hx := ofB_x (ax, ay) (bx, by_)
      all_goals simp only at hx
      all_goals simp only [onB, VV.out, HZ.out, Bool.true_and, decide_true]
      all_goals first | (rw [decide_eq_decide]; omega) | (rw [eq_comm, decide_eq_false_iff_not]; omega)
    · have hzb : (turnZ (ax, ay) (bx, by_) (px, py) != 0) = true := by rw [HT.out]; simpa using hz
      have HZ := Lib.hid hz
      clear hz
      go_enter Tryz.func39, Tryz.ntmps39
      go_wp2_with fail
      (refine (seg_valid [(px, py), (ax, ay), (bx, by_)] _ _ _ _ (HL.out _ _ (by simp)) rfl).mono ?_; rintro e w1 ⟨rfl, hb1⟩; obtain ⟨c_hb1, f_hb1⟩ := bcell hb1; have z_hb1 := hb1.size; (try simp at z_hb1); (try have y0_hb1 : w.heap.size < w1.heap.size := by omega); (try have y1_hb1 : w.heap.size + 1 < w1.heap.size := by omega); (try have y2_hb1 : w.heap.size + 1 + 1 < w1.heap.size := by omega); (try have y3_hb1 : w.heap.size + 1 + 1 + 1 < w1.heap.size := by omega); (try have y4_hb1 : w.heap.size + 1 + 1 + 1 + 1 < w1.heap.size := by omega))
      go_wp2_with fail
      (refine (seg_Turn _ _ _ _ _ _ _).mono ?_; rintro e w2 ⟨rfl, hb2⟩; obtain ⟨c_hb2, f_hb2⟩ := bcell hb2; have z_hb2 := hb2.size; (try simp at z_hb2); (try have y0_hb2 : w.heap.size < w2.heap.size := by omega); (try have y1_hb2 : w.heap.size + 1 < w2.heap.size := by omega); (try have y2_hb2 : w.heap.size + 1 + 1 < w2.heap.size := by omega); (try have y3_hb2 : w.heap.size + 1 + 1 + 1 < w2.heap.size := by omega); (try have y4_hb2 : w.heap.size + 1 + 1 + 1 + 1 < w2.heap.size := by omega))
      go_wp2
      go_ret
      exact ⟨ret_bool (onB_off HZ.out).symm, (by repeat (first | exact Below.refl _ _ | apply below_alloc | apply below_drewN | apply below_drew | (refine below_set2 ?_ ?_; (first | (simp; done) | (simp; omega))) | (refine below_step ?_ hb2) | (refine below_step ?_ hb1)))⟩

theorem ref09_Turn (ax ay bx by_ cx cy : Int) (w : World) :
    Calls Tryz.prog 85 #[.agg #[.int .i64 ax, .int .i64 ay], .agg #[.int .i64 bx, .int .i64 by_], .agg #[.int .i64 cx, .int .i64 cy]] w fun e w' => e = .returned (.int .i64 (turnZ (ax, ay) (bx, by_) (cx, cy))) ∧ Below w.heap.size w w' := by
  cases hv : (validB (ax, ay) && validB (bx, by_) && validB (cx, cy))
  · have HV := Lib.hid hv
    go_enter Tryz.func85, Tryz.ntmps85
    go_wp2_with fail
    (refine (ref09_three _ _ _ _ _ _ _).mono ?_; rintro e w1 ⟨rfl, hb1⟩; obtain ⟨c_hb1, f_hb1⟩ := bcell hb1; have z_hb1 := hb1.size; (try simp at z_hb1); (try have y0_hb1 : w.heap.size < w1.heap.size := by omega); (try have y1_hb1 : w.heap.size + 1 < w1.heap.size := by omega); (try have y2_hb1 : w.heap.size + 1 + 1 < w1.heap.size := by omega); (try have y3_hb1 : w.heap.size + 1 + 1 + 1 < w1.heap.size := by omega); (try have y4_hb1 : w.heap.size + 1 + 1 + 1 + 1 < w1.heap.size := by omega))
    go_wp2
    go_ret
    exact ⟨ret_int (by simp [turnZ, HV.out]), (by repeat (first | exact Below.refl _ _ | apply below_alloc | apply below_drewN | apply below_drew | (refine below_set2 ?_ ?_; (first | (simp; done) | (simp; omega))) | (refine below_step ?_ hb1)))⟩
  · have HV := Lib.hid hv
    obtain ⟨⟨va, vb⟩, vc⟩ : (validB (ax, ay) = true ∧ validB (bx, by_) = true) ∧ validB (cx, cy) = true := by simpa using hv
    obtain ⟨a1, a2, a3, a4⟩ := valid_bd va
    obtain ⟨b1, b2, b3, b4⟩ := valid_bd vb
    obtain ⟨c1, c2, c3, c4⟩ := valid_bd vc
    clear va vb vc
    simp only at a1 a2 a3 a4 b1 b2 b3 b4 c1 c2 c3 c4
    go_enter Tryz.func85, Tryz.ntmps85
    go_wp2_with fail
    (refine (ref09_three _ _ _ _ _ _ _).mono ?_; rintro e w1 ⟨rfl, hb1⟩; obtain ⟨c_hb1, f_hb1⟩ := bcell hb1; have z_hb1 := hb1.size; (try simp at z_hb1); (try have y0_hb1 : w.heap.size < w1.heap.size := by omega); (try have y1_hb1 : w.heap.size + 1 < w1.heap.size := by omega); (try have y2_hb1 : w.heap.size + 1 + 1 < w1.heap.size := by omega); (try have y3_hb1 : w.heap.size + 1 + 1 + 1 < w1.heap.size := by omega); (try have y4_hb1 : w.heap.size + 1 + 1 + 1 + 1 < w1.heap.size := by omega))
    go_wp2
    go_ret
    refine ⟨ret_int ?_, (by repeat (first | exact Below.refl _ _ | apply below_alloc | apply below_drewN | apply below_drew | (refine below_set2 ?_ ?_; (first | (simp; done) | (simp; omega))) | (refine below_step ?_ hb1)))⟩
    rw [turn_valid HV.out]
    simp only [crossZ]
    rw [cross_wrap (mul_bd (a := bx - ax) (b := cy - ay) (by omega) (by omega) (by omega) (by omega)) (mul_bd (a := by_ - ay) (b := cx - ax) (by omega) (by omega) (by omega) (by omega))]

theorem ref09_On (px py ax ay bx by_ : Int) (w : World) :
    Calls Tryz.prog 42 #[.agg #[.int .i64 px, .int .i64 py], .agg #[.int .i64 ax, .int .i64 ay], .agg #[.int .i64 bx, .int .i64 by_]] w fun e w' => e = .returned (.bool (onB (px, py) (ax, ay) (bx, by_))) ∧ Below w.heap.size w w' := by
  cases hv : (validB (px, py) && validB (ax, ay) && validB (bx, by_))
  · have HV := Lib.hid hv
    go_enter Tryz.func42, Tryz.ntmps42
    go_wp2_with fail
    (refine (ref09_three _ _ _ _ _ _ _).mono ?_; rintro e w1 ⟨rfl, hb1⟩; obtain ⟨c_hb1, f_hb1⟩ := bcell hb1; have z_hb1 := hb1.size; (try simp at z_hb1); (try have y0_hb1 : w.heap.size < w1.heap.size := by omega); (try have y1_hb1 : w.heap.size + 1 < w1.heap.size := by omega); (try have y2_hb1 : w.heap.size + 1 + 1 < w1.heap.size := by omega); (try have y3_hb1 : w.heap.size + 1 + 1 + 1 < w1.heap.size := by omega); (try have y4_hb1 : w.heap.size + 1 + 1 + 1 + 1 < w1.heap.size := by omega))
    go_wp2
    go_ret
    exact ⟨ret_bool (onB_invalid HV.out).symm, (by repeat (first | exact Below.refl _ _ | apply below_alloc | apply below_drewN | apply below_drew | (refine below_set2 ?_ ?_; (first | (simp; done) | (simp; omega))) | (refine below_step ?_ hb1)))⟩
  · obtain ⟨⟨vp, va⟩, vb⟩ : (validB (px, py) = true ∧ validB (ax, ay) = true) ∧ validB (bx, by_) = true := by simpa using hv
    have HT : Hid (turnZ (ax, ay) (bx, by_) (px, py) = crossZ (ax, ay) (bx, by_) (px, py)) := turn_valid (by rw [va, vb, vp]; rfl)
    have VV : Hid ((validB (px, py) && validB (ax, ay) && validB (bx, by_)) = true) := hv
    clear vp va vb
    by_cases hz : crossZ (ax, ay) (bx, by_) (px, py) = 0
    · have hzb : (turnZ (ax, ay) (bx, by_) (px, py) != 0) = false := by rw [HT.out, hz]; rfl
      have HZ := Lib.hid hz
      clear hz
      go_enter Tryz.func42, Tryz.ntmps42
      go_wp2_with fail
      (refine (ref09_three _ _ _ _ _ _ _).mono ?_; rintro e w1 ⟨rfl, hb1⟩; obtain ⟨c_hb1, f_hb1⟩ := bcell hb1; have z_hb1 := hb1.size; (try simp at z_hb1); (try have y0_hb1 : w.heap.size < w1.heap.size := by omega); (try have y1_hb1 : w.heap.size + 1 < w1.heap.size := by omega); (try have y2_hb1 : w.heap.size + 1 + 1 < w1.heap.size := by omega); (try have y3_hb1 : w.heap.size + 1 + 1 + 1 < w1.heap.size := by omega); (try have y4_hb1 : w.heap.size + 1 + 1 + 1 + 1 < w1.heap.size := by omega))
      go_wp2_with fail
      (refine (ref09_Turn _ _ _ _ _ _ _).mono ?_; rintro e w2 ⟨rfl, hb2⟩; obtain ⟨c_hb2, f_hb2⟩ := bcell hb2; have z_hb2 := hb2.size; (try simp at z_hb2); (try have y0_hb2 : w.heap.size < w2.heap.size := by omega); (try have y1_hb2 : w.heap.size + 1 < w2.heap.size := by omega); (try have y2_hb2 : w.heap.size + 1 + 1 < w2.heap.size := by omega); (try have y3_hb2 : w.heap.size + 1 + 1 + 1 < w2.heap.size := by omega); (try have y4_hb2 : w.heap.size + 1 + 1 + 1 + 1 < w2.heap.size := by omega))
      go_wp2
      all_goals go_ret
      all_goals refine ⟨ret_bool ?_, (by repeat (first | exact Below.refl _ _ | apply below_alloc | apply below_drewN | apply below_drew | (refine below_set2 ?_ ?_; (first | (simp; done) | (simp; omega))) | (refine below_step ?_ hb2) | (refine below_step ?_ hb1)))⟩
      all_goals simp only [onB, VV.out, HZ.out, Bool.true_and, decide_true]
      go_ways
      all_goals first | (rw [decide_eq_decide]; omega) | (rw [eq_comm, decide_eq_false_iff_not]; omega)
    · have hzb : (turnZ (ax, ay) (bx, by_) (px, py) != 0) = true := by rw [HT.out]; simpa using hz
      have HZ := Lib.hid hz
      clear hz
      go_enter Tryz.func42, Tryz.ntmps42
      go_wp2_with fail
      (refine (ref09_three _ _ _ _ _ _ _).mono ?_; rintro e w1 ⟨rfl, hb1⟩; obtain ⟨c_hb1, f_hb1⟩ := bcell hb1; have z_hb1 := hb1.size; (try simp at z_hb1); (try have y0_hb1 : w.heap.size < w1.heap.size := by omega); (try have y1_hb1 : w.heap.size + 1 < w1.heap.size := by omega); (try have y2_hb1 : w.heap.size + 1 + 1 < w1.heap.size := by omega); (try have y3_hb1 : w.heap.size + 1 + 1 + 1 < w1.heap.size := by omega); (try have y4_hb1 : w.heap.size + 1 + 1 + 1 + 1 < w1.heap.size := by omega))
      go_wp2_with fail
      (refine (ref09_Turn _ _ _ _ _ _ _).mono ?_; rintro e w2 ⟨rfl, hb2⟩; obtain ⟨c_hb2, f_hb2⟩ := bcell hb2; have z_hb2 := hb2.size; (try simp at z_hb2); (try have y0_hb2 : w.heap.size < w2.heap.size := by omega); (try have y1_hb2 : w.heap.size + 1 < w2.heap.size := by omega); (try have y2_hb2 : w.heap.size + 1 + 1 < w2.heap.size := by omega); (try have y3_hb2 : w.heap.size + 1 + 1 + 1 < w2.heap.size := by omega); (try have y4_hb2 : w.heap.size + 1 + 1 + 1 + 1 < w2.heap.size := by omega))
      go_wp2
      go_ret
      exact ⟨ret_bool (onB_off HZ.out).symm, (by repeat (first | exact Below.refl _ _ | apply below_alloc | apply below_drewN | apply below_drew | (refine below_set2 ?_ ?_; (first | (simp; done) | (simp; omega))) | (refine below_step ?_ hb2) | (refine below_step ?_ hb1)))⟩
end Go.Proofs.YtlmjciajpjdilaaGreat
end

section
namespace Go.Proofs.YtlmjciajpjdilaaGreat
set_option linter.unusedVariables false

abbrev Sgs := List Sg
abbrev Rgs := List Pts
def sgD (xs : Sgs) (k : Nat) : Sg := xs.getD k ((0, 0), (0, 0))
def goodB (s : Sg) : Bool := decide (s.1 ≠ s.2) && (validB s.1 && validB s.2)
def ofS (s : Sg) : Sg := ofB s.1 s.2
def canonZ (l : Sgs) : Sgs := (l.filter goodB).map ofS
def sortZ (l : Sgs) : Sgs := sortG lessS (canonZ l)
def uniqZ (l : Sgs) : Sgs := compactZ (sortZ l)
def cmpS (a b : Sg) : Int := if a = b then 0 else if lessS a b then -1 else 1
def cmpP (a b : Pt) : Int := if a = b then 0 else if lessB a b then -1 else 1
def cmpR (a b : Pts) : Int := if lessR a b then -1 else if lessR b a then 1 else 0
def ends2 (l : Sgs) : Pts := l.flatMap fun s => [s.1, s.2]
def endsZ (l : Sgs) : Pts := compactZ (sortG lessB (ends2 (uniqZ l)))
def withinB (p a b : Pt) : Bool := onB p a b && (decide (p ≠ a) && decide (p ≠ b))
/-- the parts of a segment -/
def cutsF (s : Sg) : Sgs × Pt → Pt → Sgs × Pt := fun st p => if withinB p s.1 s.2 then (st.1 ++ [(st.2, p)], p) else st
def cutsZ (es : Pts) (s : Sg) (acc : Sgs) : Sgs := let st := es.foldl (cutsF s) (acc, s.1); st.1 ++ [(st.2, s.2)]
def splitZ (l : Sgs) : Sgs := sortZ ((canonZ l).foldl (fun acc s => cutsZ (endsZ l) s acc) [])
def signZ (n : Int) : Int := min 1 (max (-1) n)
def flatZ (s t : Sg) : Int :=
  let lo := if lessB s.1 t.1 then t.1 else s.1
  let hi := if lessB t.2 s.2 then t.2 else s.2
  if lessB lo hi then 3 else if lo = hi then 1 else 0
/-- seg.Relate -/
def relZ (s0 t0 : Sg) : Int :=
  if ((validB s0.1 && validB s0.2 && validB t0.1 && validB t0.2) && (decide (s0.1 ≠ s0.2) && decide (t0.1 ≠ t0.2))) = false then 0 else
  let s := ofS s0
  let t := ofS t0
  let a := signZ (turnZ s.1 s.2 t.1)
  let b := signZ (turnZ s.1 s.2 t.2)
  let c := signZ (turnZ t.1 t.2 s.1)
  let d := signZ (turnZ t.1 t.2 s.2)
  if a = 0 ∧ b = 0 then flatZ s t else if a * b < 0 ∧ c * d < 0 then 2 else
  if onB t.1 s.1 s.2 || (onB t.2 s.1 s.2 || (onB s.1 t.1 t.2 || onB s.2 t.1 t.2)) then 1 else 0
def badB (s t : Sg) : Bool := decide (relZ s t = 2) || decide (relZ s t = 3)
def crossZs (u : Sgs) : List (Sg × Sg) := (List.range u.length).flatMap fun i => ((u.drop (i + 1)).filter (badB (sgD u i))).map fun t => (sgD u i, t)
def cleanZ (l : Sgs) : Bool := decide (splitZ l = sortZ l) && decide (crossZs (uniqZ l) = [])
def degZ (u : Sgs) (p : Pt) : Nat := (ends2 u).count p
def checkU (u : Sgs) : Int := if u = [] then 15 else if cleanZ u = false then 13 else if (ends2 u).any (fun p => decide (degZ u p % 2 = 1)) then 14 else 0
def checkZ (l : Sgs) : Int := checkU (uniqZ l)
/-- crossings of a ray, doubled coordinates -/
def rayB (m : Pt) (but s : Sg) : Bool :=
  let low := if s.1.2 > s.2.2 then s.2 else s.1
  let high := if s.1.2 > s.2.2 then s.1 else s.2
  !(decide (s = but) || (decide (2 * low.2 > m.2) || decide (2 * high.2 ≤ m.2))) && decide ((high.1 - low.1) * (m.2 - 2 * low.2) - (high.2 - low.2) * (m.1 - 2 * low.1) > 0)
def crossN (u : Sgs) (m : Pt) (but : Sg) : Nat := u.countP (rayB m but)
def leftZ (u : Sgs) (s : Sg) : Bool :=
  let odd := decide (crossN u (s.1.1 + s.2.1, s.1.2 + s.2.2) s % 2 = 1)
  if s.2.2 > s.1.2 then !odd else odd
def whereU (u : Sgs) (p : Pt) : Int := if u.any (fun s => onB p s.1 s.2) then 1 else if crossN u (2 * p.1, 2 * p.2) ((0, 0), (0, 0)) % 2 = 1 then 2 else 0
def whereT (l : Sgs) (p : Pt) : Int := if validB p = false then 0 else whereU (uniqZ l) p
def leftIn (l : Sgs) (s : Sg) : Bool := decide (s ∈ uniqZ l) && (decide (checkZ l = 0) && leftZ (uniqZ l) s)
def dirZ (u : Sgs) : Sgs := u.map fun s => if leftZ u s then s else (s.2, s.1)
def crossV (v a b : Pt) : Int := (a.1 - v.1) * (b.2 - v.2) - (a.2 - v.2) * (b.1 - v.1)
def sideZ (v u a : Pt) : Int := if crossV v u a < 0 then 0 else if crossV v u a = 0 then 1 else 2
def betterB (u v best a : Pt) : Bool := decide (sideZ v u a < sideZ v u best) || (decide (sideZ v u a = sideZ v u best) && decide (crossV v best a > 0))
def turnL (u v : Pt) : Pts → Pt
  | [] => (0, 0)
  | a :: l => l.foldl (fun best a => if betterB u v best a then a else best) a
def outs (dl : Sgs) (v : Pt) : Pts := (dl.filter fun s => decide (s.1 = v)).map (·.2)
def succZ (dl : Sgs) (t : Sg) : Sg := (t.2, turnL t.1 t.2 (outs dl t.2))
/-- one ring: the ring, and what remains -/
def walkZ (dl : Sgs) (s : Sg) : Nat → Sg → Pts → Sgs → Pts × Sgs
  | 0, _, ring, rest => (ring, rest)
  | n + 1, t, ring, rest =>
    let ring' := ring ++ [t.1]
    let rest' := rest.filter fun x => decide (x ≠ t)
    let t' := succZ dl t
    if t' = s ∨ t' ∉ rest' then (ring', rest') else walkZ dl s n t' ring' rest'
def loopF (dl : Sgs) (st : Rgs × Sgs) (s : Sg) : Rgs × Sgs :=
  if s ∈ st.2 then let r := walkZ dl s st.2.length s [] st.2; (st.1 ++ [r.1], r.2) else st
def loopsZ (dl : Sgs) : Rgs := (dl.foldl (loopF dl) ([], dl)).1
def minIx (r : Pts) (n : Nat) : Nat := (List.range n).foldl (fun f k => if lessB (ptD r k) (ptD r f) then k else f) 0
def canonR (r : Pts) : Pts := r.drop (minIx r r.length) ++ r.take (minIx r r.length)
def cutF (st : Rgs × Pts) (p : Pt) : Rgs × Pts :=
  if p ∈ st.2 then (st.1 ++ [canonR (st.2.drop (st.2.idxOf p))], st.2.take (st.2.idxOf p) ++ [p]) else (st.1, st.2 ++ [p])
def divR (acc : Rgs) (r : Pts) : Rgs := let st := r.foldl cutF (acc, []); st.1 ++ [canonR st.2]
def dividedZ (l : Rgs) : Rgs := l.foldl divR []
def ringsU (u : Sgs) : Rgs := sortG lessR (dividedZ (loopsZ (dirZ u)))
def ringsZ (l : Sgs) : Rgs := if checkZ l = 0 then ringsU (uniqZ l) else []

/-! the example of the chapter -/
def sqS (x y d : Int) : Sgs := [((x, y), (x + d, y)), ((x + d, y), (x + d, y + d)), ((x, y + d), (x + d, y + d)), ((x, y), (x, y + d))]
def exS : Sgs := sqS 0 0 9 ++ sqS 3 3 2
theorem ex_check : checkZ exS = 0 := by decide +kernel
theorem ex_rings : ringsZ exS = [[(0, 0), (9, 0), (9, 9), (0, 9)], [(3, 3), (3, 5), (5, 5), (5, 3)]] := by decide +kernel
theorem ex_in : whereT exS (1, 1) = 2 := by decide +kernel
theorem ex_out : whereT exS (4, 4) = 0 := by decide +kernel
theorem ex_left : leftIn exS ((0, 0), (9, 0)) = true := by decide +kernel
theorem nil_check : checkZ [] = 15 := by decide +kernel
end Go.Proofs.YtlmjciajpjdilaaGreat
end

section
namespace Go.Proofs.YtlmjciajpjdilaaGreat
open Go.RowKit
set_option linter.unusedVariables false

def Reps {α : Type} (T : Ty α) (ok : Nat → Prop) (w : World) : List α → List Value → Prop
  | [], cs => cs = []
  | x :: xs, cs => ∃ c d, cs = c ++ d ∧ T.R ok w x c ∧ Reps T ok w xs d
section
variable {α : Type} {T : Ty α} {ok ok' : Nat → Prop} {w w' : World}
theorem Reps.len : ∀ {xs : List α} {cs : List Value}, Reps T ok w xs cs → cs.length = xs.length * T.sz
  | [], _, h => by rw [show _ = [] from h]; simp
  | x :: xs, _, ⟨c, d, e, hc, hd⟩ => by rw [e, List.length_append, T.len hc, Reps.len hd, List.length_cons, Nat.add_mul, Nat.one_mul, Nat.add_comm]
theorem Reps.one : ∀ {xs : List α} {cs : List Value}, Reps T ok w xs cs → ∀ u ∈ cs, u.oneCell' = true
  | [], _, h, u, hu => by rw [show _ = [] from h] at hu; cases hu
  | x :: xs, _, ⟨c, d, e, hc, hd⟩, u, hu => by
    rw [e] at hu
    rcases List.mem_append.1 hu with h | h
    · exact T.one hc u h
    · exact Reps.one hd u h
theorem Reps.imp (hi : ∀ x c, T.R ok w x c → T.R ok' w' x c) : ∀ {xs : List α} {cs : List Value}, Reps T ok w xs cs → Reps T ok' w' xs cs
  | [], _, h => h
  | x :: xs, _, ⟨c, d, e, hc, hd⟩ => ⟨c, d, e, hi _ _ hc, Reps.imp hi hd⟩
theorem Reps.append : ∀ {xs ys : List α} {cs ds : List Value}, Reps T ok w xs cs → Reps T ok w ys ds → Reps T ok w (xs ++ ys) (cs ++ ds)
  | [], ys, cs, ds, h, h' => by rw [show cs = [] from h]; exact h'
  | x :: xs, ys, cs, ds, ⟨c, d, e, hc, hd⟩, h' => ⟨c, d ++ ds, by rw [e, List.append_assoc], hc, Reps.append hd h'⟩
theorem Reps.single {x : α} {c : List Value} (h : T.R ok w x c) : Reps T ok w [x] c := ⟨c, [], by simp, h, rfl⟩
theorem Reps.get : ∀ {xs : List α} {cs : List Value}, Reps T ok w xs cs → ∀ (i : Nat) (x : α), xs[i]? = some x → ∃ c, T.R ok w x c ∧ ∀ (j : Nat) (u : Value), c[j]? = some u → cs[i * T.sz + j]? = some u
  | [], _, _, i, x, hx => by simp at hx
  | y :: ys, cs, ⟨c, d, e, hc, hd⟩, 0, x, hx => by
    simp at hx; subst hx
    refine ⟨c, hc, fun j u hu => ?_⟩
    rw [e, Nat.zero_mul, Nat.zero_add, List.getElem?_append_left (List.getElem?_eq_some_iff.1 hu).1]; exact hu
  | y :: ys, cs, ⟨c, d, e, hc, hd⟩, i + 1, x, hx => by
    obtain ⟨c', hc', hk⟩ := Reps.get hd i x (by simpa using hx)
    refine ⟨c', hc', fun j u hu => ?_⟩
    have hl := T.len hc
    rw [e, List.getElem?_append_right (by rw [hl, Nat.add_mul]; omega), hl]
    rw [show (i + 1) * T.sz + j - T.sz = i * T.sz + j by rw [Nat.add_mul]; omega]
    exact hk j u hu
theorem Reps.of_cells {ad : Addr} : ∀ {xs : List α} (o : Nat), (∀ (i : Nat) (x : α), xs[i]? = some x → ∃ cs, T.R ok w x cs ∧ CellsAt w ad (o + i * T.sz) cs) → ∃ cs, Reps T ok w xs cs ∧ CellsAt w ad o cs
  | [], o, _ => ⟨[], rfl, fun j u hu => by simp at hu⟩
  | x :: xs, o, h => by
    obtain ⟨c, hc, hk⟩ := h 0 x rfl
    obtain ⟨d, hd, hk'⟩ := Reps.of_cells (xs := xs) (o + T.sz) (fun i y hy => by
      obtain ⟨c', hc', hk'⟩ := h (i + 1) y (by simpa using hy)
      exact ⟨c', hc', by rw [show o + T.sz + i * T.sz = o + (i + 1) * T.sz by rw [Nat.add_mul]; omega]; exact hk'⟩)
    refine ⟨c ++ d, ⟨c, d, rfl, hc, hd⟩, fun j u hu => ?_⟩
    rcases Nat.lt_or_ge j c.length with hj | hj
    · rw [List.getElem?_append_left hj] at hu
      have := hk j u hu
      rwa [Nat.zero_mul, Nat.add_zero] at this
    · rw [List.getElem?_append_right hj] at hu
      have := hk' (j - c.length) u hu
      rw [T.len hc] at this hj
      rwa [show o + T.sz + (j - T.sz) = o + j by omega] at this
theorem Row.reps {ad : Addr} {xs : List α} (h : Row T ok w (some ad) xs) : ∃ cs, Reps T ok w xs cs ∧ ∀ (j : Nat) (u : Value), cs[j]? = some u → w.cell? (ad.add j) = some u := by
  rcases Nat.eq_zero_or_pos xs.length with h0 | h0
  · obtain rfl := List.eq_nil_of_length_eq_zero h0
    exact ⟨[], rfl, fun j u hu => by simp at hu⟩
  · obtain ⟨ad', e, _, hc⟩ := h.2 h0
    injection e with e
    subst e
    obtain ⟨cs, hr, hk⟩ := Reps.of_cells (ad := ad) (o := 0) (fun i x hx => by rw [Nat.zero_add]; exact hc i x hx)
    exact ⟨cs, hr, fun j u hu => by have := hk j u hu; rwa [Nat.zero_add] at this⟩
end

/-- A row of the call's own (element type e, from block base on). M: the blocks that may still be written, this row's own among them: the elements' readings look at none of these. -/
def OwnR {α : Type} (T : Ty α) (e : TypeId) (base : Nat) (M : Nat → Prop) (w : World) (v : Value) (xs : List α) : Prop :=
  (∀ k, v.ownBlock = some k → M k) ∧ ∃ inner, w.ownsRow base e T.sz v xs.length inner ∧ Reps T (fun k => ¬ M k) w xs inner

section
variable {α : Type} {T : Ty α} {M M' : Nat → Prop} {w w' : World} {base : Nat} {e : TypeId} {v : Value} {xs : List α}
theorem OwnR.nil (T : Ty α) (e : TypeId) (base : Nat) (M : Nat → Prop) (w : World) : OwnR T e base M w (.slice none 0 0) [] :=
  ⟨fun k hk => by simp [Value.ownBlock] at hk, [], World.ownsRow_nil _ _ _ _, rfl⟩
theorem OwnR.lt (h : OwnR T e base M w v xs) : ∀ k, v.ownBlock = some k → base ≤ k ∧ k < w.heap.size := by
  obtain ⟨_, inner, ho, _⟩ := h
  exact ho.lt
theorem OwnR.mine (h : OwnR T e base M w v xs) : ∀ k, v.ownBlock = some k → M k := h.1
/-- Another choice of what may be written: new blocks, or fewer. -/
theorem OwnR.remut (h : OwnR T e base M w v xs) (hM : ∀ k, k < w.heap.size → M' k → M k) (hv : ∀ k, v.ownBlock = some k → M' k) : OwnR T e base M' w v xs := by
  obtain ⟨_, inner, ho, hr⟩ := h
  exact ⟨hv, inner, ho, hr.imp (fun x c hc => T.mono (fun k hk => fun hm => hk.1 (hM k hk.2 hm)) (T.bnd hc))⟩
/-- A world in which some other blocks that may be written have turned. -/
theorem OwnR.kept {S : Nat → Prop} (h : OwnR T e base M w v xs) (k : KeptS S w w') (hS : ∀ b, S b → M b) (hv : ∀ b, v.ownBlock = some b → ¬ S b) : OwnR T e base M w' v xs := by
  obtain ⟨h0, inner, ho, hr⟩ := h
  refine ⟨h0, inner, ?_, hr.imp (fun x c hc => T.step hc (fun b hb hlt => k.block b hlt (fun hs => hb (hS b hs))))⟩
  obtain ⟨h1, h2⟩ := ho
  refine ⟨h1, ?_⟩
  rcases h2 with h2 | ⟨g, cap, cur, rfl, hg, hh, r⟩
  · exact .inl h2
  · exact .inr ⟨g, cap, cur, rfl, hg, (k.block g (lt_of_block hh) (hv g rfl)).trans hh, r⟩
theorem OwnR.below (h : OwnR T e base M w v xs) (hb : Below w.heap.size w w') : OwnR T e base M w' v xs :=
  h.kept (S := fun _ => False) (kept_of_below hb) (fun _ hf => hf.elim) (fun _ _ hf => hf)
theorem OwnR.alloc (h : OwnR T e base M w v xs) (o : Obj) : OwnR T e base M (w.alloc o) v xs := h.below (below_alloc (Below.refl _ _) o)
theorem OwnR.drew (h : OwnR T e base M w v xs) : OwnR T e base M w.drew v xs := h.below (below_drew (Below.refl _ _))
theorem OwnR.drewN (h : OwnR T e base M w v xs) (n : Nat) : OwnR T e base M (w.drewN n) v xs := h.below (below_drewN (Below.refl _ _) n)
theorem OwnR.len (h : OwnR T e base M w v xs) : xs.length ≤ 9223372036854775807 := by
  obtain ⟨_, inner, ho, _⟩ := h
  rcases ho.2 with ⟨_, hn⟩ | ⟨g, cap, cur, _, _, _, h1, h2, _⟩
  · omega
  · simp only [maxLen] at h2; omega
/-- It reads. -/
theorem OwnR.reads (h : OwnR T e base M w v xs) : ∃ A c, v = .slice A xs.length c ∧ xs.length ≤ c ∧ Row T (fun k => ¬ M k ∨ v.ownBlock = some k) w A xs ∧ (0 < xs.length → ∃ g, A = some ⟨g, 0, none⟩ ∧ base ≤ g ∧ g < w.heap.size ∧ M g ∧ (∀ o, w.frozen? ⟨g, o, none⟩ = false)) := by
  have hl := h.len
  obtain ⟨h0, inner, ho, hr⟩ := h
  rcases ho.2 with ⟨rfl, hn⟩ | ⟨g, cap, cur, rfl, hg, hh, h1, h2, h3, h4⟩
  · obtain rfl := List.eq_nil_of_length_eq_zero hn
    exact ⟨none, 0, by simp, by simp, Row.nil _ _ _ _, fun h => absurd h (by simp)⟩
  · refine ⟨some ⟨g, 0, none⟩, cap, rfl, h1, ⟨hl, fun _ => ⟨_, rfl, .inr rfl, fun i x hx => ?_⟩⟩, fun _ => ⟨g, rfl, hg, lt_of_block hh, h0 g rfl, fun o => by simp [World.frozen?, hh]⟩⟩
    obtain ⟨c, hc, hk⟩ := hr.get i x hx
    exact ⟨c, T.mono (fun _ hk => .inl hk) hc, fun j u hu => ho.cells (g := g) rfl _ u (hk j u hu)⟩
end

section
variable {P : Program} {ops : Array Oper} {rest : List Oper} {o : Oper} {a : Act} {Q : Exit → Act → World → Prop} {α : Type}
theorem OwnR.appended {T : Ty α} {e : TypeId} {base : Nat} {M : Nat → Prop} {W w1 : World} {v v1 : Value} {xs ys : List α} {inner cs : List Value} (hr : Reps T (fun k => ¬ M k) W xs inner) (hp : Reps T (fun k => ¬ M k) W ys cs)
    (hown : w1.ownsRow base e T.sz v1 (xs.length + ys.length) (inner ++ cs)) (hv : ∀ k, v.ownBlock = some k → M k) (hg : W.grownBy w1 v.ownBlock) (hat : v1.ownBlock = v.ownBlock ∨ ∃ b, v1.ownBlock = some b ∧ W.heap.size ≤ b) :
    OwnR T e base (fun k => M k ∨ v1.ownBlock = some k) w1 v1 (xs ++ ys) := by
  have step : ∀ {q : α} {c : List Value}, T.R (fun k => ¬ M k) W q c → T.R (fun k => ¬ (M k ∨ v1.ownBlock = some k)) w1 q c := by
    intro q c hq
    have h1 := T.bnd hq
    have h2 := T.move (w' := w1) (fun k hk => hg.block k hk.2 (fun e => hk.1 (hv k e.symm))) h1
    refine T.mono (fun k hk => ?_) h2
    rintro (h | h)
    · exact hk.1 h
    · rcases hat with hat | ⟨b, hb, hle⟩
      · exact hk.1 (hv k (hat ▸ h))
      · rw [hb] at h; injection h with h; omega
  refine ⟨fun k hk => .inr hk, inner ++ cs, by rw [List.length_append]; exact hown, (hr.imp (fun _ _ hq => step hq)).append (hp.imp (fun _ _ hq => step hq))⟩

/-- append(v, x): behind 'at_builtin'; the goal's world is 'W.alloc' of the variadic's box. -/
theorem app_one (T : Ty α) {W : World} {g : Nat} (base : Nat) (hgd : o.guard = none) (s x : Operand) (t e : TypeId) (z : Value) (bytes : Nat)
    (ho : o.op = .call { callee := .builtin .append, args := #[s, x], argTypes := #[t, t] })
    (ht : P.underlying t = some (.slice e)) (hinfo : (P.info? e).map (fun i => (i.zero, i.size, i.bytes)) = some (some z, T.sz, bytes)) (hz : z.cells.size = T.sz) (hb0 : 0 < bytes)
    (v : Value) (xs : List α) (y : α) (cs : List Value) (M : Nat → Prop) (hs : a.eval s = v) (hx : a.eval x = .slice (some ⟨g, 0, none⟩) 1 1) (hgs : g = W.heap.size)
    (hp : T.R (fun k => ¬ M k) W y cs) (HO : OwnR T e base M W v xs) (hbase : base ≤ W.heap.size) (hl : (xs.length + 1) * bytes ≤ 140737488355328)
    (h : ∀ v1 w1, OwnR T e base (fun k => M k ∨ v1.ownBlock = some k) w1 v1 (xs ++ [y]) → W.grownBy w1 v.ownBlock → (v1.ownBlock = v.ownBlock ∨ ∃ b, v1.ownBlock = some b ∧ W.heap.size ≤ b) → wpList P ops Q rest (a.put o.dst v1) w1) :
    wpList P ops Q (o :: rest) a (W.alloc (.cells cs.toArray e)) := by
  subst hgs
  obtain ⟨h0, inner, hown, hr⟩ := HO
  obtain ⟨i0, hi, hzz⟩ := Option.map_eq_some_iff.1 hinfo
  simp only [Prod.mk.injEq] at hzz
  obtain ⟨hz0, hz1, hz2⟩ := hzz
  have hlen : xs.length + 1 ≤ 140737488355328 := Nat.le_trans (Nat.le_mul_of_pos_right _ hb0) hl
  refine wpList_append_own_at (W.alloc (.cells cs.toArray e)) hgd s x t ho base e i0 z T.sz bytes ht hi hz0 hz1 hz2 hz T.pos v xs.length inner hs (hown.alloc _) ⟨W.heap.size, 0, none⟩ 1 1 cs hx (by rw [T.len hp, Nat.one_mul])
    (by simpa using World.news_of_block (cs := cs.toArray) (t := e) (fr := (0, 0)) (heap_alloc_new W (.cells cs.toArray e))) (T.one hp) (by simp only [maxLen]; omega) hl (by simp; omega) ?_
  intro v1 w1 hown1 hg _ hat
  have hg' : W.grownBy w1 v.ownBlock := World.grownBy.trans (World.grownBy_alloc W _ _) hg
  have hat' : v1.ownBlock = v.ownBlock ∨ ∃ b, v1.ownBlock = some b ∧ W.heap.size ≤ b := by
    rcases hat with hat | hat
    · exact .inl hat
    · exact .inr ⟨_, hat, by simp⟩
  exact h v1 w1 (OwnR.appended (ys := [y]) hr (Reps.single hp) hown1 h0 hg' hat') hg' hat'

/-- append(v, ys...), ys a slice that is read, nil let in. -/
theorem app_row (T : Ty α) {W : World} (base : Nat) (hgd : o.guard = none) (s x : Operand) (t e : TypeId) (z : Value) (bytes : Nat)
    (ho : o.op = .call { callee := .builtin .append, args := #[s, x], argTypes := #[t, t] })
    (ht : P.underlying t = some (.slice e)) (hinfo : (P.info? e).map (fun i => (i.zero, i.size, i.bytes)) = some (some z, T.sz, bytes)) (hz : z.cells.size = T.sz) (hb0 : 0 < bytes)
    (v : Value) (xs ys : List α) (A : Option Addr) (m c : Nat) (M : Nat → Prop) (hs : a.eval s = v) (hx : a.eval x = .slice A m c) (hm : m = ys.length)
    (hp : Row T (fun k => ¬ M k) W A ys) (HO : OwnR T e base M W v xs) (hbase : base ≤ W.heap.size) (hl : (xs.length + m) * bytes ≤ 140737488355328)
    (h : ∀ v1 w1, OwnR T e base (fun k => M k ∨ v1.ownBlock = some k) w1 v1 (xs ++ ys) → W.grownBy w1 v.ownBlock → (v1.ownBlock = v.ownBlock ∨ ∃ b, v1.ownBlock = some b ∧ W.heap.size ≤ b) → wpList P ops Q rest (a.put o.dst v1) w1) :
    wpList P ops Q (o :: rest) a W := by
  subst hm
  obtain ⟨h0, inner, hown, hr⟩ := HO
  obtain ⟨i0, hi, hzz⟩ := Option.map_eq_some_iff.1 hinfo
  simp only [Prod.mk.injEq] at hzz
  obtain ⟨hz0, hz1, hz2⟩ := hzz
  have hlen : xs.length + ys.length ≤ 140737488355328 := Nat.le_trans (Nat.le_mul_of_pos_right _ hb0) hl
  rcases A with _ | ad
  · have hy : ys = [] := by
      rcases Nat.eq_zero_or_pos ys.length with hy | hy
      · exact List.eq_nil_of_length_eq_zero hy
      · obtain ⟨ad, e, _⟩ := hp.2 hy
        cases e
    subst hy
    have hrun : (Builtin.append_ #[t, t] o.type #[v, .slice none 0 c]).run P W = .ok v W := by
      rcases hown.2 with ⟨rfl, hn⟩ | ⟨g, cap, cur, rfl, _, _, hnc, _⟩
      · simp [Builtin.append_, run_underlying ht, sizeOf, typeInfo, hi, Builtin.lenOf, Builtin.firstCells]
      · simp [Builtin.append_, run_underlying ht, sizeOf, typeInfo, hi, Builtin.lenOf, Builtin.firstCells, hnc, storeCells]
    refine wpList_plain hgd fun K hK => ?_
    unfold Oper.wp execOp
    simp only [ho, resolve, invoke, builtin, Sem.run_bind, Sem.run_pure, Result.andThen_ok, List.map_toArray, List.map_cons, List.map_nil, hs, hx, hrun, List.length_nil]
    exact hK _ _ (h v W (OwnR.appended (ys := []) hr rfl (by simpa using hown) h0 (grown_refl _ _) (.inl rfl)) (grown_refl _ _) (.inl rfl))
  · obtain ⟨cs, hcs, hk⟩ := hp.reps
    refine wpList_append_own_at W hgd s x t ho base e i0 z T.sz bytes ht hi hz0 hz1 hz2 hz T.pos v xs.length inner hs hown ad ys.length c cs hx hcs.len hk hcs.one (by simp only [maxLen]; omega) hl hbase ?_
    intro v1 w1 hown1 hg _ hat
    have hat' : v1.ownBlock = v.ownBlock ∨ ∃ b, v1.ownBlock = some b ∧ W.heap.size ≤ b := by
      rcases hat with hat | hat
      · exact .inl hat
      · exact .inr ⟨_, hat, Nat.le_refl _⟩
    exact h v1 w1 (OwnR.appended hr hcs hown1 h0 hg hat') hg hat'
end
end Go.Proofs.YtlmjciajpjdilaaGreat
end

section
namespace Go.Proofs.YtlmjciajpjdilaaGreat
open Go.RowKit
set_option linter.unusedVariables false

/-! ### worlds that have drawn and grown, no more -/
def Gw (w w' : World) : Prop := ∃ (q : Nat) (os' : Array Obj), w' = Go.Sort.grow (w.drewN q) os'
theorem gw_refl (w : World) : Gw w w := ⟨0, #[], by rw [Go.Sort.grow_empty]; rfl⟩
theorem gw_grow {w W : World} (h : Gw w W) (os : Array Obj) : Gw w (Go.Sort.grow W os) := by
  obtain ⟨q, os', rfl⟩ := h
  exact ⟨q, os' ++ os, by rw [Go.Sort.grow_grow]⟩
theorem gw_alloc {w W : World} (h : Gw w W) (o : Obj) : Gw w (W.alloc o) := by rw [Go.Sort.alloc_eq_grow]; exact gw_grow h _
theorem gw_drewN {w W : World} (h : Gw w W) (n : Nat) : Gw w (W.drewN n) := by
  obtain ⟨q, os', rfl⟩ := h
  exact ⟨q + n, os', by show Go.Sort.grow ((w.drewN q).drewN n) os' = _; rw [World.drewN_drewN]⟩
theorem gw_drew {w W : World} (h : Gw w W) : Gw w W.drew := gw_drewN h 1
theorem gw_step {w W w2 : World} (h : Gw w W) (k : Gw W w2) : Gw w w2 := by
  obtain ⟨q, os', rfl⟩ := k
  exact gw_grow (gw_drewN h q) os'
theorem Gw.below {w W : World} (h : Gw w W) : Below w.heap.size w W := by
  obtain ⟨q, os', rfl⟩ := h
  exact ⟨rfl, rfl, rfl, by simp, fun k hk => Go.Sort.heap_grow_old (w.drewN q) os' hk⟩

end Go.Proofs.YtlmjciajpjdilaaGreat
end

section
namespace Go.Proofs.YtlmjciajpjdilaaGreat
open Go.RowKit
set_option linter.unusedVariables false
set_option linter.unusedSimpArgs false

theorem grid_LessG (ax ay bx by_ : Int) (w : World) :
    Calls Tryz.prog 92 #[.agg #[.int .i64 ax, .int .i64 ay], .agg #[.int .i64 bx, .int .i64 by_]] w fun e w' => e = .returned (.bool (lessB (ax, ay) (bx, by_))) ∧ Gw w w' := by
  by_cases h : ax = bx
  · subst h
    go_enter Tryz.func92, Tryz.ntmps92
    go_wp2
    go_ret
    exact ⟨ret_bool (by simp [lessB]), by (repeat (first | exact gw_refl _ | refine gw_alloc ?_ _ | refine gw_drewN ?_ _ | refine gw_drew ?_))⟩
  · have h' : (ax != bx) = true := by simp [h]
    go_enter Tryz.func92, Tryz.ntmps92
    go_wp2
    go_ret
    exact ⟨ret_bool (by simp [lessB, h]), by (repeat (first | exact gw_refl _ | refine gw_alloc ?_ _ | refine gw_drewN ?_ _ | refine gw_drew ?_))⟩
abbrev sgA (a : Sg) : Value := .agg #[.int .i64 a.1.1, .int .i64 a.1.2, .int .i64 a.2.1, .int .i64 a.2.2]
abbrev ptA (a : Pt) : Value := .agg #[.int .i64 a.1, .int .i64 a.2]
theorem seg_Less (a b : Sg) (w : World) : Calls Tryz.prog 129 #[sgA a, sgA b] w fun e w' => e = .returned (.bool (lessS a b)) ∧ Gw w w' := by
  obtain ⟨⟨a1, a2⟩, ⟨a3, a4⟩⟩ := a
  obtain ⟨⟨b1, b2⟩, ⟨b3, b4⟩⟩ := b
  simp only [sgA]
  have main : ∀ (q : Bool), (if a1 = b1 then !decide (a2 = b2) else true) = q → lessS ((a1, a2), (a3, a4)) ((b1, b2), (b3, b4)) = (if q then lessB (a1, a2) (b1, b2) else lessB (a3, a4) (b3, b4)) := by
    intro q hq
    subst hq
    unfold lessS
    by_cases h1 : a1 = b1
    · by_cases h2 : a2 = b2
      · simp [h1, h2]
      · simp [h1, h2]
    · simp [h1]
  by_cases h1 : a1 = b1
  · by_cases h2 : a2 = b2
    · have HM := Lib.hid (main false (by simp [h1, h2]))
      subst h1 h2
      clear main
      go_enter Tryz.func129, Tryz.ntmps129
      go_wp2_with fail
      refine (grid_LessG _ _ _ _ _).mono ?_
      rintro e w1 ⟨rfl, hb1⟩
      go_wp2
      go_ret
      exact ⟨ret_bool HM.out.symm, by (repeat (first | exact gw_refl _ | refine gw_step ?_ hb1 | refine gw_alloc ?_ _ | refine gw_drewN ?_ _ | refine gw_drew ?_))⟩
    · have HM := Lib.hid (main true (by simp [h1, h2]))
      subst h1
      clear main
      go_enter Tryz.func129, Tryz.ntmps129
      go_wp2_with fail
      refine (grid_LessG _ _ _ _ _).mono ?_
      rintro e w1 ⟨rfl, hb1⟩
      go_wp2
      go_ret
      exact ⟨ret_bool HM.out.symm, by (repeat (first | exact gw_refl _ | refine gw_step ?_ hb1 | refine gw_alloc ?_ _ | refine gw_drewN ?_ _ | refine gw_drew ?_))⟩
  · have HM := Lib.hid (main true (by simp [h1]))
    clear main
    go_enter Tryz.func129, Tryz.ntmps129
    go_wp2_with fail
    refine (grid_LessG _ _ _ _ _).mono ?_
    rintro e w1 ⟨rfl, hb1⟩
    go_wp2
    go_ret
    exact ⟨ret_bool HM.out.symm, by (repeat (first | exact gw_refl _ | refine gw_step ?_ hb1 | refine gw_alloc ?_ _ | refine gw_drewN ?_ _ | refine gw_drew ?_))⟩
theorem noding_order (a b : Sg) (w : World) : Calls Tryz.prog 106 #[sgA a, sgA b] w fun e w' => e = .returned (.int .i64 (cmpS a b)) ∧ Gw w w' := by
  have NE := Lib.hid (fun W => seg_Less a b W)
  have HC : Hid (cmpS a b = if a = b then 0 else if lessS a b then -1 else 1) := rfl
  generalize cmpS a b = r at *
  generalize lessS a b = l at *
  obtain ⟨⟨a1, a2⟩, ⟨a3, a4⟩⟩ := a
  obtain ⟨⟨b1, b2⟩, ⟨b3, b4⟩⟩ := b
  simp only [sgA] at *
  by_cases h1 : a1 = b1
  · by_cases h2 : a2 = b2
    · by_cases h3 : a3 = b3
      · by_cases h4 : a4 = b4
        · subst h1 h2 h3 h4
          have HR : Hid (r = 0) := by have := HC.out; rwa [if_pos rfl] at this
          clear HC NE
          go_enter Tryz.func106, Tryz.ntmps106
          go_wp2
          go_ret
          exact ⟨ret_int HR.out.symm, by (repeat (first | exact gw_refl _ | refine gw_alloc ?_ _ | refine gw_drewN ?_ _ | refine gw_drew ?_))⟩
        · have HN : Hid (¬ (((a1, a2), (a3, a4)) : Sg) = ((b1, b2), (b3, b4))) := by show ¬ _; simp [h4]
          subst h1 h2 h3
          cases hl : l
          · have SL := Lib.hid (fun W => by have := NE.out W; rw [hl] at this; exact this)
            have HR : Hid (r = 1) := Lib.hid (by have := HC.out; rw [if_neg HN.out, hl] at this; simpa using this)
            clear NE HC HN hl
            go_enter Tryz.func106, Tryz.ntmps106
            go_wp2_with fail
            refine (SL.out _).mono ?_
            rintro e w1 ⟨rfl, hb1⟩
            go_wp2
            go_ret
            exact ⟨ret_int HR.out.symm, by (repeat (first | exact gw_refl _ | refine gw_step ?_ hb1 | refine gw_alloc ?_ _ | refine gw_drewN ?_ _ | refine gw_drew ?_))⟩
          · have SL := Lib.hid (fun W => by have := NE.out W; rw [hl] at this; exact this)
            have HR : Hid (r = -1) := Lib.hid (by have := HC.out; rw [if_neg HN.out, hl] at this; simpa using this)
            clear NE HC HN hl
            go_enter Tryz.func106, Tryz.ntmps106
            go_wp2_with fail
            refine (SL.out _).mono ?_
            rintro e w1 ⟨rfl, hb1⟩
            go_wp2
            go_ret
            exact ⟨ret_int HR.out.symm, by (repeat (first | exact gw_refl _ | refine gw_step ?_ hb1 | refine gw_alloc ?_ _ | refine gw_drewN ?_ _ | refine gw_drew ?_))⟩
      · have HN : Hid (¬ (((a1, a2), (a3, a4)) : Sg) = ((b1, b2), (b3, b4))) := by show ¬ _; simp [h3]
        subst h1 h2
        cases hl : l
        · have SL := Lib.hid (fun W => by have := NE.out W; rw [hl] at this; exact this)
          have HR : Hid (r = 1) := Lib.hid (by have := HC.out; rw [if_neg HN.out, hl] at this; simpa using this)
          clear NE HC HN hl
          go_enter Tryz.func106, Tryz.ntmps106
          go_wp2_with fail
          refine (SL.out _).mono ?_
          rintro e w1 ⟨rfl, hb1⟩
          go_wp2
          go_ret
          exact ⟨ret_int HR.out.symm, by (repeat (first | exact gw_refl _ | refine gw_step ?_ hb1 | refine gw_alloc ?_ _ | refine gw_drewN ?_ _ | refine gw_drew ?_))⟩
        · have SL := Lib.hid (fun W => by have := NE.out W; rw [hl] at this; exact this)
          have HR : Hid (r = -1) := Lib.hid (by have := HC.out; rw [if_neg HN.out, hl] at this; simpa using this)
          clear NE HC HN hl
          go_enter Tryz.func106, Tryz.ntmps106
          go_wp2_with fail
          refine (SL.out _).mono ?_
          rintro e w1 ⟨rfl, hb1⟩
          go_wp2
          go_ret
          exact ⟨ret_int HR.out.symm, by (repeat (first | exact gw_refl _ | refine gw_step ?_ hb1 | refine gw_alloc ?_ _ | refine gw_drewN ?_ _ | refine gw_drew ?_))⟩
    · have HN : Hid (¬ (((a1, a2), (a3, a4)) : Sg) = ((b1, b2), (b3, b4))) := by show ¬ _; simp [h2]
      subst h1
      cases hl : l
      · have SL := Lib.hid (fun W => by have := NE.out W; rw [hl] at this; exact this)
        have HR : Hid (r = 1) := Lib.hid (by have := HC.out; rw [if_neg HN.out, hl] at this; simpa using this)
        clear NE HC HN hl
        go_enter Tryz.func106, Tryz.ntmps106
        go_wp2_with fail
        refine (SL.out _).mono ?_
        rintro e w1 ⟨rfl, hb1⟩
        go_wp2
        go_ret
        exact ⟨ret_int HR.out.symm, by (repeat (first | exact gw_refl _ | refine gw_step ?_ hb1 | refine gw_alloc ?_ _ | refine gw_drewN ?_ _ | refine gw_drew ?_))⟩
      · have SL := Lib.hid (fun W => by have := NE.out W; rw [hl] at this; exact this)
        have HR : Hid (r = -1) := Lib.hid (by have := HC.out; rw [if_neg HN.out, hl] at this; simpa using this)
        clear NE HC HN hl
        go_enter Tryz.func106, Tryz.ntmps106
        go_wp2_with fail
        refine (SL.out _).mono ?_
        rintro e w1 ⟨rfl, hb1⟩
        go_wp2
        go_ret
        exact ⟨ret_int HR.out.symm, by (repeat (first | exact gw_refl _ | refine gw_step ?_ hb1 | refine gw_alloc ?_ _ | refine gw_drewN ?_ _ | refine gw_drew ?_))⟩
  · have HN : Hid (¬ (((a1, a2), (a3, a4)) : Sg) = ((b1, b2), (b3, b4))) := by show ¬ _; simp [h1]
    cases hl : l
    · have SL := Lib.hid (fun W => by have := NE.out W; rw [hl] at this; exact this)
      have HR : Hid (r = 1) := Lib.hid (by have := HC.out; rw [if_neg HN.out, hl] at this; simpa using this)
      clear NE HC HN hl
      go_enter Tryz.func106, Tryz.ntmps106
      go_wp2_with fail
      refine (SL.out _).mono ?_
      rintro e w1 ⟨rfl, hb1⟩
      go_wp2
      go_ret
      exact ⟨ret_int HR.out.symm, by (repeat (first | exact gw_refl _ | refine gw_step ?_ hb1 | refine gw_alloc ?_ _ | refine gw_drewN ?_ _ | refine gw_drew ?_))⟩
    · have SL := Lib.hid (fun W => by have := NE.out W; rw [hl] at this; exact this)
      have HR : Hid (r = -1) := Lib.hid (by have := HC.out; rw [if_neg HN.out, hl] at this; simpa using this)
      clear NE HC HN hl
      go_enter Tryz.func106, Tryz.ntmps106
      go_wp2_with fail
      refine (SL.out _).mono ?_
      rintro e w1 ⟨rfl, hb1⟩
      go_wp2
      go_ret
      exact ⟨ret_int HR.out.symm, by (repeat (first | exact gw_refl _ | refine gw_step ?_ hb1 | refine gw_alloc ?_ _ | refine gw_drewN ?_ _ | refine gw_drew ?_))⟩
theorem split_order (a b : Pt) (w : World) : Calls Tryz.prog 108 #[ptA a, ptA b] w fun e w' => e = .returned (.int .i64 (cmpP a b)) ∧ Gw w w' := by
  have NE := Lib.hid (fun W => grid_LessG a.1 a.2 b.1 b.2 W)
  have HC : Hid (cmpP a b = if a = b then 0 else if lessB (a.1, a.2) (b.1, b.2) then -1 else 1) := rfl
  generalize cmpP a b = r at *
  generalize lessB (a.1, a.2) (b.1, b.2) = l at *
  obtain ⟨a1, a2⟩ := a
  obtain ⟨b1, b2⟩ := b
  simp only [ptA] at *
  by_cases h1 : a1 = b1
  · by_cases h2 : a2 = b2
    · subst h1 h2
      have HR : Hid (r = 0) := by have := HC.out; rwa [if_pos rfl] at this
      clear HC NE
      go_enter Tryz.func108, Tryz.ntmps108
      go_wp2
      go_ret
      exact ⟨ret_int HR.out.symm, by (repeat (first | exact gw_refl _ | refine gw_alloc ?_ _ | refine gw_drewN ?_ _ | refine gw_drew ?_))⟩
    · have HN : Hid (¬ ((a1, a2) : Pt) = (b1, b2)) := by show ¬ _; simp [h2]
      subst h1
      cases hl : l
      · have SL := Lib.hid (fun W => by have := NE.out W; rw [hl] at this; exact this)
        have HR : Hid (r = 1) := Lib.hid (by have := HC.out; rw [if_neg HN.out, hl] at this; simpa using this)
        clear NE HC HN hl
        go_enter Tryz.func108, Tryz.ntmps108
        go_wp2_with fail
        refine (SL.out _).mono ?_
        rintro e w1 ⟨rfl, hb1⟩
        go_wp2
        go_ret
        exact ⟨ret_int HR.out.symm, by (repeat (first | exact gw_refl _ | refine gw_step ?_ hb1 | refine gw_alloc ?_ _ | refine gw_drewN ?_ _ | refine gw_drew ?_))⟩
      · have SL := Lib.hid (fun W => by have := NE.out W; rw [hl] at this; exact this)
        have HR : Hid (r = -1) := Lib.hid (by have := HC.out; rw [if_neg HN.out, hl] at this; simpa using this)
        clear NE HC HN hl
        go_enter Tryz.func108, Tryz.ntmps108
        go_wp2_with fail
        refine (SL.out _).mono ?_
        rintro e w1 ⟨rfl, hb1⟩
        go_wp2
        go_ret
        exact ⟨ret_int HR.out.symm, by (repeat (first | exact gw_refl _ | refine gw_step ?_ hb1 | refine gw_alloc ?_ _ | refine gw_drewN ?_ _ | refine gw_drew ?_))⟩
  · have HN : Hid (¬ ((a1, a2) : Pt) = (b1, b2)) := by show ¬ _; simp [h1]
    cases hl : l
    · have SL := Lib.hid (fun W => by have := NE.out W; rw [hl] at this; exact this)
      have HR : Hid (r = 1) := Lib.hid (by have := HC.out; rw [if_neg HN.out, hl] at this; simpa using this)
      clear NE HC HN hl
      go_enter Tryz.func108, Tryz.ntmps108
      go_wp2_with fail
      refine (SL.out _).mono ?_
      rintro e w1 ⟨rfl, hb1⟩
      go_wp2
      go_ret
      exact ⟨ret_int HR.out.symm, by (repeat (first | exact gw_refl _ | refine gw_step ?_ hb1 | refine gw_alloc ?_ _ | refine gw_drewN ?_ _ | refine gw_drew ?_))⟩
    · have SL := Lib.hid (fun W => by have := NE.out W; rw [hl] at this; exact this)
      have HR : Hid (r = -1) := Lib.hid (by have := HC.out; rw [if_neg HN.out, hl] at this; simpa using this)
      clear NE HC HN hl
      go_enter Tryz.func108, Tryz.ntmps108
      go_wp2_with fail
      refine (SL.out _).mono ?_
      rintro e w1 ⟨rfl, hb1⟩
      go_wp2
      go_ret
      exact ⟨ret_int HR.out.symm, by (repeat (first | exact gw_refl _ | refine gw_step ?_ hb1 | refine gw_alloc ?_ _ | refine gw_drewN ?_ _ | refine gw_drew ?_))⟩
theorem ltS (x y : Sg) : decide (cmpS x y < 0) = lessS x y := by
  unfold cmpS
  by_cases h : x = y
  · subst h; rw [if_pos rfl, totS.irr]; rfl
  · rw [if_neg h]; cases lessS x y <;> rfl
theorem ltP (x y : Pt) : decide (cmpP x y < 0) = lessB x y := by
  unfold cmpP
  by_cases h : x = y
  · subst h; rw [if_pos rfl, totB.irr]; rfl
  · rw [if_neg h]; cases lessB x y <;> rfl
theorem ltR (x y : Pts) : decide (cmpR x y < 0) = lessR x y := by
  unfold cmpR
  cases lessR x y
  · cases lessR y x <;> rfl
  · rfl
end Go.Proofs.YtlmjciajpjdilaaGreat
end

section
namespace Go.Proofs.YtlmjciajpjdilaaGreat
open Go.RowKit
set_option linter.unusedVariables false
set_option linter.unusedSimpArgs false

theorem Row.of_reps {α : Type} {T : Ty α} {ok : Nat → Prop} {w : World} {g : Nat} {xs : List α} {cs : List Value} (hl : xs.length ≤ 9223372036854775807) (hg : ok g) (h : Reps T ok w xs cs) (hc : ∀ j u, cs[j]? = some u → w.cell? ⟨g, j, none⟩ = some u) : Row T ok w (some ⟨g, 0, none⟩) xs :=
  ⟨hl, fun _ => ⟨_, rfl, hg, fun i x hx => by
    obtain ⟨c, hr, hk⟩ := h.get i x hx
    exact ⟨c, hr, fun j u hu => by rw [add_at, Nat.zero_add]; exact hc _ _ (hk j u hu)⟩⟩⟩

/-- copy(dst, src) of n elements into a row that is known whole. -/
theorem wpList_copyT {P : Program} {ops : Array Oper} {rest : List Oper} {o : Oper} {a : Act} {Q : Exit → Act → World → Prop} {α : Type} (T : Ty α) {W : World} (hgd : o.guard = none) (d s : Operand) (dT sT elem : TypeId)
    (ho : o.op = .call { callee := .builtin .copy, args := #[d, s], argTypes := #[dT, sT] }) (hu : P.underlying dT = some (.slice elem)) (hsz : (P.info? elem).map (·.size) = some T.sz)
    (g n m dCap sCap : Nat) (A : Option Addr) (hd : a.eval d = .slice (some ⟨g, 0, none⟩) m dCap) (hs : a.eval s = .slice A n sCap) (hm : m = n)
    (cur : Array Value) (t : TypeId) (hg : W.heap[g]? = some (.cells cur t (0, 0))) (xs : List α) (hn : n = xs.length) (ok : Nat → Prop) (hr : Row T ok W A xs) (hok : ¬ ok g) (hfit : n * T.sz ≤ cur.size)
    (h : ∀ w', KeptS (fun k => k = g) W w' → w'.heap.size = W.heap.size → Row T (fun k => k = g ∨ ok k) w' (some ⟨g, 0, none⟩) xs → wpList P ops Q rest (a.put o.dst (goInt n)) w') :
    wpList P ops Q (o :: rest) a W := by
  subst hm hn
  obtain ⟨i, hi, hz⟩ := Option.map_eq_some_iff.1 hsz
  have main : ∀ cs : List Value, Reps T ok W xs cs → (Builtin.firstCells T.sz xs.length (.slice A xs.length sCap)).run P W = .ok cs.toArray W → wpList P ops Q (o :: rest) a W := by
    intro cs hcs hload
    have hl := hcs.len
    have hst := run_storeCells_at P g 0 t cs 0 cur W hg (by simp; omega) hcs.one
    have hrun : (Builtin.copy_ #[dT, sT] o.type #[.slice (some ⟨g, 0, none⟩) xs.length dCap, .slice A xs.length sCap]).run P W = .ok (goInt xs.length) (W.setRow g (cur.toList.take 0 ++ cs ++ cur.toList.drop (0 + 0 + cs.length)).toArray) := by
      have hmin : Nat.min xs.length xs.length = xs.length := Nat.min_self _
      simp [Builtin.copy_, run_underlying hu, Builtin.lenOf, sizeOf, typeInfo, hi, hz, hmin, hload] at hst ⊢
      simp [hst]
    refine wpList_plain hgd fun K hK => ?_
    unfold Oper.wp
    simp only [execOp, ho, resolve, invoke, builtin, Sem.run_bind, Sem.run_pure, Result.andThen_ok, List.map_toArray, List.map_cons, List.map_nil, hd, hs, hrun]
    have hk : KeptS (fun k => k = g) W (W.setRow g (cur.toList.take 0 ++ cs ++ cur.toList.drop (0 + 0 + cs.length)).toArray) :=
      ⟨rfl, rfl, rfl, by simp, fun k _ hk => setRow_other W g k _ hk⟩
    refine hK _ _ (h _ hk (by simp) (Row.of_reps hr.len (.inl rfl) (hcs.imp (fun x c hc => T.mono (fun k hk => .inr hk) (T.step hc (fun k hk _ => setRow_other W g k _ (fun e => hok (e ▸ hk)))))) (fun j u hu => ?_)))
    rw [cell_setRow_same W g j cur _ t (0, 0) hg]
    have hj := (List.getElem?_eq_some_iff.1 hu).1
    simp only [List.take_zero, List.nil_append, List.getElem?_toArray]
    rw [List.getElem?_append_left hj]; exact hu
  rcases A with _ | ad
  · have hx : xs = [] := by
      rcases Nat.eq_zero_or_pos xs.length with hy | hy
      · exact List.eq_nil_of_length_eq_zero hy
      · obtain ⟨ad, e, _⟩ := hr.2 hy
        cases e
    subst hx
    exact main [] rfl (by simp [Builtin.firstCells])
  · obtain ⟨cs, hcs, hk⟩ := hr.reps
    refine main cs hcs ?_
    have := run_loadCells_list (P := P) W ad cs hk
    rw [hcs.len] at this
    simpa [Builtin.firstCells] using this

/-- append(v, x) at a step of a region that draws its order. -/
theorem step_one {P : Program} {ops : Array Oper} {o : Oper} {a : Act} {Q : Exit → Act → World → Prop} {K : Act → World → Prop} {E : Prop} {α : Type} (T : Ty α) {W : World} {g : Nat} (base : Nat) (hgd : o.guard = none) (s x : Operand) (t e : TypeId) (z : Value) (bytes : Nat)
    (ho : o.op = .call { callee := .builtin .append, args := #[s, x], argTypes := #[t, t] })
    (ht : P.underlying t = some (.slice e)) (hinfo : (P.info? e).map (fun i => (i.zero, i.size, i.bytes)) = some (some z, T.sz, bytes)) (hz : z.cells.size = T.sz) (hb0 : 0 < bytes)
    (v : Value) (xs : List α) (y : α) (cs : List Value) (M : Nat → Prop) (hs : a.eval s = v) (hx : a.eval x = .slice (some ⟨g, 0, none⟩) 1 1) (hgs : g = W.heap.size)
    (hp : T.R (fun k => ¬ M k) W y cs) (HO : OwnR T e base M W v xs) (hbase : base ≤ W.heap.size) (hl : (xs.length + 1) * bytes ≤ 140737488355328)
    (h : ∀ v1 w1, OwnR T e base (fun k => M k ∨ v1.ownBlock = some k) w1 v1 (xs ++ [y]) → W.grownBy w1 v.ownBlock → (v1.ownBlock = v.ownBlock ∨ ∃ b, v1.ownBlock = some b ∧ W.heap.size ≤ b) → K (a.put o.dst v1) w1) :
    if Region.wanted o (yielded ops a.tmps) = true then Oper.wp P o a (W.alloc (.cells cs.toArray e)) K Q else E := by
  subst hgs
  obtain ⟨h0, inner, hown, hr⟩ := HO
  obtain ⟨i0, hi, hzz⟩ := Option.map_eq_some_iff.1 hinfo
  simp only [Prod.mk.injEq] at hzz
  obtain ⟨hz0, hz1, hz2⟩ := hzz
  have hlen : xs.length + 1 ≤ 140737488355328 := Nat.le_trans (Nat.le_mul_of_pos_right _ hb0) hl
  refine step_append_lies (w := W.alloc (.cells cs.toArray e)) hgd s x t ho base e i0 z T.sz bytes ht hi hz0 hz1 hz2 hz T.pos v xs.length inner hs (hown.alloc _) ⟨W.heap.size, 0, none⟩ 1 1 cs hx (by rw [T.len hp, Nat.one_mul])
    (by simpa using World.news_of_block (cs := cs.toArray) (t := e) (fr := (0, 0)) (heap_alloc_new W (.cells cs.toArray e))) (T.one hp) (by decide) (by simp only [maxLen]; omega) hl (by simp; omega) _ rfl ?_
  intro b cap w1 hown1 hg hat _
  have hg' : W.grownBy w1 v.ownBlock := World.grownBy.trans (World.grownBy_alloc W _ _) hg
  have hat' : (Value.slice (some ⟨b, 0, none⟩) (xs.length + 1) cap).ownBlock = v.ownBlock ∨ ∃ b', (Value.slice (some ⟨b, 0, none⟩) (xs.length + 1) cap).ownBlock = some b' ∧ W.heap.size ≤ b' := by
    rcases hat with hat | hat
    · exact .inl (by rw [hat]; rfl)
    · exact .inr ⟨_, rfl, by rw [hat]; simp⟩
  exact h _ w1 (OwnR.appended (ys := [y]) hr (Reps.single hp) hown1 h0 hg' hat') hg' hat'

end Go.Proofs.YtlmjciajpjdilaaGreat
end
