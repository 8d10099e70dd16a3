/- Contracts of the small geometric functions: grid.Valid, grid.Less, seg.valid, seg.Turn, seg.Of, seg.On, poly.crosses; and of their twins in the references. -/
import Derived.Test.YtlmjciajpjdilaaProg
import Derived.Test.YtlmjciajpjdilaaBase
namespace Go.Proofs.Ytlmjciajpjdilaa
open Go.RowKit

def lessB (a b : Pt) : Bool := if a.1 = b.1 then decide (a.2 < b.2) else decide (a.1 < b.1)
def validB (p : Pt) : Bool := decide (0 ≤ p.1 ∧ p.1 < 32768 ∧ 0 ≤ p.2 ∧ p.2 < 32768)
def crossZ (a b c : Pt) : Int := (b.1 - a.1) * (c.2 - a.2) - (b.2 - a.2) * (c.1 - a.1)
def turnZ (a b c : Pt) : Int := if validB a && validB b && validB c then crossZ a b c else 0
def ofB (a b : Pt) : Sg := if lessB b a then (b, a) else (a, b)

theorem valid_bd {p : Pt} (h : validB p = true) : 0 ≤ p.1 ∧ p.1 < 32768 ∧ 0 ≤ p.2 ∧ p.2 < 32768 := by simpa [validB] using h
theorem mul_bd {a b : Int} (h1 : -32768 ≤ a) (h2 : a ≤ 32768) (h3 : -32768 ≤ b) (h4 : b ≤ 32768) : -1073741824 ≤ a * b ∧ a * b ≤ 1073741824 := by
  have h : (a * b).natAbs ≤ 32768 * 32768 := by rw [Int.natAbs_mul]; exact Nat.mul_le_mul (by omega) (by omega)
  omega
theorem cross_wrap {m n : Int} (h1 : -1073741824 ≤ m ∧ m ≤ 1073741824) (h2 : -1073741824 ≤ n ∧ n ≤ 1073741824) : wrap64 (wrap64 m - wrap64 n) = m - n := by
  have e1 : wrap64 m = m := by unfold wrap64; omega
  have e2 : wrap64 n = n := by unfold wrap64; omega
  rw [e1, e2]; unfold wrap64; omega

theorem grid_Less (ax ay bx by_ : Int) (w : World) :
    Calls Try.prog 33 #[.agg #[.int .i64 ax, .int .i64 ay], .agg #[.int .i64 bx, .int .i64 by_]] w fun e w' => e = .returned (.bool (lessB (ax, ay) (bx, by_))) ∧ Below w.heap.size w w' := by
  by_cases h : ax = bx
  · subst h
    go_enter Try.func33, Try.ntmps33
    go_wp2
    go_ret
    exact ⟨ret_bool (by simp [lessB]), (by repeat (first | exact Below.refl _ _ | apply below_alloc | apply below_drewN | apply below_drew | (refine below_set2 ?_ ?_; (first | (simp; done) | (simp; omega)))))⟩
  · have h' : (ax != bx) = true := by simp [h]
    go_enter Try.func33, Try.ntmps33
    go_wp2
    go_ret
    exact ⟨ret_bool (by simp [lessB, h]), (by repeat (first | exact Below.refl _ _ | apply below_alloc | apply below_drewN | apply below_drew | (refine below_set2 ?_ ?_; (first | (simp; done) | (simp; omega)))))⟩
theorem grid_Valid (ax ay : Int) (w : World) :
    Calls Try.prog 20 #[.agg #[.int .i64 ax, .int .i64 ay]] w fun e w' => e = .returned (.bool (validB (ax, ay))) ∧ Below w.heap.size w w' := by
  go_enter Try.func20, Try.ntmps20
  go_wp2
  all_goals go_ret
  all_goals refine ⟨ret_bool ?_, (by repeat (first | exact Below.refl _ _ | apply below_alloc | apply below_drewN | apply below_drew | (refine below_set2 ?_ ?_; (first | (simp; done) | (simp; omega)))))⟩
  all_goals simp [validB, *]
  all_goals (intros; omega)

theorem take_snoc {α : Type} (xs : List α) (k : Nat) (d : α) (h : k < xs.length) : xs.take (k + 1) = xs.take k ++ [xs.getD k d] := by
  rw [List.take_succ_eq_append_getElem h]; simp [h]
theorem all_true {α : Type} {p : α → Bool} {xs : List α} (h : (xs.take xs.length).all p = true) : xs.all p = true := by rwa [List.take_length] at h
theorem all_false {α : Type} {p : α → Bool} {xs : List α} {k : Nat} (d : α) (h : k < xs.length) (hp : p (xs.getD k d) = false) : xs.all p = false := by
  rw [List.all_eq_false]
  exact ⟨xs[k], by simp, by simpa [h] using hp⟩

theorem seg_valid {ok : Nat → Prop} (xs : Pts) (A : Option Addr) (n c : Nat) (w : World) (hr : Row Ty.pt ok w A xs) (hn : n = xs.length) :
    Calls Try.prog 37 #[.slice A n c] w fun e w' => e = .returned (.bool (xs.all validB)) ∧ Below w.heap.size w w' := by
  subst hn
  have hm := hr.len
  go_enter Try.func37, Try.ntmps37
  go_wp2
  go_loopw [7] (fun i wr => ∃ k : Nat, k ≤ xs.length ∧ i = .int .i64 k ∧ Below w.heap.size w wr ∧ Hid ((xs.take k).all validB = true)) (fun i _ => xs.length - (intOf i).toNat)
  case atStart => exact ⟨0, Nat.zero_le _, rfl, Below.refl _ _, by simp [Hid]⟩
  case round =>
    obtain ⟨k, hk, rfl, hb, hall⟩ := hrel
    by_cases hlt : k < xs.length
    · obtain ⟨ad, rfl, hc1, hc2⟩ := (hr.below hb).pt_at k hlt
      have hz := hb.size
      cases hv : validB (ptD xs k)
      · have hv' : validB ((ptD xs k).1, (ptD xs k).2) = false := hv
        have HV := Lib.hid hv
        clear hv
        go_wp2_with (go_at_call 20; refine (grid_Valid _ _ _).mono ?_; rintro e w1 ⟨rfl, hb1⟩)
        go_ret
        exact ⟨ret_bool (all_false _ hlt HV.out).symm, (by repeat (first | exact Below.refl _ _ | apply below_alloc | apply below_drewN | apply below_drew | (refine below_set2 ?_ ?_; (first | (simp; done) | (simp; omega))) | (refine below_step ?_ hb1) | (refine below_step ?_ hb)))⟩
      · have hv' : validB ((ptD xs k).1, (ptD xs k).2) = true := hv
        have HV := Lib.hid hv
        clear hv
        go_wp2_with (go_at_call 20; refine (grid_Valid _ _ _).mono ?_; rintro e w1 ⟨rfl, hb1⟩)
        go_roundw
        case rel => exact ⟨k + 1, by omega, by go_num, (by repeat (first | exact Below.refl _ _ | apply below_alloc | apply below_drewN | apply below_drew | (refine below_set2 ?_ ?_; (first | (simp; done) | (simp; omega))) | (refine below_step ?_ hb1) | (refine below_step ?_ hb))), by show _ = true; rw [take_snoc _ _ (0, 0) hlt, List.all_append, hall.out]; simpa [ptD] using HV.out⟩
        case measure => simp [intOf]; omega
    · go_wp2
      go_ret
      exact ⟨ret_bool (by rw [List.take_of_length_le (by omega)] at hall; exact hall.out.symm), hb⟩

theorem seg_Turn (ax ay bx by_ cx cy : Int) (w : World) :
    Calls Try.prog 38 #[.agg #[.int .i64 ax, .int .i64 ay], .agg #[.int .i64 bx, .int .i64 by_], .agg #[.int .i64 cx, .int .i64 cy]] w fun e w' => e = .returned (.int .i64 (turnZ (ax, ay) (bx, by_) (cx, cy))) ∧ Below w.heap.size w w' := by
  have hlit : ∀ (W : World) (g : Nat), g = W.heap.size → Row Ty.pt (fun _ => True) (W.alloc (.cells #[.int .i64 ax, .int .i64 ay, .int .i64 bx, .int .i64 by_, .int .i64 cx, .int .i64 cy] 25)) (some ⟨g, 0, none⟩) [(ax, ay), (bx, by_), (cx, cy)] :=
    fun W g hg => hg ▸ Row.pt_lit W [(ax, ay), (bx, by_), (cx, cy)] _ _ trivial (by simp)
  have HL := Lib.hid hlit
  clear hlit
  cases hv : [(ax, ay), (bx, by_), (cx, cy)].all validB
  · have HV := Lib.hid hv
    go_enter Try.func38, Try.ntmps38
    go_wp2_with (go_at_call 37; refine (seg_valid [(ax, ay), (bx, by_), (cx, cy)] _ _ _ _ (HL.out _ _ (by simp)) rfl).mono ?_; rintro e w1 ⟨rfl, hb1⟩)
    go_ret
    refine ⟨ret_int ?_, (by repeat (first | exact Below.refl _ _ | apply below_alloc | apply below_drewN | apply below_drew | (refine below_set2 ?_ ?_; (first | (simp; done) | (simp; omega))) | (refine below_step ?_ hb1)))⟩
    have h := HV.out
    simp only [List.all_cons, List.all_nil, Bool.and_true] at h
    simp only [turnZ, Bool.and_assoc, h]; simp
  · have HV := Lib.hid hv
    obtain ⟨va, vb, vc⟩ : validB (ax, ay) = true ∧ validB (bx, by_) = true ∧ validB (cx, cy) = true := by simpa using hv
    have VA := Lib.hid va
    have VB := Lib.hid vb
    have VC := Lib.hid vc
    obtain ⟨a1, a2, a3, a4⟩ := valid_bd va
    obtain ⟨b1, b2, b3, b4⟩ := valid_bd vb
    obtain ⟨c1, c2, c3, c4⟩ := valid_bd vc
    clear va vb vc
    simp only at a1 a2 a3 a4 b1 b2 b3 b4 c1 c2 c3 c4
    go_enter Try.func38, Try.ntmps38
    go_wp2_with (go_at_call 37; refine (seg_valid [(ax, ay), (bx, by_), (cx, cy)] _ _ _ _ (HL.out _ _ (by simp)) rfl).mono ?_; rintro e w1 ⟨rfl, hb1⟩; obtain ⟨hc, hf⟩ := bcell hb1)
    go_ret
    refine ⟨ret_int ?_, (by repeat (first | exact Below.refl _ _ | apply below_alloc | apply below_drewN | apply below_drew | (refine below_set2 ?_ ?_; (first | (simp; done) | (simp; omega))) | (refine below_step ?_ hb1)))⟩
    simp only [turnZ, VA.out, VB.out, VC.out, Bool.and_true, if_true, crossZ]
    rw [cross_wrap (mul_bd (a := bx - ax) (b := cy - ay) (by omega) (by omega) (by omega) (by omega)) (mul_bd (a := by_ - ay) (b := cx - ax) (by omega) (by omega) (by omega) (by omega))]

theorem seg_Of (ax ay bx by_ : Int) (w : World) :
    Calls Try.prog 39 #[.agg #[.int .i64 ax, .int .i64 ay], .agg #[.int .i64 bx, .int .i64 by_]] w fun e w' =>
      e = .returned (.agg #[.int .i64 (ofB (ax, ay) (bx, by_)).1.1, .int .i64 (ofB (ax, ay) (bx, by_)).1.2, .int .i64 (ofB (ax, ay) (bx, by_)).2.1, .int .i64 (ofB (ax, ay) (bx, by_)).2.2]) ∧ Below w.heap.size w w' := by
  cases hv : lessB (bx, by_) (ax, ay)
  · have HV := Lib.hid hv
    go_enter Try.func39, Try.ntmps39
    go_wp2_with (go_at_call 33; (refine (grid_Less _ _ _ _ _).mono ?_; rintro e w1 ⟨rfl, hb1⟩; obtain ⟨c_hb1, f_hb1⟩ := bcell hb1; have z_hb1 := hb1.size; (try simp at z_hb1); (try have y0_hb1 : w.heap.size < w1.heap.size := by omega); (try have y1_hb1 : w.heap.size + 1 < w1.heap.size := by omega); (try have y2_hb1 : w.heap.size + 1 + 1 < w1.heap.size := by omega); (try have y3_hb1 : w.heap.size + 1 + 1 + 1 < w1.heap.size := by omega); (try have y4_hb1 : w.heap.size + 1 + 1 + 1 + 1 < w1.heap.size := by omega)))
    exact bodyPost_ret (v := .agg #[.int .i64 ax, .int .i64 ay, .int .i64 bx, .int .i64 by_]) (by simp [results, Try.results39]; go_simp) rfl ⟨by simp [ofB, HV.out], (by repeat (first | exact Below.refl _ _ | apply below_alloc | apply below_drewN | apply below_drew | (refine below_set2 ?_ ?_; (first | (simp; done) | (simp; omega))) | (refine below_step ?_ hb1)))⟩
  · have HV := Lib.hid hv
    go_enter Try.func39, Try.ntmps39
    go_wp2_with (go_at_call 33; (refine (grid_Less _ _ _ _ _).mono ?_; rintro e w1 ⟨rfl, hb1⟩; obtain ⟨c_hb1, f_hb1⟩ := bcell hb1; have z_hb1 := hb1.size; (try simp at z_hb1); (try have y0_hb1 : w.heap.size < w1.heap.size := by omega); (try have y1_hb1 : w.heap.size + 1 < w1.heap.size := by omega); (try have y2_hb1 : w.heap.size + 1 + 1 < w1.heap.size := by omega); (try have y3_hb1 : w.heap.size + 1 + 1 + 1 < w1.heap.size := by omega); (try have y4_hb1 : w.heap.size + 1 + 1 + 1 + 1 < w1.heap.size := by omega)))
    exact bodyPost_ret (v := .agg #[.int .i64 bx, .int .i64 by_, .int .i64 ax, .int .i64 ay]) (by simp [results, Try.results39]; go_simp) rfl ⟨by simp [ofB, HV.out], (by repeat (first | exact Below.refl _ _ | apply below_alloc | apply below_drewN | apply below_drew | (refine below_set2 ?_ ?_; (first | (simp; done) | (simp; omega))) | (refine below_step ?_ hb1)))⟩

end Go.Proofs.Ytlmjciajpjdilaa
