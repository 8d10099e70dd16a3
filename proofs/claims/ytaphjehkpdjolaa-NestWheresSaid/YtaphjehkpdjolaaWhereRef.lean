/- Contract of the reference's Where. -/
import Derived.Test.YtaphjehkpdjolaaWhere
namespace Go.Proofs.Ytaphjehkpdjolaa
open Go.RowKit
set_option linter.unusedVariables false
set_option linter.unusedSimpArgs false

set_option maxHeartbeats 1000000 in
theorem ref11_Where {ok : Nat → Prop} (xs : Pts) (A : Option Addr) (n c : Nat) (px py : Int) (w : World) (hr : Row Ty.pt ok w A xs) (hn : n = xs.length) :
    Calls Try.prog 32 #[.slice A n c, .agg #[.int .i64 px, .int .i64 py]] w fun e w' => e = .returned (.int .i64 (whereZ xs (px, py))) ∧ Below w.heap.size w w' := by
  have HR := Lib.hid hr
  have HN := Lib.hid hn
  have hm := hr.len
  clear hr
  by_cases h3 : n < 3
  · clear hn
    go_enter Try.func32, Try.ntmps32
    go_wp2
    go_ret
    refine ⟨ret_int ?_, (by repeat (first | exact Below.refl _ _ | apply below_alloc | apply below_drewN | apply below_drew | (refine below_set2 ?_ ?_; (first | (simp; done) | (simp; omega)))))⟩
    have := HN.out
    simp only [whereZ]
    rw [show decide (3 ≤ xs.length) = false from by simp; omega]; rfl
  · have h3' : Hid (decide (3 ≤ xs.length) = true) := by show _ = true; simp; omega
    subst hn
    cases hv : xs.all validB
    · have HV := Lib.hid hv
      go_enter Try.func32, Try.ntmps32
      go_wp2_with fail
      (refine (ref08_All xs A _ c _ (HR.out.alloc _) rfl).mono ?_; rintro e w1 ⟨rfl, hb1⟩)
      go_wp2
      go_ret
      exact ⟨ret_int (by simp [whereZ, HV.out]), (by repeat (first | exact Below.refl _ _ | apply below_alloc | apply below_drewN | apply below_drew | (refine below_set2 ?_ ?_; (first | (simp; done) | (simp; omega))) | (refine below_step ?_ hb1)))⟩
    · have HV := Lib.hid hv
      cases hp : validB (px, py)
      · have HP := Lib.hid hp
        go_enter Try.func32, Try.ntmps32
        go_wp2_with fail
        (refine (ref08_All xs A _ c _ (HR.out.alloc _) rfl).mono ?_; rintro e w1 ⟨rfl, hb1⟩; obtain ⟨c_hb1, f_hb1⟩ := bcell hb1; have z_hb1 := hb1.size; (try simp at z_hb1); (try have y0_hb1 : w.heap.size < w1.heap.size := by omega); (try have y1_hb1 : w.heap.size + 1 < w1.heap.size := by omega); (try have y2_hb1 : w.heap.size + 1 + 1 < w1.heap.size := by omega); (try have y3_hb1 : w.heap.size + 1 + 1 + 1 < w1.heap.size := by omega); (try have y4_hb1 : w.heap.size + 1 + 1 + 1 + 1 < w1.heap.size := by omega))
        go_wp2_with fail
        (refine (ref08_Valid _ _ _).mono ?_; rintro e w2 ⟨rfl, hb2⟩)
        go_wp2
        go_ret
        exact ⟨ret_int (by simp [whereZ, HP.out]), (by repeat (first | exact Below.refl _ _ | apply below_alloc | apply below_drewN | apply below_drew | (refine below_set2 ?_ ?_; (first | (simp; done) | (simp; omega))) | (refine below_step ?_ hb2) | (refine below_step ?_ hb1)))⟩
      · have HP := Lib.hid hp
        go_enter Try.func32, Try.ntmps32
        go_wp2_with fail
        (refine (ref08_All xs A _ c _ (HR.out.alloc _) rfl).mono ?_; rintro e w1 ⟨rfl, hb1⟩; obtain ⟨c_hb1, f_hb1⟩ := bcell hb1; have z_hb1 := hb1.size; (try simp at z_hb1); (try have y0_hb1 : w.heap.size < w1.heap.size := by omega); (try have y1_hb1 : w.heap.size + 1 < w1.heap.size := by omega); (try have y2_hb1 : w.heap.size + 1 + 1 < w1.heap.size := by omega); (try have y3_hb1 : w.heap.size + 1 + 1 + 1 < w1.heap.size := by omega); (try have y4_hb1 : w.heap.size + 1 + 1 + 1 + 1 < w1.heap.size := by omega))
        go_wp2_with fail
        (refine (ref08_Valid _ _ _).mono ?_; rintro e w2 ⟨rfl, hb2⟩)
        have B2 : Below w.heap.size w w2 := (by repeat (first | exact Below.refl _ _ | apply below_alloc | apply below_drewN | apply below_drew | (refine below_set2 ?_ ?_; (first | (simp; done) | (simp; omega))) | (refine below_step ?_ hb2) | (refine below_step ?_ hb1)))
        have hc0 : w2.cell? ⟨w.heap.size, 0, none⟩ = some (.int .i64 px) := (cell_below hb2 ((c_hb1 _ _ (by simp)).trans (by go_simp)))
        have hc1 : w2.cell? ⟨w.heap.size, 1, none⟩ = some (.int .i64 py) := (cell_below hb2 ((c_hb1 _ _ (by simp)).trans (by go_simp)))
        have BB := Lib.hid B2
        have HC0 := Lib.hid hc0
        have HC1 := Lib.hid hc1
        have hz2 := hb2.size
        clear c_hb1 f_hb1 B2 hc0 hc1
        go_wp2_with fail
        go_loopw [5, 6] (fun s i wr => ∃ k : Nat, k ≤ xs.length ∧ i = .int .i64 k ∧ s = .bool (parTo xs (px, py) k) ∧ Below w.heap.size w wr ∧ Hid (onTo xs (px, py) k = false) ∧ Hid (w2.heap.size ≤ wr.heap.size) ∧ Hid (wr.cell? ⟨w.heap.size, 0, none⟩ = some (.int .i64 px)) ∧ Hid (wr.cell? ⟨w.heap.size, 1, none⟩ = some (.int .i64 py))) (fun _ i _ => xs.length - (intOf i).toNat)
        case atStart => exact ⟨0, Nat.zero_le _, rfl, rfl, BB.out, rfl, Nat.le_refl _, HC0.out, HC1.out⟩
        case round =>
          obtain ⟨k, hk, rfl, rfl, hb, hon, hsz, hq0, hq1⟩ := hrel
          by_cases hlt : k < xs.length
          · have hlast : (k + 1) % xs.length < xs.length := Nat.mod_lt _ (by omega)
            have hzr := hsz.out
            obtain ⟨ad, rfl, hd1, hd2⟩ := (HR.out.below hb).pt_at k hlt
            obtain ⟨ad', e', he1, he2⟩ := (HR.out.below hb).pt_at _ hlast
            cases e'
            have q1 : 0 ≤ ((k : Int) + 1) % (xs.length : Int) := Int.emod_nonneg _ (by omega)
            have q2 : ((k : Int) + 1) % (xs.length : Int) < (xs.length : Int) := Int.emod_lt_of_pos _ (by omega)
            have q0 : ¬ xs = [] := fun h => by rw [h] at hlt; simp at hlt
            obtain ⟨ax, ay, hab⟩ : ∃ ax ay, ptD xs k = (ax, ay) := ⟨_, _, rfl⟩
            obtain ⟨bx, by_, hbb⟩ : ∃ bx by_, ptD xs ((k + 1) % xs.length) = (bx, by_) := ⟨_, _, rfl⟩
            rw [hab] at hd1 hd2
            rw [hbb] at he1 he2
            simp only at hd1 hd2 he1 he2
            have va : validB (ax, ay) = true := hab ▸ ptD_valid HV.out k
            have vb : validB (bx, by_) = true := hbb ▸ ptD_valid HV.out ((k + 1) % xs.length)
            have VV : Hid ((validB (ax, ay) && validB (bx, by_) && validB (px, py)) = true) := by show _ = true; rw [va, vb, HP.out]; rfl
            have VB := Lib.hid vb
            have hont : Hid (onTo xs (px, py) (k + 1) = onB (px, py) (ax, ay) (bx, by_)) := by show _ = _; rw [onTo, hon.out, Bool.false_or, hab, nx, hbb]
            have hpart : Hid (parTo xs (px, py) (k + 1) = !(parTo xs (px, py) k == crossesB (ax, ay) (bx, by_) (px, py))) := by show _ = _; rw [parTo, hab, nx, hbb]
            clear va vb hab hbb
            obtain ⟨ha1, ha2⟩ := cell_al hd1
            obtain ⟨ha3, ha4⟩ := cell_al hd2
            obtain ⟨ha5, ha6⟩ := cell_al he1
            obtain ⟨ha7, ha8⟩ := cell_al he2
            have hqc0 := hq0.out
            have hqc1 := hq1.out
            go_wp2_with fail
            go_region
            all_goals clear ha1 ha2 ha3 ha4 ha5 ha6 ha7 ha8 he1 he2 hd1 hd2
            all_goals
              have hp1 := (cell_al hqc0).2
              have hp2 := (cell_al hqc1).2
              clear hqc0 hqc1
              go_wp2_with fail
            all_goals try
              · have e1 : ax = px := by assumption
                have e2 : ay = py := by assumption
                go_ret
                refine ⟨ret_int ?_, (by repeat (first | exact Below.refl _ _ | apply below_alloc | apply below_drewN | apply below_drew | (refine below_set2 ?_ ?_; (first | (simp; done) | (simp; omega))) | (refine below_step ?_ hb)))⟩
                have ho : onTo xs (px, py) (k + 1) = true := by rw [hont.out, e1, e2]; exact onB_start HP.out VB.out
                rw [whereZ, h3'.out, HV.out, HP.out, onTo_later ho _ (by omega)]; rfl
            all_goals
              have yw : w.heap.size < wr.heap.size + 1 + 1 := by omega
              (refine (ref09_On _ _ _ _ _ _ _).mono ?_; rintro e w3 ⟨rfl, hb3⟩; obtain ⟨c_hb3, f_hb3⟩ := bcell hb3; have z_hb3 := hb3.size; (try simp at z_hb3); (try have y0_hb3 : wr.heap.size < w3.heap.size := by omega); (try have y1_hb3 : wr.heap.size + 1 < w3.heap.size := by omega); (try have y2_hb3 : wr.heap.size + 1 + 1 < w3.heap.size := by omega); (try have y3_hb3 : wr.heap.size + 1 + 1 + 1 < w3.heap.size := by omega); (try have y4_hb3 : wr.heap.size + 1 + 1 + 1 + 1 < w3.heap.size := by omega))
            all_goals try
              have e1 : ax = px := by assumption
              rw [e1] at hont hpart VV
            all_goals
              rw [← hont.out]
              cases ho : onTo xs (px, py) (k + 1)
            all_goals try
              · have HO := Lib.hid ho
                clear ho
                go_wp2
                go_ret
                exact ⟨ret_int (by rw [whereZ, h3'.out, HV.out, HP.out, onTo_later HO.out _ (by omega)]; rfl), (by repeat (first | exact Below.refl _ _ | apply below_alloc | apply below_drewN | apply below_drew | (refine below_set2 ?_ ?_; (first | (simp; done) | (simp; omega))) | (refine below_step ?_ hb3) | (refine below_step ?_ hb)))⟩
            all_goals
              have HO := Lib.hid ho
              clear ho
              go_wp2_with fail
              refine (ref11_Crosses _ _ _ _ _ _ _ VV.out).mono ?_
              rintro e w4 ⟨he, hb4⟩
              obtain ⟨cr, hcr, rfl⟩ : ∃ cr : Bool, Hid (parTo xs (px, py) (k + 1) = !(parTo xs (px, py) k == cr)) ∧ e = .returned (.bool cr) := ⟨_, hpart.out, he⟩
              have B4 : Hid (Below w.heap.size w w4) := (by repeat (first | exact Below.refl _ _ | apply below_alloc | apply below_drewN | apply below_drew | (refine below_set2 ?_ ?_; (first | (simp; done) | (simp; omega))) | (refine below_step ?_ hb4) | (refine below_step ?_ hb3) | (refine below_step ?_ hb)))
              have hs4 : Hid (w2.heap.size ≤ w4.heap.size) := by have := hb4.size; show _ ≤ _; omega
              have p40 : Hid (w4.cell? ⟨w.heap.size, 0, none⟩ = some (.int .i64 px)) := cell_below hb4 (cell_below hb3 (by go_simp))
              have p41 : Hid (w4.cell? ⟨w.heap.size, 1, none⟩ = some (.int .i64 py)) := cell_below hb4 (cell_below hb3 (by go_simp))
              clear hp1 hp2 c_hb3 f_hb3
              cases cr
            all_goals
              go_wp2
              go_roundw
              case rel => exact ⟨k + 1, by omega, by go_num, congrArg Value.bool (by rw [hcr.out]; simp), B4.out, HO.out, hs4.out, p40.out, p41.out⟩
              case measure => simp [intOf]; omega
          · obtain rfl : k = xs.length := by omega
            cases hpar : parTo xs (px, py) xs.length
            all_goals
              have HPAR := Lib.hid hpar
              clear hpar
              go_wp2
              go_ret
              exact ⟨ret_int (by rw [whereZ, h3'.out, HV.out, HP.out, hon.out, HPAR.out]; rfl), hb⟩
end Go.Proofs.Ytaphjehkpdjolaa
