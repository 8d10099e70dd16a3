/- Contract of seg.Relate. -/
import Derived.Test.YtaeflnbjeaoapaaGreatKPW
import Derived.Test.YtaeflnbjeaoapaaGreatKP2
namespace Go.Proofs.YtaeflnbjeaoapaaGreat
set_option linter.unusedVariables false
set_option linter.unusedSimpArgs false
section
open Go.RowKit Go.Proofs.YtaeflnbjeaoapaaGreatW.PrintLast

attribute [local go_sem high] eqPt eqSg
theorem sgn_bd (n : Int) : -1 ≤ signZ n ∧ signZ n ≤ 1 := by unfold signZ; omega
theorem sgn_mul {a b : Int} (h1 : -1 ≤ a ∧ a ≤ 1) (h2 : -1 ≤ b ∧ b ≤ 1) : wrap64 (a * b) = a * b := by
 have : a = -1 ∨ a = 0 ∨ a = 1 := by omega
 rcases this with rfl | rfl | rfl <;> (unfold wrap64; omega)
theorem relZ_inv {s t : Sg} (h : [s.1, s.2, t.1, t.2].all validB = false) : relZ s t = 0 := by
 simp only [List.all_cons, List.all_nil, Bool.and_true] at h
 unfold relZ
 rw [if_pos (by rw [show (validB s.1 && validB s.2 && validB t.1 && validB t.2) = false by rw [← h]; simp only [Bool.and_assoc]]; rfl)]
theorem relZ_e1 {s t : Sg} (h : s.1 = s.2) : relZ s t = 0 := by unfold relZ; rw [if_pos (by simp [h])]
theorem relZ_e2 {s t : Sg} (h : t.1 = t.2) : relZ s t = 0 := by unfold relZ; rw [if_pos (by simp [h])]
def relM (s t : Sg) (a b c d : Int) : Int := if a = 0 ∧ b = 0 then flatZ s t else if a * b < 0 ∧ c * d < 0 then 2 else
 if onB t.1 s.1 s.2 || (onB t.2 s.1 s.2 || (onB s.1 t.1 t.2 || onB s.2 t.1 t.2)) then 1 else 0
theorem relZ_main {s t : Sg} (h : [s.1, s.2, t.1, t.2].all validB = true) (h1 : ¬ s.1 = s.2) (h2 : ¬ t.1 = t.2) : relZ s t = relM (ofS s) (ofS t) (signZ (turnZ (ofS s).1 (ofS s).2 (ofS t).1)) (signZ (turnZ (ofS s).1 (ofS s).2 (ofS t).2)) (signZ (turnZ (ofS t).1 (ofS t).2 (ofS s).1)) (signZ (turnZ (ofS t).1 (ofS t).2 (ofS s).2)) := by
 unfold relZ relM
 rw [if_neg (by simp only [List.all_cons, List.all_nil, Bool.and_true, Bool.and_eq_true] at h; simp [h, h1, h2])]
set_option maxRecDepth 100000 in
set_option maxHeartbeats 2000000 in
theorem seg_Relate (s1 s2 s3 s4 t1 t2 t3 t4 : Int) (w : World) : Calls Tryz.prog 76 #[.agg #[.int .i64 s1, .int .i64 s2, .int .i64 s3, .int .i64 s4], .agg #[.int .i64 t1, .int .i64 t2, .int .i64 t3, .int .i64 t4]] w fun e w' => e = .returned (.int .i64 (relZ ((s1, s2), (s3, s4)) ((t1, t2), (t3, t4)))) ∧ Below w.heap.size w w' := by
 obtain ⟨r, hr⟩ : ∃ r, r = relZ ((s1, s2), (s3, s4)) ((t1, t2), (t3, t4)) := ⟨_, rfl⟩
 rw [← hr]
 have HF := Lib.hid hr
 clear hr
 have hlit : ∀ (W : World) (g : Nat), g = W.heap.size → Row Ty.pt (fun _ => True) (W.alloc (.cells #[.int .i64 s1, .int .i64 s2, .int .i64 s3, .int .i64 s4, .int .i64 t1, .int .i64 t2, .int .i64 t3, .int .i64 t4] 28)) (some ⟨g, 0, none⟩) [(s1, s2), (s3, s4), (t1, t2), (t3, t4)] :=
  fun W g hg => hg ▸ Row.pt_lit W [(s1, s2), (s3, s4), (t1, t2), (t3, t4)] _ _ trivial (by simp)
 have HL := Lib.hid hlit
 clear hlit
 cases hv : [(s1, s2), (s3, s4), (t1, t2), (t3, t4)].all validB
 ·have HV := Lib.hid hv
  have HR : Hid (r = 0) := by show r = _; rw [HF.out]; exact relZ_inv hv
  clear HF
  go_enter Tryz.func76, Tryz.ntmps76
  go_wp2_with (go_at_call 66; (refine (seg_valid [(s1, s2), (s3, s4), (t1, t2), (t3, t4)] _ _ _ _ (HL.out _ _ (by simp)) rfl).mono ?_; rintro e w1 ⟨rfl, hb1⟩; obtain ⟨c_hb1, f_hb1⟩ := bcell hb1; have z_hb1 := hb1.size; (try simp at z_hb1); (try have y0_hb1 : w.heap.size < w1.heap.size := by omega); (try have y1_hb1 : w.heap.size + 1 < w1.heap.size := by omega); (try have y2_hb1 : w.heap.size + 1 + 1 < w1.heap.size := by omega); (try have y3_hb1 : w.heap.size + 1 + 1 + 1 < w1.heap.size := by omega); (try have y4_hb1 : w.heap.size + 1 + 1 + 1 + 1 < w1.heap.size := by omega)))
  go_ret
  exact ⟨ret_int HR.out.symm, (by repeat (first | exact Below.refl _ _ | apply below_alloc | apply below_drewN | apply below_drew | (refine below_set2 ?_ ?_; (first | (simp; done) | (simp; omega))) | (refine below_step ?_ hb1)))⟩
 ·by_cases e1 : ((s1, s2) : Pt) = (s3, s4)
  ·have HR : Hid (r = 0) := by show r = _; rw [HF.out]; exact relZ_e1 e1
   have hd1 := (ptB (s1, s2) (s3, s4)).trans (decide_eq_true e1)
   clear HF e1
   go_enter Tryz.func76, Tryz.ntmps76
   go_wp2_with (go_at_call 66; (refine (seg_valid [(s1, s2), (s3, s4), (t1, t2), (t3, t4)] _ _ _ _ (HL.out _ _ (by simp)) rfl).mono ?_; rintro e w1 ⟨rfl, hb1⟩; obtain ⟨c_hb1, f_hb1⟩ := bcell hb1; have z_hb1 := hb1.size; (try simp at z_hb1); (try have y0_hb1 : w.heap.size < w1.heap.size := by omega); (try have y1_hb1 : w.heap.size + 1 < w1.heap.size := by omega); (try have y2_hb1 : w.heap.size + 1 + 1 < w1.heap.size := by omega); (try have y3_hb1 : w.heap.size + 1 + 1 + 1 < w1.heap.size := by omega); (try have y4_hb1 : w.heap.size + 1 + 1 + 1 + 1 < w1.heap.size := by omega)))
   go_ret
   exact ⟨ret_int HR.out.symm, (by repeat (first | exact Below.refl _ _ | apply below_alloc | apply below_drewN | apply below_drew | (refine below_set2 ?_ ?_; (first | (simp; done) | (simp; omega))) | (refine below_step ?_ hb1)))⟩
  ·have hd1 := (ptB (s1, s2) (s3, s4)).trans (decide_eq_false e1)
   by_cases e2 : ((t1, t2) : Pt) = (t3, t4)
   ·have HR : Hid (r = 0) := by show r = _; rw [HF.out]; exact relZ_e2 e2
    have hd2 := (ptB (t1, t2) (t3, t4)).trans (decide_eq_true e2)
    clear HF e1 e2
    go_enter Tryz.func76, Tryz.ntmps76
    go_wp2_with (go_at_call 66; (refine (seg_valid [(s1, s2), (s3, s4), (t1, t2), (t3, t4)] _ _ _ _ (HL.out _ _ (by simp)) rfl).mono ?_; rintro e w1 ⟨rfl, hb1⟩; obtain ⟨c_hb1, f_hb1⟩ := bcell hb1; have z_hb1 := hb1.size; (try simp at z_hb1); (try have y0_hb1 : w.heap.size < w1.heap.size := by omega); (try have y1_hb1 : w.heap.size + 1 < w1.heap.size := by omega); (try have y2_hb1 : w.heap.size + 1 + 1 < w1.heap.size := by omega); (try have y3_hb1 : w.heap.size + 1 + 1 + 1 < w1.heap.size := by omega); (try have y4_hb1 : w.heap.size + 1 + 1 + 1 + 1 < w1.heap.size := by omega)))
    go_ret
    exact ⟨ret_int HR.out.symm, (by repeat (first | exact Below.refl _ _ | apply below_alloc | apply below_drewN | apply below_drew | (refine below_set2 ?_ ?_; (first | (simp; done) | (simp; omega))) | (refine below_step ?_ hb1)))⟩
   ·have hd2 := (ptB (t1, t2) (t3, t4)).trans (decide_eq_false e2)
    replace HF := Lib.hid (HF.out.trans (relZ_main hv e1 e2))
    clear e1 e2
    have C1 := Lib.hid (fun W => seg_Of s1 s2 s3 s4 W)
    have C2 := Lib.hid (fun W => seg_Of t1 t2 t3 t4 W)
    have e3 : ofS ((s1, s2), (s3, s4)) = ofB (s1, s2) (s3, s4) := rfl
    have e4 : ofS ((t1, t2), (t3, t4)) = ofB (t1, t2) (t3, t4) := rfl
    rw [e3, e4] at HF
    clear e3 e4
    generalize ofB (s1, s2) (s3, s4) = u at *
    generalize ofB (t1, t2) (t3, t4) = v at *
    obtain ⟨⟨u1, u2⟩, ⟨u3, u4⟩⟩ := u
    obtain ⟨⟨v1, v2⟩, ⟨v3, v4⟩⟩ := v
    simp only at HF C1 C2
    have Sa := Lib.hid (fun W => seg_sign (turnZ (u1, u2) (u3, u4) (v1, v2)) W)
    have Ba := sgn_bd (turnZ (u1, u2) (u3, u4) (v1, v2))
    have Ta := Lib.hid (fun W => seg_Turn u1 u2 u3 u4 v1 v2 W)
    have Sb := Lib.hid (fun W => seg_sign (turnZ (u1, u2) (u3, u4) (v3, v4)) W)
    have Bb := sgn_bd (turnZ (u1, u2) (u3, u4) (v3, v4))
    have Tb := Lib.hid (fun W => seg_Turn u1 u2 u3 u4 v3 v4 W)
    have Sc := Lib.hid (fun W => seg_sign (turnZ (v1, v2) (v3, v4) (u1, u2)) W)
    have Bc := sgn_bd (turnZ (v1, v2) (v3, v4) (u1, u2))
    have Tc := Lib.hid (fun W => seg_Turn v1 v2 v3 v4 u1 u2 W)
    have Sd := Lib.hid (fun W => seg_sign (turnZ (v1, v2) (v3, v4) (u3, u4)) W)
    have Bd := sgn_bd (turnZ (v1, v2) (v3, v4) (u3, u4))
    have Td := Lib.hid (fun W => seg_Turn v1 v2 v3 v4 u3 u4 W)
    obtain ⟨a, ha⟩ : ∃ q, q = signZ (turnZ (u1, u2) (u3, u4) (v1, v2)) := ⟨_, rfl⟩
    rw [← ha] at HF Sa Ba
    clear ha
    obtain ⟨b, hb⟩ : ∃ q, q = signZ (turnZ (u1, u2) (u3, u4) (v3, v4)) := ⟨_, rfl⟩
    rw [← hb] at HF Sb Bb
    clear hb
    obtain ⟨c, hc⟩ : ∃ q, q = signZ (turnZ (v1, v2) (v3, v4) (u1, u2)) := ⟨_, rfl⟩
    rw [← hc] at HF Sc Bc
    clear hc
    obtain ⟨d, hd⟩ : ∃ q, q = signZ (turnZ (v1, v2) (v3, v4) (u3, u4)) := ⟨_, rfl⟩
    rw [← hd] at HF Sd Bd
    clear hd
    have wab := Lib.hid (sgn_mul Ba Bb)
    have wcd := Lib.hid (sgn_mul Bc Bd)
    clear Ba Bb Bc Bd
    go_enter Tryz.func76, Tryz.ntmps76
    go_wp2_with fail
    refine (seg_valid [(s1, s2), (s3, s4), (t1, t2), (t3, t4)] _ _ _ _ (HL.out _ _ (by simp)) rfl).mono ?_
    rintro e w1 ⟨rfl, hb1⟩
    have HA : w1.heap[w.heap.size]? = some (.cells #[.int .i64 s1, .int .i64 s2, .int .i64 s3, .int .i64 s4] 48 (0, 0)) := blk_below (blk_alloc (two_alloc w _ _).1 _) hb1
    have HT : w1.heap[w.heap.size + 1]? = some (.cells #[.int .i64 t1, .int .i64 t2, .int .i64 t3, .int .i64 t4] 48 (0, 0)) := blk_below (blk_alloc (two_alloc w _ _).2 _) hb1
    have HB1 : Hid (Below w.heap.size w w1) := (by repeat (first | exact Below.refl _ _ | apply below_alloc | apply below_drewN | apply below_drew | (refine below_set2 ?_ ?_; (first | (simp; done) | (simp; omega))) | (refine below_step ?_ hb1)))
    clear hb1 HL
    have sc0 := blk_cell HA 0 rfl
    have sc1 := blk_cell HA 1 rfl
    have sc2 := blk_cell HA 2 rfl
    have sc3 := blk_cell HA 3 rfl
    have tc0 := blk_cell HT 0 rfl
    have tc1 := blk_cell HT 1 rfl
    have tc2 := blk_cell HT 2 rfl
    have tc3 := blk_cell HT 3 rfl
    rw [hv]
    go_wp2_with fail
    refine start_ (n := 12) (S := fun w' => w'.cell? ⟨w.heap.size, 0, none⟩ = some (.int .i64 s1) ∧ w'.cell? ⟨w.heap.size, 1, none⟩ = some (.int .i64 s2) ∧ w'.cell? ⟨w.heap.size, 2, none⟩ = some (.int .i64 s3) ∧ w'.cell? ⟨w.heap.size, 3, none⟩ = some (.int .i64 s4) ∧ w'.cell? ⟨w.heap.size + 1, 0, none⟩ = some (.int .i64 t1) ∧ w'.cell? ⟨w.heap.size + 1, 1, none⟩ = some (.int .i64 t2) ∧ w'.cell? ⟨w.heap.size + 1, 2, none⟩ = some (.int .i64 t3) ∧ w'.cell? ⟨w.heap.size + 1, 3, none⟩ = some (.int .i64 t4)) (ds := [10, 11]) #[Z,Z,Z,Z,Z,Z,Z,Z,Z,Z,Z,Z] (by kernel_rfl) rfl rfl ⟨sc0, sc1, sc2, sc3, tc0, tc1, tc2, tc3⟩ (fun hHeld => ?_)
    refine pu 0 34 ?_
    refine pu 2 36 ?_
    refine pu 5 39 ?_
    refine pu 7 41 ?_
    refine ta 1 35 hHeld ?_
    refine ta 3 37 hHeld ?_
    refine ta 6 40 hHeld ?_
    refine ta 8 42 hHeld ?_
    refine one_ (i := 4) (N := some 38) #[J,J,J,J,J,J,J,J,J,Z,Z,Z] rfl rfl (by kernel_rfl) (by decide) (fun K hK => ?_)
    refine goes_ Tryz.func67 (by kernel_rfl) rfl #[.agg #[.int .i64 s1, .int .i64 s2], .agg #[.int .i64 s3, .int .i64 s4]] (by rfl) rfl rfl (by simp only [List.map_toArray, List.map_cons, List.map_nil]; rfl) ?_
    with_reducible refine (C1.out _).mono ?_
    rintro e w2 ⟨rfl, hb2⟩
    refine ⟨_, rfl, ?_⟩
    refine hK.out _ _ ⟨blk_cell (blk_below (W := w1.drew) HA hb2) 0 rfl, blk_cell (blk_below (W := w1.drew) HA hb2) 1 rfl, blk_cell (blk_below (W := w1.drew) HA hb2) 2 rfl, blk_cell (blk_below (W := w1.drew) HA hb2) 3 rfl, blk_cell (blk_below (W := w1.drew) HT hb2) 0 rfl, blk_cell (blk_below (W := w1.drew) HT hb2) 1 rfl, blk_cell (blk_below (W := w1.drew) HT hb2) 2 rfl, blk_cell (blk_below (W := w1.drew) HT hb2) 3 rfl⟩ (fun hHeld => ?_)
    clear hK K
    refine nm 38 ?_
    refine one_ (i := 9) (N := some 43) #[J,J,J,J,J,J,J,J,J,J,Z,Z] rfl rfl (by kernel_rfl) (by decide) (fun K hK => ?_)
    refine goes_ Tryz.func67 (by kernel_rfl) rfl #[.agg #[.int .i64 t1, .int .i64 t2], .agg #[.int .i64 t3, .int .i64 t4]] (by rfl) rfl rfl (by simp only [List.map_toArray, List.map_cons, List.map_nil]; rfl) ?_
    with_reducible refine (C2.out _).mono ?_
    rintro e w3 ⟨rfl, hb3⟩
    refine ⟨_, rfl, ?_⟩
    have af0 := blk_free (blk_below (blk_below (W := w1.drew) HA hb2) hb3) 0
    have af1 := blk_free (blk_below (blk_below (W := w1.drew) HA hb2) hb3) 1
    have af2 := blk_free (blk_below (blk_below (W := w1.drew) HA hb2) hb3) 2
    have af3 := blk_free (blk_below (blk_below (W := w1.drew) HA hb2) hb3) 3
    have bf0 := blk_free (blk_below (blk_below (W := w1.drew) HT hb2) hb3) 0
    have bf1 := blk_free (blk_below (blk_below (W := w1.drew) HT hb2) hb3) 1
    have bf2 := blk_free (blk_below (blk_below (W := w1.drew) HT hb2) hb3) 2
    have bf3 := blk_free (blk_below (blk_below (W := w1.drew) HT hb2) hb3) 3
    refine hK.out _ _ ⟨blk_cell (blk_below (blk_below (W := w1.drew) HA hb2) hb3) 0 rfl, blk_cell (blk_below (blk_below (W := w1.drew) HA hb2) hb3) 1 rfl, blk_cell (blk_below (blk_below (W := w1.drew) HA hb2) hb3) 2 rfl, blk_cell (blk_below (blk_below (W := w1.drew) HA hb2) hb3) 3 rfl, blk_cell (blk_below (blk_below (W := w1.drew) HT hb2) hb3) 0 rfl, blk_cell (blk_below (blk_below (W := w1.drew) HT hb2) hb3) 1 rfl, blk_cell (blk_below (blk_below (W := w1.drew) HT hb2) hb3) 2 rfl, blk_cell (blk_below (blk_below (W := w1.drew) HT hb2) hb3) 3 rfl⟩ (fun hHeld => ?_)
    clear hK K
    refine nm 43 ?_
    refine last_ (i := 10) (N := none) #[J,J,J,J,J,J,J,J,J,J,J,Z] rfl rfl (by kernel_rfl) (by decide) (fun K hK => ?_)
    refine skip_ (w1 := ?_) (by rfl) rfl ?_ ?_
    rotate_left
    ·go_simp
     rfl
    refine hK.out _ _ ?_
    clear hK K
    refine last_ (i := 11) (N := none) #[J,J,J,J,J,J,J,J,J,J,J,J] rfl rfl (by kernel_rfl) (by decide) (fun K hK => ?_)
    refine skip_ (w1 := ?_) (by rfl) rfl ?_ ?_
    rotate_left
    ·go_simp
     rfl
    refine hK.out _ _ ?_
    clear hK K
    refine done_ (by kernel_rfl) ?_
    clear af0 af1 af2 af3 bf0 bf1 bf2 bf3
    clear sc0 sc1 sc2 sc3 tc0 tc1 tc2 tc3
    obtain ⟨W4, hW4⟩ : ∃ W4, W4 = ((((((((w3.setCell ⟨w.heap.size, 0, none⟩ (.int .i64 u1)).setCell ⟨w.heap.size, 1, none⟩ (.int .i64 u2)).setCell ⟨w.heap.size, 2, none⟩ (.int .i64 u3)).setCell ⟨w.heap.size, 3, none⟩ (.int .i64 u4)).setCell ⟨w.heap.size + 1, 0, none⟩ (.int .i64 v1)).setCell ⟨w.heap.size + 1, 1, none⟩ (.int .i64 v2)).setCell ⟨w.heap.size + 1, 2, none⟩ (.int .i64 v3)).setCell ⟨w.heap.size + 1, 3, none⟩ (.int .i64 v4)) := ⟨_, rfl⟩
    have hne : ¬ w.heap.size = w.heap.size + 1 := by omega
    have hen : ¬ w.heap.size + 1 = w.heap.size := by omega
    have HA4 : W4.heap[w.heap.size]? = some (.cells #[.int .i64 u1, .int .i64 u2, .int .i64 u3, .int .i64 u4] 48 (0, 0)) := by rw [hW4]; exact (blk_far (blk_far (blk_far (blk_far (blk_set (blk_set (blk_set (blk_set (blk_below (blk_below (W := w1.drew) HA hb2) hb3) _) _) _) _) hne _) hne _) hne _) hne _)
    have HT4 : W4.heap[w.heap.size + 1]? = some (.cells #[.int .i64 v1, .int .i64 v2, .int .i64 v3, .int .i64 v4] 48 (0, 0)) := by rw [hW4]; exact (blk_set (blk_set (blk_set (blk_set (blk_far (blk_far (blk_far (blk_far (blk_below (blk_below (W := w1.drew) HT hb2) hb3) hen _) hen _) hen _) hen _) _) _) _) _)
    have HB4 : Hid (Below w.heap.size w W4) := by show Below _ _ _; rw [hW4]; exact (below_set2 (Nat.le_succ _) (below_set2 (Nat.le_succ _) (below_set2 (Nat.le_succ _) (below_set2 (Nat.le_succ _) (below_set2 (Nat.le_refl _) (below_set2 (Nat.le_refl _) (below_set2 (Nat.le_refl _) (below_set2 (Nat.le_refl _) (below_step (below_step (below_drew HB1.out) hb2) hb3)))))))))
    rw [← hW4]
    clear hW4 hne hen HA HT hb2 hb3 HB1
    have sc0 := blk_cell HA4 0 rfl
    have sc1 := blk_cell HA4 1 rfl
    have sc2 := blk_cell HA4 2 rfl
    have sc3 := blk_cell HA4 3 rfl
    have tc0 := blk_cell HT4 0 rfl
    have tc1 := blk_cell HT4 1 rfl
    have tc2 := blk_cell HT4 2 rfl
    have tc3 := blk_cell HT4 3 rfl
    go_wp2_with fail
    refine start_ (n := 18) (S := fun w' => w'.cell? ⟨w.heap.size, 0, none⟩ = some (.int .i64 u1) ∧ w'.cell? ⟨w.heap.size, 1, none⟩ = some (.int .i64 u2) ∧ w'.cell? ⟨w.heap.size, 2, none⟩ = some (.int .i64 u3) ∧ w'.cell? ⟨w.heap.size, 3, none⟩ = some (.int .i64 u4) ∧ w'.cell? ⟨w.heap.size + 1, 0, none⟩ = some (.int .i64 v1) ∧ w'.cell? ⟨w.heap.size + 1, 1, none⟩ = some (.int .i64 v2) ∧ w'.cell? ⟨w.heap.size + 1, 2, none⟩ = some (.int .i64 v3) ∧ w'.cell? ⟨w.heap.size + 1, 3, none⟩ = some (.int .i64 v4)) (ds := []) #[Z,Z,Z,Z,Z,Z,Z,Z,Z,Z,Z,Z,Z,Z,Z,Z,Z,Z] (by kernel_rfl) rfl rfl ⟨sc0, sc1, sc2, sc3, tc0, tc1, tc2, tc3⟩ (fun hHeld => ?_)
    refine pu 0 44 ?_
    refine pu 2 46 ?_
    refine pu 4 48 ?_
    refine pu 8 52 ?_
    refine pu 10 54 ?_
    refine pu 12 56 ?_
    refine ta 1 45 hHeld ?_
    refine ta 3 47 hHeld ?_
    refine ta 5 49 hHeld ?_
    refine ta 9 53 hHeld ?_
    refine ta 11 55 hHeld ?_
    refine ta 13 57 hHeld ?_
    refine one_ (i := 6) (N := some 50) #[J,J,J,J,J,J,J,Z,J,J,J,J,J,J,Z,Z,Z,Z] rfl rfl (by kernel_rfl) (by decide) (fun K hK => ?_)
    refine goes_ Tryz.func40 (by kernel_rfl) rfl #[.agg #[.int .i64 u1, .int .i64 u2], .agg #[.int .i64 u3, .int .i64 u4], .agg #[.int .i64 v1, .int .i64 v2]] (by rfl) rfl rfl (by simp only [List.map_toArray, List.map_cons, List.map_nil]; rfl) ?_
    with_reducible refine (Ta.out _).mono ?_
    rintro e w5 ⟨rfl, hb5⟩
    refine ⟨_, rfl, ?_⟩
    refine hK.out _ _ ⟨blk_cell (blk_below (W := W4.drew) HA4 hb5) 0 rfl, blk_cell (blk_below (W := W4.drew) HA4 hb5) 1 rfl, blk_cell (blk_below (W := W4.drew) HA4 hb5) 2 rfl, blk_cell (blk_below (W := W4.drew) HA4 hb5) 3 rfl, blk_cell (blk_below (W := W4.drew) HT4 hb5) 0 rfl, blk_cell (blk_below (W := W4.drew) HT4 hb5) 1 rfl, blk_cell (blk_below (W := W4.drew) HT4 hb5) 2 rfl, blk_cell (blk_below (W := W4.drew) HT4 hb5) 3 rfl⟩ (fun hHeld => ?_)
    clear hK K
    refine nm 50 ?_
    refine one_ (i := 7) (N := some 51) #[J,J,J,J,J,J,J,J,J,J,J,J,J,J,Z,Z,Z,Z] rfl rfl (by kernel_rfl) (by decide) (fun K hK => ?_)
    refine goes_ Tryz.func103 (by kernel_rfl) rfl #[.int .i64 (turnZ (u1, u2) (u3, u4) (v1, v2))] (by rfl) rfl rfl (by simp only [List.map_toArray, List.map_cons, List.map_nil]; rfl) ?_
    with_reducible refine (Sa.out _).mono ?_
    rintro e w6 ⟨rfl, hb6⟩
    refine ⟨_, rfl, ?_⟩
    refine hK.out _ _ ⟨blk_cell (blk_below (blk_below (W := W4.drew) HA4 hb5) hb6) 0 rfl, blk_cell (blk_below (blk_below (W := W4.drew) HA4 hb5) hb6) 1 rfl, blk_cell (blk_below (blk_below (W := W4.drew) HA4 hb5) hb6) 2 rfl, blk_cell (blk_below (blk_below (W := W4.drew) HA4 hb5) hb6) 3 rfl, blk_cell (blk_below (blk_below (W := W4.drew) HT4 hb5) hb6) 0 rfl, blk_cell (blk_below (blk_below (W := W4.drew) HT4 hb5) hb6) 1 rfl, blk_cell (blk_below (blk_below (W := W4.drew) HT4 hb5) hb6) 2 rfl, blk_cell (blk_below (blk_below (W := W4.drew) HT4 hb5) hb6) 3 rfl⟩ (fun hHeld => ?_)
    clear hK K
    refine nm 51 ?_
    refine one_ (i := 14) (N := some 58) #[J,J,J,J,J,J,J,J,J,J,J,J,J,J,J,Z,Z,Z] rfl rfl (by kernel_rfl) (by decide) (fun K hK => ?_)
    refine goes_ Tryz.func40 (by kernel_rfl) rfl #[.agg #[.int .i64 u1, .int .i64 u2], .agg #[.int .i64 u3, .int .i64 u4], .agg #[.int .i64 v3, .int .i64 v4]] (by rfl) rfl rfl (by simp only [List.map_toArray, List.map_cons, List.map_nil]; rfl) ?_
    with_reducible refine (Tb.out _).mono ?_
    rintro e w7 ⟨rfl, hb7⟩
    refine ⟨_, rfl, ?_⟩
    refine hK.out _ _ ⟨blk_cell (blk_below (blk_below (blk_below (W := W4.drew) HA4 hb5) hb6) hb7) 0 rfl, blk_cell (blk_below (blk_below (blk_below (W := W4.drew) HA4 hb5) hb6) hb7) 1 rfl, blk_cell (blk_below (blk_below (blk_below (W := W4.drew) HA4 hb5) hb6) hb7) 2 rfl, blk_cell (blk_below (blk_below (blk_below (W := W4.drew) HA4 hb5) hb6) hb7) 3 rfl, blk_cell (blk_below (blk_below (blk_below (W := W4.drew) HT4 hb5) hb6) hb7) 0 rfl, blk_cell (blk_below (blk_below (blk_below (W := W4.drew) HT4 hb5) hb6) hb7) 1 rfl, blk_cell (blk_below (blk_below (blk_below (W := W4.drew) HT4 hb5) hb6) hb7) 2 rfl, blk_cell (blk_below (blk_below (blk_below (W := W4.drew) HT4 hb5) hb6) hb7) 3 rfl⟩ (fun hHeld => ?_)
    clear hK K
    refine nm 58 ?_
    refine one_ (i := 15) (N := some 59) #[J,J,J,J,J,J,J,J,J,J,J,J,J,J,J,J,Z,Z] rfl rfl (by kernel_rfl) (by decide) (fun K hK => ?_)
    refine goes_ Tryz.func103 (by kernel_rfl) rfl #[.int .i64 (turnZ (u1, u2) (u3, u4) (v3, v4))] (by rfl) rfl rfl (by simp only [List.map_toArray, List.map_cons, List.map_nil]; rfl) ?_
    with_reducible refine (Sb.out _).mono ?_
    rintro e w8 ⟨rfl, hb8⟩
    refine ⟨_, rfl, ?_⟩
    refine hK.out _ _ ⟨blk_cell (blk_below (blk_below (blk_below (blk_below (W := W4.drew) HA4 hb5) hb6) hb7) hb8) 0 rfl, blk_cell (blk_below (blk_below (blk_below (blk_below (W := W4.drew) HA4 hb5) hb6) hb7) hb8) 1 rfl, blk_cell (blk_below (blk_below (blk_below (blk_below (W := W4.drew) HA4 hb5) hb6) hb7) hb8) 2 rfl, blk_cell (blk_below (blk_below (blk_below (blk_below (W := W4.drew) HA4 hb5) hb6) hb7) hb8) 3 rfl, blk_cell (blk_below (blk_below (blk_below (blk_below (W := W4.drew) HT4 hb5) hb6) hb7) hb8) 0 rfl, blk_cell (blk_below (blk_below (blk_below (blk_below (W := W4.drew) HT4 hb5) hb6) hb7) hb8) 1 rfl, blk_cell (blk_below (blk_below (blk_below (blk_below (W := W4.drew) HT4 hb5) hb6) hb7) hb8) 2 rfl, blk_cell (blk_below (blk_below (blk_below (blk_below (W := W4.drew) HT4 hb5) hb6) hb7) hb8) 3 rfl⟩ (fun hHeld => ?_)
    clear hK K
    refine nm 59 ?_
    refine pu 16 5 ?_
    refine pu 17 6 ?_
    refine done_ (by kernel_rfl) ?_
    clear sc0 sc1 sc2 sc3 tc0 tc1 tc2 tc3
    have HA8 := (blk_below (blk_below (blk_below (blk_below (W := W4.drew) HA4 hb5) hb6) hb7) hb8)
    have HT8 := (blk_below (blk_below (blk_below (blk_below (W := W4.drew) HT4 hb5) hb6) hb7) hb8)
    have HB8 : Hid (Below w.heap.size w w8) := (below_step (below_step (below_step (below_step (below_drew HB4.out) hb5) hb6) hb7) hb8)
    clear HA4 HT4 HB4 hb5 hb6 hb7 hb8
    have sc0 := blk_cell HA8 0 rfl
    have sc1 := blk_cell HA8 1 rfl
    have sc2 := blk_cell HA8 2 rfl
    have sc3 := blk_cell HA8 3 rfl
    have tc0 := blk_cell HT8 0 rfl
    have tc1 := blk_cell HT8 1 rfl
    have tc2 := blk_cell HT8 2 rfl
    have tc3 := blk_cell HT8 3 rfl
    go_wp2_with fail
    refine start_ (n := 18) (S := fun w' => w'.cell? ⟨w.heap.size, 0, none⟩ = some (.int .i64 u1) ∧ w'.cell? ⟨w.heap.size, 1, none⟩ = some (.int .i64 u2) ∧ w'.cell? ⟨w.heap.size, 2, none⟩ = some (.int .i64 u3) ∧ w'.cell? ⟨w.heap.size, 3, none⟩ = some (.int .i64 u4) ∧ w'.cell? ⟨w.heap.size + 1, 0, none⟩ = some (.int .i64 v1) ∧ w'.cell? ⟨w.heap.size + 1, 1, none⟩ = some (.int .i64 v2) ∧ w'.cell? ⟨w.heap.size + 1, 2, none⟩ = some (.int .i64 v3) ∧ w'.cell? ⟨w.heap.size + 1, 3, none⟩ = some (.int .i64 v4)) (ds := []) #[Z,Z,Z,Z,Z,Z,Z,Z,Z,Z,Z,Z,Z,Z,Z,Z,Z,Z] (by kernel_rfl) rfl rfl ⟨sc0, sc1, sc2, sc3, tc0, tc1, tc2, tc3⟩ (fun hHeld => ?_)
    refine pu 0 60 ?_
    refine pu 2 62 ?_
    refine pu 4 64 ?_
    refine pu 8 68 ?_
    refine pu 10 70 ?_
    refine pu 12 72 ?_
    refine ta 1 61 hHeld ?_
    refine ta 3 63 hHeld ?_
    refine ta 5 65 hHeld ?_
    refine ta 9 69 hHeld ?_
    refine ta 11 71 hHeld ?_
    refine ta 13 73 hHeld ?_
    refine one_ (i := 6) (N := some 66) #[J,J,J,J,J,J,J,Z,J,J,J,J,J,J,Z,Z,Z,Z] rfl rfl (by kernel_rfl) (by decide) (fun K hK => ?_)
    refine goes_ Tryz.func40 (by kernel_rfl) rfl #[.agg #[.int .i64 v1, .int .i64 v2], .agg #[.int .i64 v3, .int .i64 v4], .agg #[.int .i64 u1, .int .i64 u2]] (by rfl) rfl rfl (by simp only [List.map_toArray, List.map_cons, List.map_nil]; rfl) ?_
    with_reducible refine (Tc.out _).mono ?_
    rintro e w9 ⟨rfl, hb9⟩
    refine ⟨_, rfl, ?_⟩
    refine hK.out _ _ ⟨blk_cell (blk_below (W := w8.drew) HA8 hb9) 0 rfl, blk_cell (blk_below (W := w8.drew) HA8 hb9) 1 rfl, blk_cell (blk_below (W := w8.drew) HA8 hb9) 2 rfl, blk_cell (blk_below (W := w8.drew) HA8 hb9) 3 rfl, blk_cell (blk_below (W := w8.drew) HT8 hb9) 0 rfl, blk_cell (blk_below (W := w8.drew) HT8 hb9) 1 rfl, blk_cell (blk_below (W := w8.drew) HT8 hb9) 2 rfl, blk_cell (blk_below (W := w8.drew) HT8 hb9) 3 rfl⟩ (fun hHeld => ?_)
    clear hK K
    refine nm 66 ?_
    refine one_ (i := 7) (N := some 67) #[J,J,J,J,J,J,J,J,J,J,J,J,J,J,Z,Z,Z,Z] rfl rfl (by kernel_rfl) (by decide) (fun K hK => ?_)
    refine goes_ Tryz.func103 (by kernel_rfl) rfl #[.int .i64 (turnZ (v1, v2) (v3, v4) (u1, u2))] (by rfl) rfl rfl (by simp only [List.map_toArray, List.map_cons, List.map_nil]; rfl) ?_
    with_reducible refine (Sc.out _).mono ?_
    rintro e w10 ⟨rfl, hb10⟩
    refine ⟨_, rfl, ?_⟩
    refine hK.out _ _ ⟨blk_cell (blk_below (blk_below (W := w8.drew) HA8 hb9) hb10) 0 rfl, blk_cell (blk_below (blk_below (W := w8.drew) HA8 hb9) hb10) 1 rfl, blk_cell (blk_below (blk_below (W := w8.drew) HA8 hb9) hb10) 2 rfl, blk_cell (blk_below (blk_below (W := w8.drew) HA8 hb9) hb10) 3 rfl, blk_cell (blk_below (blk_below (W := w8.drew) HT8 hb9) hb10) 0 rfl, blk_cell (blk_below (blk_below (W := w8.drew) HT8 hb9) hb10) 1 rfl, blk_cell (blk_below (blk_below (W := w8.drew) HT8 hb9) hb10) 2 rfl, blk_cell (blk_below (blk_below (W := w8.drew) HT8 hb9) hb10) 3 rfl⟩ (fun hHeld => ?_)
    clear hK K
    refine nm 67 ?_
    refine one_ (i := 14) (N := some 74) #[J,J,J,J,J,J,J,J,J,J,J,J,J,J,J,Z,Z,Z] rfl rfl (by kernel_rfl) (by decide) (fun K hK => ?_)
    refine goes_ Tryz.func40 (by kernel_rfl) rfl #[.agg #[.int .i64 v1, .int .i64 v2], .agg #[.int .i64 v3, .int .i64 v4], .agg #[.int .i64 u3, .int .i64 u4]] (by rfl) rfl rfl (by simp only [List.map_toArray, List.map_cons, List.map_nil]; rfl) ?_
    with_reducible refine (Td.out _).mono ?_
    rintro e w11 ⟨rfl, hb11⟩
    refine ⟨_, rfl, ?_⟩
    refine hK.out _ _ ⟨blk_cell (blk_below (blk_below (blk_below (W := w8.drew) HA8 hb9) hb10) hb11) 0 rfl, blk_cell (blk_below (blk_below (blk_below (W := w8.drew) HA8 hb9) hb10) hb11) 1 rfl, blk_cell (blk_below (blk_below (blk_below (W := w8.drew) HA8 hb9) hb10) hb11) 2 rfl, blk_cell (blk_below (blk_below (blk_below (W := w8.drew) HA8 hb9) hb10) hb11) 3 rfl, blk_cell (blk_below (blk_below (blk_below (W := w8.drew) HT8 hb9) hb10) hb11) 0 rfl, blk_cell (blk_below (blk_below (blk_below (W := w8.drew) HT8 hb9) hb10) hb11) 1 rfl, blk_cell (blk_below (blk_below (blk_below (W := w8.drew) HT8 hb9) hb10) hb11) 2 rfl, blk_cell (blk_below (blk_below (blk_below (W := w8.drew) HT8 hb9) hb10) hb11) 3 rfl⟩ (fun hHeld => ?_)
    clear hK K
    refine nm 74 ?_
    refine one_ (i := 15) (N := some 75) #[J,J,J,J,J,J,J,J,J,J,J,J,J,J,J,J,Z,Z] rfl rfl (by kernel_rfl) (by decide) (fun K hK => ?_)
    refine goes_ Tryz.func103 (by kernel_rfl) rfl #[.int .i64 (turnZ (v1, v2) (v3, v4) (u3, u4))] (by rfl) rfl rfl (by simp only [List.map_toArray, List.map_cons, List.map_nil]; rfl) ?_
    with_reducible refine (Sd.out _).mono ?_
    rintro e w12 ⟨rfl, hb12⟩
    refine ⟨_, rfl, ?_⟩
    refine hK.out _ _ ⟨blk_cell (blk_below (blk_below (blk_below (blk_below (W := w8.drew) HA8 hb9) hb10) hb11) hb12) 0 rfl, blk_cell (blk_below (blk_below (blk_below (blk_below (W := w8.drew) HA8 hb9) hb10) hb11) hb12) 1 rfl, blk_cell (blk_below (blk_below (blk_below (blk_below (W := w8.drew) HA8 hb9) hb10) hb11) hb12) 2 rfl, blk_cell (blk_below (blk_below (blk_below (blk_below (W := w8.drew) HA8 hb9) hb10) hb11) hb12) 3 rfl, blk_cell (blk_below (blk_below (blk_below (blk_below (W := w8.drew) HT8 hb9) hb10) hb11) hb12) 0 rfl, blk_cell (blk_below (blk_below (blk_below (blk_below (W := w8.drew) HT8 hb9) hb10) hb11) hb12) 1 rfl, blk_cell (blk_below (blk_below (blk_below (blk_below (W := w8.drew) HT8 hb9) hb10) hb11) hb12) 2 rfl, blk_cell (blk_below (blk_below (blk_below (blk_below (W := w8.drew) HT8 hb9) hb10) hb11) hb12) 3 rfl⟩ (fun hHeld => ?_)
    clear hK K
    refine nm 75 ?_
    refine pu 16 7 ?_
    refine pu 17 8 ?_
    refine done_ (by kernel_rfl) ?_
    clear sc0 sc1 sc2 sc3 tc0 tc1 tc2 tc3
    have HA12 := (blk_below (blk_below (blk_below (blk_below (W := w8.drew) HA8 hb9) hb10) hb11) hb12)
    have HT12 := (blk_below (blk_below (blk_below (blk_below (W := w8.drew) HT8 hb9) hb10) hb11) hb12)
    have HB12 : Hid (Below w.heap.size w w12) := (below_step (below_step (below_step (below_step (below_drew HB8.out) hb9) hb10) hb11) hb12)
    clear HA8 HT8 HB8 hb9 hb10 hb11 hb12
    have wa := wab.out
    have wc := wcd.out
    by_cases ha : a = 0
    ·have qa : (a == 0) = true := by simp [ha]
     by_cases hb : b = 0
     ·have qb : (b == 0) = true := by simp [hb]
      have HR : Hid (r = flatZ ((u1, u2), (u3, u4)) ((v1, v2), (v3, v4))) := by show r = _; rw [HF.out]; exact if_pos ⟨ha, hb⟩
      clear HF ha hb wa wc
      have sc0 := blk_cell HA12 0 rfl
      have sc1 := blk_cell HA12 1 rfl
      have sc2 := blk_cell HA12 2 rfl
      have sc3 := blk_cell HA12 3 rfl
      have tc0 := blk_cell HT12 0 rfl
      have tc1 := blk_cell HT12 1 rfl
      have tc2 := blk_cell HT12 2 rfl
      have tc3 := blk_cell HT12 3 rfl
      go_wp2_with fail
      refine (seg_flat _ _ _ _ _ _ _ _ _).mono ?_
      rintro e w13 ⟨rfl, hb13⟩
      clear sc0 sc1 sc2 sc3 tc0 tc1 tc2 tc3
      rw [← HR.out]
      go_wp2
      go_ret
      exact ⟨rfl, below_step HB12.out hb13⟩
     ·have qb : (b == 0) = false := by simp [hb]
      have qx : decide (a * b < 0) = false := by rw [ha, Int.zero_mul]; rfl
      have hnx : ¬ (a * b < 0 ∧ c * d < 0) := fun h => by have := h.1; rw [ha, Int.zero_mul] at this; omega
      have hnz : ¬ (a = 0 ∧ b = 0) := fun h => hb h.2
      clear ha hb
      have HN : Hid (r = if onB (v1, v2) (u1, u2) (u3, u4) || (onB (v3, v4) (u1, u2) (u3, u4) || (onB (u1, u2) (v1, v2) (v3, v4) || onB (u3, u4) (v1, v2) (v3, v4))) then 1 else 0) := by show r = _; rw [HF.out]; unfold relM; rw [if_neg hnz, if_neg hnx]
      have sc0 := blk_cell HA12 0 rfl
      have sc1 := blk_cell HA12 1 rfl
      have sc2 := blk_cell HA12 2 rfl
      have sc3 := blk_cell HA12 3 rfl
      have tc0 := blk_cell HT12 0 rfl
      have tc1 := blk_cell HT12 1 rfl
      have tc2 := blk_cell HT12 2 rfl
      have tc3 := blk_cell HT12 3 rfl
      go_wp2_with fail
      refine (seg_On v1 v2 u1 u2 u3 u4 _).mono ?_
      rintro e w13 ⟨rfl, hb13⟩
      clear sc0 sc1 sc2 sc3 tc0 tc1 tc2 tc3
      have HA13 := blk_below HA12 hb13
      have HT13 := blk_below HT12 hb13
      have HB13 : Hid (Below w.heap.size w w13) := below_step HB12.out hb13
      clear HB12 hb13
      cases o0 : onB (v1, v2) (u1, u2) (u3, u4)
      ·have O0 := Lib.hid o0
       have sc0 := blk_cell HA13 0 rfl
       have sc1 := blk_cell HA13 1 rfl
       have sc2 := blk_cell HA13 2 rfl
       have sc3 := blk_cell HA13 3 rfl
       have tc0 := blk_cell HT13 0 rfl
       have tc1 := blk_cell HT13 1 rfl
       have tc2 := blk_cell HT13 2 rfl
       have tc3 := blk_cell HT13 3 rfl
       go_wp2_with fail
       refine (seg_On v3 v4 u1 u2 u3 u4 _).mono ?_
       rintro e w14 ⟨rfl, hb14⟩
       clear sc0 sc1 sc2 sc3 tc0 tc1 tc2 tc3
       have HA14 := blk_below HA13 hb14
       have HT14 := blk_below HT13 hb14
       have HB14 : Hid (Below w.heap.size w w14) := below_step HB13.out hb14
       clear HB13 hb14
       cases o1 : onB (v3, v4) (u1, u2) (u3, u4)
       ·have O1 := Lib.hid o1
        have sc0 := blk_cell HA14 0 rfl
        have sc1 := blk_cell HA14 1 rfl
        have sc2 := blk_cell HA14 2 rfl
        have sc3 := blk_cell HA14 3 rfl
        have tc0 := blk_cell HT14 0 rfl
        have tc1 := blk_cell HT14 1 rfl
        have tc2 := blk_cell HT14 2 rfl
        have tc3 := blk_cell HT14 3 rfl
        go_wp2_with fail
        refine (seg_On u1 u2 v1 v2 v3 v4 _).mono ?_
        rintro e w15 ⟨rfl, hb15⟩
        clear sc0 sc1 sc2 sc3 tc0 tc1 tc2 tc3
        have HA15 := blk_below HA14 hb15
        have HT15 := blk_below HT14 hb15
        have HB15 : Hid (Below w.heap.size w w15) := below_step HB14.out hb15
        clear HB14 hb15
        cases o2 : onB (u1, u2) (v1, v2) (v3, v4)
        ·have O2 := Lib.hid o2
         have sc0 := blk_cell HA15 0 rfl
         have sc1 := blk_cell HA15 1 rfl
         have sc2 := blk_cell HA15 2 rfl
         have sc3 := blk_cell HA15 3 rfl
         have tc0 := blk_cell HT15 0 rfl
         have tc1 := blk_cell HT15 1 rfl
         have tc2 := blk_cell HT15 2 rfl
         have tc3 := blk_cell HT15 3 rfl
         go_wp2_with fail
         refine (seg_On u3 u4 v1 v2 v3 v4 _).mono ?_
         rintro e w16 ⟨rfl, hb16⟩
         clear sc0 sc1 sc2 sc3 tc0 tc1 tc2 tc3
         have HA16 := blk_below HA15 hb16
         have HT16 := blk_below HT15 hb16
         have HB16 : Hid (Below w.heap.size w w16) := below_step HB15.out hb16
         clear HB15 hb16
         cases o3 : onB (u3, u4) (v1, v2) (v3, v4)
         ·have HR : Hid (r = 0) := by show r = _; rw [HN.out]; simp only [O0.out, O1.out, O2.out, o3, Bool.or_false, Bool.false_eq_true, if_false]
          clear HF HN
          go_wp2
          go_ret
          exact ⟨ret_int HR.out.symm, HB16.out⟩
         ·have HR : Hid (r = 1) := by show r = _; rw [HN.out]; simp only [O0.out, O1.out, O2.out, o3, Bool.or_true, Bool.true_or, Bool.false_or, if_true]
          clear HF HN
          go_wp2
          go_ret
          exact ⟨ret_int HR.out.symm, HB16.out⟩
        ·have HR : Hid (r = 1) := by show r = _; rw [HN.out]; simp only [O0.out, O1.out, o2, Bool.or_true, Bool.true_or, Bool.false_or, if_true]
         clear HF HN
         go_wp2
         go_ret
         exact ⟨ret_int HR.out.symm, HB15.out⟩
       ·have HR : Hid (r = 1) := by show r = _; rw [HN.out]; simp only [O0.out, o1, Bool.or_true, Bool.true_or, Bool.false_or, if_true]
        clear HF HN
        go_wp2
        go_ret
        exact ⟨ret_int HR.out.symm, HB14.out⟩
      ·have HR : Hid (r = 1) := by show r = _; rw [HN.out]; simp only [o0, Bool.or_true, Bool.true_or, Bool.false_or, if_true]
       clear HF HN
       go_wp2
       go_ret
       exact ⟨ret_int HR.out.symm, HB13.out⟩
    ·have qa : (a == 0) = false := by simp [ha]
     have hnz : ¬ (a = 0 ∧ b = 0) := fun h => ha h.1
     clear ha
     by_cases hx : a * b < 0
     ·have qx : decide (a * b < 0) = true := decide_eq_true hx
      by_cases hy : c * d < 0
      ·have qy : decide (c * d < 0) = true := decide_eq_true hy
       have HR : Hid (r = 2) := by show r = _; rw [HF.out]; unfold relM; rw [if_neg hnz, if_pos ⟨hx, hy⟩]
       clear HF hnz hx hy
       go_wp2
       go_ret
       exact ⟨ret_int HR.out.symm, HB12.out⟩
      ·have qy : decide (c * d < 0) = false := decide_eq_false hy
       have hnx : ¬ (a * b < 0 ∧ c * d < 0) := fun h => hy h.2
       clear hx hy
       have HN : Hid (r = if onB (v1, v2) (u1, u2) (u3, u4) || (onB (v3, v4) (u1, u2) (u3, u4) || (onB (u1, u2) (v1, v2) (v3, v4) || onB (u3, u4) (v1, v2) (v3, v4))) then 1 else 0) := by show r = _; rw [HF.out]; unfold relM; rw [if_neg hnz, if_neg hnx]
       have sc0 := blk_cell HA12 0 rfl
       have sc1 := blk_cell HA12 1 rfl
       have sc2 := blk_cell HA12 2 rfl
       have sc3 := blk_cell HA12 3 rfl
       have tc0 := blk_cell HT12 0 rfl
       have tc1 := blk_cell HT12 1 rfl
       have tc2 := blk_cell HT12 2 rfl
       have tc3 := blk_cell HT12 3 rfl
       go_wp2_with fail
       refine (seg_On v1 v2 u1 u2 u3 u4 _).mono ?_
       rintro e w13 ⟨rfl, hb13⟩
       clear sc0 sc1 sc2 sc3 tc0 tc1 tc2 tc3
       have HA13 := blk_below HA12 hb13
       have HT13 := blk_below HT12 hb13
       have HB13 : Hid (Below w.heap.size w w13) := below_step HB12.out hb13
       clear HB12 hb13
       cases o0 : onB (v1, v2) (u1, u2) (u3, u4)
       ·have O0 := Lib.hid o0
        have sc0 := blk_cell HA13 0 rfl
        have sc1 := blk_cell HA13 1 rfl
        have sc2 := blk_cell HA13 2 rfl
        have sc3 := blk_cell HA13 3 rfl
        have tc0 := blk_cell HT13 0 rfl
        have tc1 := blk_cell HT13 1 rfl
        have tc2 := blk_cell HT13 2 rfl
        have tc3 := blk_cell HT13 3 rfl
        go_wp2_with fail
        refine (seg_On v3 v4 u1 u2 u3 u4 _).mono ?_
        rintro e w14 ⟨rfl, hb14⟩
        clear sc0 sc1 sc2 sc3 tc0 tc1 tc2 tc3
        have HA14 := blk_below HA13 hb14
        have HT14 := blk_below HT13 hb14
        have HB14 : Hid (Below w.heap.size w w14) := below_step HB13.out hb14
        clear HB13 hb14
        cases o1 : onB (v3, v4) (u1, u2) (u3, u4)
        ·have O1 := Lib.hid o1
         have sc0 := blk_cell HA14 0 rfl
         have sc1 := blk_cell HA14 1 rfl
         have sc2 := blk_cell HA14 2 rfl
         have sc3 := blk_cell HA14 3 rfl
         have tc0 := blk_cell HT14 0 rfl
         have tc1 := blk_cell HT14 1 rfl
         have tc2 := blk_cell HT14 2 rfl
         have tc3 := blk_cell HT14 3 rfl
         go_wp2_with fail
         refine (seg_On u1 u2 v1 v2 v3 v4 _).mono ?_
         rintro e w15 ⟨rfl, hb15⟩
         clear sc0 sc1 sc2 sc3 tc0 tc1 tc2 tc3
         have HA15 := blk_below HA14 hb15
         have HT15 := blk_below HT14 hb15
         have HB15 : Hid (Below w.heap.size w w15) := below_step HB14.out hb15
         clear HB14 hb15
         cases o2 : onB (u1, u2) (v1, v2) (v3, v4)
         ·have O2 := Lib.hid o2
          have sc0 := blk_cell HA15 0 rfl
          have sc1 := blk_cell HA15 1 rfl
          have sc2 := blk_cell HA15 2 rfl
          have sc3 := blk_cell HA15 3 rfl
          have tc0 := blk_cell HT15 0 rfl
          have tc1 := blk_cell HT15 1 rfl
          have tc2 := blk_cell HT15 2 rfl
          have tc3 := blk_cell HT15 3 rfl
          go_wp2_with fail
          refine (seg_On u3 u4 v1 v2 v3 v4 _).mono ?_
          rintro e w16 ⟨rfl, hb16⟩
          clear sc0 sc1 sc2 sc3 tc0 tc1 tc2 tc3
          have HA16 := blk_below HA15 hb16
          have HT16 := blk_below HT15 hb16
          have HB16 : Hid (Below w.heap.size w w16) := below_step HB15.out hb16
          clear HB15 hb16
          cases o3 : onB (u3, u4) (v1, v2) (v3, v4)
          ·have HR : Hid (r = 0) := by show r = _; rw [HN.out]; simp only [O0.out, O1.out, O2.out, o3, Bool.or_false, Bool.false_eq_true, if_false]
           clear HF HN
           go_wp2
           go_ret
           exact ⟨ret_int HR.out.symm, HB16.out⟩
          ·have HR : Hid (r = 1) := by show r = _; rw [HN.out]; simp only [O0.out, O1.out, O2.out, o3, Bool.or_true, Bool.true_or, Bool.false_or, if_true]
           clear HF HN
           go_wp2
           go_ret
           exact ⟨ret_int HR.out.symm, HB16.out⟩
         ·have HR : Hid (r = 1) := by show r = _; rw [HN.out]; simp only [O0.out, O1.out, o2, Bool.or_true, Bool.true_or, Bool.false_or, if_true]
          clear HF HN
          go_wp2
          go_ret
          exact ⟨ret_int HR.out.symm, HB15.out⟩
        ·have HR : Hid (r = 1) := by show r = _; rw [HN.out]; simp only [O0.out, o1, Bool.or_true, Bool.true_or, Bool.false_or, if_true]
         clear HF HN
         go_wp2
         go_ret
         exact ⟨ret_int HR.out.symm, HB14.out⟩
       ·have HR : Hid (r = 1) := by show r = _; rw [HN.out]; simp only [o0, Bool.or_true, Bool.true_or, Bool.false_or, if_true]
        clear HF HN
        go_wp2
        go_ret
        exact ⟨ret_int HR.out.symm, HB13.out⟩
     ·have qx : decide (a * b < 0) = false := decide_eq_false hx
      have hnx : ¬ (a * b < 0 ∧ c * d < 0) := fun h => hx h.1
      clear hx
      have HN : Hid (r = if onB (v1, v2) (u1, u2) (u3, u4) || (onB (v3, v4) (u1, u2) (u3, u4) || (onB (u1, u2) (v1, v2) (v3, v4) || onB (u3, u4) (v1, v2) (v3, v4))) then 1 else 0) := by show r = _; rw [HF.out]; unfold relM; rw [if_neg hnz, if_neg hnx]
      have sc0 := blk_cell HA12 0 rfl
      have sc1 := blk_cell HA12 1 rfl
      have sc2 := blk_cell HA12 2 rfl
      have sc3 := blk_cell HA12 3 rfl
      have tc0 := blk_cell HT12 0 rfl
      have tc1 := blk_cell HT12 1 rfl
      have tc2 := blk_cell HT12 2 rfl
      have tc3 := blk_cell HT12 3 rfl
      go_wp2_with fail
      refine (seg_On v1 v2 u1 u2 u3 u4 _).mono ?_
      rintro e w13 ⟨rfl, hb13⟩
      clear sc0 sc1 sc2 sc3 tc0 tc1 tc2 tc3
      have HA13 := blk_below HA12 hb13
      have HT13 := blk_below HT12 hb13
      have HB13 : Hid (Below w.heap.size w w13) := below_step HB12.out hb13
      clear HB12 hb13
      cases o0 : onB (v1, v2) (u1, u2) (u3, u4)
      ·have O0 := Lib.hid o0
       have sc0 := blk_cell HA13 0 rfl
       have sc1 := blk_cell HA13 1 rfl
       have sc2 := blk_cell HA13 2 rfl
       have sc3 := blk_cell HA13 3 rfl
       have tc0 := blk_cell HT13 0 rfl
       have tc1 := blk_cell HT13 1 rfl
       have tc2 := blk_cell HT13 2 rfl
       have tc3 := blk_cell HT13 3 rfl
       go_wp2_with fail
       refine (seg_On v3 v4 u1 u2 u3 u4 _).mono ?_
       rintro e w14 ⟨rfl, hb14⟩
       clear sc0 sc1 sc2 sc3 tc0 tc1 tc2 tc3
       have HA14 := blk_below HA13 hb14
       have HT14 := blk_below HT13 hb14
       have HB14 : Hid (Below w.heap.size w w14) := below_step HB13.out hb14
       clear HB13 hb14
       cases o1 : onB (v3, v4) (u1, u2) (u3, u4)
       ·have O1 := Lib.hid o1
        have sc0 := blk_cell HA14 0 rfl
        have sc1 := blk_cell HA14 1 rfl
        have sc2 := blk_cell HA14 2 rfl
        have sc3 := blk_cell HA14 3 rfl
        have tc0 := blk_cell HT14 0 rfl
        have tc1 := blk_cell HT14 1 rfl
        have tc2 := blk_cell HT14 2 rfl
        have tc3 := blk_cell HT14 3 rfl
        go_wp2_with fail
        refine (seg_On u1 u2 v1 v2 v3 v4 _).mono ?_
        rintro e w15 ⟨rfl, hb15⟩
        clear sc0 sc1 sc2 sc3 tc0 tc1 tc2 tc3
        have HA15 := blk_below HA14 hb15
        have HT15 := blk_below HT14 hb15
        have HB15 : Hid (Below w.heap.size w w15) := below_step HB14.out hb15
        clear HB14 hb15
        cases o2 : onB (u1, u2) (v1, v2) (v3, v4)
        ·have O2 := Lib.hid o2
         have sc0 := blk_cell HA15 0 rfl
         have sc1 := blk_cell HA15 1 rfl
         have sc2 := blk_cell HA15 2 rfl
         have sc3 := blk_cell HA15 3 rfl
         have tc0 := blk_cell HT15 0 rfl
         have tc1 := blk_cell HT15 1 rfl
         have tc2 := blk_cell HT15 2 rfl
         have tc3 := blk_cell HT15 3 rfl
         go_wp2_with fail
         refine (seg_On u3 u4 v1 v2 v3 v4 _).mono ?_
         rintro e w16 ⟨rfl, hb16⟩
         clear sc0 sc1 sc2 sc3 tc0 tc1 tc2 tc3
         have HA16 := blk_below HA15 hb16
         have HT16 := blk_below HT15 hb16
         have HB16 : Hid (Below w.heap.size w w16) := below_step HB15.out hb16
         clear HB15 hb16
         cases o3 : onB (u3, u4) (v1, v2) (v3, v4)
         ·have HR : Hid (r = 0) := by show r = _; rw [HN.out]; simp only [O0.out, O1.out, O2.out, o3, Bool.or_false, Bool.false_eq_true, if_false]
          clear HF HN
          go_wp2
          go_ret
          exact ⟨ret_int HR.out.symm, HB16.out⟩
         ·have HR : Hid (r = 1) := by show r = _; rw [HN.out]; simp only [O0.out, O1.out, O2.out, o3, Bool.or_true, Bool.true_or, Bool.false_or, if_true]
          clear HF HN
          go_wp2
          go_ret
          exact ⟨ret_int HR.out.symm, HB16.out⟩
        ·have HR : Hid (r = 1) := by show r = _; rw [HN.out]; simp only [O0.out, O1.out, o2, Bool.or_true, Bool.true_or, Bool.false_or, if_true]
         clear HF HN
         go_wp2
         go_ret
         exact ⟨ret_int HR.out.symm, HB15.out⟩
       ·have HR : Hid (r = 1) := by show r = _; rw [HN.out]; simp only [O0.out, o1, Bool.or_true, Bool.true_or, Bool.false_or, if_true]
        clear HF HN
        go_wp2
        go_ret
        exact ⟨ret_int HR.out.symm, HB14.out⟩
      ·have HR : Hid (r = 1) := by show r = _; rw [HN.out]; simp only [o0, Bool.or_true, Bool.true_or, Bool.false_or, if_true]
       clear HF HN
       go_wp2
       go_ret
       exact ⟨ret_int HR.out.symm, HB13.out⟩
end
end Go.Proofs.YtaeflnbjeaoapaaGreat
