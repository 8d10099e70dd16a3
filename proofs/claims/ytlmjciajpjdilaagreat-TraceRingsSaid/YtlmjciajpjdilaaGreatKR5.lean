/- Contract of ref09.Relate at valid segments. -/
import Derived.Test.YtlmjciajpjdilaaGreatKR4
namespace Go.Proofs.YtlmjciajpjdilaaGreat
set_option linter.unusedVariables false
set_option linter.unusedSimpArgs false
section
open Go.RowKit Go.Proofs.YtlmjciajpjdilaaGreatW.PrintLast

attribute [local go_sem high] eqPt eqSg
def bothF (s t : Sg) (acc : Pts) (e : Pt) : Pts := if onB e s.1 s.2 = true ∧ onB e t.1 t.2 = true ∧ e ∉ acc then acc ++ [e] else acc
def endsOf (s t : Sg) : Pts := [s.1, s.2, t.1, t.2]
def bothTo (s t : Sg) (k : Nat) : Pts := ((endsOf s t).take k).foldl (bothF s t) []
def bothR (s t : Sg) : Pts := (endsOf s t).foldl (bothF s t) []
def relC (s t : Sg) : Bool := decide (signZ (turnZ s.1 s.2 t.1) * signZ (turnZ s.1 s.2 t.2) < 0 ∧ signZ (turnZ t.1 t.2 s.1) * signZ (turnZ t.1 t.2 s.2) < 0)
def relR (s t : Sg) : Int := if relC s t = true then 2 else if 1 < (bothR s t).length then 3 else if (bothR s t).length = 1 then 1 else 0
theorem bothTo_snoc (s t : Sg) (k : Nat) (h : k < 4) : bothTo s t (k + 1) = bothF s t (bothTo s t k) (ptD (endsOf s t) k) := by
 unfold bothTo
 rw [take_snoc (endsOf s t) k (0, 0) h, List.foldl_append]; rfl
theorem bothTo_len (s t : Sg) : ∀ k, k ≤ 4 → (bothTo s t k).length ≤ k
 | 0, _ => by simp [bothTo]
 | k + 1, h => by
  have ih := bothTo_len s t k (by omega)
  rw [bothTo_snoc s t k (by omega)]
  unfold bothF
  split <;> simp <;> omega
set_option maxRecDepth 100000 in
set_option maxHeartbeats 8000000 in
theorem ref09_Relate (s1 s2 s3 s4 t1 t2 t3 t4 : Int) (w : World) (hv1 : (validB (s1, s2) && validB (s3, s4) && validB (t1, t2)) = true) (hv2 : validB (t3, t4) = true) (e1 : ¬ ((s1, s2) : Pt) = (s3, s4)) (e2 : ¬ ((t1, t2) : Pt) = (t3, t4)) :
  Calls Tryz.prog 58 #[.agg #[.int .i64 s1, .int .i64 s2, .int .i64 s3, .int .i64 s4], .agg #[.int .i64 t1, .int .i64 t2, .int .i64 t3, .int .i64 t4]] w fun e w' => e = .returned (.int .i64 (relR ((s1, s2), (s3, s4)) ((t1, t2), (t3, t4)))) ∧ Below w.heap.size w w' := by
 have hd1 := (ptB (s1, s2) (s3, s4)).trans (decide_eq_false e1)
 have hd2 := (ptB (t1, t2) (t3, t4)).trans (decide_eq_false e2)
 have V1 := Lib.hid (fun W => ref09_three s1 s2 s3 s4 t1 t2 W)
 have V2 := Lib.hid (fun W => ref08_Valid t3 t4 W)
 rw [hv1] at V1
 rw [hv2] at V2
 clear e1 e2 hv1 hv2
 have HF : Hid (relR ((s1, s2), (s3, s4)) ((t1, t2), (t3, t4)) = if decide (signZ (turnZ (s1, s2) (s3, s4) (t1, t2)) * signZ (turnZ (s1, s2) (s3, s4) (t3, t4)) < 0 ∧ signZ (turnZ (t1, t2) (t3, t4) (s1, s2)) * signZ (turnZ (t1, t2) (t3, t4) (s3, s4)) < 0) = true then 2 else if 1 < (bothR ((s1, s2), (s3, s4)) ((t1, t2), (t3, t4))).length then 3 else if (bothR ((s1, s2), (s3, s4)) ((t1, t2), (t3, t4))).length = 1 then 1 else 0) := rfl
 generalize relR ((s1, s2), (s3, s4)) ((t1, t2), (t3, t4)) = r at *
 have Sa := Lib.hid (fun W => ref09_sign (turnZ (s1, s2) (s3, s4) (t1, t2)) W)
 have Ba := sgn_bd (turnZ (s1, s2) (s3, s4) (t1, t2))
 have Ta := Lib.hid (fun W => ref09_Turn s1 s2 s3 s4 t1 t2 W)
 have Sb := Lib.hid (fun W => ref09_sign (turnZ (s1, s2) (s3, s4) (t3, t4)) W)
 have Bb := sgn_bd (turnZ (s1, s2) (s3, s4) (t3, t4))
 have Tb := Lib.hid (fun W => ref09_Turn s1 s2 s3 s4 t3 t4 W)
 have Sc := Lib.hid (fun W => ref09_sign (turnZ (t1, t2) (t3, t4) (s1, s2)) W)
 have Bc := sgn_bd (turnZ (t1, t2) (t3, t4) (s1, s2))
 have Tc := Lib.hid (fun W => ref09_Turn t1 t2 t3 t4 s1 s2 W)
 have Sd := Lib.hid (fun W => ref09_sign (turnZ (t1, t2) (t3, t4) (s3, s4)) W)
 have Bd := sgn_bd (turnZ (t1, t2) (t3, t4) (s3, s4))
 have Td := Lib.hid (fun W => ref09_Turn t1 t2 t3 t4 s3 s4 W)
 obtain ⟨a, ha⟩ : ∃ q, q = signZ (turnZ (s1, s2) (s3, s4) (t1, t2)) := ⟨_, rfl⟩
 rw [← ha] at HF Sa Ba
 clear ha
 obtain ⟨b, hb⟩ : ∃ q, q = signZ (turnZ (s1, s2) (s3, s4) (t3, t4)) := ⟨_, rfl⟩
 rw [← hb] at HF Sb Bb
 clear hb
 obtain ⟨c, hc⟩ : ∃ q, q = signZ (turnZ (t1, t2) (t3, t4) (s1, s2)) := ⟨_, rfl⟩
 rw [← hc] at HF Sc Bc
 clear hc
 obtain ⟨d, hd⟩ : ∃ q, q = signZ (turnZ (t1, t2) (t3, t4) (s3, s4)) := ⟨_, rfl⟩
 rw [← hd] at HF Sd Bd
 clear hd
 have wab := Lib.hid (sgn_mul Ba Bb)
 have wcd := Lib.hid (sgn_mul Bc Bd)
 clear Ba Bb Bc Bd
 go_enter Tryz.func58, Tryz.ntmps58
 go_wp2_with fail
 (refine (V1.out _).mono ?_; rintro e w0 ⟨rfl, hb0⟩; obtain ⟨c_hb0, f_hb0⟩ := bcell hb0; have z_hb0 := hb0.size; (try simp at z_hb0); (try have y0_hb0 : w.heap.size < w0.heap.size := by omega); (try have y1_hb0 : w.heap.size + 1 < w0.heap.size := by omega); (try have y2_hb0 : w.heap.size + 1 + 1 < w0.heap.size := by omega); (try have y3_hb0 : w.heap.size + 1 + 1 + 1 < w0.heap.size := by omega); (try have y4_hb0 : w.heap.size + 1 + 1 + 1 + 1 < w0.heap.size := by omega))
 go_wp2_with fail
 (refine (V2.out _).mono ?_; rintro e w1 ⟨rfl, hb1⟩; obtain ⟨c_hb1, f_hb1⟩ := bcell hb1; have z_hb1 := hb1.size; (try simp at z_hb1); (try have y0_hb1 : w.heap.size < w1.heap.size := by omega); (try have y1_hb1 : w.heap.size + 1 < w1.heap.size := by omega); (try have y2_hb1 : w.heap.size + 1 + 1 < w1.heap.size := by omega); (try have y3_hb1 : w.heap.size + 1 + 1 + 1 < w1.heap.size := by omega); (try have y4_hb1 : w.heap.size + 1 + 1 + 1 + 1 < w1.heap.size := by omega))
 have HA : w1.heap[w.heap.size]? = some (.cells #[.int .i64 s1, .int .i64 s2, .int .i64 s3, .int .i64 s4] 32 (0, 0)) := blk_below (blk_below (two_alloc w _ _).1 hb0) hb1
 have HT : w1.heap[w.heap.size + 1]? = some (.cells #[.int .i64 t1, .int .i64 t2, .int .i64 t3, .int .i64 t4] 32 (0, 0)) := blk_below (blk_below (two_alloc w _ _).2 hb0) hb1
 have HB1 : Hid (Below w.heap.size w w1) := (by repeat (first | exact Below.refl _ _ | apply below_alloc | apply below_drewN | apply below_drew | (refine below_set2 ?_ ?_; (first | (simp; done) | (simp; omega))) | (refine below_step ?_ hb1) | (refine below_step ?_ hb0)))
 clear hb0 hb1 V1 V2 c_hb0 c_hb1 f_hb0 f_hb1
 have sc0 := blk_cell HA 0 rfl
 have sc1 := blk_cell HA 1 rfl
 have sc2 := blk_cell HA 2 rfl
 have sc3 := blk_cell HA 3 rfl
 have tc0 := blk_cell HT 0 rfl
 have tc1 := blk_cell HT 1 rfl
 have tc2 := blk_cell HT 2 rfl
 have tc3 := blk_cell HT 3 rfl
 go_wp2_with fail
 refine start_ (n := 18) (S := fun w' => w'.cell? ⟨w.heap.size, 0, none⟩ = some (.int .i64 s1) ∧ w'.cell? ⟨w.heap.size, 1, none⟩ = some (.int .i64 s2) ∧ w'.cell? ⟨w.heap.size, 2, none⟩ = some (.int .i64 s3) ∧ w'.cell? ⟨w.heap.size, 3, none⟩ = some (.int .i64 s4) ∧ w'.cell? ⟨w.heap.size + 1, 0, none⟩ = some (.int .i64 t1) ∧ w'.cell? ⟨w.heap.size + 1, 1, none⟩ = some (.int .i64 t2) ∧ w'.cell? ⟨w.heap.size + 1, 2, none⟩ = some (.int .i64 t3) ∧ w'.cell? ⟨w.heap.size + 1, 3, none⟩ = some (.int .i64 t4)) (ds := []) #[Z,Z,Z,Z,Z,Z,Z,Z,Z,Z,Z,Z,Z,Z,Z,Z,Z,Z] (by kernel_rfl) rfl rfl ⟨sc0, sc1, sc2, sc3, tc0, tc1, tc2, tc3⟩ (fun hHeld => ?_)
 refine pure_ (i := 0) (N := some 42) (v := ?_) (a' := ?_) #[J,Z,Z,Z,Z,Z,Z,Z,Z,Z,Z,Z,Z,Z,Z,Z,Z,Z] rfl rfl (by kernel_rfl) (fun _ _ _ h => h) (Or.inl ⟨by rfl, ?_⟩) ?_ ?_
 rotate_left
 ·intro w'; go_simp; with_reducible rfl
 rotate_left
 ·simp only [Act.put, sA, sB, sC, i64_w, i32_w]; rfl
 refine pure_ (i := 2) (N := some 44) (v := ?_) (a' := ?_) #[J,Z,J,Z,Z,Z,Z,Z,Z,Z,Z,Z,Z,Z,Z,Z,Z,Z] rfl rfl (by kernel_rfl) (fun _ _ _ h => h) (Or.inl ⟨by rfl, ?_⟩) ?_ ?_
 rotate_left
 ·intro w'; go_simp; with_reducible rfl
 rotate_left
 ·simp only [Act.put, sA, sB, sC, i64_w, i32_w]; rfl
 refine pure_ (i := 4) (N := some 46) (v := ?_) (a' := ?_) #[J,Z,J,Z,J,Z,Z,Z,Z,Z,Z,Z,Z,Z,Z,Z,Z,Z] rfl rfl (by kernel_rfl) (fun _ _ _ h => h) (Or.inl ⟨by rfl, ?_⟩) ?_ ?_
 rotate_left
 ·intro w'; go_simp; with_reducible rfl
 rotate_left
 ·simp only [Act.put, sA, sB, sC, i64_w, i32_w]; rfl
 refine pure_ (i := 8) (N := some 50) (v := ?_) (a' := ?_) #[J,Z,J,Z,J,Z,Z,Z,J,Z,Z,Z,Z,Z,Z,Z,Z,Z] rfl rfl (by kernel_rfl) (fun _ _ _ h => h) (Or.inl ⟨by rfl, ?_⟩) ?_ ?_
 rotate_left
 ·intro w'; go_simp; with_reducible rfl
 rotate_left
 ·simp only [Act.put, sA, sB, sC, i64_w, i32_w]; rfl
 refine pure_ (i := 10) (N := some 52) (v := ?_) (a' := ?_) #[J,Z,J,Z,J,Z,Z,Z,J,Z,J,Z,Z,Z,Z,Z,Z,Z] rfl rfl (by kernel_rfl) (fun _ _ _ h => h) (Or.inl ⟨by rfl, ?_⟩) ?_ ?_
 rotate_left
 ·intro w'; go_simp; with_reducible rfl
 rotate_left
 ·simp only [Act.put, sA, sB, sC, i64_w, i32_w]; rfl
 refine pure_ (i := 12) (N := some 54) (v := ?_) (a' := ?_) #[J,Z,J,Z,J,Z,Z,Z,J,Z,J,Z,J,Z,Z,Z,Z,Z] rfl rfl (by kernel_rfl) (fun _ _ _ h => h) (Or.inl ⟨by rfl, ?_⟩) ?_ ?_
 rotate_left
 ·intro w'; go_simp; with_reducible rfl
 rotate_left
 ·simp only [Act.put, sA, sB, sC, i64_w, i32_w]; rfl
 refine take_ (i := 1) (N := some 43) (v := ?_) (a' := ?_) #[J,J,J,Z,J,Z,Z,Z,J,Z,J,Z,J,Z,Z,Z,Z,Z] rfl rfl (by kernel_rfl) (fun _ _ _ h => h) (Or.inl ⟨by rfl, ?_⟩) hHeld ?_ ?_
 rotate_left
 ·rintro w' ⟨s0, s1, s2, s3, s4, s5, s6, s7⟩; go_simp; with_reducible rfl
 rotate_left
 ·simp only [Act.put, sA, sB, sC, i64_w, i32_w]; rfl
 refine take_ (i := 3) (N := some 45) (v := ?_) (a' := ?_) #[J,J,J,J,J,Z,Z,Z,J,Z,J,Z,J,Z,Z,Z,Z,Z] rfl rfl (by kernel_rfl) (fun _ _ _ h => h) (Or.inl ⟨by rfl, ?_⟩) hHeld ?_ ?_
 rotate_left
 ·rintro w' ⟨s0, s1, s2, s3, s4, s5, s6, s7⟩; go_simp; with_reducible rfl
 rotate_left
 ·simp only [Act.put, sA, sB, sC, i64_w, i32_w]; rfl
 refine take_ (i := 5) (N := some 47) (v := ?_) (a' := ?_) #[J,J,J,J,J,J,Z,Z,J,Z,J,Z,J,Z,Z,Z,Z,Z] rfl rfl (by kernel_rfl) (fun _ _ _ h => h) (Or.inl ⟨by rfl, ?_⟩) hHeld ?_ ?_
 rotate_left
 ·rintro w' ⟨s0, s1, s2, s3, s4, s5, s6, s7⟩; go_simp; with_reducible rfl
 rotate_left
 ·simp only [Act.put, sA, sB, sC, i64_w, i32_w]; rfl
 refine take_ (i := 9) (N := some 51) (v := ?_) (a' := ?_) #[J,J,J,J,J,J,Z,Z,J,J,J,Z,J,Z,Z,Z,Z,Z] rfl rfl (by kernel_rfl) (fun _ _ _ h => h) (Or.inl ⟨by rfl, ?_⟩) hHeld ?_ ?_
 rotate_left
 ·rintro w' ⟨s0, s1, s2, s3, s4, s5, s6, s7⟩; go_simp; with_reducible rfl
 rotate_left
 ·simp only [Act.put, sA, sB, sC, i64_w, i32_w]; rfl
 refine take_ (i := 11) (N := some 53) (v := ?_) (a' := ?_) #[J,J,J,J,J,J,Z,Z,J,J,J,J,J,Z,Z,Z,Z,Z] rfl rfl (by kernel_rfl) (fun _ _ _ h => h) (Or.inl ⟨by rfl, ?_⟩) hHeld ?_ ?_
 rotate_left
 ·rintro w' ⟨s0, s1, s2, s3, s4, s5, s6, s7⟩; go_simp; with_reducible rfl
 rotate_left
 ·simp only [Act.put, sA, sB, sC, i64_w, i32_w]; rfl
 refine take_ (i := 13) (N := some 55) (v := ?_) (a' := ?_) #[J,J,J,J,J,J,Z,Z,J,J,J,J,J,J,Z,Z,Z,Z] rfl rfl (by kernel_rfl) (fun _ _ _ h => h) (Or.inl ⟨by rfl, ?_⟩) hHeld ?_ ?_
 rotate_left
 ·rintro w' ⟨s0, s1, s2, s3, s4, s5, s6, s7⟩; go_simp; with_reducible rfl
 rotate_left
 ·simp only [Act.put, sA, sB, sC, i64_w, i32_w]; rfl
 refine one_ (i := 6) (N := some 48) #[J,J,J,J,J,J,J,Z,J,J,J,J,J,J,Z,Z,Z,Z] rfl rfl (by kernel_rfl) (by decide) (fun K hK => ?_)
 refine goes_ Tryz.func85 (by kernel_rfl) rfl #[.agg #[.int .i64 s1, .int .i64 s2], .agg #[.int .i64 s3, .int .i64 s4], .agg #[.int .i64 t1, .int .i64 t2]] (by rfl) rfl rfl (by simp only [List.map_toArray, List.map_cons, List.map_nil]; rfl) ?_
 with_reducible refine (Ta.out _).mono ?_
 rintro e w5 ⟨rfl, hb5⟩
 refine ⟨_, rfl, ?_⟩
 refine hK.out _ _ ⟨blk_cell (blk_below (W := w1.drew) HA hb5) 0 rfl, blk_cell (blk_below (W := w1.drew) HA hb5) 1 rfl, blk_cell (blk_below (W := w1.drew) HA hb5) 2 rfl, blk_cell (blk_below (W := w1.drew) HA hb5) 3 rfl, blk_cell (blk_below (W := w1.drew) HT hb5) 0 rfl, blk_cell (blk_below (W := w1.drew) HT hb5) 1 rfl, blk_cell (blk_below (W := w1.drew) HT hb5) 2 rfl, blk_cell (blk_below (W := w1.drew) HT hb5) 3 rfl⟩ (fun hHeld => ?_)
 clear hK K
 refine norm_ (a' := ?_) ?_ ?_
 rotate_left
 ·show Act.put _ (some 48) _ = _
  simp only [Act.put, sA, sB, sC, i64_w, i32_w]; rfl
 refine one_ (i := 7) (N := some 49) #[J,J,J,J,J,J,J,J,J,J,J,J,J,J,Z,Z,Z,Z] rfl rfl (by kernel_rfl) (by decide) (fun K hK => ?_)
 refine goes_ Tryz.func96 (by kernel_rfl) rfl #[.int .i64 (turnZ (s1, s2) (s3, s4) (t1, t2))] (by rfl) rfl rfl (by simp only [List.map_toArray, List.map_cons, List.map_nil]; rfl) ?_
 with_reducible refine (Sa.out _).mono ?_
 rintro e w6 ⟨rfl, hb6⟩
 refine ⟨_, rfl, ?_⟩
 refine hK.out _ _ ⟨blk_cell (blk_below (blk_below (W := w1.drew) HA hb5) hb6) 0 rfl, blk_cell (blk_below (blk_below (W := w1.drew) HA hb5) hb6) 1 rfl, blk_cell (blk_below (blk_below (W := w1.drew) HA hb5) hb6) 2 rfl, blk_cell (blk_below (blk_below (W := w1.drew) HA hb5) hb6) 3 rfl, blk_cell (blk_below (blk_below (W := w1.drew) HT hb5) hb6) 0 rfl, blk_cell (blk_below (blk_below (W := w1.drew) HT hb5) hb6) 1 rfl, blk_cell (blk_below (blk_below (W := w1.drew) HT hb5) hb6) 2 rfl, blk_cell (blk_below (blk_below (W := w1.drew) HT hb5) hb6) 3 rfl⟩ (fun hHeld => ?_)
 clear hK K
 refine norm_ (a' := ?_) ?_ ?_
 rotate_left
 ·show Act.put _ (some 49) _ = _
  simp only [Act.put, sA, sB, sC, i64_w, i32_w]; rfl
 refine one_ (i := 14) (N := some 56) #[J,J,J,J,J,J,J,J,J,J,J,J,J,J,J,Z,Z,Z] rfl rfl (by kernel_rfl) (by decide) (fun K hK => ?_)
 refine goes_ Tryz.func85 (by kernel_rfl) rfl #[.agg #[.int .i64 s1, .int .i64 s2], .agg #[.int .i64 s3, .int .i64 s4], .agg #[.int .i64 t3, .int .i64 t4]] (by rfl) rfl rfl (by simp only [List.map_toArray, List.map_cons, List.map_nil]; rfl) ?_
 with_reducible refine (Tb.out _).mono ?_
 rintro e w7 ⟨rfl, hb7⟩
 refine ⟨_, rfl, ?_⟩
 refine hK.out _ _ ⟨blk_cell (blk_below (blk_below (blk_below (W := w1.drew) HA hb5) hb6) hb7) 0 rfl, blk_cell (blk_below (blk_below (blk_below (W := w1.drew) HA hb5) hb6) hb7) 1 rfl, blk_cell (blk_below (blk_below (blk_below (W := w1.drew) HA hb5) hb6) hb7) 2 rfl, blk_cell (blk_below (blk_below (blk_below (W := w1.drew) HA hb5) hb6) hb7) 3 rfl, blk_cell (blk_below (blk_below (blk_below (W := w1.drew) HT hb5) hb6) hb7) 0 rfl, blk_cell (blk_below (blk_below (blk_below (W := w1.drew) HT hb5) hb6) hb7) 1 rfl, blk_cell (blk_below (blk_below (blk_below (W := w1.drew) HT hb5) hb6) hb7) 2 rfl, blk_cell (blk_below (blk_below (blk_below (W := w1.drew) HT hb5) hb6) hb7) 3 rfl⟩ (fun hHeld => ?_)
 clear hK K
 refine norm_ (a' := ?_) ?_ ?_
 rotate_left
 ·show Act.put _ (some 56) _ = _
  simp only [Act.put, sA, sB, sC, i64_w, i32_w]; rfl
 refine one_ (i := 15) (N := some 57) #[J,J,J,J,J,J,J,J,J,J,J,J,J,J,J,J,Z,Z] rfl rfl (by kernel_rfl) (by decide) (fun K hK => ?_)
 refine goes_ Tryz.func96 (by kernel_rfl) rfl #[.int .i64 (turnZ (s1, s2) (s3, s4) (t3, t4))] (by rfl) rfl rfl (by simp only [List.map_toArray, List.map_cons, List.map_nil]; rfl) ?_
 with_reducible refine (Sb.out _).mono ?_
 rintro e w8 ⟨rfl, hb8⟩
 refine ⟨_, rfl, ?_⟩
 refine hK.out _ _ ⟨blk_cell (blk_below (blk_below (blk_below (blk_below (W := w1.drew) HA hb5) hb6) hb7) hb8) 0 rfl, blk_cell (blk_below (blk_below (blk_below (blk_below (W := w1.drew) HA hb5) hb6) hb7) hb8) 1 rfl, blk_cell (blk_below (blk_below (blk_below (blk_below (W := w1.drew) HA hb5) hb6) hb7) hb8) 2 rfl, blk_cell (blk_below (blk_below (blk_below (blk_below (W := w1.drew) HA hb5) hb6) hb7) hb8) 3 rfl, blk_cell (blk_below (blk_below (blk_below (blk_below (W := w1.drew) HT hb5) hb6) hb7) hb8) 0 rfl, blk_cell (blk_below (blk_below (blk_below (blk_below (W := w1.drew) HT hb5) hb6) hb7) hb8) 1 rfl, blk_cell (blk_below (blk_below (blk_below (blk_below (W := w1.drew) HT hb5) hb6) hb7) hb8) 2 rfl, blk_cell (blk_below (blk_below (blk_below (blk_below (W := w1.drew) HT hb5) hb6) hb7) hb8) 3 rfl⟩ (fun hHeld => ?_)
 clear hK K
 refine norm_ (a' := ?_) ?_ ?_
 rotate_left
 ·show Act.put _ (some 57) _ = _
  simp only [Act.put, sA, sB, sC, i64_w, i32_w]; rfl
 refine pure_ (i := 16) (N := some 5) (v := ?_) (a' := ?_) #[J,J,J,J,J,J,J,J,J,J,J,J,J,J,J,J,J,Z] rfl rfl (by kernel_rfl) (fun _ _ _ h => h) (Or.inl ⟨by rfl, ?_⟩) ?_ ?_
 rotate_left
 ·intro w'; go_simp; with_reducible rfl
 rotate_left
 ·simp only [Act.put, sA, sB, sC, i64_w, i32_w]; rfl
 refine pure_ (i := 17) (N := some 6) (v := ?_) (a' := ?_) #[J,J,J,J,J,J,J,J,J,J,J,J,J,J,J,J,J,J] rfl rfl (by kernel_rfl) (fun _ _ _ h => h) (Or.inl ⟨by rfl, ?_⟩) ?_ ?_
 rotate_left
 ·intro w'; go_simp; with_reducible rfl
 rotate_left
 ·simp only [Act.put, sA, sB, sC, i64_w, i32_w]; rfl
 refine done_ (by kernel_rfl) ?_
 clear sc0 sc1 sc2 sc3 tc0 tc1 tc2 tc3
 have HA8 := (blk_below (blk_below (blk_below (blk_below (W := w1.drew) HA hb5) hb6) hb7) hb8)
 have HT8 := (blk_below (blk_below (blk_below (blk_below (W := w1.drew) HT hb5) hb6) hb7) hb8)
 have HB8 : Hid (Below w.heap.size w w8) := (below_step (below_step (below_step (below_step (below_drew HB1.out) hb5) hb6) hb7) hb8)
 clear HA HT HB1 hb5 hb6 hb7 hb8
 have sc0 := blk_cell HA8 0 rfl
 have sc1 := blk_cell HA8 1 rfl
 have sc2 := blk_cell HA8 2 rfl
 have sc3 := blk_cell HA8 3 rfl
 have tc0 := blk_cell HT8 0 rfl
 have tc1 := blk_cell HT8 1 rfl
 have tc2 := blk_cell HT8 2 rfl
 have tc3 := blk_cell HT8 3 rfl
 go_wp2_with fail
 refine start_ (n := 18) (S := fun w' => w'.cell? ⟨w.heap.size, 0, none⟩ = some (.int .i64 s1) ∧ w'.cell? ⟨w.heap.size, 1, none⟩ = some (.int .i64 s2) ∧ w'.cell? ⟨w.heap.size, 2, none⟩ = some (.int .i64 s3) ∧ w'.cell? ⟨w.heap.size, 3, none⟩ = some (.int .i64 s4) ∧ w'.cell? ⟨w.heap.size + 1, 0, none⟩ = some (.int .i64 t1) ∧ w'.cell? ⟨w.heap.size + 1, 1, none⟩ = some (.int .i64 t2) ∧ w'.cell? ⟨w.heap.size + 1, 2, none⟩ = some (.int .i64 t3) ∧ w'.cell? ⟨w.heap.size + 1, 3, none⟩ = some (.int .i64 t4)) (ds := []) #[Z,Z,Z,Z,Z,Z,Z,Z,Z,Z,Z,Z,Z,Z,Z,Z,Z,Z] (by kernel_rfl) rfl rfl ⟨sc0, sc1, sc2, sc3, tc0, tc1, tc2, tc3⟩ (fun hHeld => ?_)
 refine pure_ (i := 0) (N := some 58) (v := ?_) (a' := ?_) #[J,Z,Z,Z,Z,Z,Z,Z,Z,Z,Z,Z,Z,Z,Z,Z,Z,Z] rfl rfl (by kernel_rfl) (fun _ _ _ h => h) (Or.inl ⟨by rfl, ?_⟩) ?_ ?_
 rotate_left
 ·intro w'; go_simp; with_reducible rfl
 rotate_left
 ·simp only [Act.put, sA, sB, sC, i64_w, i32_w]; rfl
 refine pure_ (i := 2) (N := some 60) (v := ?_) (a' := ?_) #[J,Z,J,Z,Z,Z,Z,Z,Z,Z,Z,Z,Z,Z,Z,Z,Z,Z] rfl rfl (by kernel_rfl) (fun _ _ _ h => h) (Or.inl ⟨by rfl, ?_⟩) ?_ ?_
 rotate_left
 ·intro w'; go_simp; with_reducible rfl
 rotate_left
 ·simp only [Act.put, sA, sB, sC, i64_w, i32_w]; rfl
 refine pure_ (i := 4) (N := some 62) (v := ?_) (a' := ?_) #[J,Z,J,Z,J,Z,Z,Z,Z,Z,Z,Z,Z,Z,Z,Z,Z,Z] rfl rfl (by kernel_rfl) (fun _ _ _ h => h) (Or.inl ⟨by rfl, ?_⟩) ?_ ?_
 rotate_left
 ·intro w'; go_simp; with_reducible rfl
 rotate_left
 ·simp only [Act.put, sA, sB, sC, i64_w, i32_w]; rfl
 refine pure_ (i := 8) (N := some 66) (v := ?_) (a' := ?_) #[J,Z,J,Z,J,Z,Z,Z,J,Z,Z,Z,Z,Z,Z,Z,Z,Z] rfl rfl (by kernel_rfl) (fun _ _ _ h => h) (Or.inl ⟨by rfl, ?_⟩) ?_ ?_
 rotate_left
 ·intro w'; go_simp; with_reducible rfl
 rotate_left
 ·simp only [Act.put, sA, sB, sC, i64_w, i32_w]; rfl
 refine pure_ (i := 10) (N := some 68) (v := ?_) (a' := ?_) #[J,Z,J,Z,J,Z,Z,Z,J,Z,J,Z,Z,Z,Z,Z,Z,Z] rfl rfl (by kernel_rfl) (fun _ _ _ h => h) (Or.inl ⟨by rfl, ?_⟩) ?_ ?_
 rotate_left
 ·intro w'; go_simp; with_reducible rfl
 rotate_left
 ·simp only [Act.put, sA, sB, sC, i64_w, i32_w]; rfl
 refine pure_ (i := 12) (N := some 70) (v := ?_) (a' := ?_) #[J,Z,J,Z,J,Z,Z,Z,J,Z,J,Z,J,Z,Z,Z,Z,Z] rfl rfl (by kernel_rfl) (fun _ _ _ h => h) (Or.inl ⟨by rfl, ?_⟩) ?_ ?_
 rotate_left
 ·intro w'; go_simp; with_reducible rfl
 rotate_left
 ·simp only [Act.put, sA, sB, sC, i64_w, i32_w]; rfl
 refine take_ (i := 1) (N := some 59) (v := ?_) (a' := ?_) #[J,J,J,Z,J,Z,Z,Z,J,Z,J,Z,J,Z,Z,Z,Z,Z] rfl rfl (by kernel_rfl) (fun _ _ _ h => h) (Or.inl ⟨by rfl, ?_⟩) hHeld ?_ ?_
 rotate_left
 ·rintro w' ⟨s0, s1, s2, s3, s4, s5, s6, s7⟩; go_simp; with_reducible rfl
 rotate_left
 ·simp only [Act.put, sA, sB, sC, i64_w, i32_w]; rfl
 refine take_ (i := 3) (N := some 61) (v := ?_) (a' := ?_) #[J,J,J,J,J,Z,Z,Z,J,Z,J,Z,J,Z,Z,Z,Z,Z] rfl rfl (by kernel_rfl) (fun _ _ _ h => h) (Or.inl ⟨by rfl, ?_⟩) hHeld ?_ ?_
 rotate_left
 ·rintro w' ⟨s0, s1, s2, s3, s4, s5, s6, s7⟩; go_simp; with_reducible rfl
 rotate_left
 ·simp only [Act.put, sA, sB, sC, i64_w, i32_w]; rfl
 refine take_ (i := 5) (N := some 63) (v := ?_) (a' := ?_) #[J,J,J,J,J,J,Z,Z,J,Z,J,Z,J,Z,Z,Z,Z,Z] rfl rfl (by kernel_rfl) (fun _ _ _ h => h) (Or.inl ⟨by rfl, ?_⟩) hHeld ?_ ?_
 rotate_left
 ·rintro w' ⟨s0, s1, s2, s3, s4, s5, s6, s7⟩; go_simp; with_reducible rfl
 rotate_left
 ·simp only [Act.put, sA, sB, sC, i64_w, i32_w]; rfl
 refine take_ (i := 9) (N := some 67) (v := ?_) (a' := ?_) #[J,J,J,J,J,J,Z,Z,J,J,J,Z,J,Z,Z,Z,Z,Z] rfl rfl (by kernel_rfl) (fun _ _ _ h => h) (Or.inl ⟨by rfl, ?_⟩) hHeld ?_ ?_
 rotate_left
 ·rintro w' ⟨s0, s1, s2, s3, s4, s5, s6, s7⟩; go_simp; with_reducible rfl
 rotate_left
 ·simp only [Act.put, sA, sB, sC, i64_w, i32_w]; rfl
 refine take_ (i := 11) (N := some 69) (v := ?_) (a' := ?_) #[J,J,J,J,J,J,Z,Z,J,J,J,J,J,Z,Z,Z,Z,Z] rfl rfl (by kernel_rfl) (fun _ _ _ h => h) (Or.inl ⟨by rfl, ?_⟩) hHeld ?_ ?_
 rotate_left
 ·rintro w' ⟨s0, s1, s2, s3, s4, s5, s6, s7⟩; go_simp; with_reducible rfl
 rotate_left
 ·simp only [Act.put, sA, sB, sC, i64_w, i32_w]; rfl
 refine take_ (i := 13) (N := some 71) (v := ?_) (a' := ?_) #[J,J,J,J,J,J,Z,Z,J,J,J,J,J,J,Z,Z,Z,Z] rfl rfl (by kernel_rfl) (fun _ _ _ h => h) (Or.inl ⟨by rfl, ?_⟩) hHeld ?_ ?_
 rotate_left
 ·rintro w' ⟨s0, s1, s2, s3, s4, s5, s6, s7⟩; go_simp; with_reducible rfl
 rotate_left
 ·simp only [Act.put, sA, sB, sC, i64_w, i32_w]; rfl
 refine one_ (i := 6) (N := some 64) #[J,J,J,J,J,J,J,Z,J,J,J,J,J,J,Z,Z,Z,Z] rfl rfl (by kernel_rfl) (by decide) (fun K hK => ?_)
 refine goes_ Tryz.func85 (by kernel_rfl) rfl #[.agg #[.int .i64 t1, .int .i64 t2], .agg #[.int .i64 t3, .int .i64 t4], .agg #[.int .i64 s1, .int .i64 s2]] (by rfl) rfl rfl (by simp only [List.map_toArray, List.map_cons, List.map_nil]; rfl) ?_
 with_reducible refine (Tc.out _).mono ?_
 rintro e w9 ⟨rfl, hb9⟩
 refine ⟨_, rfl, ?_⟩
 refine hK.out _ _ ⟨blk_cell (blk_below (W := w8.drew) HA8 hb9) 0 rfl, blk_cell (blk_below (W := w8.drew) HA8 hb9) 1 rfl, blk_cell (blk_below (W := w8.drew) HA8 hb9) 2 rfl, blk_cell (blk_below (W := w8.drew) HA8 hb9) 3 rfl, blk_cell (blk_below (W := w8.drew) HT8 hb9) 0 rfl, blk_cell (blk_below (W := w8.drew) HT8 hb9) 1 rfl, blk_cell (blk_below (W := w8.drew) HT8 hb9) 2 rfl, blk_cell (blk_below (W := w8.drew) HT8 hb9) 3 rfl⟩ (fun hHeld => ?_)
 clear hK K
 refine norm_ (a' := ?_) ?_ ?_
 rotate_left
 ·show Act.put _ (some 64) _ = _
  simp only [Act.put, sA, sB, sC, i64_w, i32_w]; rfl
 refine one_ (i := 7) (N := some 65) #[J,J,J,J,J,J,J,J,J,J,J,J,J,J,Z,Z,Z,Z] rfl rfl (by kernel_rfl) (by decide) (fun K hK => ?_)
 refine goes_ Tryz.func96 (by kernel_rfl) rfl #[.int .i64 (turnZ (t1, t2) (t3, t4) (s1, s2))] (by rfl) rfl rfl (by simp only [List.map_toArray, List.map_cons, List.map_nil]; rfl) ?_
 with_reducible refine (Sc.out _).mono ?_
 rintro e w10 ⟨rfl, hb10⟩
 refine ⟨_, rfl, ?_⟩
 refine hK.out _ _ ⟨blk_cell (blk_below (blk_below (W := w8.drew) HA8 hb9) hb10) 0 rfl, blk_cell (blk_below (blk_below (W := w8.drew) HA8 hb9) hb10) 1 rfl, blk_cell (blk_below (blk_below (W := w8.drew) HA8 hb9) hb10) 2 rfl, blk_cell (blk_below (blk_below (W := w8.drew) HA8 hb9) hb10) 3 rfl, blk_cell (blk_below (blk_below (W := w8.drew) HT8 hb9) hb10) 0 rfl, blk_cell (blk_below (blk_below (W := w8.drew) HT8 hb9) hb10) 1 rfl, blk_cell (blk_below (blk_below (W := w8.drew) HT8 hb9) hb10) 2 rfl, blk_cell (blk_below (blk_below (W := w8.drew) HT8 hb9) hb10) 3 rfl⟩ (fun hHeld => ?_)
 clear hK K
 refine norm_ (a' := ?_) ?_ ?_
 rotate_left
 ·show Act.put _ (some 65) _ = _
  simp only [Act.put, sA, sB, sC, i64_w, i32_w]; rfl
 refine one_ (i := 14) (N := some 72) #[J,J,J,J,J,J,J,J,J,J,J,J,J,J,J,Z,Z,Z] rfl rfl (by kernel_rfl) (by decide) (fun K hK => ?_)
 refine goes_ Tryz.func85 (by kernel_rfl) rfl #[.agg #[.int .i64 t1, .int .i64 t2], .agg #[.int .i64 t3, .int .i64 t4], .agg #[.int .i64 s3, .int .i64 s4]] (by rfl) rfl rfl (by simp only [List.map_toArray, List.map_cons, List.map_nil]; rfl) ?_
 with_reducible refine (Td.out _).mono ?_
 rintro e w11 ⟨rfl, hb11⟩
 refine ⟨_, rfl, ?_⟩
 refine hK.out _ _ ⟨blk_cell (blk_below (blk_below (blk_below (W := w8.drew) HA8 hb9) hb10) hb11) 0 rfl, blk_cell (blk_below (blk_below (blk_below (W := w8.drew) HA8 hb9) hb10) hb11) 1 rfl, blk_cell (blk_below (blk_below (blk_below (W := w8.drew) HA8 hb9) hb10) hb11) 2 rfl, blk_cell (blk_below (blk_below (blk_below (W := w8.drew) HA8 hb9) hb10) hb11) 3 rfl, blk_cell (blk_below (blk_below (blk_below (W := w8.drew) HT8 hb9) hb10) hb11) 0 rfl, blk_cell (blk_below (blk_below (blk_below (W := w8.drew) HT8 hb9) hb10) hb11) 1 rfl, blk_cell (blk_below (blk_below (blk_below (W := w8.drew) HT8 hb9) hb10) hb11) 2 rfl, blk_cell (blk_below (blk_below (blk_below (W := w8.drew) HT8 hb9) hb10) hb11) 3 rfl⟩ (fun hHeld => ?_)
 clear hK K
 refine norm_ (a' := ?_) ?_ ?_
 rotate_left
 ·show Act.put _ (some 72) _ = _
  simp only [Act.put, sA, sB, sC, i64_w, i32_w]; rfl
 refine one_ (i := 15) (N := some 73) #[J,J,J,J,J,J,J,J,J,J,J,J,J,J,J,J,Z,Z] rfl rfl (by kernel_rfl) (by decide) (fun K hK => ?_)
 refine goes_ Tryz.func96 (by kernel_rfl) rfl #[.int .i64 (turnZ (t1, t2) (t3, t4) (s3, s4))] (by rfl) rfl rfl (by simp only [List.map_toArray, List.map_cons, List.map_nil]; rfl) ?_
 with_reducible refine (Sd.out _).mono ?_
 rintro e w12 ⟨rfl, hb12⟩
 refine ⟨_, rfl, ?_⟩
 refine hK.out _ _ ⟨blk_cell (blk_below (blk_below (blk_below (blk_below (W := w8.drew) HA8 hb9) hb10) hb11) hb12) 0 rfl, blk_cell (blk_below (blk_below (blk_below (blk_below (W := w8.drew) HA8 hb9) hb10) hb11) hb12) 1 rfl, blk_cell (blk_below (blk_below (blk_below (blk_below (W := w8.drew) HA8 hb9) hb10) hb11) hb12) 2 rfl, blk_cell (blk_below (blk_below (blk_below (blk_below (W := w8.drew) HA8 hb9) hb10) hb11) hb12) 3 rfl, blk_cell (blk_below (blk_below (blk_below (blk_below (W := w8.drew) HT8 hb9) hb10) hb11) hb12) 0 rfl, blk_cell (blk_below (blk_below (blk_below (blk_below (W := w8.drew) HT8 hb9) hb10) hb11) hb12) 1 rfl, blk_cell (blk_below (blk_below (blk_below (blk_below (W := w8.drew) HT8 hb9) hb10) hb11) hb12) 2 rfl, blk_cell (blk_below (blk_below (blk_below (blk_below (W := w8.drew) HT8 hb9) hb10) hb11) hb12) 3 rfl⟩ (fun hHeld => ?_)
 clear hK K
 refine norm_ (a' := ?_) ?_ ?_
 rotate_left
 ·show Act.put _ (some 73) _ = _
  simp only [Act.put, sA, sB, sC, i64_w, i32_w]; rfl
 refine pure_ (i := 16) (N := some 7) (v := ?_) (a' := ?_) #[J,J,J,J,J,J,J,J,J,J,J,J,J,J,J,J,J,Z] rfl rfl (by kernel_rfl) (fun _ _ _ h => h) (Or.inl ⟨by rfl, ?_⟩) ?_ ?_
 rotate_left
 ·intro w'; go_simp; with_reducible rfl
 rotate_left
 ·simp only [Act.put, sA, sB, sC, i64_w, i32_w]; rfl
 refine pure_ (i := 17) (N := some 8) (v := ?_) (a' := ?_) #[J,J,J,J,J,J,J,J,J,J,J,J,J,J,J,J,J,J] rfl rfl (by kernel_rfl) (fun _ _ _ h => h) (Or.inl ⟨by rfl, ?_⟩) ?_ ?_
 rotate_left
 ·intro w'; go_simp; with_reducible rfl
 rotate_left
 ·simp only [Act.put, sA, sB, sC, i64_w, i32_w]; rfl
 refine done_ (by kernel_rfl) ?_
 clear sc0 sc1 sc2 sc3 tc0 tc1 tc2 tc3
 have HA12 := (blk_below (blk_below (blk_below (blk_below (W := w8.drew) HA8 hb9) hb10) hb11) hb12)
 have HT12 := (blk_below (blk_below (blk_below (blk_below (W := w8.drew) HT8 hb9) hb10) hb11) hb12)
 have HB12 : Hid (Below w.heap.size w w12) := (below_step (below_step (below_step (below_step (below_drew HB8.out) hb9) hb10) hb11) hb12)
 clear HA8 HT8 HB8 hb9 hb10 hb11 hb12
 have wa := wab.out
 have wc := wcd.out
 by_cases hx : a * b < 0
 ·have qx : decide (a * b < 0) = true := decide_eq_true hx
  by_cases hy : c * d < 0
  ·have qy : decide (c * d < 0) = true := decide_eq_true hy
   have HR : Hid (r = 2) := HF.out.trans (if_pos (decide_eq_true ⟨hx, hy⟩))
   clear HF hx hy
   go_wp2
   go_ret
   exact ⟨ret_int HR.out.symm, HB12.out⟩
  ·have qy : decide (c * d < 0) = false := decide_eq_false hy
   have HN := Lib.hid (HF.out.trans (if_neg (fun h => hy (of_decide_eq_true h).2)))
   clear HF hx hy
   obtain ⟨W0, hW0⟩ : ∃ W0, W0 = w12 := ⟨_, rfl⟩
   rw [← hW0] at HA12 HT12 HB12 ⊢
   clear hW0
   have sc0 := blk_cell HA12 0 rfl
   have sc1 := blk_cell HA12 1 rfl
   have sc2 := blk_cell HA12 2 rfl
   have sc3 := blk_cell HA12 3 rfl
   have tc0 := blk_cell HT12 0 rfl
   have tc1 := blk_cell HT12 1 rfl
   have tc2 := blk_cell HT12 2 rfl
   have tc3 := blk_cell HT12 3 rfl
   have HE0 : (W0.alloc (.cells #[.int .i64 s1, .int .i64 s2, .int .i64 s3, .int .i64 s4, .int .i64 t1, .int .i64 t2, .int .i64 t3, .int .i64 t4] 24)).heap[W0.heap.size]? = some (.cells #[.int .i64 s1, .int .i64 s2, .int .i64 s3, .int .i64 s4, .int .i64 t1, .int .i64 t2, .int .i64 t3, .int .i64 t4] 24 (0, 0)) := heap_alloc_new _ _
   have HA0 := blk_alloc HA12 (.cells #[.int .i64 s1, .int .i64 s2, .int .i64 s3, .int .i64 s4, .int .i64 t1, .int .i64 t2, .int .i64 t3, .int .i64 t4] 24)
   have HT0 := blk_alloc HT12 (.cells #[.int .i64 s1, .int .i64 s2, .int .i64 s3, .int .i64 s4, .int .i64 t1, .int .i64 t2, .int .i64 t3, .int .i64 t4] 24)
   have hz0 := HB12.out.size
   have hzt := lt_of_block HT12
   go_wp2
   clear wa wc sc0 sc1 sc2 sc3 tc0 tc1 tc2 tc3
   go_loopw [10, 11] (fun v i wr => ∃ k : Nat, k ≤ 4 ∧ i = .int .i64 k ∧ wr.heap[w.heap.size]? = some (.cells #[.int .i64 s1, .int .i64 s2, .int .i64 s3, .int .i64 s4] 32 (0, 0)) ∧ wr.heap[w.heap.size + 1]? = some (.cells #[.int .i64 t1, .int .i64 t2, .int .i64 t3, .int .i64 t4] 32 (0, 0)) ∧ wr.heap[W0.heap.size]? = some (.cells #[.int .i64 s1, .int .i64 s2, .int .i64 s3, .int .i64 s4, .int .i64 t1, .int .i64 t2, .int .i64 t3, .int .i64 t4] 24 (0, 0)) ∧ Hid (Below w.heap.size w wr) ∧ Hid (Own1 Ty.pt 24 (W0.heap.size + 1) wr v (bothTo ((s1, s2), (s3, s4)) ((t1, t2), (t3, t4)) k))) (fun _ i _ => 4 - (intOf i).toNat)
   case atStart => exact ⟨0, by omega, rfl, HA0, HT0, HE0, (by repeat (first | exact Below.refl _ _ | apply below_alloc | apply below_drewN | apply below_drew | (refine below_set2 ?_ ?_; (first | (simp; done) | (simp; omega))) | (refine below_step ?_ HB12.out))), OwnR.nil _ _ _ _ _⟩
   case round =>
    obtain ⟨k, hk, rfl, HA, HT, HE, HB, HO⟩ := hrel
    clear HA0 HT0 HE0
    have hze := lt_of_block HE
    have hbl := bothTo_len ((s1, s2), (s3, s4)) ((t1, t2), (t3, t4)) k hk
    by_cases hk4 : k < 4
    ·have q4 : decide ((k : Int) < 4) = true := decide_eq_true (by omega)
     have hk4i : (k : Int) < 4 := by omega
     have HN4 := Lib.hid (bothTo_snoc ((s1, s2), (s3, s4)) ((t1, t2), (t3, t4)) k hk4)
     have hpc : wr.cell? ⟨W0.heap.size, k * 2, none⟩ = some (.int .i64 (ptD (endsOf ((s1, s2), (s3, s4)) ((t1, t2), (t3, t4))) k).1) ∧ wr.cell? ⟨W0.heap.size, k * 2 + 1, none⟩ = some (.int .i64 (ptD (endsOf ((s1, s2), (s3, s4)) ((t1, t2), (t3, t4))) k).2) := by
      rcases (show k = 0 ∨ k = 1 ∨ k = 2 ∨ k = 3 by omega) with rfl | rfl | rfl | rfl
      ·exact ⟨blk_cell HE 0 rfl, blk_cell HE 1 rfl⟩
      ·exact ⟨blk_cell HE 2 rfl, blk_cell HE 3 rfl⟩
      ·exact ⟨blk_cell HE 4 rfl, blk_cell HE 5 rfl⟩
      ·exact ⟨blk_cell HE 6 rfl, blk_cell HE 7 rfl⟩
     obtain ⟨pc0, pc1⟩ := hpc
     generalize ptD (endsOf ((s1, s2), (s3, s4)) ((t1, t2), (t3, t4))) k = e at *
     have sc0 := blk_cell HA 0 rfl
     have sc1 := blk_cell HA 1 rfl
     have sc2 := blk_cell HA 2 rfl
     have sc3 := blk_cell HA 3 rfl
     have tc0 := blk_cell HT 0 rfl
     have tc1 := blk_cell HT 1 rfl
     have tc2 := blk_cell HT 2 rfl
     have tc3 := blk_cell HT 3 rfl
     have O1 := Lib.hid (fun W => ref09_On e.1 e.2 s1 s2 s3 s4 W)
     have O2 := Lib.hid (fun W => ref09_On e.1 e.2 t1 t2 t3 t4 W)
     cases ho1 : onB e (s1, s2) (s3, s4)
     ·have HT4 : Hid (bothTo ((s1, s2), (s3, s4)) ((t1, t2), (t3, t4)) (k + 1) = bothTo ((s1, s2), (s3, s4)) ((t1, t2), (t3, t4)) k) := HN4.out.trans (if_neg (fun h => by have := h.1; rw [ho1] at this; cases this))
      have HO1 : Hid (onB (e.1, e.2) (s1, s2) (s3, s4) = false) := ho1
      clear ho1 HN4
      rw [HO1.out] at O1
      go_wp2_with fail
      refine start_ (n := 22) (S := fun w' => w'.cell? ⟨w.heap.size, 0, none⟩ = some (.int .i64 s1) ∧ w'.cell? ⟨w.heap.size, 1, none⟩ = some (.int .i64 s2) ∧ w'.cell? ⟨w.heap.size, 2, none⟩ = some (.int .i64 s3) ∧ w'.cell? ⟨w.heap.size, 3, none⟩ = some (.int .i64 s4) ∧ w'.cell? ⟨w.heap.size + 1, 0, none⟩ = some (.int .i64 t1) ∧ w'.cell? ⟨w.heap.size + 1, 1, none⟩ = some (.int .i64 t2) ∧ w'.cell? ⟨w.heap.size + 1, 2, none⟩ = some (.int .i64 t3) ∧ w'.cell? ⟨w.heap.size + 1, 3, none⟩ = some (.int .i64 t4) ∧ w'.cell? ⟨W0.heap.size, k * 2, none⟩ = some (.int .i64 e.1) ∧ w'.cell? ⟨W0.heap.size, k * 2 + 1, none⟩ = some (.int .i64 e.2)) (ds := []) #[Z,Z,Z,Z,Z,Z,Z,Z,Z,Z,Z,Z,Z,Z,Z,Z,Z,Z,Z,Z,Z,Z] (by kernel_rfl) rfl rfl ⟨sc0, sc1, sc2, sc3, tc0, tc1, tc2, tc3, pc0, pc1⟩ (fun hHeld => ?_)
      refine pure_ (i := 0) (N := some 97) (v := ?_) (a' := ?_) #[J,Z,Z,Z,Z,Z,Z,Z,Z,Z,Z,Z,Z,Z,Z,Z,Z,Z,Z,Z,Z,Z] rfl rfl (by kernel_rfl) (fun _ _ _ h => h) (Or.inl ⟨by rfl, ?_⟩) ?_ ?_
      rotate_left
      ·intro w'; go_simp; with_reducible rfl
      rotate_left
      ·simp only [Act.put, sA, sB, sC, i64_w, i32_w]; rfl
      refine pure_ (i := 1) (N := some 98) (v := ?_) (a' := ?_) #[J,J,Z,Z,Z,Z,Z,Z,Z,Z,Z,Z,Z,Z,Z,Z,Z,Z,Z,Z,Z,Z] rfl rfl (by kernel_rfl) (fun _ _ _ h => h) (Or.inl ⟨by rfl, ?_⟩) ?_ ?_
      rotate_left
      ·intro w'; go_simp; with_reducible rfl
      rotate_left
      ·simp only [Act.put, sA, sB, sC, i64_w, i32_w]; rfl
      refine pure_ (i := 2) (N := some 99) (v := ?_) (a' := ?_) #[J,J,J,Z,Z,Z,Z,Z,Z,Z,Z,Z,Z,Z,Z,Z,Z,Z,Z,Z,Z,Z] rfl rfl (by kernel_rfl) (fun _ _ _ h => h) (Or.inl ⟨by rfl, ?_⟩) ?_ ?_
      rotate_left
      ·intro w'; go_simp; with_reducible rfl
      rotate_left
      ·simp only [Act.put, sA, sB, sC, i64_w, i32_w]; rfl
      refine pure_ (i := 4) (N := some 101) (v := ?_) (a' := ?_) #[J,J,J,Z,J,Z,Z,Z,Z,Z,Z,Z,Z,Z,Z,Z,Z,Z,Z,Z,Z,Z] rfl rfl (by kernel_rfl) (fun _ _ _ h => h) (Or.inl ⟨by rfl, ?_⟩) ?_ ?_
      rotate_left
      ·intro w'; go_simp; with_reducible rfl
      rotate_left
      ·simp only [Act.put, sA, sB, sC, i64_w, i32_w]; rfl
      refine pure_ (i := 6) (N := some 103) (v := ?_) (a' := ?_) #[J,J,J,Z,J,Z,J,Z,Z,Z,Z,Z,Z,Z,Z,Z,Z,Z,Z,Z,Z,Z] rfl rfl (by kernel_rfl) (fun _ _ _ h => h) (Or.inl ⟨by rfl, ?_⟩) ?_ ?_
      rotate_left
      ·intro w'; go_simp; with_reducible rfl
      rotate_left
      ·simp only [Act.put, sA, sB, sC, i64_w, i32_w]; rfl
      refine take_ (i := 3) (N := some 100) (v := ?_) (a' := ?_) #[J,J,J,J,J,Z,J,Z,Z,Z,Z,Z,Z,Z,Z,Z,Z,Z,Z,Z,Z,Z] rfl rfl (by kernel_rfl) (fun _ _ _ h => h) (Or.inl ⟨by rfl, ?_⟩) hHeld ?_ ?_
      rotate_left
      ·rintro w' ⟨s0, s1, s2, s3, s4, s5, s6, s7, s8, s9⟩; go_simp; with_reducible rfl
      rotate_left
      ·simp only [Act.put, sA, sB, sC, i64_w, i32_w]; rfl
      refine take_ (i := 5) (N := some 102) (v := ?_) (a' := ?_) #[J,J,J,J,J,J,J,Z,Z,Z,Z,Z,Z,Z,Z,Z,Z,Z,Z,Z,Z,Z] rfl rfl (by kernel_rfl) (fun _ _ _ h => h) (Or.inl ⟨by rfl, ?_⟩) hHeld ?_ ?_
      rotate_left
      ·rintro w' ⟨s0, s1, s2, s3, s4, s5, s6, s7, s8, s9⟩; go_simp; with_reducible rfl
      rotate_left
      ·simp only [Act.put, sA, sB, sC, i64_w, i32_w]; rfl
      refine take_ (i := 7) (N := some 104) (v := ?_) (a' := ?_) #[J,J,J,J,J,J,J,J,Z,Z,Z,Z,Z,Z,Z,Z,Z,Z,Z,Z,Z,Z] rfl rfl (by kernel_rfl) (fun _ _ _ h => h) (Or.inl ⟨by rfl, ?_⟩) hHeld ?_ ?_
      rotate_left
      ·rintro w' ⟨s0, s1, s2, s3, s4, s5, s6, s7, s8, s9⟩; go_simp; with_reducible rfl
      rotate_left
      ·simp only [Act.put, sA, sB, sC, i64_w, i32_w]; rfl
      refine one_ (i := 8) (N := some 105) #[J,J,J,J,J,J,J,J,J,Z,Z,Z,Z,Z,Z,Z,Z,Z,Z,Z,Z,Z] rfl rfl (by kernel_rfl) (by decide) (fun K hK => ?_)
      refine goes_ Tryz.func42 (by kernel_rfl) rfl #[.agg #[.int .i64 e.1, .int .i64 e.2], .agg #[.int .i64 s1, .int .i64 s2], .agg #[.int .i64 s3, .int .i64 s4]] (by rfl) rfl rfl (by simp only [List.map_toArray, List.map_cons, List.map_nil]; rfl) ?_
      with_reducible refine (O1.out _).mono ?_
      rintro e' w4 ⟨rfl, hb4⟩
      refine ⟨_, rfl, ?_⟩
      refine hK.out _ _ ⟨blk_cell (blk_below (W := wr.drew) HA hb4) 0 rfl, blk_cell (blk_below (W := wr.drew) HA hb4) 1 rfl, blk_cell (blk_below (W := wr.drew) HA hb4) 2 rfl, blk_cell (blk_below (W := wr.drew) HA hb4) 3 rfl, blk_cell (blk_below (W := wr.drew) HT hb4) 0 rfl, blk_cell (blk_below (W := wr.drew) HT hb4) 1 rfl, blk_cell (blk_below (W := wr.drew) HT hb4) 2 rfl, blk_cell (blk_below (W := wr.drew) HT hb4) 3 rfl, (cell_below hb4 pc0), (cell_below hb4 pc1)⟩ (fun hHeld => ?_)
      clear hK K
      refine norm_ (a' := ?_) ?_ ?_
      rotate_left
      ·show Act.put _ (some 105) _ = _
       simp only [Act.put, sA, sB, sC, i64_w, i32_w]; rfl
      refine pure_ (i := 9) (N := some 106) (v := ?_) (a' := ?_) #[J,J,J,J,J,J,J,J,J,J,Z,Z,Z,Z,Z,Z,Z,Z,Z,Z,Z,Z] rfl rfl (by kernel_rfl) (fun _ _ _ h => h) (Or.inl ⟨by rfl, ?_⟩) ?_ ?_
      rotate_left
      ·intro w'; go_simp; with_reducible rfl
      rotate_left
      ·simp only [Act.put, sA, sB, sC, i64_w, i32_w]; rfl
      refine pure_ (i := 10) (N := some 107) (v := ?_) (a' := ?_) #[J,J,J,J,J,J,J,J,J,J,J,Z,Z,Z,Z,Z,Z,Z,Z,Z,Z,Z] rfl rfl (by kernel_rfl) (fun _ _ _ h => h) (Or.inl ⟨by rfl, ?_⟩) ?_ ?_
      rotate_left
      ·intro w'; go_simp; with_reducible rfl
      rotate_left
      ·simp only [Act.put, sA, sB, sC, i64_w, i32_w]; rfl
      refine pure_ (i := 11) (N := some 108) (v := undef) (a' := ?_) #[J,J,J,J,J,J,J,J,J,J,J,J,Z,Z,Z,Z,Z,Z,Z,Z,Z,Z] rfl rfl (by kernel_rfl) (fun _ _ _ h => h) (Or.inr ⟨by rfl, rfl⟩) ?_ ?_
      rotate_left
      ·simp only [Act.put, sA, sB, sC, i64_w, i32_w]; rfl
      refine pure_ (i := 12) (N := some 109) (v := undef) (a' := ?_) #[J,J,J,J,J,J,J,J,J,J,J,J,J,Z,Z,Z,Z,Z,Z,Z,Z,Z] rfl rfl (by kernel_rfl) (fun _ _ _ h => h) (Or.inr ⟨by rfl, rfl⟩) ?_ ?_
      rotate_left
      ·simp only [Act.put, sA, sB, sC, i64_w, i32_w]; rfl
      refine pure_ (i := 13) (N := some 110) (v := undef) (a' := ?_) #[J,J,J,J,J,J,J,J,J,J,J,J,J,J,Z,Z,Z,Z,Z,Z,Z,Z] rfl rfl (by kernel_rfl) (fun _ _ _ h => h) (Or.inr ⟨by rfl, rfl⟩) ?_ ?_
      rotate_left
      ·simp only [Act.put, sA, sB, sC, i64_w, i32_w]; rfl
      refine pure_ (i := 14) (N := some 111) (v := undef) (a' := ?_) #[J,J,J,J,J,J,J,J,J,J,J,J,J,J,J,Z,Z,Z,Z,Z,Z,Z] rfl rfl (by kernel_rfl) (fun _ _ _ h => h) (Or.inr ⟨by rfl, rfl⟩) ?_ ?_
      rotate_left
      ·simp only [Act.put, sA, sB, sC, i64_w, i32_w]; rfl
      refine pure_ (i := 15) (N := some 112) (v := undef) (a' := ?_) #[J,J,J,J,J,J,J,J,J,J,J,J,J,J,J,J,Z,Z,Z,Z,Z,Z] rfl rfl (by kernel_rfl) (fun _ _ _ h => h) (Or.inr ⟨by rfl, rfl⟩) ?_ ?_
      rotate_left
      ·simp only [Act.put, sA, sB, sC, i64_w, i32_w]; rfl
      refine pure_ (i := 16) (N := some 113) (v := undef) (a' := ?_) #[J,J,J,J,J,J,J,J,J,J,J,J,J,J,J,J,J,Z,Z,Z,Z,Z] rfl rfl (by kernel_rfl) (fun _ _ _ h => h) (Or.inr ⟨by rfl, rfl⟩) ?_ ?_
      rotate_left
      ·simp only [Act.put, sA, sB, sC, i64_w, i32_w]; rfl
      refine pure_ (i := 17) (N := some 114) (v := undef) (a' := ?_) #[J,J,J,J,J,J,J,J,J,J,J,J,J,J,J,J,J,J,Z,Z,Z,Z] rfl rfl (by kernel_rfl) (fun _ _ _ h => h) (Or.inr ⟨by rfl, rfl⟩) ?_ ?_
      rotate_left
      ·simp only [Act.put, sA, sB, sC, i64_w, i32_w]; rfl
      refine pure_ (i := 18) (N := some 115) (v := undef) (a' := ?_) #[J,J,J,J,J,J,J,J,J,J,J,J,J,J,J,J,J,J,J,Z,Z,Z] rfl rfl (by kernel_rfl) (fun _ _ _ h => h) (Or.inr ⟨by rfl, rfl⟩) ?_ ?_
      rotate_left
      ·simp only [Act.put, sA, sB, sC, i64_w, i32_w]; rfl
      refine pure_ (i := 19) (N := some 116) (v := undef) (a' := ?_) #[J,J,J,J,J,J,J,J,J,J,J,J,J,J,J,J,J,J,J,J,Z,Z] rfl rfl (by kernel_rfl) (fun _ _ _ h => h) (Or.inr ⟨by rfl, rfl⟩) ?_ ?_
      rotate_left
      ·simp only [Act.put, sA, sB, sC, i64_w, i32_w]; rfl
      refine pure_ (i := 20) (N := some 117) (v := undef) (a' := ?_) #[J,J,J,J,J,J,J,J,J,J,J,J,J,J,J,J,J,J,J,J,J,Z] rfl rfl (by kernel_rfl) (fun _ _ _ h => h) (Or.inr ⟨by rfl, rfl⟩) ?_ ?_
      rotate_left
      ·simp only [Act.put, sA, sB, sC, i64_w, i32_w]; rfl
      refine pure_ (i := 21) (N := some 118) (v := ?_) (a' := ?_) #[J,J,J,J,J,J,J,J,J,J,J,J,J,J,J,J,J,J,J,J,J,J] rfl rfl (by kernel_rfl) (fun _ _ _ h => h) (Or.inl ⟨by rfl, ?_⟩) ?_ ?_
      rotate_left
      ·intro w'; go_simp; with_reducible rfl
      rotate_left
      ·simp only [Act.put, sA, sB, sC, i64_w, i32_w]; rfl
      refine done_ (by kernel_rfl) ?_
      have BR : Below wr.heap.size wr w4 := (by repeat (first | exact Below.refl _ _ | apply below_alloc | apply below_drewN | apply below_drew | (refine below_set2 ?_ ?_; (first | (simp; done) | (simp; omega))) | (refine below_step ?_ hb4)))
      have HA1 := blk_below HA BR
      have HT1 := blk_below HT BR
      have HE1 := blk_below HE BR
      have HO1' := Lib.hid (Own1.below HO.out BR)
      have HB1' := Lib.hid (below_step HB.out BR)
      clear BR hb4 sc0 sc1 sc2 sc3 tc0 tc1 tc2 tc3 pc0 pc1
      go_wp2
      go_roundw
      case rel => exact ⟨k + 1, by omega, by go_num, HA1, HT1, HE1, HB1'.out, by rw [HT4.out]; exact HO1'.out⟩
      case measure => simp [intOf]; omega
     ·have HO1 : Hid (onB (e.1, e.2) (s1, s2) (s3, s4) = true) := ho1
      rw [HO1.out] at O1
      cases ho2 : onB e (t1, t2) (t3, t4)
      ·have HT4 : Hid (bothTo ((s1, s2), (s3, s4)) ((t1, t2), (t3, t4)) (k + 1) = bothTo ((s1, s2), (s3, s4)) ((t1, t2), (t3, t4)) k) := HN4.out.trans (if_neg (fun h => by have := h.2.1; rw [ho2] at this; cases this))
       have HO2 : Hid (onB (e.1, e.2) (t1, t2) (t3, t4) = false) := ho2
       rw [HO2.out] at O2
       clear ho1 ho2 HN4
       go_wp2_with fail
       refine start_ (n := 22) (S := fun w' => w'.cell? ⟨w.heap.size, 0, none⟩ = some (.int .i64 s1) ∧ w'.cell? ⟨w.heap.size, 1, none⟩ = some (.int .i64 s2) ∧ w'.cell? ⟨w.heap.size, 2, none⟩ = some (.int .i64 s3) ∧ w'.cell? ⟨w.heap.size, 3, none⟩ = some (.int .i64 s4) ∧ w'.cell? ⟨w.heap.size + 1, 0, none⟩ = some (.int .i64 t1) ∧ w'.cell? ⟨w.heap.size + 1, 1, none⟩ = some (.int .i64 t2) ∧ w'.cell? ⟨w.heap.size + 1, 2, none⟩ = some (.int .i64 t3) ∧ w'.cell? ⟨w.heap.size + 1, 3, none⟩ = some (.int .i64 t4) ∧ w'.cell? ⟨W0.heap.size, k * 2, none⟩ = some (.int .i64 e.1) ∧ w'.cell? ⟨W0.heap.size, k * 2 + 1, none⟩ = some (.int .i64 e.2)) (ds := []) #[Z,Z,Z,Z,Z,Z,Z,Z,Z,Z,Z,Z,Z,Z,Z,Z,Z,Z,Z,Z,Z,Z] (by kernel_rfl) rfl rfl ⟨sc0, sc1, sc2, sc3, tc0, tc1, tc2, tc3, pc0, pc1⟩ (fun hHeld => ?_)
       refine pure_ (i := 0) (N := some 97) (v := ?_) (a' := ?_) #[J,Z,Z,Z,Z,Z,Z,Z,Z,Z,Z,Z,Z,Z,Z,Z,Z,Z,Z,Z,Z,Z] rfl rfl (by kernel_rfl) (fun _ _ _ h => h) (Or.inl ⟨by rfl, ?_⟩) ?_ ?_
       rotate_left
       ·intro w'; go_simp; with_reducible rfl
       rotate_left
       ·simp only [Act.put, sA, sB, sC, i64_w, i32_w]; rfl
       refine pure_ (i := 1) (N := some 98) (v := ?_) (a' := ?_) #[J,J,Z,Z,Z,Z,Z,Z,Z,Z,Z,Z,Z,Z,Z,Z,Z,Z,Z,Z,Z,Z] rfl rfl (by kernel_rfl) (fun _ _ _ h => h) (Or.inl ⟨by rfl, ?_⟩) ?_ ?_
       rotate_left
       ·intro w'; go_simp; with_reducible rfl
       rotate_left
       ·simp only [Act.put, sA, sB, sC, i64_w, i32_w]; rfl
       refine pure_ (i := 2) (N := some 99) (v := ?_) (a' := ?_) #[J,J,J,Z,Z,Z,Z,Z,Z,Z,Z,Z,Z,Z,Z,Z,Z,Z,Z,Z,Z,Z] rfl rfl (by kernel_rfl) (fun _ _ _ h => h) (Or.inl ⟨by rfl, ?_⟩) ?_ ?_
       rotate_left
       ·intro w'; go_simp; with_reducible rfl
       rotate_left
       ·simp only [Act.put, sA, sB, sC, i64_w, i32_w]; rfl
       refine pure_ (i := 4) (N := some 101) (v := ?_) (a' := ?_) #[J,J,J,Z,J,Z,Z,Z,Z,Z,Z,Z,Z,Z,Z,Z,Z,Z,Z,Z,Z,Z] rfl rfl (by kernel_rfl) (fun _ _ _ h => h) (Or.inl ⟨by rfl, ?_⟩) ?_ ?_
       rotate_left
       ·intro w'; go_simp; with_reducible rfl
       rotate_left
       ·simp only [Act.put, sA, sB, sC, i64_w, i32_w]; rfl
       refine pure_ (i := 6) (N := some 103) (v := ?_) (a' := ?_) #[J,J,J,Z,J,Z,J,Z,Z,Z,Z,Z,Z,Z,Z,Z,Z,Z,Z,Z,Z,Z] rfl rfl (by kernel_rfl) (fun _ _ _ h => h) (Or.inl ⟨by rfl, ?_⟩) ?_ ?_
       rotate_left
       ·intro w'; go_simp; with_reducible rfl
       rotate_left
       ·simp only [Act.put, sA, sB, sC, i64_w, i32_w]; rfl
       refine take_ (i := 3) (N := some 100) (v := ?_) (a' := ?_) #[J,J,J,J,J,Z,J,Z,Z,Z,Z,Z,Z,Z,Z,Z,Z,Z,Z,Z,Z,Z] rfl rfl (by kernel_rfl) (fun _ _ _ h => h) (Or.inl ⟨by rfl, ?_⟩) hHeld ?_ ?_
       rotate_left
       ·rintro w' ⟨s0, s1, s2, s3, s4, s5, s6, s7, s8, s9⟩; go_simp; with_reducible rfl
       rotate_left
       ·simp only [Act.put, sA, sB, sC, i64_w, i32_w]; rfl
       refine take_ (i := 5) (N := some 102) (v := ?_) (a' := ?_) #[J,J,J,J,J,J,J,Z,Z,Z,Z,Z,Z,Z,Z,Z,Z,Z,Z,Z,Z,Z] rfl rfl (by kernel_rfl) (fun _ _ _ h => h) (Or.inl ⟨by rfl, ?_⟩) hHeld ?_ ?_
       rotate_left
       ·rintro w' ⟨s0, s1, s2, s3, s4, s5, s6, s7, s8, s9⟩; go_simp; with_reducible rfl
       rotate_left
       ·simp only [Act.put, sA, sB, sC, i64_w, i32_w]; rfl
       refine take_ (i := 7) (N := some 104) (v := ?_) (a' := ?_) #[J,J,J,J,J,J,J,J,Z,Z,Z,Z,Z,Z,Z,Z,Z,Z,Z,Z,Z,Z] rfl rfl (by kernel_rfl) (fun _ _ _ h => h) (Or.inl ⟨by rfl, ?_⟩) hHeld ?_ ?_
       rotate_left
       ·rintro w' ⟨s0, s1, s2, s3, s4, s5, s6, s7, s8, s9⟩; go_simp; with_reducible rfl
       rotate_left
       ·simp only [Act.put, sA, sB, sC, i64_w, i32_w]; rfl
       refine one_ (i := 8) (N := some 105) #[J,J,J,J,J,J,J,J,J,Z,Z,Z,Z,Z,Z,Z,Z,Z,Z,Z,Z,Z] rfl rfl (by kernel_rfl) (by decide) (fun K hK => ?_)
       refine goes_ Tryz.func42 (by kernel_rfl) rfl #[.agg #[.int .i64 e.1, .int .i64 e.2], .agg #[.int .i64 s1, .int .i64 s2], .agg #[.int .i64 s3, .int .i64 s4]] (by rfl) rfl rfl (by simp only [List.map_toArray, List.map_cons, List.map_nil]; rfl) ?_
       with_reducible refine (O1.out _).mono ?_
       rintro e' w4 ⟨rfl, hb4⟩
       refine ⟨_, rfl, ?_⟩
       refine hK.out _ _ ⟨blk_cell (blk_below (W := wr.drew) HA hb4) 0 rfl, blk_cell (blk_below (W := wr.drew) HA hb4) 1 rfl, blk_cell (blk_below (W := wr.drew) HA hb4) 2 rfl, blk_cell (blk_below (W := wr.drew) HA hb4) 3 rfl, blk_cell (blk_below (W := wr.drew) HT hb4) 0 rfl, blk_cell (blk_below (W := wr.drew) HT hb4) 1 rfl, blk_cell (blk_below (W := wr.drew) HT hb4) 2 rfl, blk_cell (blk_below (W := wr.drew) HT hb4) 3 rfl, (cell_below hb4 pc0), (cell_below hb4 pc1)⟩ (fun hHeld => ?_)
       clear hK K
       refine norm_ (a' := ?_) ?_ ?_
       rotate_left
       ·show Act.put _ (some 105) _ = _
        simp only [Act.put, sA, sB, sC, i64_w, i32_w]; rfl
       refine pure_ (i := 9) (N := some 106) (v := ?_) (a' := ?_) #[J,J,J,J,J,J,J,J,J,J,Z,Z,Z,Z,Z,Z,Z,Z,Z,Z,Z,Z] rfl rfl (by kernel_rfl) (fun _ _ _ h => h) (Or.inl ⟨by rfl, ?_⟩) ?_ ?_
       rotate_left
       ·intro w'; go_simp; with_reducible rfl
       rotate_left
       ·simp only [Act.put, sA, sB, sC, i64_w, i32_w]; rfl
       refine pure_ (i := 10) (N := some 107) (v := ?_) (a' := ?_) #[J,J,J,J,J,J,J,J,J,J,J,Z,Z,Z,Z,Z,Z,Z,Z,Z,Z,Z] rfl rfl (by kernel_rfl) (fun _ _ _ h => h) (Or.inl ⟨by rfl, ?_⟩) ?_ ?_
       rotate_left
       ·intro w'; go_simp; with_reducible rfl
       rotate_left
       ·simp only [Act.put, sA, sB, sC, i64_w, i32_w]; rfl
       refine pure_ (i := 11) (N := some 108) (v := ?_) (a' := ?_) #[J,J,J,J,J,J,J,J,J,J,J,J,Z,Z,Z,Z,Z,Z,Z,Z,Z,Z] rfl rfl (by kernel_rfl) (fun _ _ _ h => h) (Or.inl ⟨by rfl, ?_⟩) ?_ ?_
       rotate_left
       ·intro w'; go_simp; with_reducible rfl
       rotate_left
       ·simp only [Act.put, sA, sB, sC, i64_w, i32_w]; rfl
       refine pure_ (i := 12) (N := some 109) (v := ?_) (a' := ?_) #[J,J,J,J,J,J,J,J,J,J,J,J,J,Z,Z,Z,Z,Z,Z,Z,Z,Z] rfl rfl (by kernel_rfl) (fun _ _ _ h => h) (Or.inl ⟨by rfl, ?_⟩) ?_ ?_
       rotate_left
       ·intro w'; go_simp; with_reducible rfl
       rotate_left
       ·simp only [Act.put, sA, sB, sC, i64_w, i32_w]; rfl
       refine pure_ (i := 13) (N := some 110) (v := ?_) (a' := ?_) #[J,J,J,J,J,J,J,J,J,J,J,J,J,J,Z,Z,Z,Z,Z,Z,Z,Z] rfl rfl (by kernel_rfl) (fun _ _ _ h => h) (Or.inl ⟨by rfl, ?_⟩) ?_ ?_
       rotate_left
       ·intro w'; go_simp; with_reducible rfl
       rotate_left
       ·simp only [Act.put, sA, sB, sC, i64_w, i32_w]; rfl
       refine pure_ (i := 15) (N := some 112) (v := ?_) (a' := ?_) #[J,J,J,J,J,J,J,J,J,J,J,J,J,J,Z,J,Z,Z,Z,Z,Z,Z] rfl rfl (by kernel_rfl) (fun _ _ _ h => h) (Or.inl ⟨by rfl, ?_⟩) ?_ ?_
       rotate_left
       ·intro w'; go_simp; with_reducible rfl
       rotate_left
       ·simp only [Act.put, sA, sB, sC, i64_w, i32_w]; rfl
       refine pure_ (i := 17) (N := some 114) (v := ?_) (a' := ?_) #[J,J,J,J,J,J,J,J,J,J,J,J,J,J,Z,J,Z,J,Z,Z,Z,Z] rfl rfl (by kernel_rfl) (fun _ _ _ h => h) (Or.inl ⟨by rfl, ?_⟩) ?_ ?_
       rotate_left
       ·intro w'; go_simp; with_reducible rfl
       rotate_left
       ·simp only [Act.put, sA, sB, sC, i64_w, i32_w]; rfl
       refine take_ (i := 14) (N := some 111) (v := ?_) (a' := ?_) #[J,J,J,J,J,J,J,J,J,J,J,J,J,J,J,J,Z,J,Z,Z,Z,Z] rfl rfl (by kernel_rfl) (fun _ _ _ h => h) (Or.inl ⟨by rfl, ?_⟩) hHeld ?_ ?_
       rotate_left
       ·rintro w' ⟨s0, s1, s2, s3, s4, s5, s6, s7, s8, s9⟩; go_simp; with_reducible rfl
       rotate_left
       ·simp only [Act.put, sA, sB, sC, i64_w, i32_w]; rfl
       refine take_ (i := 16) (N := some 113) (v := ?_) (a' := ?_) #[J,J,J,J,J,J,J,J,J,J,J,J,J,J,J,J,J,J,Z,Z,Z,Z] rfl rfl (by kernel_rfl) (fun _ _ _ h => h) (Or.inl ⟨by rfl, ?_⟩) hHeld ?_ ?_
       rotate_left
       ·rintro w' ⟨s0, s1, s2, s3, s4, s5, s6, s7, s8, s9⟩; go_simp; with_reducible rfl
       rotate_left
       ·simp only [Act.put, sA, sB, sC, i64_w, i32_w]; rfl
       refine take_ (i := 18) (N := some 115) (v := ?_) (a' := ?_) #[J,J,J,J,J,J,J,J,J,J,J,J,J,J,J,J,J,J,J,Z,Z,Z] rfl rfl (by kernel_rfl) (fun _ _ _ h => h) (Or.inl ⟨by rfl, ?_⟩) hHeld ?_ ?_
       rotate_left
       ·rintro w' ⟨s0, s1, s2, s3, s4, s5, s6, s7, s8, s9⟩; go_simp; with_reducible rfl
       rotate_left
       ·simp only [Act.put, sA, sB, sC, i64_w, i32_w]; rfl
       refine one_ (i := 19) (N := some 116) #[J,J,J,J,J,J,J,J,J,J,J,J,J,J,J,J,J,J,J,J,Z,Z] rfl rfl (by kernel_rfl) (by decide) (fun K hK => ?_)
       refine goes_ Tryz.func42 (by kernel_rfl) rfl #[.agg #[.int .i64 e.1, .int .i64 e.2], .agg #[.int .i64 t1, .int .i64 t2], .agg #[.int .i64 t3, .int .i64 t4]] (by rfl) rfl rfl (by simp only [List.map_toArray, List.map_cons, List.map_nil]; rfl) ?_
       with_reducible refine (O2.out _).mono ?_
       rintro e' w5 ⟨rfl, hb5⟩
       refine ⟨_, rfl, ?_⟩
       refine hK.out _ _ ⟨blk_cell (blk_below (blk_below (W := wr.drew) HA hb4) hb5) 0 rfl, blk_cell (blk_below (blk_below (W := wr.drew) HA hb4) hb5) 1 rfl, blk_cell (blk_below (blk_below (W := wr.drew) HA hb4) hb5) 2 rfl, blk_cell (blk_below (blk_below (W := wr.drew) HA hb4) hb5) 3 rfl, blk_cell (blk_below (blk_below (W := wr.drew) HT hb4) hb5) 0 rfl, blk_cell (blk_below (blk_below (W := wr.drew) HT hb4) hb5) 1 rfl, blk_cell (blk_below (blk_below (W := wr.drew) HT hb4) hb5) 2 rfl, blk_cell (blk_below (blk_below (W := wr.drew) HT hb4) hb5) 3 rfl, (cell_below hb5 (cell_below hb4 pc0)), (cell_below hb5 (cell_below hb4 pc1))⟩ (fun hHeld => ?_)
       clear hK K
       refine norm_ (a' := ?_) ?_ ?_
       rotate_left
       ·show Act.put _ (some 116) _ = _
        simp only [Act.put, sA, sB, sC, i64_w, i32_w]; rfl
       refine pure_ (i := 20) (N := some 117) (v := ?_) (a' := ?_) #[J,J,J,J,J,J,J,J,J,J,J,J,J,J,J,J,J,J,J,J,J,Z] rfl rfl (by kernel_rfl) (fun _ _ _ h => h) (Or.inl ⟨by rfl, ?_⟩) ?_ ?_
       rotate_left
       ·intro w'; go_simp; with_reducible rfl
       rotate_left
       ·simp only [Act.put, sA, sB, sC, i64_w, i32_w]; rfl
       refine pure_ (i := 21) (N := some 118) (v := ?_) (a' := ?_) #[J,J,J,J,J,J,J,J,J,J,J,J,J,J,J,J,J,J,J,J,J,J] rfl rfl (by kernel_rfl) (fun _ _ _ h => h) (Or.inl ⟨by rfl, ?_⟩) ?_ ?_
       rotate_left
       ·intro w'; go_simp; with_reducible rfl
       rotate_left
       ·simp only [Act.put, sA, sB, sC, i64_w, i32_w]; rfl
       refine done_ (by kernel_rfl) ?_
       have BR : Below wr.heap.size wr w5 := (by repeat (first | exact Below.refl _ _ | apply below_alloc | apply below_drewN | apply below_drew | (refine below_set2 ?_ ?_; (first | (simp; done) | (simp; omega))) | (refine below_step ?_ hb5) | (refine below_step ?_ hb4)))
       have HA1 := blk_below HA BR
       have HT1 := blk_below HT BR
       have HE1 := blk_below HE BR
       have HO1' := Lib.hid (Own1.below HO.out BR)
       have HB1' := Lib.hid (below_step HB.out BR)
       clear BR hb4 hb5 sc0 sc1 sc2 sc3 tc0 tc1 tc2 tc3 pc0 pc1
       go_wp2
       go_roundw
       case rel => exact ⟨k + 1, by omega, by go_num, HA1, HT1, HE1, HB1'.out, by rw [HT4.out]; exact HO1'.out⟩
       case measure => simp [intOf]; omega
      ·have HT4 : Hid (bothTo ((s1, s2), (s3, s4)) ((t1, t2), (t3, t4)) (k + 1) = if e ∉ bothTo ((s1, s2), (s3, s4)) ((t1, t2), (t3, t4)) k then bothTo ((s1, s2), (s3, s4)) ((t1, t2), (t3, t4)) k ++ [e] else bothTo ((s1, s2), (s3, s4)) ((t1, t2), (t3, t4)) k) := HN4.out.trans (by unfold bothF; simp only [ho1, ho2, true_and])
       have HO2 : Hid (onB (e.1, e.2) (t1, t2) (t3, t4) = true) := ho2
       rw [HO2.out] at O2
       clear ho1 ho2 HN4
       go_wp2_with fail
       refine start_ (n := 22) (S := fun w' => w'.cell? ⟨w.heap.size, 0, none⟩ = some (.int .i64 s1) ∧ w'.cell? ⟨w.heap.size, 1, none⟩ = some (.int .i64 s2) ∧ w'.cell? ⟨w.heap.size, 2, none⟩ = some (.int .i64 s3) ∧ w'.cell? ⟨w.heap.size, 3, none⟩ = some (.int .i64 s4) ∧ w'.cell? ⟨w.heap.size + 1, 0, none⟩ = some (.int .i64 t1) ∧ w'.cell? ⟨w.heap.size + 1, 1, none⟩ = some (.int .i64 t2) ∧ w'.cell? ⟨w.heap.size + 1, 2, none⟩ = some (.int .i64 t3) ∧ w'.cell? ⟨w.heap.size + 1, 3, none⟩ = some (.int .i64 t4) ∧ w'.cell? ⟨W0.heap.size, k * 2, none⟩ = some (.int .i64 e.1) ∧ w'.cell? ⟨W0.heap.size, k * 2 + 1, none⟩ = some (.int .i64 e.2)) (ds := []) #[Z,Z,Z,Z,Z,Z,Z,Z,Z,Z,Z,Z,Z,Z,Z,Z,Z,Z,Z,Z,Z,Z] (by kernel_rfl) rfl rfl ⟨sc0, sc1, sc2, sc3, tc0, tc1, tc2, tc3, pc0, pc1⟩ (fun hHeld => ?_)
       refine pure_ (i := 0) (N := some 97) (v := ?_) (a' := ?_) #[J,Z,Z,Z,Z,Z,Z,Z,Z,Z,Z,Z,Z,Z,Z,Z,Z,Z,Z,Z,Z,Z] rfl rfl (by kernel_rfl) (fun _ _ _ h => h) (Or.inl ⟨by rfl, ?_⟩) ?_ ?_
       rotate_left
       ·intro w'; go_simp; with_reducible rfl
       rotate_left
       ·simp only [Act.put, sA, sB, sC, i64_w, i32_w]; rfl
       refine pure_ (i := 1) (N := some 98) (v := ?_) (a' := ?_) #[J,J,Z,Z,Z,Z,Z,Z,Z,Z,Z,Z,Z,Z,Z,Z,Z,Z,Z,Z,Z,Z] rfl rfl (by kernel_rfl) (fun _ _ _ h => h) (Or.inl ⟨by rfl, ?_⟩) ?_ ?_
       rotate_left
       ·intro w'; go_simp; with_reducible rfl
       rotate_left
       ·simp only [Act.put, sA, sB, sC, i64_w, i32_w]; rfl
       refine pure_ (i := 2) (N := some 99) (v := ?_) (a' := ?_) #[J,J,J,Z,Z,Z,Z,Z,Z,Z,Z,Z,Z,Z,Z,Z,Z,Z,Z,Z,Z,Z] rfl rfl (by kernel_rfl) (fun _ _ _ h => h) (Or.inl ⟨by rfl, ?_⟩) ?_ ?_
       rotate_left
       ·intro w'; go_simp; with_reducible rfl
       rotate_left
       ·simp only [Act.put, sA, sB, sC, i64_w, i32_w]; rfl
       refine pure_ (i := 4) (N := some 101) (v := ?_) (a' := ?_) #[J,J,J,Z,J,Z,Z,Z,Z,Z,Z,Z,Z,Z,Z,Z,Z,Z,Z,Z,Z,Z] rfl rfl (by kernel_rfl) (fun _ _ _ h => h) (Or.inl ⟨by rfl, ?_⟩) ?_ ?_
       rotate_left
       ·intro w'; go_simp; with_reducible rfl
       rotate_left
       ·simp only [Act.put, sA, sB, sC, i64_w, i32_w]; rfl
       refine pure_ (i := 6) (N := some 103) (v := ?_) (a' := ?_) #[J,J,J,Z,J,Z,J,Z,Z,Z,Z,Z,Z,Z,Z,Z,Z,Z,Z,Z,Z,Z] rfl rfl (by kernel_rfl) (fun _ _ _ h => h) (Or.inl ⟨by rfl, ?_⟩) ?_ ?_
       rotate_left
       ·intro w'; go_simp; with_reducible rfl
       rotate_left
       ·simp only [Act.put, sA, sB, sC, i64_w, i32_w]; rfl
       refine take_ (i := 3) (N := some 100) (v := ?_) (a' := ?_) #[J,J,J,J,J,Z,J,Z,Z,Z,Z,Z,Z,Z,Z,Z,Z,Z,Z,Z,Z,Z] rfl rfl (by kernel_rfl) (fun _ _ _ h => h) (Or.inl ⟨by rfl, ?_⟩) hHeld ?_ ?_
       rotate_left
       ·rintro w' ⟨s0, s1, s2, s3, s4, s5, s6, s7, s8, s9⟩; go_simp; with_reducible rfl
       rotate_left
       ·simp only [Act.put, sA, sB, sC, i64_w, i32_w]; rfl
       refine take_ (i := 5) (N := some 102) (v := ?_) (a' := ?_) #[J,J,J,J,J,J,J,Z,Z,Z,Z,Z,Z,Z,Z,Z,Z,Z,Z,Z,Z,Z] rfl rfl (by kernel_rfl) (fun _ _ _ h => h) (Or.inl ⟨by rfl, ?_⟩) hHeld ?_ ?_
       rotate_left
       ·rintro w' ⟨s0, s1, s2, s3, s4, s5, s6, s7, s8, s9⟩; go_simp; with_reducible rfl
       rotate_left
       ·simp only [Act.put, sA, sB, sC, i64_w, i32_w]; rfl
       refine take_ (i := 7) (N := some 104) (v := ?_) (a' := ?_) #[J,J,J,J,J,J,J,J,Z,Z,Z,Z,Z,Z,Z,Z,Z,Z,Z,Z,Z,Z] rfl rfl (by kernel_rfl) (fun _ _ _ h => h) (Or.inl ⟨by rfl, ?_⟩) hHeld ?_ ?_
       rotate_left
       ·rintro w' ⟨s0, s1, s2, s3, s4, s5, s6, s7, s8, s9⟩; go_simp; with_reducible rfl
       rotate_left
       ·simp only [Act.put, sA, sB, sC, i64_w, i32_w]; rfl
       refine one_ (i := 8) (N := some 105) #[J,J,J,J,J,J,J,J,J,Z,Z,Z,Z,Z,Z,Z,Z,Z,Z,Z,Z,Z] rfl rfl (by kernel_rfl) (by decide) (fun K hK => ?_)
       refine goes_ Tryz.func42 (by kernel_rfl) rfl #[.agg #[.int .i64 e.1, .int .i64 e.2], .agg #[.int .i64 s1, .int .i64 s2], .agg #[.int .i64 s3, .int .i64 s4]] (by rfl) rfl rfl (by simp only [List.map_toArray, List.map_cons, List.map_nil]; rfl) ?_
       with_reducible refine (O1.out _).mono ?_
       rintro e' w4 ⟨rfl, hb4⟩
       refine ⟨_, rfl, ?_⟩
       refine hK.out _ _ ⟨blk_cell (blk_below (W := wr.drew) HA hb4) 0 rfl, blk_cell (blk_below (W := wr.drew) HA hb4) 1 rfl, blk_cell (blk_below (W := wr.drew) HA hb4) 2 rfl, blk_cell (blk_below (W := wr.drew) HA hb4) 3 rfl, blk_cell (blk_below (W := wr.drew) HT hb4) 0 rfl, blk_cell (blk_below (W := wr.drew) HT hb4) 1 rfl, blk_cell (blk_below (W := wr.drew) HT hb4) 2 rfl, blk_cell (blk_below (W := wr.drew) HT hb4) 3 rfl, (cell_below hb4 pc0), (cell_below hb4 pc1)⟩ (fun hHeld => ?_)
       clear hK K
       refine norm_ (a' := ?_) ?_ ?_
       rotate_left
       ·show Act.put _ (some 105) _ = _
        simp only [Act.put, sA, sB, sC, i64_w, i32_w]; rfl
       refine pure_ (i := 9) (N := some 106) (v := ?_) (a' := ?_) #[J,J,J,J,J,J,J,J,J,J,Z,Z,Z,Z,Z,Z,Z,Z,Z,Z,Z,Z] rfl rfl (by kernel_rfl) (fun _ _ _ h => h) (Or.inl ⟨by rfl, ?_⟩) ?_ ?_
       rotate_left
       ·intro w'; go_simp; with_reducible rfl
       rotate_left
       ·simp only [Act.put, sA, sB, sC, i64_w, i32_w]; rfl
       refine pure_ (i := 10) (N := some 107) (v := ?_) (a' := ?_) #[J,J,J,J,J,J,J,J,J,J,J,Z,Z,Z,Z,Z,Z,Z,Z,Z,Z,Z] rfl rfl (by kernel_rfl) (fun _ _ _ h => h) (Or.inl ⟨by rfl, ?_⟩) ?_ ?_
       rotate_left
       ·intro w'; go_simp; with_reducible rfl
       rotate_left
       ·simp only [Act.put, sA, sB, sC, i64_w, i32_w]; rfl
       refine pure_ (i := 11) (N := some 108) (v := ?_) (a' := ?_) #[J,J,J,J,J,J,J,J,J,J,J,J,Z,Z,Z,Z,Z,Z,Z,Z,Z,Z] rfl rfl (by kernel_rfl) (fun _ _ _ h => h) (Or.inl ⟨by rfl, ?_⟩) ?_ ?_
       rotate_left
       ·intro w'; go_simp; with_reducible rfl
       rotate_left
       ·simp only [Act.put, sA, sB, sC, i64_w, i32_w]; rfl
       refine pure_ (i := 12) (N := some 109) (v := ?_) (a' := ?_) #[J,J,J,J,J,J,J,J,J,J,J,J,J,Z,Z,Z,Z,Z,Z,Z,Z,Z] rfl rfl (by kernel_rfl) (fun _ _ _ h => h) (Or.inl ⟨by rfl, ?_⟩) ?_ ?_
       rotate_left
       ·intro w'; go_simp; with_reducible rfl
       rotate_left
       ·simp only [Act.put, sA, sB, sC, i64_w, i32_w]; rfl
       refine pure_ (i := 13) (N := some 110) (v := ?_) (a' := ?_) #[J,J,J,J,J,J,J,J,J,J,J,J,J,J,Z,Z,Z,Z,Z,Z,Z,Z] rfl rfl (by kernel_rfl) (fun _ _ _ h => h) (Or.inl ⟨by rfl, ?_⟩) ?_ ?_
       rotate_left
       ·intro w'; go_simp; with_reducible rfl
       rotate_left
       ·simp only [Act.put, sA, sB, sC, i64_w, i32_w]; rfl
       refine pure_ (i := 15) (N := some 112) (v := ?_) (a' := ?_) #[J,J,J,J,J,J,J,J,J,J,J,J,J,J,Z,J,Z,Z,Z,Z,Z,Z] rfl rfl (by kernel_rfl) (fun _ _ _ h => h) (Or.inl ⟨by rfl, ?_⟩) ?_ ?_
       rotate_left
       ·intro w'; go_simp; with_reducible rfl
       rotate_left
       ·simp only [Act.put, sA, sB, sC, i64_w, i32_w]; rfl
       refine pure_ (i := 17) (N := some 114) (v := ?_) (a' := ?_) #[J,J,J,J,J,J,J,J,J,J,J,J,J,J,Z,J,Z,J,Z,Z,Z,Z] rfl rfl (by kernel_rfl) (fun _ _ _ h => h) (Or.inl ⟨by rfl, ?_⟩) ?_ ?_
       rotate_left
       ·intro w'; go_simp; with_reducible rfl
       rotate_left
       ·simp only [Act.put, sA, sB, sC, i64_w, i32_w]; rfl
       refine take_ (i := 14) (N := some 111) (v := ?_) (a' := ?_) #[J,J,J,J,J,J,J,J,J,J,J,J,J,J,J,J,Z,J,Z,Z,Z,Z] rfl rfl (by kernel_rfl) (fun _ _ _ h => h) (Or.inl ⟨by rfl, ?_⟩) hHeld ?_ ?_
       rotate_left
       ·rintro w' ⟨s0, s1, s2, s3, s4, s5, s6, s7, s8, s9⟩; go_simp; with_reducible rfl
       rotate_left
       ·simp only [Act.put, sA, sB, sC, i64_w, i32_w]; rfl
       refine take_ (i := 16) (N := some 113) (v := ?_) (a' := ?_) #[J,J,J,J,J,J,J,J,J,J,J,J,J,J,J,J,J,J,Z,Z,Z,Z] rfl rfl (by kernel_rfl) (fun _ _ _ h => h) (Or.inl ⟨by rfl, ?_⟩) hHeld ?_ ?_
       rotate_left
       ·rintro w' ⟨s0, s1, s2, s3, s4, s5, s6, s7, s8, s9⟩; go_simp; with_reducible rfl
       rotate_left
       ·simp only [Act.put, sA, sB, sC, i64_w, i32_w]; rfl
       refine take_ (i := 18) (N := some 115) (v := ?_) (a' := ?_) #[J,J,J,J,J,J,J,J,J,J,J,J,J,J,J,J,J,J,J,Z,Z,Z] rfl rfl (by kernel_rfl) (fun _ _ _ h => h) (Or.inl ⟨by rfl, ?_⟩) hHeld ?_ ?_
       rotate_left
       ·rintro w' ⟨s0, s1, s2, s3, s4, s5, s6, s7, s8, s9⟩; go_simp; with_reducible rfl
       rotate_left
       ·simp only [Act.put, sA, sB, sC, i64_w, i32_w]; rfl
       refine one_ (i := 19) (N := some 116) #[J,J,J,J,J,J,J,J,J,J,J,J,J,J,J,J,J,J,J,J,Z,Z] rfl rfl (by kernel_rfl) (by decide) (fun K hK => ?_)
       refine goes_ Tryz.func42 (by kernel_rfl) rfl #[.agg #[.int .i64 e.1, .int .i64 e.2], .agg #[.int .i64 t1, .int .i64 t2], .agg #[.int .i64 t3, .int .i64 t4]] (by rfl) rfl rfl (by simp only [List.map_toArray, List.map_cons, List.map_nil]; rfl) ?_
       with_reducible refine (O2.out _).mono ?_
       rintro e' w5 ⟨rfl, hb5⟩
       refine ⟨_, rfl, ?_⟩
       refine hK.out _ _ ⟨blk_cell (blk_below (blk_below (W := wr.drew) HA hb4) hb5) 0 rfl, blk_cell (blk_below (blk_below (W := wr.drew) HA hb4) hb5) 1 rfl, blk_cell (blk_below (blk_below (W := wr.drew) HA hb4) hb5) 2 rfl, blk_cell (blk_below (blk_below (W := wr.drew) HA hb4) hb5) 3 rfl, blk_cell (blk_below (blk_below (W := wr.drew) HT hb4) hb5) 0 rfl, blk_cell (blk_below (blk_below (W := wr.drew) HT hb4) hb5) 1 rfl, blk_cell (blk_below (blk_below (W := wr.drew) HT hb4) hb5) 2 rfl, blk_cell (blk_below (blk_below (W := wr.drew) HT hb4) hb5) 3 rfl, (cell_below hb5 (cell_below hb4 pc0)), (cell_below hb5 (cell_below hb4 pc1))⟩ (fun hHeld => ?_)
       clear hK K
       refine norm_ (a' := ?_) ?_ ?_
       rotate_left
       ·show Act.put _ (some 116) _ = _
        simp only [Act.put, sA, sB, sC, i64_w, i32_w]; rfl
       refine pure_ (i := 20) (N := some 117) (v := ?_) (a' := ?_) #[J,J,J,J,J,J,J,J,J,J,J,J,J,J,J,J,J,J,J,J,J,Z] rfl rfl (by kernel_rfl) (fun _ _ _ h => h) (Or.inl ⟨by rfl, ?_⟩) ?_ ?_
       rotate_left
       ·intro w'; go_simp; with_reducible rfl
       rotate_left
       ·simp only [Act.put, sA, sB, sC, i64_w, i32_w]; rfl
       refine pure_ (i := 21) (N := some 118) (v := ?_) (a' := ?_) #[J,J,J,J,J,J,J,J,J,J,J,J,J,J,J,J,J,J,J,J,J,J] rfl rfl (by kernel_rfl) (fun _ _ _ h => h) (Or.inl ⟨by rfl, ?_⟩) ?_ ?_
       rotate_left
       ·intro w'; go_simp; with_reducible rfl
       rotate_left
       ·simp only [Act.put, sA, sB, sC, i64_w, i32_w]; rfl
       refine done_ (by kernel_rfl) ?_
       have BR : Below wr.heap.size wr w5 := (by repeat (first | exact Below.refl _ _ | apply below_alloc | apply below_drewN | apply below_drew | (refine below_set2 ?_ ?_; (first | (simp; done) | (simp; omega))) | (refine below_step ?_ hb5) | (refine below_step ?_ hb4)))
       have HA1 := Lib.hid (blk_below HA BR)
       have HT1 := Lib.hid (blk_below HT BR)
       have HE1 := Lib.hid (blk_below HE BR)
       have hd0 := cell_below BR pc0
       have hd1 := cell_below BR pc1
       have HB1' := Lib.hid (below_step HB.out BR)
       generalize bothTo ((s1, s2), (s3, s4)) ((t1, t2), (t3, t4)) k = acc at *
       have HO1' := Lib.hid (Own1.below HO.out BR)
       obtain ⟨A7, c7, hv7, hl7, hr7⟩ := HO1'.out.reads
       subst hv7
       have HR7 := Lib.hid hr7
       have hz5 := BR.size
       have hpb := World.block_lt_of_cell? _ _ hd0
       clear BR hb4 hb5 sc0 sc1 sc2 sc3 tc0 tc1 tc2 tc3 pc0 pc1 hr7 HA HT HE HB HO
       go_wp2
       go_loopw [12, 13] (fun b q wr => ∃ m : Nat, m ≤ acc.length ∧ q = .int .i64 m ∧ b = .bool (decide (e ∈ acc.take m)) ∧ Hid (Below w5.heap.size w5 wr)) (fun _ q _ => acc.length - (intOf q).toNat)
       case atStart => exact ⟨0, Nat.zero_le _, rfl, by simp, Below.refl _ _⟩
       case round =>
        obtain ⟨m, hm, rfl, rfl, HBm⟩ := hrel
        have hf0 := cell_below HBm.out hd0
        have hf1 := cell_below HBm.out hd1
        have hzm := HBm.out.size
        by_cases hml : m < acc.length
        ·obtain ⟨ay, hay, hy0, hy1⟩ := (HR7.out.below HBm.out).pt_at m hml
         subst hay
         have htk : Hid (acc.take (m + 1) = acc.take m ++ [ptD acc m]) := take_snoc acc m (0, 0) hml
         generalize ptD acc m = y at *
         by_cases hin : e ∈ acc.take m
         ·have HI : Hid (decide (e ∈ acc.take (m + 1)) = true) := decide_eq_true (by rw [htk.out]; exact List.mem_append_left _ hin)
          rw [decide_eq_true hin]
          clear hin htk
          go_wp2_with fail
          go_quiet (fail)
          go_wp2
          go_roundw
          case rel => exact ⟨m + 1, by omega, by go_num, by rw [HI.out], (by repeat (first | exact Below.refl _ _ | apply below_alloc | apply below_drewN | apply below_drew | (refine below_set2 ?_ ?_; (first | (simp; done) | (simp; omega))) | (refine below_step ?_ HBm.out)))⟩
          case measure => simp [intOf]; omega
         ·rw [decide_eq_false hin]
          by_cases hye : y = e
          ·have HI : Hid (decide (e ∈ acc.take (m + 1)) = true) := decide_eq_true (by rw [htk.out, hye]; simp)
           have hdy := (ptB y e).trans (decide_eq_true hye)
           clear hin htk hye
           go_wp2_with fail
           go_quiet (fail)
           go_wp2
           go_roundw
           case rel => exact ⟨m + 1, by omega, by go_num, by rw [HI.out], (by repeat (first | exact Below.refl _ _ | apply below_alloc | apply below_drewN | apply below_drew | (refine below_set2 ?_ ?_; (first | (simp; done) | (simp; omega))) | (refine below_step ?_ HBm.out)))⟩
           case measure => simp [intOf]; omega
          ·have HI : Hid (decide (e ∈ acc.take (m + 1)) = false) := decide_eq_false (by rw [htk.out, List.mem_append, List.mem_singleton]; exact fun h => h.elim hin (fun h => hye h.symm))
           have hdy := (ptB y e).trans (decide_eq_false hye)
           clear hin htk hye
           go_wp2_with fail
           go_quiet (fail)
           go_wp2
           go_roundw
           case rel => exact ⟨m + 1, by omega, by go_num, by rw [HI.out], (by repeat (first | exact Below.refl _ _ | apply below_alloc | apply below_drewN | apply below_drew | (refine below_set2 ?_ ?_; (first | (simp; done) | (simp; omega))) | (refine below_step ?_ HBm.out)))⟩
           case measure => simp [intOf]; omega
        ·obtain rfl : m = acc.length := by omega
         rw [List.take_length]
         have HA2 := Lib.hid (blk_below HA1.out HBm.out)
         have HT2 := Lib.hid (blk_below HT1.out HBm.out)
         have HE2 := Lib.hid (blk_below HE1.out HBm.out)
         have HO2' := Lib.hid (Own1.below HO1'.out HBm.out)
         have HB2 := Lib.hid (below_step HB1'.out HBm.out)
         have hzz : w.heap.size ≤ W0.heap.size := hz0
         by_cases hin : e ∈ acc
         ·have HT5 := Lib.hid (HT4.out.trans (if_neg (fun h => h hin)))
          rw [decide_eq_true hin]
          clear hin HT4
          go_wp2
          go_roundw
          case rel => exact ⟨k + 1, by omega, by go_num, HA2.out, HT2.out, HE2.out, HB2.out, by rw [HT5.out]; exact HO2'.out⟩
          case measure => simp [intOf]; omega
         ·have HT5 := Lib.hid (HT4.out.trans (if_pos hin))
          rw [decide_eq_false hin]
          clear hin HT4
          go_wp2_with (at_builtin; refine app_one Ty.pt (W := wr) (W0.heap.size + 1) rfl _ _ 41 24 _ 16 rfl Tryz.underlying41 infoPt rfl (by decide) (.slice A7 acc.length c7) acc e _ _ rfl rfl rfl rfl HO2'.out (by omega) (by omega) ?_; intro v8 w8' HO8 hg8 hat8)
          have hne : ∀ g, g ≤ W0.heap.size → some g ≠ (Value.slice A7 acc.length c7).ownBlock := fun g hg e => by have := (OwnR.lt HO2'.out _ e.symm).1; omega
          have HA3 := (hg8.block _ (lt_of_block HA2.out) (hne _ (by omega))).trans HA2.out
          have HT3 := (hg8.block _ (lt_of_block HT2.out) (hne _ (by omega))).trans HT2.out
          have HE3 := (hg8.block _ (lt_of_block HE2.out) (hne _ (by omega))).trans HE2.out
          have HO3 := Lib.hid (Own1.of HO8)
          have HB3 := Lib.hid (show Below w.heap.size w w8' from below_own HB2.out hg8 (fun b e => by have := (OwnR.lt HO2'.out b e).1; omega))
          clear HO8 hg8 hat8 hne
          go_wp2
          go_roundw
          case rel => exact ⟨k + 1, by omega, by go_num, HA3, HT3, HE3, HB3.out, by rw [HT5.out]; exact HO3.out⟩
          case measure => simp [intOf]; omega
    ·obtain rfl : k = 4 := by omega
     have HBR : Hid (bothR ((s1, s2), (s3, s4)) ((t1, t2), (t3, t4)) = bothTo ((s1, s2), (s3, s4)) ((t1, t2), (t3, t4)) 4) := rfl
     have HN2 := HN.out
     rw [HBR.out] at HN2
     have HN3 := Lib.hid HN2
     clear HN HN2
     generalize bothTo ((s1, s2), (s3, s4)) ((t1, t2), (t3, t4)) 4 = acc at *
     obtain ⟨A7, c7, hv7, hl7, hr7⟩ := HO.out.reads
     subst hv7
     by_cases h1 : 1 < acc.length
     ·have HR : Hid (r = 3) := HN3.out.trans (if_pos h1)
      have q1 : decide ((1 : Int) < (acc.length : Int)) = true := decide_eq_true (by omega)
      clear HN3 h1
      go_wp2
      go_ret
      exact ⟨ret_int HR.out.symm, HB.out⟩
     ·have q1 : decide ((1 : Int) < (acc.length : Int)) = false := decide_eq_false (by omega)
      by_cases h2 : acc.length = 1
      ·have HR : Hid (r = 1) := HN3.out.trans (by rw [if_neg h1, if_pos h2])
       have q2 : ((acc.length : Int) == 1) = true := by rw [beq_iff_eq]; omega
       have q2' : (acc.length == 1) = true := by rw [beq_iff_eq]; omega
       clear HN3 h1 h2
       go_wp2
       go_ret
       exact ⟨ret_int HR.out.symm, HB.out⟩
      ·have HR : Hid (r = 0) := HN3.out.trans (by rw [if_neg h1, if_neg h2])
       have q2 : ((acc.length : Int) == 1) = false := by rw [beq_eq_false_iff_ne]; omega
       have q2' : (acc.length == 1) = false := by rw [beq_eq_false_iff_ne]; omega
       clear HN3 h1 h2
       go_wp2
       go_ret
       exact ⟨ret_int HR.out.symm, HB.out⟩
 ·have qx : decide (a * b < 0) = false := decide_eq_false hx
  have HN := Lib.hid (HF.out.trans (if_neg (fun h => hx (of_decide_eq_true h).1)))
  clear HF hx
  obtain ⟨W0, hW0⟩ : ∃ W0, W0 = w12 := ⟨_, rfl⟩
  rw [← hW0] at HA12 HT12 HB12 ⊢
  clear hW0
  have sc0 := blk_cell HA12 0 rfl
  have sc1 := blk_cell HA12 1 rfl
  have sc2 := blk_cell HA12 2 rfl
  have sc3 := blk_cell HA12 3 rfl
  have tc0 := blk_cell HT12 0 rfl
  have tc1 := blk_cell HT12 1 rfl
  have tc2 := blk_cell HT12 2 rfl
  have tc3 := blk_cell HT12 3 rfl
  have HE0 : (W0.alloc (.cells #[.int .i64 s1, .int .i64 s2, .int .i64 s3, .int .i64 s4, .int .i64 t1, .int .i64 t2, .int .i64 t3, .int .i64 t4] 24)).heap[W0.heap.size]? = some (.cells #[.int .i64 s1, .int .i64 s2, .int .i64 s3, .int .i64 s4, .int .i64 t1, .int .i64 t2, .int .i64 t3, .int .i64 t4] 24 (0, 0)) := heap_alloc_new _ _
  have HA0 := blk_alloc HA12 (.cells #[.int .i64 s1, .int .i64 s2, .int .i64 s3, .int .i64 s4, .int .i64 t1, .int .i64 t2, .int .i64 t3, .int .i64 t4] 24)
  have HT0 := blk_alloc HT12 (.cells #[.int .i64 s1, .int .i64 s2, .int .i64 s3, .int .i64 s4, .int .i64 t1, .int .i64 t2, .int .i64 t3, .int .i64 t4] 24)
  have hz0 := HB12.out.size
  have hzt := lt_of_block HT12
  go_wp2
  clear wa wc sc0 sc1 sc2 sc3 tc0 tc1 tc2 tc3
  go_loopw [10, 11] (fun v i wr => ∃ k : Nat, k ≤ 4 ∧ i = .int .i64 k ∧ wr.heap[w.heap.size]? = some (.cells #[.int .i64 s1, .int .i64 s2, .int .i64 s3, .int .i64 s4] 32 (0, 0)) ∧ wr.heap[w.heap.size + 1]? = some (.cells #[.int .i64 t1, .int .i64 t2, .int .i64 t3, .int .i64 t4] 32 (0, 0)) ∧ wr.heap[W0.heap.size]? = some (.cells #[.int .i64 s1, .int .i64 s2, .int .i64 s3, .int .i64 s4, .int .i64 t1, .int .i64 t2, .int .i64 t3, .int .i64 t4] 24 (0, 0)) ∧ Hid (Below w.heap.size w wr) ∧ Hid (Own1 Ty.pt 24 (W0.heap.size + 1) wr v (bothTo ((s1, s2), (s3, s4)) ((t1, t2), (t3, t4)) k))) (fun _ i _ => 4 - (intOf i).toNat)
  case atStart => exact ⟨0, by omega, rfl, HA0, HT0, HE0, (by repeat (first | exact Below.refl _ _ | apply below_alloc | apply below_drewN | apply below_drew | (refine below_set2 ?_ ?_; (first | (simp; done) | (simp; omega))) | (refine below_step ?_ HB12.out))), OwnR.nil _ _ _ _ _⟩
  case round =>
   obtain ⟨k, hk, rfl, HA, HT, HE, HB, HO⟩ := hrel
   clear HA0 HT0 HE0
   have hze := lt_of_block HE
   have hbl := bothTo_len ((s1, s2), (s3, s4)) ((t1, t2), (t3, t4)) k hk
   by_cases hk4 : k < 4
   ·have q4 : decide ((k : Int) < 4) = true := decide_eq_true (by omega)
    have hk4i : (k : Int) < 4 := by omega
    have HN4 := Lib.hid (bothTo_snoc ((s1, s2), (s3, s4)) ((t1, t2), (t3, t4)) k hk4)
    have hpc : wr.cell? ⟨W0.heap.size, k * 2, none⟩ = some (.int .i64 (ptD (endsOf ((s1, s2), (s3, s4)) ((t1, t2), (t3, t4))) k).1) ∧ wr.cell? ⟨W0.heap.size, k * 2 + 1, none⟩ = some (.int .i64 (ptD (endsOf ((s1, s2), (s3, s4)) ((t1, t2), (t3, t4))) k).2) := by
     rcases (show k = 0 ∨ k = 1 ∨ k = 2 ∨ k = 3 by omega) with rfl | rfl | rfl | rfl
     ·exact ⟨blk_cell HE 0 rfl, blk_cell HE 1 rfl⟩
     ·exact ⟨blk_cell HE 2 rfl, blk_cell HE 3 rfl⟩
     ·exact ⟨blk_cell HE 4 rfl, blk_cell HE 5 rfl⟩
     ·exact ⟨blk_cell HE 6 rfl, blk_cell HE 7 rfl⟩
    obtain ⟨pc0, pc1⟩ := hpc
    generalize ptD (endsOf ((s1, s2), (s3, s4)) ((t1, t2), (t3, t4))) k = e at *
    have sc0 := blk_cell HA 0 rfl
    have sc1 := blk_cell HA 1 rfl
    have sc2 := blk_cell HA 2 rfl
    have sc3 := blk_cell HA 3 rfl
    have tc0 := blk_cell HT 0 rfl
    have tc1 := blk_cell HT 1 rfl
    have tc2 := blk_cell HT 2 rfl
    have tc3 := blk_cell HT 3 rfl
    have O1 := Lib.hid (fun W => ref09_On e.1 e.2 s1 s2 s3 s4 W)
    have O2 := Lib.hid (fun W => ref09_On e.1 e.2 t1 t2 t3 t4 W)
    cases ho1 : onB e (s1, s2) (s3, s4)
    ·have HT4 : Hid (bothTo ((s1, s2), (s3, s4)) ((t1, t2), (t3, t4)) (k + 1) = bothTo ((s1, s2), (s3, s4)) ((t1, t2), (t3, t4)) k) := HN4.out.trans (if_neg (fun h => by have := h.1; rw [ho1] at this; cases this))
     have HO1 : Hid (onB (e.1, e.2) (s1, s2) (s3, s4) = false) := ho1
     clear ho1 HN4
     rw [HO1.out] at O1
     go_wp2_with fail
     refine start_ (n := 22) (S := fun w' => w'.cell? ⟨w.heap.size, 0, none⟩ = some (.int .i64 s1) ∧ w'.cell? ⟨w.heap.size, 1, none⟩ = some (.int .i64 s2) ∧ w'.cell? ⟨w.heap.size, 2, none⟩ = some (.int .i64 s3) ∧ w'.cell? ⟨w.heap.size, 3, none⟩ = some (.int .i64 s4) ∧ w'.cell? ⟨w.heap.size + 1, 0, none⟩ = some (.int .i64 t1) ∧ w'.cell? ⟨w.heap.size + 1, 1, none⟩ = some (.int .i64 t2) ∧ w'.cell? ⟨w.heap.size + 1, 2, none⟩ = some (.int .i64 t3) ∧ w'.cell? ⟨w.heap.size + 1, 3, none⟩ = some (.int .i64 t4) ∧ w'.cell? ⟨W0.heap.size, k * 2, none⟩ = some (.int .i64 e.1) ∧ w'.cell? ⟨W0.heap.size, k * 2 + 1, none⟩ = some (.int .i64 e.2)) (ds := []) #[Z,Z,Z,Z,Z,Z,Z,Z,Z,Z,Z,Z,Z,Z,Z,Z,Z,Z,Z,Z,Z,Z] (by kernel_rfl) rfl rfl ⟨sc0, sc1, sc2, sc3, tc0, tc1, tc2, tc3, pc0, pc1⟩ (fun hHeld => ?_)
     refine pure_ (i := 0) (N := some 97) (v := ?_) (a' := ?_) #[J,Z,Z,Z,Z,Z,Z,Z,Z,Z,Z,Z,Z,Z,Z,Z,Z,Z,Z,Z,Z,Z] rfl rfl (by kernel_rfl) (fun _ _ _ h => h) (Or.inl ⟨by rfl, ?_⟩) ?_ ?_
     rotate_left
     ·intro w'; go_simp; with_reducible rfl
     rotate_left
     ·simp only [Act.put, sA, sB, sC, i64_w, i32_w]; rfl
     refine pure_ (i := 1) (N := some 98) (v := ?_) (a' := ?_) #[J,J,Z,Z,Z,Z,Z,Z,Z,Z,Z,Z,Z,Z,Z,Z,Z,Z,Z,Z,Z,Z] rfl rfl (by kernel_rfl) (fun _ _ _ h => h) (Or.inl ⟨by rfl, ?_⟩) ?_ ?_
     rotate_left
     ·intro w'; go_simp; with_reducible rfl
     rotate_left
     ·simp only [Act.put, sA, sB, sC, i64_w, i32_w]; rfl
     refine pure_ (i := 2) (N := some 99) (v := ?_) (a' := ?_) #[J,J,J,Z,Z,Z,Z,Z,Z,Z,Z,Z,Z,Z,Z,Z,Z,Z,Z,Z,Z,Z] rfl rfl (by kernel_rfl) (fun _ _ _ h => h) (Or.inl ⟨by rfl, ?_⟩) ?_ ?_
     rotate_left
     ·intro w'; go_simp; with_reducible rfl
     rotate_left
     ·simp only [Act.put, sA, sB, sC, i64_w, i32_w]; rfl
     refine pure_ (i := 4) (N := some 101) (v := ?_) (a' := ?_) #[J,J,J,Z,J,Z,Z,Z,Z,Z,Z,Z,Z,Z,Z,Z,Z,Z,Z,Z,Z,Z] rfl rfl (by kernel_rfl) (fun _ _ _ h => h) (Or.inl ⟨by rfl, ?_⟩) ?_ ?_
     rotate_left
     ·intro w'; go_simp; with_reducible rfl
     rotate_left
     ·simp only [Act.put, sA, sB, sC, i64_w, i32_w]; rfl
     refine pure_ (i := 6) (N := some 103) (v := ?_) (a' := ?_) #[J,J,J,Z,J,Z,J,Z,Z,Z,Z,Z,Z,Z,Z,Z,Z,Z,Z,Z,Z,Z] rfl rfl (by kernel_rfl) (fun _ _ _ h => h) (Or.inl ⟨by rfl, ?_⟩) ?_ ?_
     rotate_left
     ·intro w'; go_simp; with_reducible rfl
     rotate_left
     ·simp only [Act.put, sA, sB, sC, i64_w, i32_w]; rfl
     refine take_ (i := 3) (N := some 100) (v := ?_) (a' := ?_) #[J,J,J,J,J,Z,J,Z,Z,Z,Z,Z,Z,Z,Z,Z,Z,Z,Z,Z,Z,Z] rfl rfl (by kernel_rfl) (fun _ _ _ h => h) (Or.inl ⟨by rfl, ?_⟩) hHeld ?_ ?_
     rotate_left
     ·rintro w' ⟨s0, s1, s2, s3, s4, s5, s6, s7, s8, s9⟩; go_simp; with_reducible rfl
     rotate_left
     ·simp only [Act.put, sA, sB, sC, i64_w, i32_w]; rfl
     refine take_ (i := 5) (N := some 102) (v := ?_) (a' := ?_) #[J,J,J,J,J,J,J,Z,Z,Z,Z,Z,Z,Z,Z,Z,Z,Z,Z,Z,Z,Z] rfl rfl (by kernel_rfl) (fun _ _ _ h => h) (Or.inl ⟨by rfl, ?_⟩) hHeld ?_ ?_
     rotate_left
     ·rintro w' ⟨s0, s1, s2, s3, s4, s5, s6, s7, s8, s9⟩; go_simp; with_reducible rfl
     rotate_left
     ·simp only [Act.put, sA, sB, sC, i64_w, i32_w]; rfl
     refine take_ (i := 7) (N := some 104) (v := ?_) (a' := ?_) #[J,J,J,J,J,J,J,J,Z,Z,Z,Z,Z,Z,Z,Z,Z,Z,Z,Z,Z,Z] rfl rfl (by kernel_rfl) (fun _ _ _ h => h) (Or.inl ⟨by rfl, ?_⟩) hHeld ?_ ?_
     rotate_left
     ·rintro w' ⟨s0, s1, s2, s3, s4, s5, s6, s7, s8, s9⟩; go_simp; with_reducible rfl
     rotate_left
     ·simp only [Act.put, sA, sB, sC, i64_w, i32_w]; rfl
     refine one_ (i := 8) (N := some 105) #[J,J,J,J,J,J,J,J,J,Z,Z,Z,Z,Z,Z,Z,Z,Z,Z,Z,Z,Z] rfl rfl (by kernel_rfl) (by decide) (fun K hK => ?_)
     refine goes_ Tryz.func42 (by kernel_rfl) rfl #[.agg #[.int .i64 e.1, .int .i64 e.2], .agg #[.int .i64 s1, .int .i64 s2], .agg #[.int .i64 s3, .int .i64 s4]] (by rfl) rfl rfl (by simp only [List.map_toArray, List.map_cons, List.map_nil]; rfl) ?_
     with_reducible refine (O1.out _).mono ?_
     rintro e' w4 ⟨rfl, hb4⟩
     refine ⟨_, rfl, ?_⟩
     refine hK.out _ _ ⟨blk_cell (blk_below (W := wr.drew) HA hb4) 0 rfl, blk_cell (blk_below (W := wr.drew) HA hb4) 1 rfl, blk_cell (blk_below (W := wr.drew) HA hb4) 2 rfl, blk_cell (blk_below (W := wr.drew) HA hb4) 3 rfl, blk_cell (blk_below (W := wr.drew) HT hb4) 0 rfl, blk_cell (blk_below (W := wr.drew) HT hb4) 1 rfl, blk_cell (blk_below (W := wr.drew) HT hb4) 2 rfl, blk_cell (blk_below (W := wr.drew) HT hb4) 3 rfl, (cell_below hb4 pc0), (cell_below hb4 pc1)⟩ (fun hHeld => ?_)
     clear hK K
     refine norm_ (a' := ?_) ?_ ?_
     rotate_left
     ·show Act.put _ (some 105) _ = _
      simp only [Act.put, sA, sB, sC, i64_w, i32_w]; rfl
     refine pure_ (i := 9) (N := some 106) (v := ?_) (a' := ?_) #[J,J,J,J,J,J,J,J,J,J,Z,Z,Z,Z,Z,Z,Z,Z,Z,Z,Z,Z] rfl rfl (by kernel_rfl) (fun _ _ _ h => h) (Or.inl ⟨by rfl, ?_⟩) ?_ ?_
     rotate_left
     ·intro w'; go_simp; with_reducible rfl
     rotate_left
     ·simp only [Act.put, sA, sB, sC, i64_w, i32_w]; rfl
     refine pure_ (i := 10) (N := some 107) (v := ?_) (a' := ?_) #[J,J,J,J,J,J,J,J,J,J,J,Z,Z,Z,Z,Z,Z,Z,Z,Z,Z,Z] rfl rfl (by kernel_rfl) (fun _ _ _ h => h) (Or.inl ⟨by rfl, ?_⟩) ?_ ?_
     rotate_left
     ·intro w'; go_simp; with_reducible rfl
     rotate_left
     ·simp only [Act.put, sA, sB, sC, i64_w, i32_w]; rfl
     refine pure_ (i := 11) (N := some 108) (v := undef) (a' := ?_) #[J,J,J,J,J,J,J,J,J,J,J,J,Z,Z,Z,Z,Z,Z,Z,Z,Z,Z] rfl rfl (by kernel_rfl) (fun _ _ _ h => h) (Or.inr ⟨by rfl, rfl⟩) ?_ ?_
     rotate_left
     ·simp only [Act.put, sA, sB, sC, i64_w, i32_w]; rfl
     refine pure_ (i := 12) (N := some 109) (v := undef) (a' := ?_) #[J,J,J,J,J,J,J,J,J,J,J,J,J,Z,Z,Z,Z,Z,Z,Z,Z,Z] rfl rfl (by kernel_rfl) (fun _ _ _ h => h) (Or.inr ⟨by rfl, rfl⟩) ?_ ?_
     rotate_left
     ·simp only [Act.put, sA, sB, sC, i64_w, i32_w]; rfl
     refine pure_ (i := 13) (N := some 110) (v := undef) (a' := ?_) #[J,J,J,J,J,J,J,J,J,J,J,J,J,J,Z,Z,Z,Z,Z,Z,Z,Z] rfl rfl (by kernel_rfl) (fun _ _ _ h => h) (Or.inr ⟨by rfl, rfl⟩) ?_ ?_
     rotate_left
     ·simp only [Act.put, sA, sB, sC, i64_w, i32_w]; rfl
     refine pure_ (i := 14) (N := some 111) (v := undef) (a' := ?_) #[J,J,J,J,J,J,J,J,J,J,J,J,J,J,J,Z,Z,Z,Z,Z,Z,Z] rfl rfl (by kernel_rfl) (fun _ _ _ h => h) (Or.inr ⟨by rfl, rfl⟩) ?_ ?_
     rotate_left
     ·simp only [Act.put, sA, sB, sC, i64_w, i32_w]; rfl
     refine pure_ (i := 15) (N := some 112) (v := undef) (a' := ?_) #[J,J,J,J,J,J,J,J,J,J,J,J,J,J,J,J,Z,Z,Z,Z,Z,Z] rfl rfl (by kernel_rfl) (fun _ _ _ h => h) (Or.inr ⟨by rfl, rfl⟩) ?_ ?_
     rotate_left
     ·simp only [Act.put, sA, sB, sC, i64_w, i32_w]; rfl
     refine pure_ (i := 16) (N := some 113) (v := undef) (a' := ?_) #[J,J,J,J,J,J,J,J,J,J,J,J,J,J,J,J,J,Z,Z,Z,Z,Z] rfl rfl (by kernel_rfl) (fun _ _ _ h => h) (Or.inr ⟨by rfl, rfl⟩) ?_ ?_
     rotate_left
     ·simp only [Act.put, sA, sB, sC, i64_w, i32_w]; rfl
     refine pure_ (i := 17) (N := some 114) (v := undef) (a' := ?_) #[J,J,J,J,J,J,J,J,J,J,J,J,J,J,J,J,J,J,Z,Z,Z,Z] rfl rfl (by kernel_rfl) (fun _ _ _ h => h) (Or.inr ⟨by rfl, rfl⟩) ?_ ?_
     rotate_left
     ·simp only [Act.put, sA, sB, sC, i64_w, i32_w]; rfl
     refine pure_ (i := 18) (N := some 115) (v := undef) (a' := ?_) #[J,J,J,J,J,J,J,J,J,J,J,J,J,J,J,J,J,J,J,Z,Z,Z] rfl rfl (by kernel_rfl) (fun _ _ _ h => h) (Or.inr ⟨by rfl, rfl⟩) ?_ ?_
     rotate_left
     ·simp only [Act.put, sA, sB, sC, i64_w, i32_w]; rfl
     refine pure_ (i := 19) (N := some 116) (v := undef) (a' := ?_) #[J,J,J,J,J,J,J,J,J,J,J,J,J,J,J,J,J,J,J,J,Z,Z] rfl rfl (by kernel_rfl) (fun _ _ _ h => h) (Or.inr ⟨by rfl, rfl⟩) ?_ ?_
     rotate_left
     ·simp only [Act.put, sA, sB, sC, i64_w, i32_w]; rfl
     refine pure_ (i := 20) (N := some 117) (v := undef) (a' := ?_) #[J,J,J,J,J,J,J,J,J,J,J,J,J,J,J,J,J,J,J,J,J,Z] rfl rfl (by kernel_rfl) (fun _ _ _ h => h) (Or.inr ⟨by rfl, rfl⟩) ?_ ?_
     rotate_left
     ·simp only [Act.put, sA, sB, sC, i64_w, i32_w]; rfl
     refine pure_ (i := 21) (N := some 118) (v := ?_) (a' := ?_) #[J,J,J,J,J,J,J,J,J,J,J,J,J,J,J,J,J,J,J,J,J,J] rfl rfl (by kernel_rfl) (fun _ _ _ h => h) (Or.inl ⟨by rfl, ?_⟩) ?_ ?_
     rotate_left
     ·intro w'; go_simp; with_reducible rfl
     rotate_left
     ·simp only [Act.put, sA, sB, sC, i64_w, i32_w]; rfl
     refine done_ (by kernel_rfl) ?_
     have BR : Below wr.heap.size wr w4 := (by repeat (first | exact Below.refl _ _ | apply below_alloc | apply below_drewN | apply below_drew | (refine below_set2 ?_ ?_; (first | (simp; done) | (simp; omega))) | (refine below_step ?_ hb4)))
     have HA1 := blk_below HA BR
     have HT1 := blk_below HT BR
     have HE1 := blk_below HE BR
     have HO1' := Lib.hid (Own1.below HO.out BR)
     have HB1' := Lib.hid (below_step HB.out BR)
     clear BR hb4 sc0 sc1 sc2 sc3 tc0 tc1 tc2 tc3 pc0 pc1
     go_wp2
     go_roundw
     case rel => exact ⟨k + 1, by omega, by go_num, HA1, HT1, HE1, HB1'.out, by rw [HT4.out]; exact HO1'.out⟩
     case measure => simp [intOf]; omega
    ·have HO1 : Hid (onB (e.1, e.2) (s1, s2) (s3, s4) = true) := ho1
     rw [HO1.out] at O1
     cases ho2 : onB e (t1, t2) (t3, t4)
     ·have HT4 : Hid (bothTo ((s1, s2), (s3, s4)) ((t1, t2), (t3, t4)) (k + 1) = bothTo ((s1, s2), (s3, s4)) ((t1, t2), (t3, t4)) k) := HN4.out.trans (if_neg (fun h => by have := h.2.1; rw [ho2] at this; cases this))
      have HO2 : Hid (onB (e.1, e.2) (t1, t2) (t3, t4) = false) := ho2
      rw [HO2.out] at O2
      clear ho1 ho2 HN4
      go_wp2_with fail
      refine start_ (n := 22) (S := fun w' => w'.cell? ⟨w.heap.size, 0, none⟩ = some (.int .i64 s1) ∧ w'.cell? ⟨w.heap.size, 1, none⟩ = some (.int .i64 s2) ∧ w'.cell? ⟨w.heap.size, 2, none⟩ = some (.int .i64 s3) ∧ w'.cell? ⟨w.heap.size, 3, none⟩ = some (.int .i64 s4) ∧ w'.cell? ⟨w.heap.size + 1, 0, none⟩ = some (.int .i64 t1) ∧ w'.cell? ⟨w.heap.size + 1, 1, none⟩ = some (.int .i64 t2) ∧ w'.cell? ⟨w.heap.size + 1, 2, none⟩ = some (.int .i64 t3) ∧ w'.cell? ⟨w.heap.size + 1, 3, none⟩ = some (.int .i64 t4) ∧ w'.cell? ⟨W0.heap.size, k * 2, none⟩ = some (.int .i64 e.1) ∧ w'.cell? ⟨W0.heap.size, k * 2 + 1, none⟩ = some (.int .i64 e.2)) (ds := []) #[Z,Z,Z,Z,Z,Z,Z,Z,Z,Z,Z,Z,Z,Z,Z,Z,Z,Z,Z,Z,Z,Z] (by kernel_rfl) rfl rfl ⟨sc0, sc1, sc2, sc3, tc0, tc1, tc2, tc3, pc0, pc1⟩ (fun hHeld => ?_)
      refine pure_ (i := 0) (N := some 97) (v := ?_) (a' := ?_) #[J,Z,Z,Z,Z,Z,Z,Z,Z,Z,Z,Z,Z,Z,Z,Z,Z,Z,Z,Z,Z,Z] rfl rfl (by kernel_rfl) (fun _ _ _ h => h) (Or.inl ⟨by rfl, ?_⟩) ?_ ?_
      rotate_left
      ·intro w'; go_simp; with_reducible rfl
      rotate_left
      ·simp only [Act.put, sA, sB, sC, i64_w, i32_w]; rfl
      refine pure_ (i := 1) (N := some 98) (v := ?_) (a' := ?_) #[J,J,Z,Z,Z,Z,Z,Z,Z,Z,Z,Z,Z,Z,Z,Z,Z,Z,Z,Z,Z,Z] rfl rfl (by kernel_rfl) (fun _ _ _ h => h) (Or.inl ⟨by rfl, ?_⟩) ?_ ?_
      rotate_left
      ·intro w'; go_simp; with_reducible rfl
      rotate_left
      ·simp only [Act.put, sA, sB, sC, i64_w, i32_w]; rfl
      refine pure_ (i := 2) (N := some 99) (v := ?_) (a' := ?_) #[J,J,J,Z,Z,Z,Z,Z,Z,Z,Z,Z,Z,Z,Z,Z,Z,Z,Z,Z,Z,Z] rfl rfl (by kernel_rfl) (fun _ _ _ h => h) (Or.inl ⟨by rfl, ?_⟩) ?_ ?_
      rotate_left
      ·intro w'; go_simp; with_reducible rfl
      rotate_left
      ·simp only [Act.put, sA, sB, sC, i64_w, i32_w]; rfl
      refine pure_ (i := 4) (N := some 101) (v := ?_) (a' := ?_) #[J,J,J,Z,J,Z,Z,Z,Z,Z,Z,Z,Z,Z,Z,Z,Z,Z,Z,Z,Z,Z] rfl rfl (by kernel_rfl) (fun _ _ _ h => h) (Or.inl ⟨by rfl, ?_⟩) ?_ ?_
      rotate_left
      ·intro w'; go_simp; with_reducible rfl
      rotate_left
      ·simp only [Act.put, sA, sB, sC, i64_w, i32_w]; rfl
      refine pure_ (i := 6) (N := some 103) (v := ?_) (a' := ?_) #[J,J,J,Z,J,Z,J,Z,Z,Z,Z,Z,Z,Z,Z,Z,Z,Z,Z,Z,Z,Z] rfl rfl (by kernel_rfl) (fun _ _ _ h => h) (Or.inl ⟨by rfl, ?_⟩) ?_ ?_
      rotate_left
      ·intro w'; go_simp; with_reducible rfl
      rotate_left
      ·simp only [Act.put, sA, sB, sC, i64_w, i32_w]; rfl
      refine take_ (i := 3) (N := some 100) (v := ?_) (a' := ?_) #[J,J,J,J,J,Z,J,Z,Z,Z,Z,Z,Z,Z,Z,Z,Z,Z,Z,Z,Z,Z] rfl rfl (by kernel_rfl) (fun _ _ _ h => h) (Or.inl ⟨by rfl, ?_⟩) hHeld ?_ ?_
      rotate_left
      ·rintro w' ⟨s0, s1, s2, s3, s4, s5, s6, s7, s8, s9⟩; go_simp; with_reducible rfl
      rotate_left
      ·simp only [Act.put, sA, sB, sC, i64_w, i32_w]; rfl
      refine take_ (i := 5) (N := some 102) (v := ?_) (a' := ?_) #[J,J,J,J,J,J,J,Z,Z,Z,Z,Z,Z,Z,Z,Z,Z,Z,Z,Z,Z,Z] rfl rfl (by kernel_rfl) (fun _ _ _ h => h) (Or.inl ⟨by rfl, ?_⟩) hHeld ?_ ?_
      rotate_left
      ·rintro w' ⟨s0, s1, s2, s3, s4, s5, s6, s7, s8, s9⟩; go_simp; with_reducible rfl
      rotate_left
      ·simp only [Act.put, sA, sB, sC, i64_w, i32_w]; rfl
      refine take_ (i := 7) (N := some 104) (v := ?_) (a' := ?_) #[J,J,J,J,J,J,J,J,Z,Z,Z,Z,Z,Z,Z,Z,Z,Z,Z,Z,Z,Z] rfl rfl (by kernel_rfl) (fun _ _ _ h => h) (Or.inl ⟨by rfl, ?_⟩) hHeld ?_ ?_
      rotate_left
      ·rintro w' ⟨s0, s1, s2, s3, s4, s5, s6, s7, s8, s9⟩; go_simp; with_reducible rfl
      rotate_left
      ·simp only [Act.put, sA, sB, sC, i64_w, i32_w]; rfl
      refine one_ (i := 8) (N := some 105) #[J,J,J,J,J,J,J,J,J,Z,Z,Z,Z,Z,Z,Z,Z,Z,Z,Z,Z,Z] rfl rfl (by kernel_rfl) (by decide) (fun K hK => ?_)
      refine goes_ Tryz.func42 (by kernel_rfl) rfl #[.agg #[.int .i64 e.1, .int .i64 e.2], .agg #[.int .i64 s1, .int .i64 s2], .agg #[.int .i64 s3, .int .i64 s4]] (by rfl) rfl rfl (by simp only [List.map_toArray, List.map_cons, List.map_nil]; rfl) ?_
      with_reducible refine (O1.out _).mono ?_
      rintro e' w4 ⟨rfl, hb4⟩
      refine ⟨_, rfl, ?_⟩
      refine hK.out _ _ ⟨blk_cell (blk_below (W := wr.drew) HA hb4) 0 rfl, blk_cell (blk_below (W := wr.drew) HA hb4) 1 rfl, blk_cell (blk_below (W := wr.drew) HA hb4) 2 rfl, blk_cell (blk_below (W := wr.drew) HA hb4) 3 rfl, blk_cell (blk_below (W := wr.drew) HT hb4) 0 rfl, blk_cell (blk_below (W := wr.drew) HT hb4) 1 rfl, blk_cell (blk_below (W := wr.drew) HT hb4) 2 rfl, blk_cell (blk_below (W := wr.drew) HT hb4) 3 rfl, (cell_below hb4 pc0), (cell_below hb4 pc1)⟩ (fun hHeld => ?_)
      clear hK K
      refine norm_ (a' := ?_) ?_ ?_
      rotate_left
      ·show Act.put _ (some 105) _ = _
       simp only [Act.put, sA, sB, sC, i64_w, i32_w]; rfl
      refine pure_ (i := 9) (N := some 106) (v := ?_) (a' := ?_) #[J,J,J,J,J,J,J,J,J,J,Z,Z,Z,Z,Z,Z,Z,Z,Z,Z,Z,Z] rfl rfl (by kernel_rfl) (fun _ _ _ h => h) (Or.inl ⟨by rfl, ?_⟩) ?_ ?_
      rotate_left
      ·intro w'; go_simp; with_reducible rfl
      rotate_left
      ·simp only [Act.put, sA, sB, sC, i64_w, i32_w]; rfl
      refine pure_ (i := 10) (N := some 107) (v := ?_) (a' := ?_) #[J,J,J,J,J,J,J,J,J,J,J,Z,Z,Z,Z,Z,Z,Z,Z,Z,Z,Z] rfl rfl (by kernel_rfl) (fun _ _ _ h => h) (Or.inl ⟨by rfl, ?_⟩) ?_ ?_
      rotate_left
      ·intro w'; go_simp; with_reducible rfl
      rotate_left
      ·simp only [Act.put, sA, sB, sC, i64_w, i32_w]; rfl
      refine pure_ (i := 11) (N := some 108) (v := ?_) (a' := ?_) #[J,J,J,J,J,J,J,J,J,J,J,J,Z,Z,Z,Z,Z,Z,Z,Z,Z,Z] rfl rfl (by kernel_rfl) (fun _ _ _ h => h) (Or.inl ⟨by rfl, ?_⟩) ?_ ?_
      rotate_left
      ·intro w'; go_simp; with_reducible rfl
      rotate_left
      ·simp only [Act.put, sA, sB, sC, i64_w, i32_w]; rfl
      refine pure_ (i := 12) (N := some 109) (v := ?_) (a' := ?_) #[J,J,J,J,J,J,J,J,J,J,J,J,J,Z,Z,Z,Z,Z,Z,Z,Z,Z] rfl rfl (by kernel_rfl) (fun _ _ _ h => h) (Or.inl ⟨by rfl, ?_⟩) ?_ ?_
      rotate_left
      ·intro w'; go_simp; with_reducible rfl
      rotate_left
      ·simp only [Act.put, sA, sB, sC, i64_w, i32_w]; rfl
      refine pure_ (i := 13) (N := some 110) (v := ?_) (a' := ?_) #[J,J,J,J,J,J,J,J,J,J,J,J,J,J,Z,Z,Z,Z,Z,Z,Z,Z] rfl rfl (by kernel_rfl) (fun _ _ _ h => h) (Or.inl ⟨by rfl, ?_⟩) ?_ ?_
      rotate_left
      ·intro w'; go_simp; with_reducible rfl
      rotate_left
      ·simp only [Act.put, sA, sB, sC, i64_w, i32_w]; rfl
      refine pure_ (i := 15) (N := some 112) (v := ?_) (a' := ?_) #[J,J,J,J,J,J,J,J,J,J,J,J,J,J,Z,J,Z,Z,Z,Z,Z,Z] rfl rfl (by kernel_rfl) (fun _ _ _ h => h) (Or.inl ⟨by rfl, ?_⟩) ?_ ?_
      rotate_left
      ·intro w'; go_simp; with_reducible rfl
      rotate_left
      ·simp only [Act.put, sA, sB, sC, i64_w, i32_w]; rfl
      refine pure_ (i := 17) (N := some 114) (v := ?_) (a' := ?_) #[J,J,J,J,J,J,J,J,J,J,J,J,J,J,Z,J,Z,J,Z,Z,Z,Z] rfl rfl (by kernel_rfl) (fun _ _ _ h => h) (Or.inl ⟨by rfl, ?_⟩) ?_ ?_
      rotate_left
      ·intro w'; go_simp; with_reducible rfl
      rotate_left
      ·simp only [Act.put, sA, sB, sC, i64_w, i32_w]; rfl
      refine take_ (i := 14) (N := some 111) (v := ?_) (a' := ?_) #[J,J,J,J,J,J,J,J,J,J,J,J,J,J,J,J,Z,J,Z,Z,Z,Z] rfl rfl (by kernel_rfl) (fun _ _ _ h => h) (Or.inl ⟨by rfl, ?_⟩) hHeld ?_ ?_
      rotate_left
      ·rintro w' ⟨s0, s1, s2, s3, s4, s5, s6, s7, s8, s9⟩; go_simp; with_reducible rfl
      rotate_left
      ·simp only [Act.put, sA, sB, sC, i64_w, i32_w]; rfl
      refine take_ (i := 16) (N := some 113) (v := ?_) (a' := ?_) #[J,J,J,J,J,J,J,J,J,J,J,J,J,J,J,J,J,J,Z,Z,Z,Z] rfl rfl (by kernel_rfl) (fun _ _ _ h => h) (Or.inl ⟨by rfl, ?_⟩) hHeld ?_ ?_
      rotate_left
      ·rintro w' ⟨s0, s1, s2, s3, s4, s5, s6, s7, s8, s9⟩; go_simp; with_reducible rfl
      rotate_left
      ·simp only [Act.put, sA, sB, sC, i64_w, i32_w]; rfl
      refine take_ (i := 18) (N := some 115) (v := ?_) (a' := ?_) #[J,J,J,J,J,J,J,J,J,J,J,J,J,J,J,J,J,J,J,Z,Z,Z] rfl rfl (by kernel_rfl) (fun _ _ _ h => h) (Or.inl ⟨by rfl, ?_⟩) hHeld ?_ ?_
      rotate_left
      ·rintro w' ⟨s0, s1, s2, s3, s4, s5, s6, s7, s8, s9⟩; go_simp; with_reducible rfl
      rotate_left
      ·simp only [Act.put, sA, sB, sC, i64_w, i32_w]; rfl
      refine one_ (i := 19) (N := some 116) #[J,J,J,J,J,J,J,J,J,J,J,J,J,J,J,J,J,J,J,J,Z,Z] rfl rfl (by kernel_rfl) (by decide) (fun K hK => ?_)
      refine goes_ Tryz.func42 (by kernel_rfl) rfl #[.agg #[.int .i64 e.1, .int .i64 e.2], .agg #[.int .i64 t1, .int .i64 t2], .agg #[.int .i64 t3, .int .i64 t4]] (by rfl) rfl rfl (by simp only [List.map_toArray, List.map_cons, List.map_nil]; rfl) ?_
      with_reducible refine (O2.out _).mono ?_
      rintro e' w5 ⟨rfl, hb5⟩
      refine ⟨_, rfl, ?_⟩
      refine hK.out _ _ ⟨blk_cell (blk_below (blk_below (W := wr.drew) HA hb4) hb5) 0 rfl, blk_cell (blk_below (blk_below (W := wr.drew) HA hb4) hb5) 1 rfl, blk_cell (blk_below (blk_below (W := wr.drew) HA hb4) hb5) 2 rfl, blk_cell (blk_below (blk_below (W := wr.drew) HA hb4) hb5) 3 rfl, blk_cell (blk_below (blk_below (W := wr.drew) HT hb4) hb5) 0 rfl, blk_cell (blk_below (blk_below (W := wr.drew) HT hb4) hb5) 1 rfl, blk_cell (blk_below (blk_below (W := wr.drew) HT hb4) hb5) 2 rfl, blk_cell (blk_below (blk_below (W := wr.drew) HT hb4) hb5) 3 rfl, (cell_below hb5 (cell_below hb4 pc0)), (cell_below hb5 (cell_below hb4 pc1))⟩ (fun hHeld => ?_)
      clear hK K
      refine norm_ (a' := ?_) ?_ ?_
      rotate_left
      ·show Act.put _ (some 116) _ = _
       simp only [Act.put, sA, sB, sC, i64_w, i32_w]; rfl
      refine pure_ (i := 20) (N := some 117) (v := ?_) (a' := ?_) #[J,J,J,J,J,J,J,J,J,J,J,J,J,J,J,J,J,J,J,J,J,Z] rfl rfl (by kernel_rfl) (fun _ _ _ h => h) (Or.inl ⟨by rfl, ?_⟩) ?_ ?_
      rotate_left
      ·intro w'; go_simp; with_reducible rfl
      rotate_left
      ·simp only [Act.put, sA, sB, sC, i64_w, i32_w]; rfl
      refine pure_ (i := 21) (N := some 118) (v := ?_) (a' := ?_) #[J,J,J,J,J,J,J,J,J,J,J,J,J,J,J,J,J,J,J,J,J,J] rfl rfl (by kernel_rfl) (fun _ _ _ h => h) (Or.inl ⟨by rfl, ?_⟩) ?_ ?_
      rotate_left
      ·intro w'; go_simp; with_reducible rfl
      rotate_left
      ·simp only [Act.put, sA, sB, sC, i64_w, i32_w]; rfl
      refine done_ (by kernel_rfl) ?_
      have BR : Below wr.heap.size wr w5 := (by repeat (first | exact Below.refl _ _ | apply below_alloc | apply below_drewN | apply below_drew | (refine below_set2 ?_ ?_; (first | (simp; done) | (simp; omega))) | (refine below_step ?_ hb5) | (refine below_step ?_ hb4)))
      have HA1 := blk_below HA BR
      have HT1 := blk_below HT BR
      have HE1 := blk_below HE BR
      have HO1' := Lib.hid (Own1.below HO.out BR)
      have HB1' := Lib.hid (below_step HB.out BR)
      clear BR hb4 hb5 sc0 sc1 sc2 sc3 tc0 tc1 tc2 tc3 pc0 pc1
      go_wp2
      go_roundw
      case rel => exact ⟨k + 1, by omega, by go_num, HA1, HT1, HE1, HB1'.out, by rw [HT4.out]; exact HO1'.out⟩
      case measure => simp [intOf]; omega
     ·have HT4 : Hid (bothTo ((s1, s2), (s3, s4)) ((t1, t2), (t3, t4)) (k + 1) = if e ∉ bothTo ((s1, s2), (s3, s4)) ((t1, t2), (t3, t4)) k then bothTo ((s1, s2), (s3, s4)) ((t1, t2), (t3, t4)) k ++ [e] else bothTo ((s1, s2), (s3, s4)) ((t1, t2), (t3, t4)) k) := HN4.out.trans (by unfold bothF; simp only [ho1, ho2, true_and])
      have HO2 : Hid (onB (e.1, e.2) (t1, t2) (t3, t4) = true) := ho2
      rw [HO2.out] at O2
      clear ho1 ho2 HN4
      go_wp2_with fail
      refine start_ (n := 22) (S := fun w' => w'.cell? ⟨w.heap.size, 0, none⟩ = some (.int .i64 s1) ∧ w'.cell? ⟨w.heap.size, 1, none⟩ = some (.int .i64 s2) ∧ w'.cell? ⟨w.heap.size, 2, none⟩ = some (.int .i64 s3) ∧ w'.cell? ⟨w.heap.size, 3, none⟩ = some (.int .i64 s4) ∧ w'.cell? ⟨w.heap.size + 1, 0, none⟩ = some (.int .i64 t1) ∧ w'.cell? ⟨w.heap.size + 1, 1, none⟩ = some (.int .i64 t2) ∧ w'.cell? ⟨w.heap.size + 1, 2, none⟩ = some (.int .i64 t3) ∧ w'.cell? ⟨w.heap.size + 1, 3, none⟩ = some (.int .i64 t4) ∧ w'.cell? ⟨W0.heap.size, k * 2, none⟩ = some (.int .i64 e.1) ∧ w'.cell? ⟨W0.heap.size, k * 2 + 1, none⟩ = some (.int .i64 e.2)) (ds := []) #[Z,Z,Z,Z,Z,Z,Z,Z,Z,Z,Z,Z,Z,Z,Z,Z,Z,Z,Z,Z,Z,Z] (by kernel_rfl) rfl rfl ⟨sc0, sc1, sc2, sc3, tc0, tc1, tc2, tc3, pc0, pc1⟩ (fun hHeld => ?_)
      refine pure_ (i := 0) (N := some 97) (v := ?_) (a' := ?_) #[J,Z,Z,Z,Z,Z,Z,Z,Z,Z,Z,Z,Z,Z,Z,Z,Z,Z,Z,Z,Z,Z] rfl rfl (by kernel_rfl) (fun _ _ _ h => h) (Or.inl ⟨by rfl, ?_⟩) ?_ ?_
      rotate_left
      ·intro w'; go_simp; with_reducible rfl
      rotate_left
      ·simp only [Act.put, sA, sB, sC, i64_w, i32_w]; rfl
      refine pure_ (i := 1) (N := some 98) (v := ?_) (a' := ?_) #[J,J,Z,Z,Z,Z,Z,Z,Z,Z,Z,Z,Z,Z,Z,Z,Z,Z,Z,Z,Z,Z] rfl rfl (by kernel_rfl) (fun _ _ _ h => h) (Or.inl ⟨by rfl, ?_⟩) ?_ ?_
      rotate_left
      ·intro w'; go_simp; with_reducible rfl
      rotate_left
      ·simp only [Act.put, sA, sB, sC, i64_w, i32_w]; rfl
      refine pure_ (i := 2) (N := some 99) (v := ?_) (a' := ?_) #[J,J,J,Z,Z,Z,Z,Z,Z,Z,Z,Z,Z,Z,Z,Z,Z,Z,Z,Z,Z,Z] rfl rfl (by kernel_rfl) (fun _ _ _ h => h) (Or.inl ⟨by rfl, ?_⟩) ?_ ?_
      rotate_left
      ·intro w'; go_simp; with_reducible rfl
      rotate_left
      ·simp only [Act.put, sA, sB, sC, i64_w, i32_w]; rfl
      refine pure_ (i := 4) (N := some 101) (v := ?_) (a' := ?_) #[J,J,J,Z,J,Z,Z,Z,Z,Z,Z,Z,Z,Z,Z,Z,Z,Z,Z,Z,Z,Z] rfl rfl (by kernel_rfl) (fun _ _ _ h => h) (Or.inl ⟨by rfl, ?_⟩) ?_ ?_
      rotate_left
      ·intro w'; go_simp; with_reducible rfl
      rotate_left
      ·simp only [Act.put, sA, sB, sC, i64_w, i32_w]; rfl
      refine pure_ (i := 6) (N := some 103) (v := ?_) (a' := ?_) #[J,J,J,Z,J,Z,J,Z,Z,Z,Z,Z,Z,Z,Z,Z,Z,Z,Z,Z,Z,Z] rfl rfl (by kernel_rfl) (fun _ _ _ h => h) (Or.inl ⟨by rfl, ?_⟩) ?_ ?_
      rotate_left
      ·intro w'; go_simp; with_reducible rfl
      rotate_left
      ·simp only [Act.put, sA, sB, sC, i64_w, i32_w]; rfl
      refine take_ (i := 3) (N := some 100) (v := ?_) (a' := ?_) #[J,J,J,J,J,Z,J,Z,Z,Z,Z,Z,Z,Z,Z,Z,Z,Z,Z,Z,Z,Z] rfl rfl (by kernel_rfl) (fun _ _ _ h => h) (Or.inl ⟨by rfl, ?_⟩) hHeld ?_ ?_
      rotate_left
      ·rintro w' ⟨s0, s1, s2, s3, s4, s5, s6, s7, s8, s9⟩; go_simp; with_reducible rfl
      rotate_left
      ·simp only [Act.put, sA, sB, sC, i64_w, i32_w]; rfl
      refine take_ (i := 5) (N := some 102) (v := ?_) (a' := ?_) #[J,J,J,J,J,J,J,Z,Z,Z,Z,Z,Z,Z,Z,Z,Z,Z,Z,Z,Z,Z] rfl rfl (by kernel_rfl) (fun _ _ _ h => h) (Or.inl ⟨by rfl, ?_⟩) hHeld ?_ ?_
      rotate_left
      ·rintro w' ⟨s0, s1, s2, s3, s4, s5, s6, s7, s8, s9⟩; go_simp; with_reducible rfl
      rotate_left
      ·simp only [Act.put, sA, sB, sC, i64_w, i32_w]; rfl
      refine take_ (i := 7) (N := some 104) (v := ?_) (a' := ?_) #[J,J,J,J,J,J,J,J,Z,Z,Z,Z,Z,Z,Z,Z,Z,Z,Z,Z,Z,Z] rfl rfl (by kernel_rfl) (fun _ _ _ h => h) (Or.inl ⟨by rfl, ?_⟩) hHeld ?_ ?_
      rotate_left
      ·rintro w' ⟨s0, s1, s2, s3, s4, s5, s6, s7, s8, s9⟩; go_simp; with_reducible rfl
      rotate_left
      ·simp only [Act.put, sA, sB, sC, i64_w, i32_w]; rfl
      refine one_ (i := 8) (N := some 105) #[J,J,J,J,J,J,J,J,J,Z,Z,Z,Z,Z,Z,Z,Z,Z,Z,Z,Z,Z] rfl rfl (by kernel_rfl) (by decide) (fun K hK => ?_)
      refine goes_ Tryz.func42 (by kernel_rfl) rfl #[.agg #[.int .i64 e.1, .int .i64 e.2], .agg #[.int .i64 s1, .int .i64 s2], .agg #[.int .i64 s3, .int .i64 s4]] (by rfl) rfl rfl (by simp only [List.map_toArray, List.map_cons, List.map_nil]; rfl) ?_
      with_reducible refine (O1.out _).mono ?_
      rintro e' w4 ⟨rfl, hb4⟩
      refine ⟨_, rfl, ?_⟩
      refine hK.out _ _ ⟨blk_cell (blk_below (W := wr.drew) HA hb4) 0 rfl, blk_cell (blk_below (W := wr.drew) HA hb4) 1 rfl, blk_cell (blk_below (W := wr.drew) HA hb4) 2 rfl, blk_cell (blk_below (W := wr.drew) HA hb4) 3 rfl, blk_cell (blk_below (W := wr.drew) HT hb4) 0 rfl, blk_cell (blk_below (W := wr.drew) HT hb4) 1 rfl, blk_cell (blk_below (W := wr.drew) HT hb4) 2 rfl, blk_cell (blk_below (W := wr.drew) HT hb4) 3 rfl, (cell_below hb4 pc0), (cell_below hb4 pc1)⟩ (fun hHeld => ?_)
      clear hK K
      refine norm_ (a' := ?_) ?_ ?_
      rotate_left
      ·show Act.put _ (some 105) _ = _
       simp only [Act.put, sA, sB, sC, i64_w, i32_w]; rfl
      refine pure_ (i := 9) (N := some 106) (v := ?_) (a' := ?_) #[J,J,J,J,J,J,J,J,J,J,Z,Z,Z,Z,Z,Z,Z,Z,Z,Z,Z,Z] rfl rfl (by kernel_rfl) (fun _ _ _ h => h) (Or.inl ⟨by rfl, ?_⟩) ?_ ?_
      rotate_left
      ·intro w'; go_simp; with_reducible rfl
      rotate_left
      ·simp only [Act.put, sA, sB, sC, i64_w, i32_w]; rfl
      refine pure_ (i := 10) (N := some 107) (v := ?_) (a' := ?_) #[J,J,J,J,J,J,J,J,J,J,J,Z,Z,Z,Z,Z,Z,Z,Z,Z,Z,Z] rfl rfl (by kernel_rfl) (fun _ _ _ h => h) (Or.inl ⟨by rfl, ?_⟩) ?_ ?_
      rotate_left
      ·intro w'; go_simp; with_reducible rfl
      rotate_left
      ·simp only [Act.put, sA, sB, sC, i64_w, i32_w]; rfl
      refine pure_ (i := 11) (N := some 108) (v := ?_) (a' := ?_) #[J,J,J,J,J,J,J,J,J,J,J,J,Z,Z,Z,Z,Z,Z,Z,Z,Z,Z] rfl rfl (by kernel_rfl) (fun _ _ _ h => h) (Or.inl ⟨by rfl, ?_⟩) ?_ ?_
      rotate_left
      ·intro w'; go_simp; with_reducible rfl
      rotate_left
      ·simp only [Act.put, sA, sB, sC, i64_w, i32_w]; rfl
      refine pure_ (i := 12) (N := some 109) (v := ?_) (a' := ?_) #[J,J,J,J,J,J,J,J,J,J,J,J,J,Z,Z,Z,Z,Z,Z,Z,Z,Z] rfl rfl (by kernel_rfl) (fun _ _ _ h => h) (Or.inl ⟨by rfl, ?_⟩) ?_ ?_
      rotate_left
      ·intro w'; go_simp; with_reducible rfl
      rotate_left
      ·simp only [Act.put, sA, sB, sC, i64_w, i32_w]; rfl
      refine pure_ (i := 13) (N := some 110) (v := ?_) (a' := ?_) #[J,J,J,J,J,J,J,J,J,J,J,J,J,J,Z,Z,Z,Z,Z,Z,Z,Z] rfl rfl (by kernel_rfl) (fun _ _ _ h => h) (Or.inl ⟨by rfl, ?_⟩) ?_ ?_
      rotate_left
      ·intro w'; go_simp; with_reducible rfl
      rotate_left
      ·simp only [Act.put, sA, sB, sC, i64_w, i32_w]; rfl
      refine pure_ (i := 15) (N := some 112) (v := ?_) (a' := ?_) #[J,J,J,J,J,J,J,J,J,J,J,J,J,J,Z,J,Z,Z,Z,Z,Z,Z] rfl rfl (by kernel_rfl) (fun _ _ _ h => h) (Or.inl ⟨by rfl, ?_⟩) ?_ ?_
      rotate_left
      ·intro w'; go_simp; with_reducible rfl
      rotate_left
      ·simp only [Act.put, sA, sB, sC, i64_w, i32_w]; rfl
      refine pure_ (i := 17) (N := some 114) (v := ?_) (a' := ?_) #[J,J,J,J,J,J,J,J,J,J,J,J,J,J,Z,J,Z,J,Z,Z,Z,Z] rfl rfl (by kernel_rfl) (fun _ _ _ h => h) (Or.inl ⟨by rfl, ?_⟩) ?_ ?_
      rotate_left
      ·intro w'; go_simp; with_reducible rfl
      rotate_left
      ·simp only [Act.put, sA, sB, sC, i64_w, i32_w]; rfl
      refine take_ (i := 14) (N := some 111) (v := ?_) (a' := ?_) #[J,J,J,J,J,J,J,J,J,J,J,J,J,J,J,J,Z,J,Z,Z,Z,Z] rfl rfl (by kernel_rfl) (fun _ _ _ h => h) (Or.inl ⟨by rfl, ?_⟩) hHeld ?_ ?_
      rotate_left
      ·rintro w' ⟨s0, s1, s2, s3, s4, s5, s6, s7, s8, s9⟩; go_simp; with_reducible rfl
      rotate_left
      ·simp only [Act.put, sA, sB, sC, i64_w, i32_w]; rfl
      refine take_ (i := 16) (N := some 113) (v := ?_) (a' := ?_) #[J,J,J,J,J,J,J,J,J,J,J,J,J,J,J,J,J,J,Z,Z,Z,Z] rfl rfl (by kernel_rfl) (fun _ _ _ h => h) (Or.inl ⟨by rfl, ?_⟩) hHeld ?_ ?_
      rotate_left
      ·rintro w' ⟨s0, s1, s2, s3, s4, s5, s6, s7, s8, s9⟩; go_simp; with_reducible rfl
      rotate_left
      ·simp only [Act.put, sA, sB, sC, i64_w, i32_w]; rfl
      refine take_ (i := 18) (N := some 115) (v := ?_) (a' := ?_) #[J,J,J,J,J,J,J,J,J,J,J,J,J,J,J,J,J,J,J,Z,Z,Z] rfl rfl (by kernel_rfl) (fun _ _ _ h => h) (Or.inl ⟨by rfl, ?_⟩) hHeld ?_ ?_
      rotate_left
      ·rintro w' ⟨s0, s1, s2, s3, s4, s5, s6, s7, s8, s9⟩; go_simp; with_reducible rfl
      rotate_left
      ·simp only [Act.put, sA, sB, sC, i64_w, i32_w]; rfl
      refine one_ (i := 19) (N := some 116) #[J,J,J,J,J,J,J,J,J,J,J,J,J,J,J,J,J,J,J,J,Z,Z] rfl rfl (by kernel_rfl) (by decide) (fun K hK => ?_)
      refine goes_ Tryz.func42 (by kernel_rfl) rfl #[.agg #[.int .i64 e.1, .int .i64 e.2], .agg #[.int .i64 t1, .int .i64 t2], .agg #[.int .i64 t3, .int .i64 t4]] (by rfl) rfl rfl (by simp only [List.map_toArray, List.map_cons, List.map_nil]; rfl) ?_
      with_reducible refine (O2.out _).mono ?_
      rintro e' w5 ⟨rfl, hb5⟩
      refine ⟨_, rfl, ?_⟩
      refine hK.out _ _ ⟨blk_cell (blk_below (blk_below (W := wr.drew) HA hb4) hb5) 0 rfl, blk_cell (blk_below (blk_below (W := wr.drew) HA hb4) hb5) 1 rfl, blk_cell (blk_below (blk_below (W := wr.drew) HA hb4) hb5) 2 rfl, blk_cell (blk_below (blk_below (W := wr.drew) HA hb4) hb5) 3 rfl, blk_cell (blk_below (blk_below (W := wr.drew) HT hb4) hb5) 0 rfl, blk_cell (blk_below (blk_below (W := wr.drew) HT hb4) hb5) 1 rfl, blk_cell (blk_below (blk_below (W := wr.drew) HT hb4) hb5) 2 rfl, blk_cell (blk_below (blk_below (W := wr.drew) HT hb4) hb5) 3 rfl, (cell_below hb5 (cell_below hb4 pc0)), (cell_below hb5 (cell_below hb4 pc1))⟩ (fun hHeld => ?_)
      clear hK K
      refine norm_ (a' := ?_) ?_ ?_
      rotate_left
      ·show Act.put _ (some 116) _ = _
       simp only [Act.put, sA, sB, sC, i64_w, i32_w]; rfl
      refine pure_ (i := 20) (N := some 117) (v := ?_) (a' := ?_) #[J,J,J,J,J,J,J,J,J,J,J,J,J,J,J,J,J,J,J,J,J,Z] rfl rfl (by kernel_rfl) (fun _ _ _ h => h) (Or.inl ⟨by rfl, ?_⟩) ?_ ?_
      rotate_left
      ·intro w'; go_simp; with_reducible rfl
      rotate_left
      ·simp only [Act.put, sA, sB, sC, i64_w, i32_w]; rfl
      refine pure_ (i := 21) (N := some 118) (v := ?_) (a' := ?_) #[J,J,J,J,J,J,J,J,J,J,J,J,J,J,J,J,J,J,J,J,J,J] rfl rfl (by kernel_rfl) (fun _ _ _ h => h) (Or.inl ⟨by rfl, ?_⟩) ?_ ?_
      rotate_left
      ·intro w'; go_simp; with_reducible rfl
      rotate_left
      ·simp only [Act.put, sA, sB, sC, i64_w, i32_w]; rfl
      refine done_ (by kernel_rfl) ?_
      have BR : Below wr.heap.size wr w5 := (by repeat (first | exact Below.refl _ _ | apply below_alloc | apply below_drewN | apply below_drew | (refine below_set2 ?_ ?_; (first | (simp; done) | (simp; omega))) | (refine below_step ?_ hb5) | (refine below_step ?_ hb4)))
      have HA1 := Lib.hid (blk_below HA BR)
      have HT1 := Lib.hid (blk_below HT BR)
      have HE1 := Lib.hid (blk_below HE BR)
      have hd0 := cell_below BR pc0
      have hd1 := cell_below BR pc1
      have HB1' := Lib.hid (below_step HB.out BR)
      generalize bothTo ((s1, s2), (s3, s4)) ((t1, t2), (t3, t4)) k = acc at *
      have HO1' := Lib.hid (Own1.below HO.out BR)
      obtain ⟨A7, c7, hv7, hl7, hr7⟩ := HO1'.out.reads
      subst hv7
      have HR7 := Lib.hid hr7
      have hz5 := BR.size
      have hpb := World.block_lt_of_cell? _ _ hd0
      clear BR hb4 hb5 sc0 sc1 sc2 sc3 tc0 tc1 tc2 tc3 pc0 pc1 hr7 HA HT HE HB HO
      go_wp2
      go_loopw [12, 13] (fun b q wr => ∃ m : Nat, m ≤ acc.length ∧ q = .int .i64 m ∧ b = .bool (decide (e ∈ acc.take m)) ∧ Hid (Below w5.heap.size w5 wr)) (fun _ q _ => acc.length - (intOf q).toNat)
      case atStart => exact ⟨0, Nat.zero_le _, rfl, by simp, Below.refl _ _⟩
      case round =>
       obtain ⟨m, hm, rfl, rfl, HBm⟩ := hrel
       have hf0 := cell_below HBm.out hd0
       have hf1 := cell_below HBm.out hd1
       have hzm := HBm.out.size
       by_cases hml : m < acc.length
       ·obtain ⟨ay, hay, hy0, hy1⟩ := (HR7.out.below HBm.out).pt_at m hml
        subst hay
        have htk : Hid (acc.take (m + 1) = acc.take m ++ [ptD acc m]) := take_snoc acc m (0, 0) hml
        generalize ptD acc m = y at *
        by_cases hin : e ∈ acc.take m
        ·have HI : Hid (decide (e ∈ acc.take (m + 1)) = true) := decide_eq_true (by rw [htk.out]; exact List.mem_append_left _ hin)
         rw [decide_eq_true hin]
         clear hin htk
         go_wp2_with fail
         go_quiet (fail)
         go_wp2
         go_roundw
         case rel => exact ⟨m + 1, by omega, by go_num, by rw [HI.out], (by repeat (first | exact Below.refl _ _ | apply below_alloc | apply below_drewN | apply below_drew | (refine below_set2 ?_ ?_; (first | (simp; done) | (simp; omega))) | (refine below_step ?_ HBm.out)))⟩
         case measure => simp [intOf]; omega
        ·rw [decide_eq_false hin]
         by_cases hye : y = e
         ·have HI : Hid (decide (e ∈ acc.take (m + 1)) = true) := decide_eq_true (by rw [htk.out, hye]; simp)
          have hdy := (ptB y e).trans (decide_eq_true hye)
          clear hin htk hye
          go_wp2_with fail
          go_quiet (fail)
          go_wp2
          go_roundw
          case rel => exact ⟨m + 1, by omega, by go_num, by rw [HI.out], (by repeat (first | exact Below.refl _ _ | apply below_alloc | apply below_drewN | apply below_drew | (refine below_set2 ?_ ?_; (first | (simp; done) | (simp; omega))) | (refine below_step ?_ HBm.out)))⟩
          case measure => simp [intOf]; omega
         ·have HI : Hid (decide (e ∈ acc.take (m + 1)) = false) := decide_eq_false (by rw [htk.out, List.mem_append, List.mem_singleton]; exact fun h => h.elim hin (fun h => hye h.symm))
          have hdy := (ptB y e).trans (decide_eq_false hye)
          clear hin htk hye
          go_wp2_with fail
          go_quiet (fail)
          go_wp2
          go_roundw
          case rel => exact ⟨m + 1, by omega, by go_num, by rw [HI.out], (by repeat (first | exact Below.refl _ _ | apply below_alloc | apply below_drewN | apply below_drew | (refine below_set2 ?_ ?_; (first | (simp; done) | (simp; omega))) | (refine below_step ?_ HBm.out)))⟩
          case measure => simp [intOf]; omega
       ·obtain rfl : m = acc.length := by omega
        rw [List.take_length]
        have HA2 := Lib.hid (blk_below HA1.out HBm.out)
        have HT2 := Lib.hid (blk_below HT1.out HBm.out)
        have HE2 := Lib.hid (blk_below HE1.out HBm.out)
        have HO2' := Lib.hid (Own1.below HO1'.out HBm.out)
        have HB2 := Lib.hid (below_step HB1'.out HBm.out)
        have hzz : w.heap.size ≤ W0.heap.size := hz0
        by_cases hin : e ∈ acc
        ·have HT5 := Lib.hid (HT4.out.trans (if_neg (fun h => h hin)))
         rw [decide_eq_true hin]
         clear hin HT4
         go_wp2
         go_roundw
         case rel => exact ⟨k + 1, by omega, by go_num, HA2.out, HT2.out, HE2.out, HB2.out, by rw [HT5.out]; exact HO2'.out⟩
         case measure => simp [intOf]; omega
        ·have HT5 := Lib.hid (HT4.out.trans (if_pos hin))
         rw [decide_eq_false hin]
         clear hin HT4
         go_wp2_with (at_builtin; refine app_one Ty.pt (W := wr) (W0.heap.size + 1) rfl _ _ 41 24 _ 16 rfl Tryz.underlying41 infoPt rfl (by decide) (.slice A7 acc.length c7) acc e _ _ rfl rfl rfl rfl HO2'.out (by omega) (by omega) ?_; intro v8 w8' HO8 hg8 hat8)
         have hne : ∀ g, g ≤ W0.heap.size → some g ≠ (Value.slice A7 acc.length c7).ownBlock := fun g hg e => by have := (OwnR.lt HO2'.out _ e.symm).1; omega
         have HA3 := (hg8.block _ (lt_of_block HA2.out) (hne _ (by omega))).trans HA2.out
         have HT3 := (hg8.block _ (lt_of_block HT2.out) (hne _ (by omega))).trans HT2.out
         have HE3 := (hg8.block _ (lt_of_block HE2.out) (hne _ (by omega))).trans HE2.out
         have HO3 := Lib.hid (Own1.of HO8)
         have HB3 := Lib.hid (show Below w.heap.size w w8' from below_own HB2.out hg8 (fun b e => by have := (OwnR.lt HO2'.out b e).1; omega))
         clear HO8 hg8 hat8 hne
         go_wp2
         go_roundw
         case rel => exact ⟨k + 1, by omega, by go_num, HA3, HT3, HE3, HB3.out, by rw [HT5.out]; exact HO3.out⟩
         case measure => simp [intOf]; omega
   ·obtain rfl : k = 4 := by omega
    have HBR : Hid (bothR ((s1, s2), (s3, s4)) ((t1, t2), (t3, t4)) = bothTo ((s1, s2), (s3, s4)) ((t1, t2), (t3, t4)) 4) := rfl
    have HN2 := HN.out
    rw [HBR.out] at HN2
    have HN3 := Lib.hid HN2
    clear HN HN2
    generalize bothTo ((s1, s2), (s3, s4)) ((t1, t2), (t3, t4)) 4 = acc at *
    obtain ⟨A7, c7, hv7, hl7, hr7⟩ := HO.out.reads
    subst hv7
    by_cases h1 : 1 < acc.length
    ·have HR : Hid (r = 3) := HN3.out.trans (if_pos h1)
     have q1 : decide ((1 : Int) < (acc.length : Int)) = true := decide_eq_true (by omega)
     clear HN3 h1
     go_wp2
     go_ret
     exact ⟨ret_int HR.out.symm, HB.out⟩
    ·have q1 : decide ((1 : Int) < (acc.length : Int)) = false := decide_eq_false (by omega)
     by_cases h2 : acc.length = 1
     ·have HR : Hid (r = 1) := HN3.out.trans (by rw [if_neg h1, if_pos h2])
      have q2 : ((acc.length : Int) == 1) = true := by rw [beq_iff_eq]; omega
      have q2' : (acc.length == 1) = true := by rw [beq_iff_eq]; omega
      clear HN3 h1 h2
      go_wp2
      go_ret
      exact ⟨ret_int HR.out.symm, HB.out⟩
     ·have HR : Hid (r = 0) := HN3.out.trans (by rw [if_neg h1, if_neg h2])
      have q2 : ((acc.length : Int) == 1) = false := by rw [beq_eq_false_iff_ne]; omega
      have q2' : (acc.length == 1) = false := by rw [beq_eq_false_iff_ne]; omega
      clear HN3 h1 h2
      go_wp2
      go_ret
      exact ⟨ret_int HR.out.symm, HB.out⟩
end
end Go.Proofs.YtlmjciajpjdilaaGreat
