/- Contract of ref09.Relate at valid segments. Plain words: a set of segments does not hang on order, direction, or a segment told twice. Contract of ref20.Crossings: how many pairs cross or overlap. -/
import Derived.Test.YtaeflnbjeaoapaaGreatKPW
import Derived.Test.YtaeflnbjeaoapaaGreatKP16
import Derived.Test.YtaeflnbjeaoapaaGreatKP6
import Derived.Test.YtaeflnbjeaoapaaGreatKP4
import Derived.Test.YtaeflnbjeaoapaaGreatKP12
import Derived.Test.YtaeflnbjeaoapaaGreatKP1
namespace Go.Proofs.YtaeflnbjeaoapaaGreat
set_option linter.unusedVariables false
set_option linter.unusedSimpArgs false
section
open Go.RowKit Go.Proofs.YtaeflnbjeaoapaaGreatW.PrintLast

attribute [local go_sem high] eqPt eqSg
def bothF (s t : Sg) (acc : Pts) (e : Pt) : Pts := if onB e s.1 s.2 = true ∧ onB e t.1 t.2 = true ∧ e ∉ acc then acc ++ [e] else acc
def endsOf (s t : Sg) : Pts := [s.1, s.2, t.1, t.2]
def bothTo (s t : Sg) (k : Nat) : Pts := ((endsOf s t).take k).foldl (bothF s t) []
def bothR (s t : Sg) : Pts := (endsOf s t).foldl (bothF s t) []
def relC (s t : Sg) : Bool := decide (signZ (turnZ s.1 s.2 t.1) * signZ (turnZ s.1 s.2 t.2) < 0 ∧ signZ (turnZ t.1 t.2 s.1) * signZ (turnZ t.1 t.2 s.2) < 0)
def relR (s t : Sg) : Int := if relC s t = true then 2 else if 1 < (bothR s t).length then 3 else if (bothR s t).length = 1 then 1 else 0
theorem bothTo_snoc (s t : Sg) (k : Nat) (h : k < 4) : bothTo s t (k + 1) = bothF s t (bothTo s t k) (ptD (endsOf s t) k) := by
 unfold bothTo
 rw [take_snoc (endsOf s t) k (0, 0) h, List.foldl_append]; rfl
theorem bothTo_len (s t : Sg) : ∀ k, k ≤ 4 → (bothTo s t k).length ≤ k
 | 0, _ => by simp [bothTo]
 | k + 1, h => by
  have ih := bothTo_len s t k (by omega)
  rw [bothTo_snoc s t k (by omega)]
  unfold bothF
  split <;> simp <;> omega
set_option maxRecDepth 100000 in
set_option maxHeartbeats 8000000 in
theorem ref09_Relate (s1 s2 s3 s4 t1 t2 t3 t4 : Int) (w : World) (hv1 : (validB (s1, s2) && validB (s3, s4) && validB (t1, t2)) = true) (hv2 : validB (t3, t4) = true) (e1 : ¬ ((s1, s2) : Pt) = (s3, s4)) (e2 : ¬ ((t1, t2) : Pt) = (t3, t4)) :
  Calls Tryz.prog 99 #[.agg #[.int .i64 s1, .int .i64 s2, .int .i64 s3, .int .i64 s4], .agg #[.int .i64 t1, .int .i64 t2, .int .i64 t3, .int .i64 t4]] w fun e w' => e = .returned (.int .i64 (relR ((s1, s2), (s3, s4)) ((t1, t2), (t3, t4)))) ∧ Below w.heap.size w w' := by
 have hd1 := (ptB (s1, s2) (s3, s4)).trans (decide_eq_false e1)
 have hd2 := (ptB (t1, t2) (t3, t4)).trans (decide_eq_false e2)
 have V1 := Lib.hid (fun W => ref09_three s1 s2 s3 s4 t1 t2 W)
 have V2 := Lib.hid (fun W => ref08_Valid t3 t4 W)
 rw [hv1] at V1
 rw [hv2] at V2
 clear e1 e2 hv1 hv2
 have HF : Hid (relR ((s1, s2), (s3, s4)) ((t1, t2), (t3, t4)) = if decide (signZ (turnZ (s1, s2) (s3, s4) (t1, t2)) * signZ (turnZ (s1, s2) (s3, s4) (t3, t4)) < 0 ∧ signZ (turnZ (t1, t2) (t3, t4) (s1, s2)) * signZ (turnZ (t1, t2) (t3, t4) (s3, s4)) < 0) = true then 2 else if 1 < (bothR ((s1, s2), (s3, s4)) ((t1, t2), (t3, t4))).length then 3 else if (bothR ((s1, s2), (s3, s4)) ((t1, t2), (t3, t4))).length = 1 then 1 else 0) := rfl
 generalize relR ((s1, s2), (s3, s4)) ((t1, t2), (t3, t4)) = r at *
 have Sa := Lib.hid (fun W => ref09_sign (turnZ (s1, s2) (s3, s4) (t1, t2)) W)
 have Ba := sgn_bd (turnZ (s1, s2) (s3, s4) (t1, t2))
 have Ta := Lib.hid (fun W => ref09_Turn s1 s2 s3 s4 t1 t2 W)
 have Sb := Lib.hid (fun W => ref09_sign (turnZ (s1, s2) (s3, s4) (t3, t4)) W)
 have Bb := sgn_bd (turnZ (s1, s2) (s3, s4) (t3, t4))
 have Tb := Lib.hid (fun W => ref09_Turn s1 s2 s3 s4 t3 t4 W)
 have Sc := Lib.hid (fun W => ref09_sign (turnZ (t1, t2) (t3, t4) (s1, s2)) W)
 have Bc := sgn_bd (turnZ (t1, t2) (t3, t4) (s1, s2))
 have Tc := Lib.hid (fun W => ref09_Turn t1 t2 t3 t4 s1 s2 W)
 have Sd := Lib.hid (fun W => ref09_sign (turnZ (t1, t2) (t3, t4) (s3, s4)) W)
 have Bd := sgn_bd (turnZ (t1, t2) (t3, t4) (s3, s4))
 have Td := Lib.hid (fun W => ref09_Turn t1 t2 t3 t4 s3 s4 W)
 obtain ⟨a, ha⟩ : ∃ q, q = signZ (turnZ (s1, s2) (s3, s4) (t1, t2)) := ⟨_, rfl⟩
 rw [← ha] at HF Sa Ba
 clear ha
 obtain ⟨b, hb⟩ : ∃ q, q = signZ (turnZ (s1, s2) (s3, s4) (t3, t4)) := ⟨_, rfl⟩
 rw [← hb] at HF Sb Bb
 clear hb
 obtain ⟨c, hc⟩ : ∃ q, q = signZ (turnZ (t1, t2) (t3, t4) (s1, s2)) := ⟨_, rfl⟩
 rw [← hc] at HF Sc Bc
 clear hc
 obtain ⟨d, hd⟩ : ∃ q, q = signZ (turnZ (t1, t2) (t3, t4) (s3, s4)) := ⟨_, rfl⟩
 rw [← hd] at HF Sd Bd
 clear hd
 have wab := Lib.hid (sgn_mul Ba Bb)
 have wcd := Lib.hid (sgn_mul Bc Bd)
 clear Ba Bb Bc Bd
 go_enter Tryz.func99, Tryz.ntmps99
 go_wp2_with fail
 (refine (V1.out _).mono ?_; rintro e w0 ⟨rfl, hb0⟩; obtain ⟨c_hb0, f_hb0⟩ := bcell hb0; have z_hb0 := hb0.size; (try simp at z_hb0); (try have y0_hb0 : w.heap.size < w0.heap.size := by omega); (try have y1_hb0 : w.heap.size + 1 < w0.heap.size := by omega); (try have y2_hb0 : w.heap.size + 1 + 1 < w0.heap.size := by omega); (try have y3_hb0 : w.heap.size + 1 + 1 + 1 < w0.heap.size := by omega); (try have y4_hb0 : w.heap.size + 1 + 1 + 1 + 1 < w0.heap.size := by omega))
 go_wp2_with fail
 (refine (V2.out _).mono ?_; rintro e w1 ⟨rfl, hb1⟩; obtain ⟨c_hb1, f_hb1⟩ := bcell hb1; have z_hb1 := hb1.size; (try simp at z_hb1); (try have y0_hb1 : w.heap.size < w1.heap.size := by omega); (try have y1_hb1 : w.heap.size + 1 < w1.heap.size := by omega); (try have y2_hb1 : w.heap.size + 1 + 1 < w1.heap.size := by omega); (try have y3_hb1 : w.heap.size + 1 + 1 + 1 < w1.heap.size := by omega); (try have y4_hb1 : w.heap.size + 1 + 1 + 1 + 1 < w1.heap.size := by omega))
 have HA : w1.heap[w.heap.size]? = some (.cells #[.int .i64 s1, .int .i64 s2, .int .i64 s3, .int .i64 s4] 48 (0, 0)) := blk_below (blk_below (two_alloc w _ _).1 hb0) hb1
 have HT : w1.heap[w.heap.size + 1]? = some (.cells #[.int .i64 t1, .int .i64 t2, .int .i64 t3, .int .i64 t4] 48 (0, 0)) := blk_below (blk_below (two_alloc w _ _).2 hb0) hb1
 have HB1 : Hid (Below w.heap.size w w1) := (by repeat (first | exact Below.refl _ _ | apply below_alloc | apply below_drewN | apply below_drew | (refine below_set2 ?_ ?_; (first | (simp; done) | (simp; omega))) | (refine below_step ?_ hb1) | (refine below_step ?_ hb0)))
 clear hb0 hb1 V1 V2 c_hb0 c_hb1 f_hb0 f_hb1
 have sc0 := blk_cell HA 0 rfl
 have sc1 := blk_cell HA 1 rfl
 have sc2 := blk_cell HA 2 rfl
 have sc3 := blk_cell HA 3 rfl
 have tc0 := blk_cell HT 0 rfl
 have tc1 := blk_cell HT 1 rfl
 have tc2 := blk_cell HT 2 rfl
 have tc3 := blk_cell HT 3 rfl
 go_wp2_with fail
 refine start_ (n := 18) (S := fun w' => w'.cell? ⟨w.heap.size, 0, none⟩ = some (.int .i64 s1) ∧ w'.cell? ⟨w.heap.size, 1, none⟩ = some (.int .i64 s2) ∧ w'.cell? ⟨w.heap.size, 2, none⟩ = some (.int .i64 s3) ∧ w'.cell? ⟨w.heap.size, 3, none⟩ = some (.int .i64 s4) ∧ w'.cell? ⟨w.heap.size + 1, 0, none⟩ = some (.int .i64 t1) ∧ w'.cell? ⟨w.heap.size + 1, 1, none⟩ = some (.int .i64 t2) ∧ w'.cell? ⟨w.heap.size + 1, 2, none⟩ = some (.int .i64 t3) ∧ w'.cell? ⟨w.heap.size + 1, 3, none⟩ = some (.int .i64 t4)) (ds := []) #[Z,Z,Z,Z,Z,Z,Z,Z,Z,Z,Z,Z,Z,Z,Z,Z,Z,Z] (by kernel_rfl) rfl rfl ⟨sc0, sc1, sc2, sc3, tc0, tc1, tc2, tc3⟩ (fun hHeld => ?_)
 refine pu 0 42 ?_
 refine pu 2 44 ?_
 refine pu 4 46 ?_
 refine pu 8 50 ?_
 refine pu 10 52 ?_
 refine pu 12 54 ?_
 refine ta 1 43 hHeld ?_
 refine ta 3 45 hHeld ?_
 refine ta 5 47 hHeld ?_
 refine ta 9 51 hHeld ?_
 refine ta 11 53 hHeld ?_
 refine ta 13 55 hHeld ?_
 refine one_ (i := 6) (N := some 48) #[J,J,J,J,J,J,J,Z,J,J,J,J,J,J,Z,Z,Z,Z] rfl rfl (by kernel_rfl) (by decide) (fun K hK => ?_)
 refine goes_ Tryz.func117 (by kernel_rfl) rfl #[.agg #[.int .i64 s1, .int .i64 s2], .agg #[.int .i64 s3, .int .i64 s4], .agg #[.int .i64 t1, .int .i64 t2]] (by rfl) rfl rfl (by simp only [List.map_toArray, List.map_cons, List.map_nil]; rfl) ?_
 with_reducible refine (Ta.out _).mono ?_
 rintro e w5 ⟨rfl, hb5⟩
 refine ⟨_, rfl, ?_⟩
 refine hK.out _ _ ⟨blk_cell (blk_below (W := w1.drew) HA hb5) 0 rfl, blk_cell (blk_below (W := w1.drew) HA hb5) 1 rfl, blk_cell (blk_below (W := w1.drew) HA hb5) 2 rfl, blk_cell (blk_below (W := w1.drew) HA hb5) 3 rfl, blk_cell (blk_below (W := w1.drew) HT hb5) 0 rfl, blk_cell (blk_below (W := w1.drew) HT hb5) 1 rfl, blk_cell (blk_below (W := w1.drew) HT hb5) 2 rfl, blk_cell (blk_below (W := w1.drew) HT hb5) 3 rfl⟩ (fun hHeld => ?_)
 clear hK K
 refine nm 48 ?_
 refine one_ (i := 7) (N := some 49) #[J,J,J,J,J,J,J,J,J,J,J,J,J,J,Z,Z,Z,Z] rfl rfl (by kernel_rfl) (by decide) (fun K hK => ?_)
 refine goes_ Tryz.func116 (by kernel_rfl) rfl #[.int .i64 (turnZ (s1, s2) (s3, s4) (t1, t2))] (by rfl) rfl rfl (by simp only [List.map_toArray, List.map_cons, List.map_nil]; rfl) ?_
 with_reducible refine (Sa.out _).mono ?_
 rintro e w6 ⟨rfl, hb6⟩
 refine ⟨_, rfl, ?_⟩
 refine hK.out _ _ ⟨blk_cell (blk_below (blk_below (W := w1.drew) HA hb5) hb6) 0 rfl, blk_cell (blk_below (blk_below (W := w1.drew) HA hb5) hb6) 1 rfl, blk_cell (blk_below (blk_below (W := w1.drew) HA hb5) hb6) 2 rfl, blk_cell (blk_below (blk_below (W := w1.drew) HA hb5) hb6) 3 rfl, blk_cell (blk_below (blk_below (W := w1.drew) HT hb5) hb6) 0 rfl, blk_cell (blk_below (blk_below (W := w1.drew) HT hb5) hb6) 1 rfl, blk_cell (blk_below (blk_below (W := w1.drew) HT hb5) hb6) 2 rfl, blk_cell (blk_below (blk_below (W := w1.drew) HT hb5) hb6) 3 rfl⟩ (fun hHeld => ?_)
 clear hK K
 refine nm 49 ?_
 refine one_ (i := 14) (N := some 56) #[J,J,J,J,J,J,J,J,J,J,J,J,J,J,J,Z,Z,Z] rfl rfl (by kernel_rfl) (by decide) (fun K hK => ?_)
 refine goes_ Tryz.func117 (by kernel_rfl) rfl #[.agg #[.int .i64 s1, .int .i64 s2], .agg #[.int .i64 s3, .int .i64 s4], .agg #[.int .i64 t3, .int .i64 t4]] (by rfl) rfl rfl (by simp only [List.map_toArray, List.map_cons, List.map_nil]; rfl) ?_
 with_reducible refine (Tb.out _).mono ?_
 rintro e w7 ⟨rfl, hb7⟩
 refine ⟨_, rfl, ?_⟩
 refine hK.out _ _ ⟨blk_cell (blk_below (blk_below (blk_below (W := w1.drew) HA hb5) hb6) hb7) 0 rfl, blk_cell (blk_below (blk_below (blk_below (W := w1.drew) HA hb5) hb6) hb7) 1 rfl, blk_cell (blk_below (blk_below (blk_below (W := w1.drew) HA hb5) hb6) hb7) 2 rfl, blk_cell (blk_below (blk_below (blk_below (W := w1.drew) HA hb5) hb6) hb7) 3 rfl, blk_cell (blk_below (blk_below (blk_below (W := w1.drew) HT hb5) hb6) hb7) 0 rfl, blk_cell (blk_below (blk_below (blk_below (W := w1.drew) HT hb5) hb6) hb7) 1 rfl, blk_cell (blk_below (blk_below (blk_below (W := w1.drew) HT hb5) hb6) hb7) 2 rfl, blk_cell (blk_below (blk_below (blk_below (W := w1.drew) HT hb5) hb6) hb7) 3 rfl⟩ (fun hHeld => ?_)
 clear hK K
 refine nm 56 ?_
 refine one_ (i := 15) (N := some 57) #[J,J,J,J,J,J,J,J,J,J,J,J,J,J,J,J,Z,Z] rfl rfl (by kernel_rfl) (by decide) (fun K hK => ?_)
 refine goes_ Tryz.func116 (by kernel_rfl) rfl #[.int .i64 (turnZ (s1, s2) (s3, s4) (t3, t4))] (by rfl) rfl rfl (by simp only [List.map_toArray, List.map_cons, List.map_nil]; rfl) ?_
 with_reducible refine (Sb.out _).mono ?_
 rintro e w8 ⟨rfl, hb8⟩
 refine ⟨_, rfl, ?_⟩
 refine hK.out _ _ ⟨blk_cell (blk_below (blk_below (blk_below (blk_below (W := w1.drew) HA hb5) hb6) hb7) hb8) 0 rfl, blk_cell (blk_below (blk_below (blk_below (blk_below (W := w1.drew) HA hb5) hb6) hb7) hb8) 1 rfl, blk_cell (blk_below (blk_below (blk_below (blk_below (W := w1.drew) HA hb5) hb6) hb7) hb8) 2 rfl, blk_cell (blk_below (blk_below (blk_below (blk_below (W := w1.drew) HA hb5) hb6) hb7) hb8) 3 rfl, blk_cell (blk_below (blk_below (blk_below (blk_below (W := w1.drew) HT hb5) hb6) hb7) hb8) 0 rfl, blk_cell (blk_below (blk_below (blk_below (blk_below (W := w1.drew) HT hb5) hb6) hb7) hb8) 1 rfl, blk_cell (blk_below (blk_below (blk_below (blk_below (W := w1.drew) HT hb5) hb6) hb7) hb8) 2 rfl, blk_cell (blk_below (blk_below (blk_below (blk_below (W := w1.drew) HT hb5) hb6) hb7) hb8) 3 rfl⟩ (fun hHeld => ?_)
 clear hK K
 refine nm 57 ?_
 refine pu 16 5 ?_
 refine pu 17 6 ?_
 refine done_ (by kernel_rfl) ?_
 clear sc0 sc1 sc2 sc3 tc0 tc1 tc2 tc3
 have HA8 := (blk_below (blk_below (blk_below (blk_below (W := w1.drew) HA hb5) hb6) hb7) hb8)
 have HT8 := (blk_below (blk_below (blk_below (blk_below (W := w1.drew) HT hb5) hb6) hb7) hb8)
 have HB8 : Hid (Below w.heap.size w w8) := (below_step (below_step (below_step (below_step (below_drew HB1.out) hb5) hb6) hb7) hb8)
 clear HA HT HB1 hb5 hb6 hb7 hb8
 have sc0 := blk_cell HA8 0 rfl
 have sc1 := blk_cell HA8 1 rfl
 have sc2 := blk_cell HA8 2 rfl
 have sc3 := blk_cell HA8 3 rfl
 have tc0 := blk_cell HT8 0 rfl
 have tc1 := blk_cell HT8 1 rfl
 have tc2 := blk_cell HT8 2 rfl
 have tc3 := blk_cell HT8 3 rfl
 go_wp2_with fail
 refine start_ (n := 18) (S := fun w' => w'.cell? ⟨w.heap.size, 0, none⟩ = some (.int .i64 s1) ∧ w'.cell? ⟨w.heap.size, 1, none⟩ = some (.int .i64 s2) ∧ w'.cell? ⟨w.heap.size, 2, none⟩ = some (.int .i64 s3) ∧ w'.cell? ⟨w.heap.size, 3, none⟩ = some (.int .i64 s4) ∧ w'.cell? ⟨w.heap.size + 1, 0, none⟩ = some (.int .i64 t1) ∧ w'.cell? ⟨w.heap.size + 1, 1, none⟩ = some (.int .i64 t2) ∧ w'.cell? ⟨w.heap.size + 1, 2, none⟩ = some (.int .i64 t3) ∧ w'.cell? ⟨w.heap.size + 1, 3, none⟩ = some (.int .i64 t4)) (ds := []) #[Z,Z,Z,Z,Z,Z,Z,Z,Z,Z,Z,Z,Z,Z,Z,Z,Z,Z] (by kernel_rfl) rfl rfl ⟨sc0, sc1, sc2, sc3, tc0, tc1, tc2, tc3⟩ (fun hHeld => ?_)
 refine pu 0 58 ?_
 refine pu 2 60 ?_
 refine pu 4 62 ?_
 refine pu 8 66 ?_
 refine pu 10 68 ?_
 refine pu 12 70 ?_
 refine ta 1 59 hHeld ?_
 refine ta 3 61 hHeld ?_
 refine ta 5 63 hHeld ?_
 refine ta 9 67 hHeld ?_
 refine ta 11 69 hHeld ?_
 refine ta 13 71 hHeld ?_
 refine one_ (i := 6) (N := some 64) #[J,J,J,J,J,J,J,Z,J,J,J,J,J,J,Z,Z,Z,Z] rfl rfl (by kernel_rfl) (by decide) (fun K hK => ?_)
 refine goes_ Tryz.func117 (by kernel_rfl) rfl #[.agg #[.int .i64 t1, .int .i64 t2], .agg #[.int .i64 t3, .int .i64 t4], .agg #[.int .i64 s1, .int .i64 s2]] (by rfl) rfl rfl (by simp only [List.map_toArray, List.map_cons, List.map_nil]; rfl) ?_
 with_reducible refine (Tc.out _).mono ?_
 rintro e w9 ⟨rfl, hb9⟩
 refine ⟨_, rfl, ?_⟩
 refine hK.out _ _ ⟨blk_cell (blk_below (W := w8.drew) HA8 hb9) 0 rfl, blk_cell (blk_below (W := w8.drew) HA8 hb9) 1 rfl, blk_cell (blk_below (W := w8.drew) HA8 hb9) 2 rfl, blk_cell (blk_below (W := w8.drew) HA8 hb9) 3 rfl, blk_cell (blk_below (W := w8.drew) HT8 hb9) 0 rfl, blk_cell (blk_below (W := w8.drew) HT8 hb9) 1 rfl, blk_cell (blk_below (W := w8.drew) HT8 hb9) 2 rfl, blk_cell (blk_below (W := w8.drew) HT8 hb9) 3 rfl⟩ (fun hHeld => ?_)
 clear hK K
 refine nm 64 ?_
 refine one_ (i := 7) (N := some 65) #[J,J,J,J,J,J,J,J,J,J,J,J,J,J,Z,Z,Z,Z] rfl rfl (by kernel_rfl) (by decide) (fun K hK => ?_)
 refine goes_ Tryz.func116 (by kernel_rfl) rfl #[.int .i64 (turnZ (t1, t2) (t3, t4) (s1, s2))] (by rfl) rfl rfl (by simp only [List.map_toArray, List.map_cons, List.map_nil]; rfl) ?_
 with_reducible refine (Sc.out _).mono ?_
 rintro e w10 ⟨rfl, hb10⟩
 refine ⟨_, rfl, ?_⟩
 refine hK.out _ _ ⟨blk_cell (blk_below (blk_below (W := w8.drew) HA8 hb9) hb10) 0 rfl, blk_cell (blk_below (blk_below (W := w8.drew) HA8 hb9) hb10) 1 rfl, blk_cell (blk_below (blk_below (W := w8.drew) HA8 hb9) hb10) 2 rfl, blk_cell (blk_below (blk_below (W := w8.drew) HA8 hb9) hb10) 3 rfl, blk_cell (blk_below (blk_below (W := w8.drew) HT8 hb9) hb10) 0 rfl, blk_cell (blk_below (blk_below (W := w8.drew) HT8 hb9) hb10) 1 rfl, blk_cell (blk_below (blk_below (W := w8.drew) HT8 hb9) hb10) 2 rfl, blk_cell (blk_below (blk_below (W := w8.drew) HT8 hb9) hb10) 3 rfl⟩ (fun hHeld => ?_)
 clear hK K
 refine nm 65 ?_
 refine one_ (i := 14) (N := some 72) #[J,J,J,J,J,J,J,J,J,J,J,J,J,J,J,Z,Z,Z] rfl rfl (by kernel_rfl) (by decide) (fun K hK => ?_)
 refine goes_ Tryz.func117 (by kernel_rfl) rfl #[.agg #[.int .i64 t1, .int .i64 t2], .agg #[.int .i64 t3, .int .i64 t4], .agg #[.int .i64 s3, .int .i64 s4]] (by rfl) rfl rfl (by simp only [List.map_toArray, List.map_cons, List.map_nil]; rfl) ?_
 with_reducible refine (Td.out _).mono ?_
 rintro e w11 ⟨rfl, hb11⟩
 refine ⟨_, rfl, ?_⟩
 refine hK.out _ _ ⟨blk_cell (blk_below (blk_below (blk_below (W := w8.drew) HA8 hb9) hb10) hb11) 0 rfl, blk_cell (blk_below (blk_below (blk_below (W := w8.drew) HA8 hb9) hb10) hb11) 1 rfl, blk_cell (blk_below (blk_below (blk_below (W := w8.drew) HA8 hb9) hb10) hb11) 2 rfl, blk_cell (blk_below (blk_below (blk_below (W := w8.drew) HA8 hb9) hb10) hb11) 3 rfl, blk_cell (blk_below (blk_below (blk_below (W := w8.drew) HT8 hb9) hb10) hb11) 0 rfl, blk_cell (blk_below (blk_below (blk_below (W := w8.drew) HT8 hb9) hb10) hb11) 1 rfl, blk_cell (blk_below (blk_below (blk_below (W := w8.drew) HT8 hb9) hb10) hb11) 2 rfl, blk_cell (blk_below (blk_below (blk_below (W := w8.drew) HT8 hb9) hb10) hb11) 3 rfl⟩ (fun hHeld => ?_)
 clear hK K
 refine nm 72 ?_
 refine one_ (i := 15) (N := some 73) #[J,J,J,J,J,J,J,J,J,J,J,J,J,J,J,J,Z,Z] rfl rfl (by kernel_rfl) (by decide) (fun K hK => ?_)
 refine goes_ Tryz.func116 (by kernel_rfl) rfl #[.int .i64 (turnZ (t1, t2) (t3, t4) (s3, s4))] (by rfl) rfl rfl (by simp only [List.map_toArray, List.map_cons, List.map_nil]; rfl) ?_
 with_reducible refine (Sd.out _).mono ?_
 rintro e w12 ⟨rfl, hb12⟩
 refine ⟨_, rfl, ?_⟩
 refine hK.out _ _ ⟨blk_cell (blk_below (blk_below (blk_below (blk_below (W := w8.drew) HA8 hb9) hb10) hb11) hb12) 0 rfl, blk_cell (blk_below (blk_below (blk_below (blk_below (W := w8.drew) HA8 hb9) hb10) hb11) hb12) 1 rfl, blk_cell (blk_below (blk_below (blk_below (blk_below (W := w8.drew) HA8 hb9) hb10) hb11) hb12) 2 rfl, blk_cell (blk_below (blk_below (blk_below (blk_below (W := w8.drew) HA8 hb9) hb10) hb11) hb12) 3 rfl, blk_cell (blk_below (blk_below (blk_below (blk_below (W := w8.drew) HT8 hb9) hb10) hb11) hb12) 0 rfl, blk_cell (blk_below (blk_below (blk_below (blk_below (W := w8.drew) HT8 hb9) hb10) hb11) hb12) 1 rfl, blk_cell (blk_below (blk_below (blk_below (blk_below (W := w8.drew) HT8 hb9) hb10) hb11) hb12) 2 rfl, blk_cell (blk_below (blk_below (blk_below (blk_below (W := w8.drew) HT8 hb9) hb10) hb11) hb12) 3 rfl⟩ (fun hHeld => ?_)
 clear hK K
 refine nm 73 ?_
 refine pu 16 7 ?_
 refine pu 17 8 ?_
 refine done_ (by kernel_rfl) ?_
 clear sc0 sc1 sc2 sc3 tc0 tc1 tc2 tc3
 have HA12 := (blk_below (blk_below (blk_below (blk_below (W := w8.drew) HA8 hb9) hb10) hb11) hb12)
 have HT12 := (blk_below (blk_below (blk_below (blk_below (W := w8.drew) HT8 hb9) hb10) hb11) hb12)
 have HB12 : Hid (Below w.heap.size w w12) := (below_step (below_step (below_step (below_step (below_drew HB8.out) hb9) hb10) hb11) hb12)
 clear HA8 HT8 HB8 hb9 hb10 hb11 hb12
 have wa := wab.out
 have wc := wcd.out
 by_cases hx : a * b < 0
 ·have qx : decide (a * b < 0) = true := decide_eq_true hx
  by_cases hy : c * d < 0
  ·have qy : decide (c * d < 0) = true := decide_eq_true hy
   have HR : Hid (r = 2) := HF.out.trans (if_pos (decide_eq_true ⟨hx, hy⟩))
   clear HF hx hy
   go_wp2
   go_ret
   exact ⟨ret_int HR.out.symm, HB12.out⟩
  ·have qy : decide (c * d < 0) = false := decide_eq_false hy
   have HN := Lib.hid (HF.out.trans (if_neg (fun h => hy (of_decide_eq_true h).2)))
   clear HF hx hy
   obtain ⟨W0, hW0⟩ : ∃ W0, W0 = w12 := ⟨_, rfl⟩
   rw [← hW0] at HA12 HT12 HB12 ⊢
   clear hW0
   have sc0 := blk_cell HA12 0 rfl
   have sc1 := blk_cell HA12 1 rfl
   have sc2 := blk_cell HA12 2 rfl
   have sc3 := blk_cell HA12 3 rfl
   have tc0 := blk_cell HT12 0 rfl
   have tc1 := blk_cell HT12 1 rfl
   have tc2 := blk_cell HT12 2 rfl
   have tc3 := blk_cell HT12 3 rfl
   have HE0 : (W0.alloc (.cells #[.int .i64 s1, .int .i64 s2, .int .i64 s3, .int .i64 s4, .int .i64 t1, .int .i64 t2, .int .i64 t3, .int .i64 t4] 28)).heap[W0.heap.size]? = some (.cells #[.int .i64 s1, .int .i64 s2, .int .i64 s3, .int .i64 s4, .int .i64 t1, .int .i64 t2, .int .i64 t3, .int .i64 t4] 28 (0, 0)) := heap_alloc_new _ _
   have HA0 := blk_alloc HA12 (.cells #[.int .i64 s1, .int .i64 s2, .int .i64 s3, .int .i64 s4, .int .i64 t1, .int .i64 t2, .int .i64 t3, .int .i64 t4] 28)
   have HT0 := blk_alloc HT12 (.cells #[.int .i64 s1, .int .i64 s2, .int .i64 s3, .int .i64 s4, .int .i64 t1, .int .i64 t2, .int .i64 t3, .int .i64 t4] 28)
   have hz0 := HB12.out.size
   have hzt := lt_of_block HT12
   go_wp2
   clear wa wc sc0 sc1 sc2 sc3 tc0 tc1 tc2 tc3
   go_loopw [10, 11] (fun v i wr => ∃ k : Nat, k ≤ 4 ∧ i = .int .i64 k ∧ wr.heap[w.heap.size]? = some (.cells #[.int .i64 s1, .int .i64 s2, .int .i64 s3, .int .i64 s4] 48 (0, 0)) ∧ wr.heap[w.heap.size + 1]? = some (.cells #[.int .i64 t1, .int .i64 t2, .int .i64 t3, .int .i64 t4] 48 (0, 0)) ∧ wr.heap[W0.heap.size]? = some (.cells #[.int .i64 s1, .int .i64 s2, .int .i64 s3, .int .i64 s4, .int .i64 t1, .int .i64 t2, .int .i64 t3, .int .i64 t4] 28 (0, 0)) ∧ Hid (Below w.heap.size w wr) ∧ Hid (Own1 Ty.pt 28 (W0.heap.size + 1) wr v (bothTo ((s1, s2), (s3, s4)) ((t1, t2), (t3, t4)) k))) (fun _ i _ => 4 - (intOf i).toNat)
   case atStart => exact ⟨0, by omega, rfl, HA0, HT0, HE0, (by repeat (first | exact Below.refl _ _ | apply below_alloc | apply below_drewN | apply below_drew | (refine below_set2 ?_ ?_; (first | (simp; done) | (simp; omega))) | (refine below_step ?_ HB12.out))), OwnR.nil _ _ _ _ _⟩
   case round =>
    obtain ⟨k, hk, rfl, HA, HT, HE, HB, HO⟩ := hrel
    clear HA0 HT0 HE0
    have hze := lt_of_block HE
    have hbl := bothTo_len ((s1, s2), (s3, s4)) ((t1, t2), (t3, t4)) k hk
    by_cases hk4 : k < 4
    ·have q4 : decide ((k : Int) < 4) = true := decide_eq_true (by omega)
     have hk4i : (k : Int) < 4 := by omega
     have HN4 := Lib.hid (bothTo_snoc ((s1, s2), (s3, s4)) ((t1, t2), (t3, t4)) k hk4)
     have hpc : wr.cell? ⟨W0.heap.size, k * 2, none⟩ = some (.int .i64 (ptD (endsOf ((s1, s2), (s3, s4)) ((t1, t2), (t3, t4))) k).1) ∧ wr.cell? ⟨W0.heap.size, k * 2 + 1, none⟩ = some (.int .i64 (ptD (endsOf ((s1, s2), (s3, s4)) ((t1, t2), (t3, t4))) k).2) := by
      rcases (show k = 0 ∨ k = 1 ∨ k = 2 ∨ k = 3 by omega) with rfl | rfl | rfl | rfl
      ·exact ⟨blk_cell HE 0 rfl, blk_cell HE 1 rfl⟩
      ·exact ⟨blk_cell HE 2 rfl, blk_cell HE 3 rfl⟩
      ·exact ⟨blk_cell HE 4 rfl, blk_cell HE 5 rfl⟩
      ·exact ⟨blk_cell HE 6 rfl, blk_cell HE 7 rfl⟩
     obtain ⟨pc0, pc1⟩ := hpc
     generalize ptD (endsOf ((s1, s2), (s3, s4)) ((t1, t2), (t3, t4))) k = e at *
     have sc0 := blk_cell HA 0 rfl
     have sc1 := blk_cell HA 1 rfl
     have sc2 := blk_cell HA 2 rfl
     have sc3 := blk_cell HA 3 rfl
     have tc0 := blk_cell HT 0 rfl
     have tc1 := blk_cell HT 1 rfl
     have tc2 := blk_cell HT 2 rfl
     have tc3 := blk_cell HT 3 rfl
     have O1 := Lib.hid (fun W => ref09_On e.1 e.2 s1 s2 s3 s4 W)
     have O2 := Lib.hid (fun W => ref09_On e.1 e.2 t1 t2 t3 t4 W)
     cases ho1 : onB e (s1, s2) (s3, s4)
     ·have HT4 : Hid (bothTo ((s1, s2), (s3, s4)) ((t1, t2), (t3, t4)) (k + 1) = bothTo ((s1, s2), (s3, s4)) ((t1, t2), (t3, t4)) k) := HN4.out.trans (if_neg (fun h => by have := h.1; rw [ho1] at this; cases this))
      have HO1 : Hid (onB (e.1, e.2) (s1, s2) (s3, s4) = false) := ho1
      clear ho1 HN4
      rw [HO1.out] at O1
      go_wp2_with fail
      refine start_ (n := 22) (S := fun w' => w'.cell? ⟨w.heap.size, 0, none⟩ = some (.int .i64 s1) ∧ w'.cell? ⟨w.heap.size, 1, none⟩ = some (.int .i64 s2) ∧ w'.cell? ⟨w.heap.size, 2, none⟩ = some (.int .i64 s3) ∧ w'.cell? ⟨w.heap.size, 3, none⟩ = some (.int .i64 s4) ∧ w'.cell? ⟨w.heap.size + 1, 0, none⟩ = some (.int .i64 t1) ∧ w'.cell? ⟨w.heap.size + 1, 1, none⟩ = some (.int .i64 t2) ∧ w'.cell? ⟨w.heap.size + 1, 2, none⟩ = some (.int .i64 t3) ∧ w'.cell? ⟨w.heap.size + 1, 3, none⟩ = some (.int .i64 t4) ∧ w'.cell? ⟨W0.heap.size, k * 2, none⟩ = some (.int .i64 e.1) ∧ w'.cell? ⟨W0.heap.size, k * 2 + 1, none⟩ = some (.int .i64 e.2)) (ds := []) #[Z,Z,Z,Z,Z,Z,Z,Z,Z,Z,Z,Z,Z,Z,Z,Z,Z,Z,Z,Z,Z,Z] (by kernel_rfl) rfl rfl ⟨sc0, sc1, sc2, sc3, tc0, tc1, tc2, tc3, pc0, pc1⟩ (fun hHeld => ?_)
      refine pu 0 97 ?_
      refine pu 1 98 ?_
      refine pu 2 99 ?_
      refine pu 4 101 ?_
      refine pu 6 103 ?_
      refine ta 3 100 hHeld ?_
      refine ta 5 102 hHeld ?_
      refine ta 7 104 hHeld ?_
      refine one_ (i := 8) (N := some 105) #[J,J,J,J,J,J,J,J,J,Z,Z,Z,Z,Z,Z,Z,Z,Z,Z,Z,Z,Z] rfl rfl (by kernel_rfl) (by decide) (fun K hK => ?_)
      refine goes_ Tryz.func118 (by kernel_rfl) rfl #[.agg #[.int .i64 e.1, .int .i64 e.2], .agg #[.int .i64 s1, .int .i64 s2], .agg #[.int .i64 s3, .int .i64 s4]] (by rfl) rfl rfl (by simp only [List.map_toArray, List.map_cons, List.map_nil]; rfl) ?_
      with_reducible refine (O1.out _).mono ?_
      rintro e' w4 ⟨rfl, hb4⟩
      refine ⟨_, rfl, ?_⟩
      refine hK.out _ _ ⟨blk_cell (blk_below (W := wr.drew) HA hb4) 0 rfl, blk_cell (blk_below (W := wr.drew) HA hb4) 1 rfl, blk_cell (blk_below (W := wr.drew) HA hb4) 2 rfl, blk_cell (blk_below (W := wr.drew) HA hb4) 3 rfl, blk_cell (blk_below (W := wr.drew) HT hb4) 0 rfl, blk_cell (blk_below (W := wr.drew) HT hb4) 1 rfl, blk_cell (blk_below (W := wr.drew) HT hb4) 2 rfl, blk_cell (blk_below (W := wr.drew) HT hb4) 3 rfl, (cell_below hb4 pc0), (cell_below hb4 pc1)⟩ (fun hHeld => ?_)
      clear hK K
      refine nm 105 ?_
      refine pu 9 106 ?_
      refine pu 10 107 ?_
      refine pn 11 108 ?_
      refine pn 12 109 ?_
      refine pn 13 110 ?_
      refine pn 14 111 ?_
      refine pn 15 112 ?_
      refine pn 16 113 ?_
      refine pn 17 114 ?_
      refine pn 18 115 ?_
      refine pn 19 116 ?_
      refine pn 20 117 ?_
      refine pu 21 118 ?_
      refine done_ (by kernel_rfl) ?_
      have BR : Below wr.heap.size wr w4 := (by repeat (first | exact Below.refl _ _ | apply below_alloc | apply below_drewN | apply below_drew | (refine below_set2 ?_ ?_; (first | (simp; done) | (simp; omega))) | (refine below_step ?_ hb4)))
      have HA1 := blk_below HA BR
      have HT1 := blk_below HT BR
      have HE1 := blk_below HE BR
      have HO1' := Lib.hid (Own1.below HO.out BR)
      have HB1' := Lib.hid (below_step HB.out BR)
      clear BR hb4 sc0 sc1 sc2 sc3 tc0 tc1 tc2 tc3 pc0 pc1
      go_wp2
      go_roundw
      case rel => exact ⟨k + 1, by omega, by go_num, HA1, HT1, HE1, HB1'.out, by rw [HT4.out]; exact HO1'.out⟩
      case measure => simp [intOf]; omega
     ·have HO1 : Hid (onB (e.1, e.2) (s1, s2) (s3, s4) = true) := ho1
      rw [HO1.out] at O1
      cases ho2 : onB e (t1, t2) (t3, t4)
      ·have HT4 : Hid (bothTo ((s1, s2), (s3, s4)) ((t1, t2), (t3, t4)) (k + 1) = bothTo ((s1, s2), (s3, s4)) ((t1, t2), (t3, t4)) k) := HN4.out.trans (if_neg (fun h => by have := h.2.1; rw [ho2] at this; cases this))
       have HO2 : Hid (onB (e.1, e.2) (t1, t2) (t3, t4) = false) := ho2
       rw [HO2.out] at O2
       clear ho1 ho2 HN4
       go_wp2_with fail
       refine start_ (n := 22) (S := fun w' => w'.cell? ⟨w.heap.size, 0, none⟩ = some (.int .i64 s1) ∧ w'.cell? ⟨w.heap.size, 1, none⟩ = some (.int .i64 s2) ∧ w'.cell? ⟨w.heap.size, 2, none⟩ = some (.int .i64 s3) ∧ w'.cell? ⟨w.heap.size, 3, none⟩ = some (.int .i64 s4) ∧ w'.cell? ⟨w.heap.size + 1, 0, none⟩ = some (.int .i64 t1) ∧ w'.cell? ⟨w.heap.size + 1, 1, none⟩ = some (.int .i64 t2) ∧ w'.cell? ⟨w.heap.size + 1, 2, none⟩ = some (.int .i64 t3) ∧ w'.cell? ⟨w.heap.size + 1, 3, none⟩ = some (.int .i64 t4) ∧ w'.cell? ⟨W0.heap.size, k * 2, none⟩ = some (.int .i64 e.1) ∧ w'.cell? ⟨W0.heap.size, k * 2 + 1, none⟩ = some (.int .i64 e.2)) (ds := []) #[Z,Z,Z,Z,Z,Z,Z,Z,Z,Z,Z,Z,Z,Z,Z,Z,Z,Z,Z,Z,Z,Z] (by kernel_rfl) rfl rfl ⟨sc0, sc1, sc2, sc3, tc0, tc1, tc2, tc3, pc0, pc1⟩ (fun hHeld => ?_)
       refine pu 0 97 ?_
       refine pu 1 98 ?_
       refine pu 2 99 ?_
       refine pu 4 101 ?_
       refine pu 6 103 ?_
       refine ta 3 100 hHeld ?_
       refine ta 5 102 hHeld ?_
       refine ta 7 104 hHeld ?_
       refine one_ (i := 8) (N := some 105) #[J,J,J,J,J,J,J,J,J,Z,Z,Z,Z,Z,Z,Z,Z,Z,Z,Z,Z,Z] rfl rfl (by kernel_rfl) (by decide) (fun K hK => ?_)
       refine goes_ Tryz.func118 (by kernel_rfl) rfl #[.agg #[.int .i64 e.1, .int .i64 e.2], .agg #[.int .i64 s1, .int .i64 s2], .agg #[.int .i64 s3, .int .i64 s4]] (by rfl) rfl rfl (by simp only [List.map_toArray, List.map_cons, List.map_nil]; rfl) ?_
       with_reducible refine (O1.out _).mono ?_
       rintro e' w4 ⟨rfl, hb4⟩
       refine ⟨_, rfl, ?_⟩
       refine hK.out _ _ ⟨blk_cell (blk_below (W := wr.drew) HA hb4) 0 rfl, blk_cell (blk_below (W := wr.drew) HA hb4) 1 rfl, blk_cell (blk_below (W := wr.drew) HA hb4) 2 rfl, blk_cell (blk_below (W := wr.drew) HA hb4) 3 rfl, blk_cell (blk_below (W := wr.drew) HT hb4) 0 rfl, blk_cell (blk_below (W := wr.drew) HT hb4) 1 rfl, blk_cell (blk_below (W := wr.drew) HT hb4) 2 rfl, blk_cell (blk_below (W := wr.drew) HT hb4) 3 rfl, (cell_below hb4 pc0), (cell_below hb4 pc1)⟩ (fun hHeld => ?_)
       clear hK K
       refine nm 105 ?_
       refine pu 9 106 ?_
       refine pu 10 107 ?_
       refine pu 11 108 ?_
       refine pu 12 109 ?_
       refine pu 13 110 ?_
       refine pu 15 112 ?_
       refine pu 17 114 ?_
       refine ta 14 111 hHeld ?_
       refine ta 16 113 hHeld ?_
       refine ta 18 115 hHeld ?_
       refine one_ (i := 19) (N := some 116) #[J,J,J,J,J,J,J,J,J,J,J,J,J,J,J,J,J,J,J,J,Z,Z] rfl rfl (by kernel_rfl) (by decide) (fun K hK => ?_)
       refine goes_ Tryz.func118 (by kernel_rfl) rfl #[.agg #[.int .i64 e.1, .int .i64 e.2], .agg #[.int .i64 t1, .int .i64 t2], .agg #[.int .i64 t3, .int .i64 t4]] (by rfl) rfl rfl (by simp only [List.map_toArray, List.map_cons, List.map_nil]; rfl) ?_
       with_reducible refine (O2.out _).mono ?_
       rintro e' w5 ⟨rfl, hb5⟩
       refine ⟨_, rfl, ?_⟩
       refine hK.out _ _ ⟨blk_cell (blk_below (blk_below (W := wr.drew) HA hb4) hb5) 0 rfl, blk_cell (blk_below (blk_below (W := wr.drew) HA hb4) hb5) 1 rfl, blk_cell (blk_below (blk_below (W := wr.drew) HA hb4) hb5) 2 rfl, blk_cell (blk_below (blk_below (W := wr.drew) HA hb4) hb5) 3 rfl, blk_cell (blk_below (blk_below (W := wr.drew) HT hb4) hb5) 0 rfl, blk_cell (blk_below (blk_below (W := wr.drew) HT hb4) hb5) 1 rfl, blk_cell (blk_below (blk_below (W := wr.drew) HT hb4) hb5) 2 rfl, blk_cell (blk_below (blk_below (W := wr.drew) HT hb4) hb5) 3 rfl, (cell_below hb5 (cell_below hb4 pc0)), (cell_below hb5 (cell_below hb4 pc1))⟩ (fun hHeld => ?_)
       clear hK K
       refine nm 116 ?_
       refine pu 20 117 ?_
       refine pu 21 118 ?_
       refine done_ (by kernel_rfl) ?_
       have BR : Below wr.heap.size wr w5 := (by repeat (first | exact Below.refl _ _ | apply below_alloc | apply below_drewN | apply below_drew | (refine below_set2 ?_ ?_; (first | (simp; done) | (simp; omega))) | (refine below_step ?_ hb5) | (refine below_step ?_ hb4)))
       have HA1 := blk_below HA BR
       have HT1 := blk_below HT BR
       have HE1 := blk_below HE BR
       have HO1' := Lib.hid (Own1.below HO.out BR)
       have HB1' := Lib.hid (below_step HB.out BR)
       clear BR hb4 hb5 sc0 sc1 sc2 sc3 tc0 tc1 tc2 tc3 pc0 pc1
       go_wp2
       go_roundw
       case rel => exact ⟨k + 1, by omega, by go_num, HA1, HT1, HE1, HB1'.out, by rw [HT4.out]; exact HO1'.out⟩
       case measure => simp [intOf]; omega
      ·have HT4 : Hid (bothTo ((s1, s2), (s3, s4)) ((t1, t2), (t3, t4)) (k + 1) = if e ∉ bothTo ((s1, s2), (s3, s4)) ((t1, t2), (t3, t4)) k then bothTo ((s1, s2), (s3, s4)) ((t1, t2), (t3, t4)) k ++ [e] else bothTo ((s1, s2), (s3, s4)) ((t1, t2), (t3, t4)) k) := HN4.out.trans (by unfold bothF; simp only [ho1, ho2, true_and])
       have HO2 : Hid (onB (e.1, e.2) (t1, t2) (t3, t4) = true) := ho2
       rw [HO2.out] at O2
       clear ho1 ho2 HN4
       go_wp2_with fail
       refine start_ (n := 22) (S := fun w' => w'.cell? ⟨w.heap.size, 0, none⟩ = some (.int .i64 s1) ∧ w'.cell? ⟨w.heap.size, 1, none⟩ = some (.int .i64 s2) ∧ w'.cell? ⟨w.heap.size, 2, none⟩ = some (.int .i64 s3) ∧ w'.cell? ⟨w.heap.size, 3, none⟩ = some (.int .i64 s4) ∧ w'.cell? ⟨w.heap.size + 1, 0, none⟩ = some (.int .i64 t1) ∧ w'.cell? ⟨w.heap.size + 1, 1, none⟩ = some (.int .i64 t2) ∧ w'.cell? ⟨w.heap.size + 1, 2, none⟩ = some (.int .i64 t3) ∧ w'.cell? ⟨w.heap.size + 1, 3, none⟩ = some (.int .i64 t4) ∧ w'.cell? ⟨W0.heap.size, k * 2, none⟩ = some (.int .i64 e.1) ∧ w'.cell? ⟨W0.heap.size, k * 2 + 1, none⟩ = some (.int .i64 e.2)) (ds := []) #[Z,Z,Z,Z,Z,Z,Z,Z,Z,Z,Z,Z,Z,Z,Z,Z,Z,Z,Z,Z,Z,Z] (by kernel_rfl) rfl rfl ⟨sc0, sc1, sc2, sc3, tc0, tc1, tc2, tc3, pc0, pc1⟩ (fun hHeld => ?_)
       refine pu 0 97 ?_
       refine pu 1 98 ?_
       refine pu 2 99 ?_
       refine pu 4 101 ?_
       refine pu 6 103 ?_
       refine ta 3 100 hHeld ?_
       refine ta 5 102 hHeld ?_
       refine ta 7 104 hHeld ?_
       refine one_ (i := 8) (N := some 105) #[J,J,J,J,J,J,J,J,J,Z,Z,Z,Z,Z,Z,Z,Z,Z,Z,Z,Z,Z] rfl rfl (by kernel_rfl) (by decide) (fun K hK => ?_)
       refine goes_ Tryz.func118 (by kernel_rfl) rfl #[.agg #[.int .i64 e.1, .int .i64 e.2], .agg #[.int .i64 s1, .int .i64 s2], .agg #[.int .i64 s3, .int .i64 s4]] (by rfl) rfl rfl (by simp only [List.map_toArray, List.map_cons, List.map_nil]; rfl) ?_
       with_reducible refine (O1.out _).mono ?_
       rintro e' w4 ⟨rfl, hb4⟩
       refine ⟨_, rfl, ?_⟩
       refine hK.out _ _ ⟨blk_cell (blk_below (W := wr.drew) HA hb4) 0 rfl, blk_cell (blk_below (W := wr.drew) HA hb4) 1 rfl, blk_cell (blk_below (W := wr.drew) HA hb4) 2 rfl, blk_cell (blk_below (W := wr.drew) HA hb4) 3 rfl, blk_cell (blk_below (W := wr.drew) HT hb4) 0 rfl, blk_cell (blk_below (W := wr.drew) HT hb4) 1 rfl, blk_cell (blk_below (W := wr.drew) HT hb4) 2 rfl, blk_cell (blk_below (W := wr.drew) HT hb4) 3 rfl, (cell_below hb4 pc0), (cell_below hb4 pc1)⟩ (fun hHeld => ?_)
       clear hK K
       refine nm 105 ?_
       refine pu 9 106 ?_
       refine pu 10 107 ?_
       refine pu 11 108 ?_
       refine pu 12 109 ?_
       refine pu 13 110 ?_
       refine pu 15 112 ?_
       refine pu 17 114 ?_
       refine ta 14 111 hHeld ?_
       refine ta 16 113 hHeld ?_
       refine ta 18 115 hHeld ?_
       refine one_ (i := 19) (N := some 116) #[J,J,J,J,J,J,J,J,J,J,J,J,J,J,J,J,J,J,J,J,Z,Z] rfl rfl (by kernel_rfl) (by decide) (fun K hK => ?_)
       refine goes_ Tryz.func118 (by kernel_rfl) rfl #[.agg #[.int .i64 e.1, .int .i64 e.2], .agg #[.int .i64 t1, .int .i64 t2], .agg #[.int .i64 t3, .int .i64 t4]] (by rfl) rfl rfl (by simp only [List.map_toArray, List.map_cons, List.map_nil]; rfl) ?_
       with_reducible refine (O2.out _).mono ?_
       rintro e' w5 ⟨rfl, hb5⟩
       refine ⟨_, rfl, ?_⟩
       refine hK.out _ _ ⟨blk_cell (blk_below (blk_below (W := wr.drew) HA hb4) hb5) 0 rfl, blk_cell (blk_below (blk_below (W := wr.drew) HA hb4) hb5) 1 rfl, blk_cell (blk_below (blk_below (W := wr.drew) HA hb4) hb5) 2 rfl, blk_cell (blk_below (blk_below (W := wr.drew) HA hb4) hb5) 3 rfl, blk_cell (blk_below (blk_below (W := wr.drew) HT hb4) hb5) 0 rfl, blk_cell (blk_below (blk_below (W := wr.drew) HT hb4) hb5) 1 rfl, blk_cell (blk_below (blk_below (W := wr.drew) HT hb4) hb5) 2 rfl, blk_cell (blk_below (blk_below (W := wr.drew) HT hb4) hb5) 3 rfl, (cell_below hb5 (cell_below hb4 pc0)), (cell_below hb5 (cell_below hb4 pc1))⟩ (fun hHeld => ?_)
       clear hK K
       refine nm 116 ?_
       refine pu 20 117 ?_
       refine pu 21 118 ?_
       refine done_ (by kernel_rfl) ?_
       have BR : Below wr.heap.size wr w5 := (by repeat (first | exact Below.refl _ _ | apply below_alloc | apply below_drewN | apply below_drew | (refine below_set2 ?_ ?_; (first | (simp; done) | (simp; omega))) | (refine below_step ?_ hb5) | (refine below_step ?_ hb4)))
       have HA1 := Lib.hid (blk_below HA BR)
       have HT1 := Lib.hid (blk_below HT BR)
       have HE1 := Lib.hid (blk_below HE BR)
       have hd0 := cell_below BR pc0
       have hd1 := cell_below BR pc1
       have HB1' := Lib.hid (below_step HB.out BR)
       generalize bothTo ((s1, s2), (s3, s4)) ((t1, t2), (t3, t4)) k = acc at *
       have HO1' := Lib.hid (Own1.below HO.out BR)
       obtain ⟨A7, c7, hv7, hl7, hr7⟩ := HO1'.out.reads
       subst hv7
       have HR7 := Lib.hid hr7
       have hz5 := BR.size
       have hpb := World.block_lt_of_cell? _ _ hd0
       clear BR hb4 hb5 sc0 sc1 sc2 sc3 tc0 tc1 tc2 tc3 pc0 pc1 hr7 HA HT HE HB HO
       go_wp2
       go_loopw [12, 13] (fun b q wr => ∃ m : Nat, m ≤ acc.length ∧ q = .int .i64 m ∧ b = .bool (decide (e ∈ acc.take m)) ∧ Hid (Below w5.heap.size w5 wr)) (fun _ q _ => acc.length - (intOf q).toNat)
       case atStart => exact ⟨0, Nat.zero_le _, rfl, by simp, Below.refl _ _⟩
       case round =>
        obtain ⟨m, hm, rfl, rfl, HBm⟩ := hrel
        have hf0 := cell_below HBm.out hd0
        have hf1 := cell_below HBm.out hd1
        have hzm := HBm.out.size
        by_cases hml : m < acc.length
        ·obtain ⟨ay, hay, hy0, hy1⟩ := (HR7.out.below HBm.out).pt_at m hml
         subst hay
         have htk : Hid (acc.take (m + 1) = acc.take m ++ [ptD acc m]) := take_snoc acc m (0, 0) hml
         generalize ptD acc m = y at *
         by_cases hin : e ∈ acc.take m
         ·have HI : Hid (decide (e ∈ acc.take (m + 1)) = true) := decide_eq_true (by rw [htk.out]; exact List.mem_append_left _ hin)
          rw [decide_eq_true hin]
          clear hin htk
          go_wp2_with fail
          go_quiet (fail)
          go_wp2
          go_roundw
          case rel => exact ⟨m + 1, by omega, by go_num, by rw [HI.out], (by repeat (first | exact Below.refl _ _ | apply below_alloc | apply below_drewN | apply below_drew | (refine below_set2 ?_ ?_; (first | (simp; done) | (simp; omega))) | (refine below_step ?_ HBm.out)))⟩
          case measure => simp [intOf]; omega
         ·rw [decide_eq_false hin]
          by_cases hye : y = e
          ·have HI : Hid (decide (e ∈ acc.take (m + 1)) = true) := decide_eq_true (by rw [htk.out, hye]; simp)
           have hdy := (ptB y e).trans (decide_eq_true hye)
           clear hin htk hye
           go_wp2_with fail
           go_quiet (fail)
           go_wp2
           go_roundw
           case rel => exact ⟨m + 1, by omega, by go_num, by rw [HI.out], (by repeat (first | exact Below.refl _ _ | apply below_alloc | apply below_drewN | apply below_drew | (refine below_set2 ?_ ?_; (first | (simp; done) | (simp; omega))) | (refine below_step ?_ HBm.out)))⟩
           case measure => simp [intOf]; omega
          ·have HI : Hid (decide (e ∈ acc.take (m + 1)) = false) := decide_eq_false (by rw [htk.out, List.mem_append, List.mem_singleton]; exact fun h => h.elim hin (fun h => hye h.symm))
           have hdy := (ptB y e).trans (decide_eq_false hye)
           clear hin htk hye
           go_wp2_with fail
           go_quiet (fail)
           go_wp2
           go_roundw
           case rel => exact ⟨m + 1, by omega, by go_num, by rw [HI.out], (by repeat (first | exact Below.refl _ _ | apply below_alloc | apply below_drewN | apply below_drew | (refine below_set2 ?_ ?_; (first | (simp; done) | (simp; omega))) | (refine below_step ?_ HBm.out)))⟩
           case measure => simp [intOf]; omega
        ·obtain rfl : m = acc.length := by omega
         rw [List.take_length]
         have HA2 := Lib.hid (blk_below HA1.out HBm.out)
         have HT2 := Lib.hid (blk_below HT1.out HBm.out)
         have HE2 := Lib.hid (blk_below HE1.out HBm.out)
         have HO2' := Lib.hid (Own1.below HO1'.out HBm.out)
         have HB2 := Lib.hid (below_step HB1'.out HBm.out)
         have hzz : w.heap.size ≤ W0.heap.size := hz0
         by_cases hin : e ∈ acc
         ·have HT5 := Lib.hid (HT4.out.trans (if_neg (fun h => h hin)))
          rw [decide_eq_true hin]
          clear hin HT4
          go_wp2
          go_roundw
          case rel => exact ⟨k + 1, by omega, by go_num, HA2.out, HT2.out, HE2.out, HB2.out, by rw [HT5.out]; exact HO2'.out⟩
          case measure => simp [intOf]; omega
         ·have HT5 := Lib.hid (HT4.out.trans (if_pos hin))
          rw [decide_eq_false hin]
          clear hin HT4
          go_wp2_with (at_builtin; refine app_one Ty.pt (W := wr) (W0.heap.size + 1) rfl _ _ 25 28 _ 16 rfl Tryz.underlying25 infoPt rfl (by decide) (.slice A7 acc.length c7) acc e _ _ rfl rfl rfl rfl HO2'.out (by omega) (by omega) ?_; intro v8 w8' HO8 hg8 hat8)
          have hne : ∀ g, g ≤ W0.heap.size → some g ≠ (Value.slice A7 acc.length c7).ownBlock := fun g hg e => by have := (OwnR.lt HO2'.out _ e.symm).1; omega
          have HA3 := (hg8.block _ (lt_of_block HA2.out) (hne _ (by omega))).trans HA2.out
          have HT3 := (hg8.block _ (lt_of_block HT2.out) (hne _ (by omega))).trans HT2.out
          have HE3 := (hg8.block _ (lt_of_block HE2.out) (hne _ (by omega))).trans HE2.out
          have HO3 := Lib.hid (Own1.of HO8)
          have HB3 := Lib.hid (show Below w.heap.size w w8' from below_own HB2.out hg8 (fun b e => by have := (OwnR.lt HO2'.out b e).1; omega))
          clear HO8 hg8 hat8 hne
          go_wp2
          go_roundw
          case rel => exact ⟨k + 1, by omega, by go_num, HA3, HT3, HE3, HB3.out, by rw [HT5.out]; exact HO3.out⟩
          case measure => simp [intOf]; omega
    ·obtain rfl : k = 4 := by omega
     have HBR : Hid (bothR ((s1, s2), (s3, s4)) ((t1, t2), (t3, t4)) = bothTo ((s1, s2), (s3, s4)) ((t1, t2), (t3, t4)) 4) := rfl
     have HN2 := HN.out
     rw [HBR.out] at HN2
     have HN3 := Lib.hid HN2
     clear HN HN2
     generalize bothTo ((s1, s2), (s3, s4)) ((t1, t2), (t3, t4)) 4 = acc at *
     obtain ⟨A7, c7, hv7, hl7, hr7⟩ := HO.out.reads
     subst hv7
     by_cases h1 : 1 < acc.length
     ·have HR : Hid (r = 3) := HN3.out.trans (if_pos h1)
      have q1 : decide ((1 : Int) < (acc.length : Int)) = true := decide_eq_true (by omega)
      clear HN3 h1
      go_wp2
      go_ret
      exact ⟨ret_int HR.out.symm, HB.out⟩
     ·have q1 : decide ((1 : Int) < (acc.length : Int)) = false := decide_eq_false (by omega)
      by_cases h2 : acc.length = 1
      ·have HR : Hid (r = 1) := HN3.out.trans (by rw [if_neg h1, if_pos h2])
       have q2 : ((acc.length : Int) == 1) = true := by rw [beq_iff_eq]; omega
       have q2' : (acc.length == 1) = true := by rw [beq_iff_eq]; omega
       clear HN3 h1 h2
       go_wp2
       go_ret
       exact ⟨ret_int HR.out.symm, HB.out⟩
      ·have HR : Hid (r = 0) := HN3.out.trans (by rw [if_neg h1, if_neg h2])
       have q2 : ((acc.length : Int) == 1) = false := by rw [beq_eq_false_iff_ne]; omega
       have q2' : (acc.length == 1) = false := by rw [beq_eq_false_iff_ne]; omega
       clear HN3 h1 h2
       go_wp2
       go_ret
       exact ⟨ret_int HR.out.symm, HB.out⟩
 ·have qx : decide (a * b < 0) = false := decide_eq_false hx
  have HN := Lib.hid (HF.out.trans (if_neg (fun h => hx (of_decide_eq_true h).1)))
  clear HF hx
  obtain ⟨W0, hW0⟩ : ∃ W0, W0 = w12 := ⟨_, rfl⟩
  rw [← hW0] at HA12 HT12 HB12 ⊢
  clear hW0
  have sc0 := blk_cell HA12 0 rfl
  have sc1 := blk_cell HA12 1 rfl
  have sc2 := blk_cell HA12 2 rfl
  have sc3 := blk_cell HA12 3 rfl
  have tc0 := blk_cell HT12 0 rfl
  have tc1 := blk_cell HT12 1 rfl
  have tc2 := blk_cell HT12 2 rfl
  have tc3 := blk_cell HT12 3 rfl
  have HE0 : (W0.alloc (.cells #[.int .i64 s1, .int .i64 s2, .int .i64 s3, .int .i64 s4, .int .i64 t1, .int .i64 t2, .int .i64 t3, .int .i64 t4] 28)).heap[W0.heap.size]? = some (.cells #[.int .i64 s1, .int .i64 s2, .int .i64 s3, .int .i64 s4, .int .i64 t1, .int .i64 t2, .int .i64 t3, .int .i64 t4] 28 (0, 0)) := heap_alloc_new _ _
  have HA0 := blk_alloc HA12 (.cells #[.int .i64 s1, .int .i64 s2, .int .i64 s3, .int .i64 s4, .int .i64 t1, .int .i64 t2, .int .i64 t3, .int .i64 t4] 28)
  have HT0 := blk_alloc HT12 (.cells #[.int .i64 s1, .int .i64 s2, .int .i64 s3, .int .i64 s4, .int .i64 t1, .int .i64 t2, .int .i64 t3, .int .i64 t4] 28)
  have hz0 := HB12.out.size
  have hzt := lt_of_block HT12
  go_wp2
  clear wa wc sc0 sc1 sc2 sc3 tc0 tc1 tc2 tc3
  go_loopw [10, 11] (fun v i wr => ∃ k : Nat, k ≤ 4 ∧ i = .int .i64 k ∧ wr.heap[w.heap.size]? = some (.cells #[.int .i64 s1, .int .i64 s2, .int .i64 s3, .int .i64 s4] 48 (0, 0)) ∧ wr.heap[w.heap.size + 1]? = some (.cells #[.int .i64 t1, .int .i64 t2, .int .i64 t3, .int .i64 t4] 48 (0, 0)) ∧ wr.heap[W0.heap.size]? = some (.cells #[.int .i64 s1, .int .i64 s2, .int .i64 s3, .int .i64 s4, .int .i64 t1, .int .i64 t2, .int .i64 t3, .int .i64 t4] 28 (0, 0)) ∧ Hid (Below w.heap.size w wr) ∧ Hid (Own1 Ty.pt 28 (W0.heap.size + 1) wr v (bothTo ((s1, s2), (s3, s4)) ((t1, t2), (t3, t4)) k))) (fun _ i _ => 4 - (intOf i).toNat)
  case atStart => exact ⟨0, by omega, rfl, HA0, HT0, HE0, (by repeat (first | exact Below.refl _ _ | apply below_alloc | apply below_drewN | apply below_drew | (refine below_set2 ?_ ?_; (first | (simp; done) | (simp; omega))) | (refine below_step ?_ HB12.out))), OwnR.nil _ _ _ _ _⟩
  case round =>
   obtain ⟨k, hk, rfl, HA, HT, HE, HB, HO⟩ := hrel
   clear HA0 HT0 HE0
   have hze := lt_of_block HE
   have hbl := bothTo_len ((s1, s2), (s3, s4)) ((t1, t2), (t3, t4)) k hk
   by_cases hk4 : k < 4
   ·have q4 : decide ((k : Int) < 4) = true := decide_eq_true (by omega)
    have hk4i : (k : Int) < 4 := by omega
    have HN4 := Lib.hid (bothTo_snoc ((s1, s2), (s3, s4)) ((t1, t2), (t3, t4)) k hk4)
    have hpc : wr.cell? ⟨W0.heap.size, k * 2, none⟩ = some (.int .i64 (ptD (endsOf ((s1, s2), (s3, s4)) ((t1, t2), (t3, t4))) k).1) ∧ wr.cell? ⟨W0.heap.size, k * 2 + 1, none⟩ = some (.int .i64 (ptD (endsOf ((s1, s2), (s3, s4)) ((t1, t2), (t3, t4))) k).2) := by
     rcases (show k = 0 ∨ k = 1 ∨ k = 2 ∨ k = 3 by omega) with rfl | rfl | rfl | rfl
     ·exact ⟨blk_cell HE 0 rfl, blk_cell HE 1 rfl⟩
     ·exact ⟨blk_cell HE 2 rfl, blk_cell HE 3 rfl⟩
     ·exact ⟨blk_cell HE 4 rfl, blk_cell HE 5 rfl⟩
     ·exact ⟨blk_cell HE 6 rfl, blk_cell HE 7 rfl⟩
    obtain ⟨pc0, pc1⟩ := hpc
    generalize ptD (endsOf ((s1, s2), (s3, s4)) ((t1, t2), (t3, t4))) k = e at *
    have sc0 := blk_cell HA 0 rfl
    have sc1 := blk_cell HA 1 rfl
    have sc2 := blk_cell HA 2 rfl
    have sc3 := blk_cell HA 3 rfl
    have tc0 := blk_cell HT 0 rfl
    have tc1 := blk_cell HT 1 rfl
    have tc2 := blk_cell HT 2 rfl
    have tc3 := blk_cell HT 3 rfl
    have O1 := Lib.hid (fun W => ref09_On e.1 e.2 s1 s2 s3 s4 W)
    have O2 := Lib.hid (fun W => ref09_On e.1 e.2 t1 t2 t3 t4 W)
    cases ho1 : onB e (s1, s2) (s3, s4)
    ·have HT4 : Hid (bothTo ((s1, s2), (s3, s4)) ((t1, t2), (t3, t4)) (k + 1) = bothTo ((s1, s2), (s3, s4)) ((t1, t2), (t3, t4)) k) := HN4.out.trans (if_neg (fun h => by have := h.1; rw [ho1] at this; cases this))
     have HO1 : Hid (onB (e.1, e.2) (s1, s2) (s3, s4) = false) := ho1
     clear ho1 HN4
     rw [HO1.out] at O1
     go_wp2_with fail
     refine start_ (n := 22) (S := fun w' => w'.cell? ⟨w.heap.size, 0, none⟩ = some (.int .i64 s1) ∧ w'.cell? ⟨w.heap.size, 1, none⟩ = some (.int .i64 s2) ∧ w'.cell? ⟨w.heap.size, 2, none⟩ = some (.int .i64 s3) ∧ w'.cell? ⟨w.heap.size, 3, none⟩ = some (.int .i64 s4) ∧ w'.cell? ⟨w.heap.size + 1, 0, none⟩ = some (.int .i64 t1) ∧ w'.cell? ⟨w.heap.size + 1, 1, none⟩ = some (.int .i64 t2) ∧ w'.cell? ⟨w.heap.size + 1, 2, none⟩ = some (.int .i64 t3) ∧ w'.cell? ⟨w.heap.size + 1, 3, none⟩ = some (.int .i64 t4) ∧ w'.cell? ⟨W0.heap.size, k * 2, none⟩ = some (.int .i64 e.1) ∧ w'.cell? ⟨W0.heap.size, k * 2 + 1, none⟩ = some (.int .i64 e.2)) (ds := []) #[Z,Z,Z,Z,Z,Z,Z,Z,Z,Z,Z,Z,Z,Z,Z,Z,Z,Z,Z,Z,Z,Z] (by kernel_rfl) rfl rfl ⟨sc0, sc1, sc2, sc3, tc0, tc1, tc2, tc3, pc0, pc1⟩ (fun hHeld => ?_)
     refine pu 0 97 ?_
     refine pu 1 98 ?_
     refine pu 2 99 ?_
     refine pu 4 101 ?_
     refine pu 6 103 ?_
     refine ta 3 100 hHeld ?_
     refine ta 5 102 hHeld ?_
     refine ta 7 104 hHeld ?_
     refine one_ (i := 8) (N := some 105) #[J,J,J,J,J,J,J,J,J,Z,Z,Z,Z,Z,Z,Z,Z,Z,Z,Z,Z,Z] rfl rfl (by kernel_rfl) (by decide) (fun K hK => ?_)
     refine goes_ Tryz.func118 (by kernel_rfl) rfl #[.agg #[.int .i64 e.1, .int .i64 e.2], .agg #[.int .i64 s1, .int .i64 s2], .agg #[.int .i64 s3, .int .i64 s4]] (by rfl) rfl rfl (by simp only [List.map_toArray, List.map_cons, List.map_nil]; rfl) ?_
     with_reducible refine (O1.out _).mono ?_
     rintro e' w4 ⟨rfl, hb4⟩
     refine ⟨_, rfl, ?_⟩
     refine hK.out _ _ ⟨blk_cell (blk_below (W := wr.drew) HA hb4) 0 rfl, blk_cell (blk_below (W := wr.drew) HA hb4) 1 rfl, blk_cell (blk_below (W := wr.drew) HA hb4) 2 rfl, blk_cell (blk_below (W := wr.drew) HA hb4) 3 rfl, blk_cell (blk_below (W := wr.drew) HT hb4) 0 rfl, blk_cell (blk_below (W := wr.drew) HT hb4) 1 rfl, blk_cell (blk_below (W := wr.drew) HT hb4) 2 rfl, blk_cell (blk_below (W := wr.drew) HT hb4) 3 rfl, (cell_below hb4 pc0), (cell_below hb4 pc1)⟩ (fun hHeld => ?_)
     clear hK K
     refine nm 105 ?_
     refine pu 9 106 ?_
     refine pu 10 107 ?_
     refine pn 11 108 ?_
     refine pn 12 109 ?_
     refine pn 13 110 ?_
     refine pn 14 111 ?_
     refine pn 15 112 ?_
     refine pn 16 113 ?_
     refine pn 17 114 ?_
     refine pn 18 115 ?_
     refine pn 19 116 ?_
     refine pn 20 117 ?_
     refine pu 21 118 ?_
     refine done_ (by kernel_rfl) ?_
     have BR : Below wr.heap.size wr w4 := (by repeat (first | exact Below.refl _ _ | apply below_alloc | apply below_drewN | apply below_drew | (refine below_set2 ?_ ?_; (first | (simp; done) | (simp; omega))) | (refine below_step ?_ hb4)))
     have HA1 := blk_below HA BR
     have HT1 := blk_below HT BR
     have HE1 := blk_below HE BR
     have HO1' := Lib.hid (Own1.below HO.out BR)
     have HB1' := Lib.hid (below_step HB.out BR)
     clear BR hb4 sc0 sc1 sc2 sc3 tc0 tc1 tc2 tc3 pc0 pc1
     go_wp2
     go_roundw
     case rel => exact ⟨k + 1, by omega, by go_num, HA1, HT1, HE1, HB1'.out, by rw [HT4.out]; exact HO1'.out⟩
     case measure => simp [intOf]; omega
    ·have HO1 : Hid (onB (e.1, e.2) (s1, s2) (s3, s4) = true) := ho1
     rw [HO1.out] at O1
     cases ho2 : onB e (t1, t2) (t3, t4)
     ·have HT4 : Hid (bothTo ((s1, s2), (s3, s4)) ((t1, t2), (t3, t4)) (k + 1) = bothTo ((s1, s2), (s3, s4)) ((t1, t2), (t3, t4)) k) := HN4.out.trans (if_neg (fun h => by have := h.2.1; rw [ho2] at this; cases this))
      have HO2 : Hid (onB (e.1, e.2) (t1, t2) (t3, t4) = false) := ho2
      rw [HO2.out] at O2
      clear ho1 ho2 HN4
      go_wp2_with fail
      refine start_ (n := 22) (S := fun w' => w'.cell? ⟨w.heap.size, 0, none⟩ = some (.int .i64 s1) ∧ w'.cell? ⟨w.heap.size, 1, none⟩ = some (.int .i64 s2) ∧ w'.cell? ⟨w.heap.size, 2, none⟩ = some (.int .i64 s3) ∧ w'.cell? ⟨w.heap.size, 3, none⟩ = some (.int .i64 s4) ∧ w'.cell? ⟨w.heap.size + 1, 0, none⟩ = some (.int .i64 t1) ∧ w'.cell? ⟨w.heap.size + 1, 1, none⟩ = some (.int .i64 t2) ∧ w'.cell? ⟨w.heap.size + 1, 2, none⟩ = some (.int .i64 t3) ∧ w'.cell? ⟨w.heap.size + 1, 3, none⟩ = some (.int .i64 t4) ∧ w'.cell? ⟨W0.heap.size, k * 2, none⟩ = some (.int .i64 e.1) ∧ w'.cell? ⟨W0.heap.size, k * 2 + 1, none⟩ = some (.int .i64 e.2)) (ds := []) #[Z,Z,Z,Z,Z,Z,Z,Z,Z,Z,Z,Z,Z,Z,Z,Z,Z,Z,Z,Z,Z,Z] (by kernel_rfl) rfl rfl ⟨sc0, sc1, sc2, sc3, tc0, tc1, tc2, tc3, pc0, pc1⟩ (fun hHeld => ?_)
      refine pu 0 97 ?_
      refine pu 1 98 ?_
      refine pu 2 99 ?_
      refine pu 4 101 ?_
      refine pu 6 103 ?_
      refine ta 3 100 hHeld ?_
      refine ta 5 102 hHeld ?_
      refine ta 7 104 hHeld ?_
      refine one_ (i := 8) (N := some 105) #[J,J,J,J,J,J,J,J,J,Z,Z,Z,Z,Z,Z,Z,Z,Z,Z,Z,Z,Z] rfl rfl (by kernel_rfl) (by decide) (fun K hK => ?_)
      refine goes_ Tryz.func118 (by kernel_rfl) rfl #[.agg #[.int .i64 e.1, .int .i64 e.2], .agg #[.int .i64 s1, .int .i64 s2], .agg #[.int .i64 s3, .int .i64 s4]] (by rfl) rfl rfl (by simp only [List.map_toArray, List.map_cons, List.map_nil]; rfl) ?_
      with_reducible refine (O1.out _).mono ?_
      rintro e' w4 ⟨rfl, hb4⟩
      refine ⟨_, rfl, ?_⟩
      refine hK.out _ _ ⟨blk_cell (blk_below (W := wr.drew) HA hb4) 0 rfl, blk_cell (blk_below (W := wr.drew) HA hb4) 1 rfl, blk_cell (blk_below (W := wr.drew) HA hb4) 2 rfl, blk_cell (blk_below (W := wr.drew) HA hb4) 3 rfl, blk_cell (blk_below (W := wr.drew) HT hb4) 0 rfl, blk_cell (blk_below (W := wr.drew) HT hb4) 1 rfl, blk_cell (blk_below (W := wr.drew) HT hb4) 2 rfl, blk_cell (blk_below (W := wr.drew) HT hb4) 3 rfl, (cell_below hb4 pc0), (cell_below hb4 pc1)⟩ (fun hHeld => ?_)
      clear hK K
      refine nm 105 ?_
      refine pu 9 106 ?_
      refine pu 10 107 ?_
      refine pu 11 108 ?_
      refine pu 12 109 ?_
      refine pu 13 110 ?_
      refine pu 15 112 ?_
      refine pu 17 114 ?_
      refine ta 14 111 hHeld ?_
      refine ta 16 113 hHeld ?_
      refine ta 18 115 hHeld ?_
      refine one_ (i := 19) (N := some 116) #[J,J,J,J,J,J,J,J,J,J,J,J,J,J,J,J,J,J,J,J,Z,Z] rfl rfl (by kernel_rfl) (by decide) (fun K hK => ?_)
      refine goes_ Tryz.func118 (by kernel_rfl) rfl #[.agg #[.int .i64 e.1, .int .i64 e.2], .agg #[.int .i64 t1, .int .i64 t2], .agg #[.int .i64 t3, .int .i64 t4]] (by rfl) rfl rfl (by simp only [List.map_toArray, List.map_cons, List.map_nil]; rfl) ?_
      with_reducible refine (O2.out _).mono ?_
      rintro e' w5 ⟨rfl, hb5⟩
      refine ⟨_, rfl, ?_⟩
      refine hK.out _ _ ⟨blk_cell (blk_below (blk_below (W := wr.drew) HA hb4) hb5) 0 rfl, blk_cell (blk_below (blk_below (W := wr.drew) HA hb4) hb5) 1 rfl, blk_cell (blk_below (blk_below (W := wr.drew) HA hb4) hb5) 2 rfl, blk_cell (blk_below (blk_below (W := wr.drew) HA hb4) hb5) 3 rfl, blk_cell (blk_below (blk_below (W := wr.drew) HT hb4) hb5) 0 rfl, blk_cell (blk_below (blk_below (W := wr.drew) HT hb4) hb5) 1 rfl, blk_cell (blk_below (blk_below (W := wr.drew) HT hb4) hb5) 2 rfl, blk_cell (blk_below (blk_below (W := wr.drew) HT hb4) hb5) 3 rfl, (cell_below hb5 (cell_below hb4 pc0)), (cell_below hb5 (cell_below hb4 pc1))⟩ (fun hHeld => ?_)
      clear hK K
      refine nm 116 ?_
      refine pu 20 117 ?_
      refine pu 21 118 ?_
      refine done_ (by kernel_rfl) ?_
      have BR : Below wr.heap.size wr w5 := (by repeat (first | exact Below.refl _ _ | apply below_alloc | apply below_drewN | apply below_drew | (refine below_set2 ?_ ?_; (first | (simp; done) | (simp; omega))) | (refine below_step ?_ hb5) | (refine below_step ?_ hb4)))
      have HA1 := blk_below HA BR
      have HT1 := blk_below HT BR
      have HE1 := blk_below HE BR
      have HO1' := Lib.hid (Own1.below HO.out BR)
      have HB1' := Lib.hid (below_step HB.out BR)
      clear BR hb4 hb5 sc0 sc1 sc2 sc3 tc0 tc1 tc2 tc3 pc0 pc1
      go_wp2
      go_roundw
      case rel => exact ⟨k + 1, by omega, by go_num, HA1, HT1, HE1, HB1'.out, by rw [HT4.out]; exact HO1'.out⟩
      case measure => simp [intOf]; omega
     ·have HT4 : Hid (bothTo ((s1, s2), (s3, s4)) ((t1, t2), (t3, t4)) (k + 1) = if e ∉ bothTo ((s1, s2), (s3, s4)) ((t1, t2), (t3, t4)) k then bothTo ((s1, s2), (s3, s4)) ((t1, t2), (t3, t4)) k ++ [e] else bothTo ((s1, s2), (s3, s4)) ((t1, t2), (t3, t4)) k) := HN4.out.trans (by unfold bothF; simp only [ho1, ho2, true_and])
      have HO2 : Hid (onB (e.1, e.2) (t1, t2) (t3, t4) = true) := ho2
      rw [HO2.out] at O2
      clear ho1 ho2 HN4
      go_wp2_with fail
      refine start_ (n := 22) (S := fun w' => w'.cell? ⟨w.heap.size, 0, none⟩ = some (.int .i64 s1) ∧ w'.cell? ⟨w.heap.size, 1, none⟩ = some (.int .i64 s2) ∧ w'.cell? ⟨w.heap.size, 2, none⟩ = some (.int .i64 s3) ∧ w'.cell? ⟨w.heap.size, 3, none⟩ = some (.int .i64 s4) ∧ w'.cell? ⟨w.heap.size + 1, 0, none⟩ = some (.int .i64 t1) ∧ w'.cell? ⟨w.heap.size + 1, 1, none⟩ = some (.int .i64 t2) ∧ w'.cell? ⟨w.heap.size + 1, 2, none⟩ = some (.int .i64 t3) ∧ w'.cell? ⟨w.heap.size + 1, 3, none⟩ = some (.int .i64 t4) ∧ w'.cell? ⟨W0.heap.size, k * 2, none⟩ = some (.int .i64 e.1) ∧ w'.cell? ⟨W0.heap.size, k * 2 + 1, none⟩ = some (.int .i64 e.2)) (ds := []) #[Z,Z,Z,Z,Z,Z,Z,Z,Z,Z,Z,Z,Z,Z,Z,Z,Z,Z,Z,Z,Z,Z] (by kernel_rfl) rfl rfl ⟨sc0, sc1, sc2, sc3, tc0, tc1, tc2, tc3, pc0, pc1⟩ (fun hHeld => ?_)
      refine pu 0 97 ?_
      refine pu 1 98 ?_
      refine pu 2 99 ?_
      refine pu 4 101 ?_
      refine pu 6 103 ?_
      refine ta 3 100 hHeld ?_
      refine ta 5 102 hHeld ?_
      refine ta 7 104 hHeld ?_
      refine one_ (i := 8) (N := some 105) #[J,J,J,J,J,J,J,J,J,Z,Z,Z,Z,Z,Z,Z,Z,Z,Z,Z,Z,Z] rfl rfl (by kernel_rfl) (by decide) (fun K hK => ?_)
      refine goes_ Tryz.func118 (by kernel_rfl) rfl #[.agg #[.int .i64 e.1, .int .i64 e.2], .agg #[.int .i64 s1, .int .i64 s2], .agg #[.int .i64 s3, .int .i64 s4]] (by rfl) rfl rfl (by simp only [List.map_toArray, List.map_cons, List.map_nil]; rfl) ?_
      with_reducible refine (O1.out _).mono ?_
      rintro e' w4 ⟨rfl, hb4⟩
      refine ⟨_, rfl, ?_⟩
      refine hK.out _ _ ⟨blk_cell (blk_below (W := wr.drew) HA hb4) 0 rfl, blk_cell (blk_below (W := wr.drew) HA hb4) 1 rfl, blk_cell (blk_below (W := wr.drew) HA hb4) 2 rfl, blk_cell (blk_below (W := wr.drew) HA hb4) 3 rfl, blk_cell (blk_below (W := wr.drew) HT hb4) 0 rfl, blk_cell (blk_below (W := wr.drew) HT hb4) 1 rfl, blk_cell (blk_below (W := wr.drew) HT hb4) 2 rfl, blk_cell (blk_below (W := wr.drew) HT hb4) 3 rfl, (cell_below hb4 pc0), (cell_below hb4 pc1)⟩ (fun hHeld => ?_)
      clear hK K
      refine nm 105 ?_
      refine pu 9 106 ?_
      refine pu 10 107 ?_
      refine pu 11 108 ?_
      refine pu 12 109 ?_
      refine pu 13 110 ?_
      refine pu 15 112 ?_
      refine pu 17 114 ?_
      refine ta 14 111 hHeld ?_
      refine ta 16 113 hHeld ?_
      refine ta 18 115 hHeld ?_
      refine one_ (i := 19) (N := some 116) #[J,J,J,J,J,J,J,J,J,J,J,J,J,J,J,J,J,J,J,J,Z,Z] rfl rfl (by kernel_rfl) (by decide) (fun K hK => ?_)
      refine goes_ Tryz.func118 (by kernel_rfl) rfl #[.agg #[.int .i64 e.1, .int .i64 e.2], .agg #[.int .i64 t1, .int .i64 t2], .agg #[.int .i64 t3, .int .i64 t4]] (by rfl) rfl rfl (by simp only [List.map_toArray, List.map_cons, List.map_nil]; rfl) ?_
      with_reducible refine (O2.out _).mono ?_
      rintro e' w5 ⟨rfl, hb5⟩
      refine ⟨_, rfl, ?_⟩
      refine hK.out _ _ ⟨blk_cell (blk_below (blk_below (W := wr.drew) HA hb4) hb5) 0 rfl, blk_cell (blk_below (blk_below (W := wr.drew) HA hb4) hb5) 1 rfl, blk_cell (blk_below (blk_below (W := wr.drew) HA hb4) hb5) 2 rfl, blk_cell (blk_below (blk_below (W := wr.drew) HA hb4) hb5) 3 rfl, blk_cell (blk_below (blk_below (W := wr.drew) HT hb4) hb5) 0 rfl, blk_cell (blk_below (blk_below (W := wr.drew) HT hb4) hb5) 1 rfl, blk_cell (blk_below (blk_below (W := wr.drew) HT hb4) hb5) 2 rfl, blk_cell (blk_below (blk_below (W := wr.drew) HT hb4) hb5) 3 rfl, (cell_below hb5 (cell_below hb4 pc0)), (cell_below hb5 (cell_below hb4 pc1))⟩ (fun hHeld => ?_)
      clear hK K
      refine nm 116 ?_
      refine pu 20 117 ?_
      refine pu 21 118 ?_
      refine done_ (by kernel_rfl) ?_
      have BR : Below wr.heap.size wr w5 := (by repeat (first | exact Below.refl _ _ | apply below_alloc | apply below_drewN | apply below_drew | (refine below_set2 ?_ ?_; (first | (simp; done) | (simp; omega))) | (refine below_step ?_ hb5) | (refine below_step ?_ hb4)))
      have HA1 := Lib.hid (blk_below HA BR)
      have HT1 := Lib.hid (blk_below HT BR)
      have HE1 := Lib.hid (blk_below HE BR)
      have hd0 := cell_below BR pc0
      have hd1 := cell_below BR pc1
      have HB1' := Lib.hid (below_step HB.out BR)
      generalize bothTo ((s1, s2), (s3, s4)) ((t1, t2), (t3, t4)) k = acc at *
      have HO1' := Lib.hid (Own1.below HO.out BR)
      obtain ⟨A7, c7, hv7, hl7, hr7⟩ := HO1'.out.reads
      subst hv7
      have HR7 := Lib.hid hr7
      have hz5 := BR.size
      have hpb := World.block_lt_of_cell? _ _ hd0
      clear BR hb4 hb5 sc0 sc1 sc2 sc3 tc0 tc1 tc2 tc3 pc0 pc1 hr7 HA HT HE HB HO
      go_wp2
      go_loopw [12, 13] (fun b q wr => ∃ m : Nat, m ≤ acc.length ∧ q = .int .i64 m ∧ b = .bool (decide (e ∈ acc.take m)) ∧ Hid (Below w5.heap.size w5 wr)) (fun _ q _ => acc.length - (intOf q).toNat)
      case atStart => exact ⟨0, Nat.zero_le _, rfl, by simp, Below.refl _ _⟩
      case round =>
       obtain ⟨m, hm, rfl, rfl, HBm⟩ := hrel
       have hf0 := cell_below HBm.out hd0
       have hf1 := cell_below HBm.out hd1
       have hzm := HBm.out.size
       by_cases hml : m < acc.length
       ·obtain ⟨ay, hay, hy0, hy1⟩ := (HR7.out.below HBm.out).pt_at m hml
        subst hay
        have htk : Hid (acc.take (m + 1) = acc.take m ++ [ptD acc m]) := take_snoc acc m (0, 0) hml
        generalize ptD acc m = y at *
        by_cases hin : e ∈ acc.take m
        ·have HI : Hid (decide (e ∈ acc.take (m + 1)) = true) := decide_eq_true (by rw [htk.out]; exact List.mem_append_left _ hin)
         rw [decide_eq_true hin]
         clear hin htk
         go_wp2_with fail
         go_quiet (fail)
         go_wp2
         go_roundw
         case rel => exact ⟨m + 1, by omega, by go_num, by rw [HI.out], (by repeat (first | exact Below.refl _ _ | apply below_alloc | apply below_drewN | apply below_drew | (refine below_set2 ?_ ?_; (first | (simp; done) | (simp; omega))) | (refine below_step ?_ HBm.out)))⟩
         case measure => simp [intOf]; omega
        ·rw [decide_eq_false hin]
         by_cases hye : y = e
         ·have HI : Hid (decide (e ∈ acc.take (m + 1)) = true) := decide_eq_true (by rw [htk.out, hye]; simp)
          have hdy := (ptB y e).trans (decide_eq_true hye)
          clear hin htk hye
          go_wp2_with fail
          go_quiet (fail)
          go_wp2
          go_roundw
          case rel => exact ⟨m + 1, by omega, by go_num, by rw [HI.out], (by repeat (first | exact Below.refl _ _ | apply below_alloc | apply below_drewN | apply below_drew | (refine below_set2 ?_ ?_; (first | (simp; done) | (simp; omega))) | (refine below_step ?_ HBm.out)))⟩
          case measure => simp [intOf]; omega
         ·have HI : Hid (decide (e ∈ acc.take (m + 1)) = false) := decide_eq_false (by rw [htk.out, List.mem_append, List.mem_singleton]; exact fun h => h.elim hin (fun h => hye h.symm))
          have hdy := (ptB y e).trans (decide_eq_false hye)
          clear hin htk hye
          go_wp2_with fail
          go_quiet (fail)
          go_wp2
          go_roundw
          case rel => exact ⟨m + 1, by omega, by go_num, by rw [HI.out], (by repeat (first | exact Below.refl _ _ | apply below_alloc | apply below_drewN | apply below_drew | (refine below_set2 ?_ ?_; (first | (simp; done) | (simp; omega))) | (refine below_step ?_ HBm.out)))⟩
          case measure => simp [intOf]; omega
       ·obtain rfl : m = acc.length := by omega
        rw [List.take_length]
        have HA2 := Lib.hid (blk_below HA1.out HBm.out)
        have HT2 := Lib.hid (blk_below HT1.out HBm.out)
        have HE2 := Lib.hid (blk_below HE1.out HBm.out)
        have HO2' := Lib.hid (Own1.below HO1'.out HBm.out)
        have HB2 := Lib.hid (below_step HB1'.out HBm.out)
        have hzz : w.heap.size ≤ W0.heap.size := hz0
        by_cases hin : e ∈ acc
        ·have HT5 := Lib.hid (HT4.out.trans (if_neg (fun h => h hin)))
         rw [decide_eq_true hin]
         clear hin HT4
         go_wp2
         go_roundw
         case rel => exact ⟨k + 1, by omega, by go_num, HA2.out, HT2.out, HE2.out, HB2.out, by rw [HT5.out]; exact HO2'.out⟩
         case measure => simp [intOf]; omega
        ·have HT5 := Lib.hid (HT4.out.trans (if_pos hin))
         rw [decide_eq_false hin]
         clear hin HT4
         go_wp2_with (at_builtin; refine app_one Ty.pt (W := wr) (W0.heap.size + 1) rfl _ _ 25 28 _ 16 rfl Tryz.underlying25 infoPt rfl (by decide) (.slice A7 acc.length c7) acc e _ _ rfl rfl rfl rfl HO2'.out (by omega) (by omega) ?_; intro v8 w8' HO8 hg8 hat8)
         have hne : ∀ g, g ≤ W0.heap.size → some g ≠ (Value.slice A7 acc.length c7).ownBlock := fun g hg e => by have := (OwnR.lt HO2'.out _ e.symm).1; omega
         have HA3 := (hg8.block _ (lt_of_block HA2.out) (hne _ (by omega))).trans HA2.out
         have HT3 := (hg8.block _ (lt_of_block HT2.out) (hne _ (by omega))).trans HT2.out
         have HE3 := (hg8.block _ (lt_of_block HE2.out) (hne _ (by omega))).trans HE2.out
         have HO3 := Lib.hid (Own1.of HO8)
         have HB3 := Lib.hid (show Below w.heap.size w w8' from below_own HB2.out hg8 (fun b e => by have := (OwnR.lt HO2'.out b e).1; omega))
         clear HO8 hg8 hat8 hne
         go_wp2
         go_roundw
         case rel => exact ⟨k + 1, by omega, by go_num, HA3, HT3, HE3, HB3.out, by rw [HT5.out]; exact HO3.out⟩
         case measure => simp [intOf]; omega
   ·obtain rfl : k = 4 := by omega
    have HBR : Hid (bothR ((s1, s2), (s3, s4)) ((t1, t2), (t3, t4)) = bothTo ((s1, s2), (s3, s4)) ((t1, t2), (t3, t4)) 4) := rfl
    have HN2 := HN.out
    rw [HBR.out] at HN2
    have HN3 := Lib.hid HN2
    clear HN HN2
    generalize bothTo ((s1, s2), (s3, s4)) ((t1, t2), (t3, t4)) 4 = acc at *
    obtain ⟨A7, c7, hv7, hl7, hr7⟩ := HO.out.reads
    subst hv7
    by_cases h1 : 1 < acc.length
    ·have HR : Hid (r = 3) := HN3.out.trans (if_pos h1)
     have q1 : decide ((1 : Int) < (acc.length : Int)) = true := decide_eq_true (by omega)
     clear HN3 h1
     go_wp2
     go_ret
     exact ⟨ret_int HR.out.symm, HB.out⟩
    ·have q1 : decide ((1 : Int) < (acc.length : Int)) = false := decide_eq_false (by omega)
     by_cases h2 : acc.length = 1
     ·have HR : Hid (r = 1) := HN3.out.trans (by rw [if_neg h1, if_pos h2])
      have q2 : ((acc.length : Int) == 1) = true := by rw [beq_iff_eq]; omega
      have q2' : (acc.length == 1) = true := by rw [beq_iff_eq]; omega
      clear HN3 h1 h2
      go_wp2
      go_ret
      exact ⟨ret_int HR.out.symm, HB.out⟩
     ·have HR : Hid (r = 0) := HN3.out.trans (by rw [if_neg h1, if_neg h2])
      have q2 : ((acc.length : Int) == 1) = false := by rw [beq_eq_false_iff_ne]; omega
      have q2' : (acc.length == 1) = false := by rw [beq_eq_false_iff_ne]; omega
      clear HN3 h1 h2
      go_wp2
      go_ret
      exact ⟨ret_int HR.out.symm, HB.out⟩
end
section
open Go.RowKit Go.Proofs.YtaeflnbjeaoapaaGreatW.PrintLast

theorem ofB_symm (a b : Pt) : ofB a b = ofB b a := by
 unfold ofB
 cases h1 : lessB a b <;> cases h2 : lessB b a
 ·rw [totB.antisymm h1 h2]
 ·rfl
 ·rfl
 ·exact absurd (totB.asymm h1) (by simp [h2])
def revS (s : Sg) : Sg := (s.2, s.1)
theorem ofS_rev (s : Sg) : ofS (revS s) = ofS s := ofB_symm _ _
theorem good_rev (s : Sg) : goodB (revS s) = goodB s := by
 unfold goodB revS
 rw [Bool.and_comm (validB s.2)]
 congr 1
 exact decide_eq_decide.2 ⟨fun h e => h e.symm, fun h e => h e.symm⟩
theorem mem_uniq {l : Sgs} {x : Sg} : x ∈ uniqZ l ↔ ∃ s ∈ l, goodB s = true ∧ ofS s = x := by
 unfold uniqZ sortZ canonZ
 rw [mem_compact, mem_sortG, List.mem_map]
 constructor
 ·rintro ⟨s, hs, rfl⟩
  exact ⟨s, (List.mem_filter.1 hs).1, (List.mem_filter.1 hs).2, rfl⟩
 ·rintro ⟨s, hs, hg, rfl⟩
  exact ⟨s, List.mem_filter.2 ⟨hs, hg⟩, rfl⟩
theorem uniq_inc (l : Sgs) : Inc lessS (uniqZ l) := compact_inc totS (sortG_srt totS _)
theorem uniq_congr {l m : Sgs} (h1 : ∀ s ∈ l, s ∈ m ∨ revS s ∈ m) (h2 : ∀ s ∈ m, s ∈ l ∨ revS s ∈ l) : uniqZ l = uniqZ m := by
 have key : ∀ {l m : Sgs}, (∀ s ∈ l, s ∈ m ∨ revS s ∈ m) → ∀ x ∈ uniqZ l, x ∈ uniqZ m := by
  intro l m h x hx
  obtain ⟨s, hs, hg, rfl⟩ := mem_uniq.1 hx
  rcases h s hs with h | h
  ·exact mem_uniq.2 ⟨s, h, hg, rfl⟩
  ·exact mem_uniq.2 ⟨revS s, h, (good_rev s).trans hg, ofS_rev s⟩
 exact inc_unique totS (fun x => ⟨key h1 x, key h2 x⟩) (uniq_inc l) (uniq_inc m)
end
section
open Go.RowKit Go.Proofs.YtaeflnbjeaoapaaGreatW.PrintLast

theorem uniq_ne {l : Sgs} {s : Sg} (h : s ∈ uniqZ l) : ¬ s.1 = s.2 := by
 obtain ⟨t, ht, hg, rfl⟩ := mem_uniq.1 h
 unfold goodB at hg
 have h1 : t.1 ≠ t.2 := by have := (Bool.and_eq_true _ _).mp hg; exact of_decide_eq_true this.1
 unfold ofS ofB
 split
 ·exact fun e => h1 e.symm
 ·exact h1
def badR (s t : Sg) : Bool := decide (2 ≤ relR s t)
def crossR (u : Sgs) : List (Sg × Sg) := (List.range u.length).flatMap fun i => ((u.drop (i + 1)).filter (badR (sgD u i))).map fun t => (sgD u i, t)
def crTo (u : Sgs) (i : Nat) : List (Sg × Sg) := (List.range i).flatMap fun i => ((u.drop (i + 1)).filter (badR (sgD u i))).map fun t => (sgD u i, t)
def crIn (u : Sgs) (i j : Nat) : List (Sg × Sg) := crTo u i ++ (((u.drop (i + 1)).take j).filter (badR (sgD u i))).map fun t => (sgD u i, t)
theorem crTo_succ (u : Sgs) (i : Nat) : crTo u (i + 1) = crIn u i (u.drop (i + 1)).length := by
 unfold crTo crIn
 rw [List.range_succ, List.flatMap_append, List.take_length]
 simp [crTo]
theorem crIn_zero (u : Sgs) (i : Nat) : crIn u i 0 = crTo u i := by simp [crIn]
theorem crIn_succ (u : Sgs) (i j : Nat) (h : i + 1 + j < u.length) : crIn u i (j + 1) = crIn u i j ++ (if badR (sgD u i) (sgD u (i + 1 + j)) = true then [(sgD u i, sgD u (i + 1 + j))] else []) := by
 unfold crIn
 rw [take_snoc (u.drop (i + 1)) j ((0, 0), (0, 0)) (by rw [List.length_drop]; omega), List.filter_append, List.map_append, List.append_assoc]
 have e : (u.drop (i + 1)).getD j ((0, 0), (0, 0)) = sgD u (i + 1 + j) := by simp [sgD, List.getD_eq_getElem?_getD]
 rw [e]
 congr 2
 by_cases hb : badR (sgD u i) (sgD u (i + 1 + j)) = true
 ·rw [if_pos hb, List.filter_cons_of_pos hb]; rfl
 ·rw [if_neg hb, List.filter_cons_of_neg hb]; rfl
theorem crIn_len (u : Sgs) (i : Nat) : ∀ j, (crIn u i j).length ≤ (crTo u i).length + j
 | 0 => by rw [crIn_zero]; omega
 | j + 1 => by
  unfold crIn
  rw [List.length_append, List.length_map]
  have h1 := List.length_filter_le (badR (sgD u i)) ((u.drop (i + 1)).take (j + 1))
  rw [List.length_take] at h1
  omega
theorem crTo_len (u : Sgs) : ∀ i, (crTo u i).length ≤ i * u.length
 | 0 => by simp [crTo]
 | i + 1 => by
  have ih := crTo_len u i
  rw [crTo_succ, Nat.add_mul, Nat.one_mul]
  have := crIn_len u i (u.drop (i + 1)).length
  rw [List.length_drop] at this ⊢
  omega
set_option maxRecDepth 100000 in
set_option maxHeartbeats 4000000 in
theorem ref20_Crossings {ok : Nat → Prop} (l : Sgs) (A : Option Addr) (n c : Nat) (w : World) (hr : Row Ty.sg ok w A l) (hn : n = l.length) (hlen : l.length ≤ 600) :
  Calls Tryz.prog 59 #[.slice A n c] w fun e w' => ∃ B d, e = .returned (.slice B (crossR (uniqZ l)).length d) ∧ Below w.heap.size w w' := by
 subst hn
 have HR := Lib.hid hr
 clear hr
 have hul := uniq_len l
 have CU := Lib.hid (fun W h => ref20_Unique (ok := ok) l A l.length c W h rfl (by omega))
 have HUV := Lib.hid (uniq_V l)
 have HNE := Lib.hid (fun s h => uniq_ne (l := l) (s := s) h)
 have HZ : Hid (crossR (uniqZ l) = crTo (uniqZ l) (uniqZ l).length) := rfl
 obtain ⟨z, hz⟩ : ∃ z, z = (crossR (uniqZ l)).length := ⟨_, rfl⟩
 rw [← hz]
 have HZ2 : Hid (z = (crTo (uniqZ l) (uniqZ l).length).length) := by rw [← HZ.out]; exact hz
 clear hz HZ
 generalize uniqZ l = u at *
 go_enter Tryz.func59, Tryz.ntmps59
 go_wp2_with fail
 refine Calls.mono (CU.out _ HR.out) ?_
 rintro e w1 ⟨v, rfl, ho, hb1⟩
 obtain ⟨A1, c1, rfl, hl1, hr1⟩ := ho.reads
 have HU := Lib.hid hr1
 have HB1 := Lib.hid hb1
 clear ho hr1 hb1 CU
 go_wp2
 go_loopw [4, 5] (fun v i wr => ∃ k : Nat, k ≤ u.length ∧ i = .int .i64 k ∧ Hid (Below w1.heap.size w1 wr) ∧ Hid (Own1 Ty.sg2 100 w1.heap.size wr v (crTo u k))) (fun _ i _ => u.length - (intOf i).toNat)
 case atStart => exact ⟨0, Nat.zero_le _, rfl, Below.refl _ _, OwnR.nil _ _ _ _ _⟩
 case round =>
  obtain ⟨k, hk, rfl, HB, HO⟩ := hrel
  by_cases hlt : k < u.length
  ·have hcl := cross_le (a := k) (n := (crTo u k).length) (m := u.length) (by omega) (crTo_len u k) (by omega)
   have HS1 := Lib.hid (crTo_succ u k)
   have hdl : (u.drop (k + 1)).length = u.length - (k + 1) := List.length_drop ..
   rw [hdl] at HS1
   have HO0 : Hid (Own1 Ty.sg2 100 w1.heap.size wr u4 (crIn u k 0)) := by rw [crIn_zero]; exact HO.out
   clear hdl HO
   go_wp2
   go_loopw [4, 6] (fun v i wi => ∃ j : Nat, k + 1 + j ≤ u.length ∧ i = .int .i64 ((k + 1 + j : Nat) : Int) ∧ Hid (Below w1.heap.size w1 wi) ∧ Hid (Own1 Ty.sg2 100 w1.heap.size wi v (crIn u k j))) (fun _ i _ => u.length - (intOf i).toNat)
   case atStart => exact ⟨0, by omega, by go_num, HB.out, HO0.out⟩
   case round =>
    obtain ⟨j, hj, rfl, HBi, HOi⟩ := hrel
    clear HO0
    have hil := crIn_len u k j
    have hj6 : j ≤ 600 := by omega
    have HUr := Lib.hid (HU.out.below HBi.out)
    have hzi := HBi.out.size
    by_cases hjt : k + 1 + j < u.length
    ·obtain ⟨ad, rfl, hx0, hx1, hx2, hx3⟩ := HUr.out.sg_at k hlt
     obtain ⟨ad2, e2, hy0, hy1, hy2, hy3⟩ := HUr.out.sg_at (k + 1 + j) hjt
     cases e2
     have HS2 := Lib.hid (crIn_succ u k j hjt)
     have m1 : sgD u k ∈ u := by rw [sgD_eq hlt]; exact List.getElem_mem hlt
     have m2 : sgD u (k + 1 + j) ∈ u := by rw [sgD_eq hjt]; exact List.getElem_mem hjt
     have v1 := HUV.out _ m1
     have v2 := HUV.out _ m2
     have n1 := HNE.out _ m1
     have n2 := HNE.out _ m2
     clear m1 m2
     generalize sgD u k = x at *
     generalize hm : k + 1 + j = m at *
     generalize sgD u m = y at *
     have CR := Lib.hid (fun W => ref09_Relate x.1.1 x.1.2 x.2.1 x.2.2 y.1.1 y.1.2 y.2.1 y.2.2 W (by rw [Bool.and_eq_true] at v1 v2; rw [Bool.and_eq_true, Bool.and_eq_true]; exact ⟨⟨v1.1, v1.2⟩, v2.1⟩) (by rw [Bool.and_eq_true] at v2; exact v2.2) n1 n2)
     have HBR : Hid (badR x y = decide (2 ≤ relR ((x.1.1, x.1.2), (x.2.1, x.2.2)) ((y.1.1, y.1.2), (y.2.1, y.2.2)))) := rfl
     have HM := Lib.hid hm
     clear v1 v2 n1 n2 hm
     generalize relR ((x.1.1, x.1.2), (x.2.1, x.2.2)) ((y.1.1, y.1.2), (y.2.1, y.2.2)) = rv at *
     by_cases hq : 2 ≤ rv
     ·have t1 : decide (2 ≤ rv) = true := decide_eq_true hq
      have HS3 : Hid (crIn u k (j + 1) = crIn u k j ++ [(x, y)]) := HS2.out.trans (by rw [HBR.out, t1]; rfl)
      clear HS2 HBR hq
      go_wp2_with fail
      go_still_tail 8, (by kernel_rfl)
      change wpList _ _ _ _ _ wr.drew
      go_wp2_with fail
      (refine (CR.out _).mono ?_; rintro e w5 ⟨rfl, hb5⟩)
      have BR : Below wr.heap.size wr w5 := (by repeat (first | exact Below.refl _ _ | apply below_alloc | apply below_drewN | apply below_drew | (refine below_set2 ?_ ?_; (first | (simp; done) | (simp; omega))) | (refine below_step ?_ hb5)))
      have p0 := cell_below BR hx0
      have p1 := cell_below BR hx1
      have p2 := cell_below BR hx2
      have p3 := cell_below BR hx3
      have q0 := cell_below BR hy0
      have q1 := cell_below BR hy1
      have q2 := cell_below BR hy2
      have q3 := cell_below BR hy3
      have HB5 := Lib.hid (below_step HBi.out BR)
      have HOd := Lib.hid (OwnR.drew (Own1.below HOi.out BR))
      have hzd : w1.heap.size ≤ w5.drew.heap.size := HB5.out.size
      have hlen5 : ((crIn u k j).length + 1) * 64 ≤ 140737488355328 := by omega
      clear hb5 BR hx0 hx1 hx2 hx3 hy0 hy1 hy2 hy3 HUr
      go_wp2_with fail
      refine start_ (n := 13) (S := fun w' => w'.cell? (ad.add (k * 4)) = some (.int .i64 x.1.1) ∧ w'.cell? ⟨(ad.add (k * 4)).block, (ad.add (k * 4)).off + 1, none⟩ = some (.int .i64 x.1.2) ∧ w'.cell? ⟨(ad.add (k * 4)).block, (ad.add (k * 4)).off + 2, none⟩ = some (.int .i64 x.2.1) ∧ w'.cell? ⟨(ad.add (k * 4)).block, (ad.add (k * 4)).off + 3, none⟩ = some (.int .i64 x.2.2) ∧ w'.cell? (ad.add (m * 4)) = some (.int .i64 y.1.1) ∧ w'.cell? ⟨(ad.add (m * 4)).block, (ad.add (m * 4)).off + 1, none⟩ = some (.int .i64 y.1.2) ∧ w'.cell? ⟨(ad.add (m * 4)).block, (ad.add (m * 4)).off + 2, none⟩ = some (.int .i64 y.2.1) ∧ w'.cell? ⟨(ad.add (m * 4)).block, (ad.add (m * 4)).off + 3, none⟩ = some (.int .i64 y.2.2)) (ds := [10, 11]) #[Z,Z,Z,Z,Z,Z,Z,Z,Z,Z,Z,Z,Z] (by kernel_rfl) rfl rfl ⟨p0, p1, p2, p3, q0, q1, q2, q3⟩ (fun hHeld => ?_)
      refine pu 0 33 ?_
      refine pu 1 34 ?_
      refine pu 2 35 ?_
      refine pu 3 36 ?_
      refine pu 5 38 ?_
      refine pu 6 39 ?_
      refine pu 7 40 ?_
      refine ta 4 37 hHeld ?_
      refine ta 8 41 hHeld ?_
      refine pu 9 42 ?_
      refine last_ (i := 10) (N := some 43) #[J,J,J,J,J,J,J,J,J,J,J,Z,Z] rfl rfl (by kernel_rfl) (by decide) (fun K hK => ?_)
      refine value_ (w1 := ?_) (v := ?_) (by rfl) rfl ?_ ?_
      rotate_left 2
      ·go_simp
       constructor
       ·rfl
       ·rfl
      refine hK.out _ _ ?_
      clear hK K
      refine nm 43 ?_
      refine last_ (i := 11) (N := some 44) #[J,J,J,J,J,J,J,J,J,J,J,J,Z] rfl rfl (by kernel_rfl) (by decide) (fun K hK => ?_)
      refine step_one Ty.sg2 (W := w5.drew) w1.heap.size rfl (.tmp 33) (.tmp 43) 74 100 _ 64 rfl Tryz.underlying74 infoSg2 rfl (by decide) u4 (crIn u k j) (x, y) _ _ rfl rfl (by simp) rfl HOd.out hzd hlen5 ?_
      intro v7 w7 HO7 hg7 hat7
      refine hK.out _ _ ?_
      clear hK K
      refine nm 44 ?_
      refine pu 12 4 ?_
      refine done_ (by kernel_rfl) ?_
      have HB7 := Lib.hid (show Below w1.heap.size w1 w7 from below_own (below_drew HB5.out) hg7 (fun b e => (OwnR.lt HOd.out b e).1))
      have HO8 := Lib.hid (Own1.of HO7)
      clear HO7 hg7 hat7
      go_wp2
      go_roundw
      case rel => exact ⟨j + 1, by have := HM.out; omega, by rw [show k + 1 + (j + 1) = m + 1 by have := HM.out; omega]; go_num, HB7.out, by rw [HS3.out]; exact HO8.out⟩
      case measure => simp [intOf]; omega
     ·have t1 : decide (2 ≤ rv) = false := decide_eq_false hq
      have HS3 : Hid (crIn u k (j + 1) = crIn u k j) := HS2.out.trans (by rw [HBR.out, t1]; simp)
      clear HS2 HBR hq
      go_wp2_with fail
      go_still_tail 8, (by kernel_rfl)
      change wpList _ _ _ _ _ wr.drew
      go_wp2_with fail
      (refine (CR.out _).mono ?_; rintro e w5 ⟨rfl, hb5⟩)
      have BR : Below wr.heap.size wr w5 := (by repeat (first | exact Below.refl _ _ | apply below_alloc | apply below_drewN | apply below_drew | (refine below_set2 ?_ ?_; (first | (simp; done) | (simp; omega))) | (refine below_step ?_ hb5)))
      have HB5 := Lib.hid (below_step HBi.out BR)
      have HO5 := Lib.hid (Own1.below HOi.out BR)
      clear hb5 BR hx0 hx1 hx2 hx3 hy0 hy1 hy2 hy3 HUr
      go_wp2
      go_roundw
      case rel => exact ⟨j + 1, by have := HM.out; omega, by rw [show k + 1 + (j + 1) = m + 1 by have := HM.out; omega]; go_num, HB5.out, by rw [HS3.out]; exact HO5.out⟩
      case measure => simp [intOf]; omega
    ·have hje : u.length - (k + 1) = j := by omega
     have HO9 : Hid (Own1 Ty.sg2 100 w1.heap.size wr u4 (crTo u (k + 1))) := by rw [HS1.out, hje]; exact HOi.out
     clear hje
     go_wp2
     go_roundw
     case rel => exact ⟨k + 1, by omega, by go_num, HBi.out, HO9.out⟩
     case measure => simp [intOf]; omega
  ·obtain rfl : k = u.length := by omega
   obtain ⟨A9, c9, hv9, hl9, hr9⟩ := HO.out.reads
   subst hv9
   rw [← HZ2.out] 
   go_wp2
   go_ret
   exact ⟨_, _, rfl, below_step HB1.out HB.out⟩
end
end Go.Proofs.YtaeflnbjeaoapaaGreat
