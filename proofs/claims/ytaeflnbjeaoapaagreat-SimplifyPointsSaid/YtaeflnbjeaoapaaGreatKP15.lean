/- Contracts of law25.example and lives. Contract of law25.Few. Contracts of the references' words on points: ref08.Less, Valid, ref09.three, Turn, On. Contracts of the references' small functions: ref09.Of, Less, Within, sign; ref20.good. Contracts of ref20.insert, Sort, Unique, Same. Contracts of ref20.Sort, Unique, Same. -/
import Derived.Test.YtaeflnbjeaoapaaGreatKPW
import Derived.Test.YtaeflnbjeaoapaaGreatKP14
import Derived.Test.YtaeflnbjeaoapaaGreatKP1
import Derived.Test.YtaeflnbjeaoapaaGreatKP4
import Derived.Test.YtaeflnbjeaoapaaGreatKP11
import Derived.Test.YtaeflnbjeaoapaaGreatKP0
import Derived.Test.YtaeflnbjeaoapaaGreatKP2
import Derived.StillTailTactics
namespace Go.Proofs.YtaeflnbjeaoapaaGreat
set_option linter.unusedVariables false
set_option linter.unusedSimpArgs false
section
open Go.RowKit Go.Proofs.YtaeflnbjeaoapaaGreatW.PrintLast

attribute [local go_sem high] eqPt eqSg
theorem zero_row {w : World} {g : Nat} (h : w.heap[g]? = some (.cells #[.int .i64 0] 3 (0, 0))) : Row Ty.i64 (fun _ => True) w (some ⟨g, 0, none⟩) [0] :=
 Row.of_reps (by simp) trivial (Reps.single (c := [.int .i64 0]) rfl) (fun j u hu => by
  match j, hu with
  | 0, hu => cases hu; exact blk_cell h 0 rfl
  | j + 1, hu => simp at hu)
theorem ex_row {w : World} {g G : Nat} (h : w.heap[G]? = some (.cells #[.int .i64 0, .int .i64 0, .int .i64 0, .int .i64 8, .slice none 0 0, .slice (some ⟨g + 0, 0, none⟩) 1 1, .int .i64 0, .int .i64 0, .int .i64 4, .int .i64 0, .slice (some ⟨g + 1, 0, none⟩) 1 1, .slice none 0 0, .int .i64 0, .int .i64 8, .int .i64 8, .int .i64 8, .slice none 0 0, .slice (some ⟨g + 2, 0, none⟩) 1 1, .int .i64 4, .int .i64 0, .int .i64 8, .int .i64 0, .slice (some ⟨g + 3, 0, none⟩) 1 1, .slice none 0 0, .int .i64 8, .int .i64 0, .int .i64 8, .int .i64 8, .slice (some ⟨g + 4, 0, none⟩) 1 1, .slice none 0 0] 31 (0, 0))) (z : ∀ i, i < 5 → w.heap[g + i]? = some (.cells #[.int .i64 0] 3 (0, 0))) : Row Ty.edge (fun _ => True) w (some ⟨G, 0, none⟩) exM := by
 have n : Row Ty.i64 (fun _ => True) w none [] := Row.nil _ _ _ _
 have r0 := zero_row (z 0 (by decide))
 have r1 := zero_row (z 1 (by decide))
 have r2 := zero_row (z 2 (by decide))
 have r3 := zero_row (z 3 (by decide))
 have r4 := zero_row (z 4 (by decide))
 have k : ∀ {s : Sg} {L R : List Int} {A B : Option Addr} {c d : Nat}, L.length ≤ c → Row Ty.i64 (fun _ => True) w A L → R.length ≤ d → Row Ty.i64 (fun _ => True) w B R → Ty.edge.R (fun _ => True) w (s, (L, R)) [.int .i64 s.1.1, .int .i64 s.1.2, .int .i64 s.2.1, .int .i64 s.2.2, .slice A L.length c, .slice B R.length d] := fun a b c d => edgeR a b c d
 refine Row.of_reps (cs := [.int .i64 0, .int .i64 0, .int .i64 0, .int .i64 8, .slice none 0 0, .slice (some ⟨g + 0, 0, none⟩) 1 1, .int .i64 0, .int .i64 0, .int .i64 4, .int .i64 0, .slice (some ⟨g + 1, 0, none⟩) 1 1, .slice none 0 0, .int .i64 0, .int .i64 8, .int .i64 8, .int .i64 8, .slice none 0 0, .slice (some ⟨g + 2, 0, none⟩) 1 1, .int .i64 4, .int .i64 0, .int .i64 8, .int .i64 0, .slice (some ⟨g + 3, 0, none⟩) 1 1, .slice none 0 0, .int .i64 8, .int .i64 0, .int .i64 8, .int .i64 8, .slice (some ⟨g + 4, 0, none⟩) 1 1, .slice none 0 0]) (by decide) trivial
  ⟨_, _, rfl, k (s := ((0, 0), (0, 8))) (L := []) (R := [0]) (Nat.le_refl _) n (Nat.le_refl _) r0, _, _, rfl, k (s := ((0, 0), (4, 0))) (L := [0]) (R := []) (Nat.le_refl _) r1 (Nat.le_refl _) n, _, _, rfl, k (s := ((0, 8), (8, 8))) (L := []) (R := [0]) (Nat.le_refl _) n (Nat.le_refl _) r2,
   _, _, rfl, k (s := ((4, 0), (8, 0))) (L := [0]) (R := []) (Nat.le_refl _) r3 (Nat.le_refl _) n, _, [], rfl, k (s := ((8, 0), (8, 8))) (L := [0]) (R := []) (Nat.le_refl _) r4 (Nat.le_refl _) n, rfl⟩ (fun j u hu => blk_cell h j (by simpa using hu))
theorem law25_example (w : World) : Calls Tryz.prog 9 #[] w fun e w' => ∃ A c, e = .returned (.slice A 5 c) ∧ Row Ty.edge (fun _ => True) w' A exM ∧ Below w.heap.size w w' := by
 obtain ⟨W, hW⟩ : ∃ W, W = (((((w.alloc (.cells #[.int .i64 0] 3)).alloc (.cells #[.int .i64 0] 3)).alloc (.cells #[.int .i64 0] 3)).alloc (.cells #[.int .i64 0] 3)).alloc (.cells #[.int .i64 0] 3)).alloc (.cells #[.int .i64 0, .int .i64 0, .int .i64 0, .int .i64 8, .slice none 0 0, .slice (some ⟨w.heap.size, 0, none⟩) 1 1, .int .i64 0, .int .i64 0, .int .i64 4, .int .i64 0, .slice (some ⟨w.heap.size + 1, 0, none⟩) 1 1, .slice none 0 0, .int .i64 0, .int .i64 8, .int .i64 8, .int .i64 8, .slice none 0 0, .slice (some ⟨w.heap.size + 1 + 1, 0, none⟩) 1 1, .int .i64 4, .int .i64 0, .int .i64 8, .int .i64 0, .slice (some ⟨w.heap.size + 1 + 1 + 1, 0, none⟩) 1 1, .slice none 0 0, .int .i64 8, .int .i64 0, .int .i64 8, .int .i64 8, .slice (some ⟨w.heap.size + 1 + 1 + 1 + 1, 0, none⟩) 1 1, .slice none 0 0] 31) := ⟨_, rfl⟩
 have z0 : ∀ (W : World) (o : Obj), (W.alloc o).heap[W.heap.size]? = some o := fun W o => heap_alloc_new W o
 have hz : ∀ i, i < 5 → W.heap[w.heap.size + i]? = some (.cells #[.int .i64 0] 3 (0, 0)) := by
  intro i hi
  rw [hW]
  have a0 := heap_alloc_new w (.cells #[.int .i64 0] 3)
  have a1 := heap_alloc_new (w.alloc (.cells #[.int .i64 0] 3)) (.cells #[.int .i64 0] 3)
  have a2 := heap_alloc_new ((w.alloc (.cells #[.int .i64 0] 3)).alloc (.cells #[.int .i64 0] 3)) (.cells #[.int .i64 0] 3)
  have a3 := heap_alloc_new (((w.alloc (.cells #[.int .i64 0] 3)).alloc (.cells #[.int .i64 0] 3)).alloc (.cells #[.int .i64 0] 3)) (.cells #[.int .i64 0] 3)
  have a4 := heap_alloc_new ((((w.alloc (.cells #[.int .i64 0] 3)).alloc (.cells #[.int .i64 0] 3)).alloc (.cells #[.int .i64 0] 3)).alloc (.cells #[.int .i64 0] 3)) (.cells #[.int .i64 0] 3)
  match i, hi with
  | 0, _ => exact blk_alloc (blk_alloc (blk_alloc (blk_alloc (blk_alloc a0 _) _) _) _) _
  | 1, _ => exact blk_alloc (blk_alloc (blk_alloc (blk_alloc (by simpa using a1) _) _) _) _
  | 2, _ => exact blk_alloc (blk_alloc (blk_alloc (by simpa using a2) _) _) _
  | 3, _ => exact blk_alloc (blk_alloc (by simpa using a3) _) _
  | 4, _ => exact blk_alloc (by simpa using a4) _
 have hG : W.heap[w.heap.size + 5]? = some (.cells #[.int .i64 0, .int .i64 0, .int .i64 0, .int .i64 8, .slice none 0 0, .slice (some ⟨w.heap.size, 0, none⟩) 1 1, .int .i64 0, .int .i64 0, .int .i64 4, .int .i64 0, .slice (some ⟨w.heap.size + 1, 0, none⟩) 1 1, .slice none 0 0, .int .i64 0, .int .i64 8, .int .i64 8, .int .i64 8, .slice none 0 0, .slice (some ⟨w.heap.size + 1 + 1, 0, none⟩) 1 1, .int .i64 4, .int .i64 0, .int .i64 8, .int .i64 0, .slice (some ⟨w.heap.size + 1 + 1 + 1, 0, none⟩) 1 1, .slice none 0 0, .int .i64 8, .int .i64 0, .int .i64 8, .int .i64 8, .slice (some ⟨w.heap.size + 1 + 1 + 1 + 1, 0, none⟩) 1 1, .slice none 0 0] 31 (0, 0)) := by
  rw [hW]; have := heap_alloc_new (((((w.alloc (.cells #[.int .i64 0] 3)).alloc (.cells #[.int .i64 0] 3)).alloc (.cells #[.int .i64 0] 3)).alloc (.cells #[.int .i64 0] 3)).alloc (.cells #[.int .i64 0] 3)) (.cells #[.int .i64 0, .int .i64 0, .int .i64 0, .int .i64 8, .slice none 0 0, .slice (some ⟨w.heap.size, 0, none⟩) 1 1, .int .i64 0, .int .i64 0, .int .i64 4, .int .i64 0, .slice (some ⟨w.heap.size + 1, 0, none⟩) 1 1, .slice none 0 0, .int .i64 0, .int .i64 8, .int .i64 8, .int .i64 8, .slice none 0 0, .slice (some ⟨w.heap.size + 1 + 1, 0, none⟩) 1 1, .int .i64 4, .int .i64 0, .int .i64 8, .int .i64 0, .slice (some ⟨w.heap.size + 1 + 1 + 1, 0, none⟩) 1 1, .slice none 0 0, .int .i64 8, .int .i64 0, .int .i64 8, .int .i64 8, .slice (some ⟨w.heap.size + 1 + 1 + 1 + 1, 0, none⟩) 1 1, .slice none 0 0] 31); simpa using this
 have HRW := Lib.hid (ex_row (g := w.heap.size) hG hz)
 have HB : Hid (Below w.heap.size w W) := Lib.hid (by rw [hW]; exact bq)
 clear hz hG z0
 go_enter Tryz.func9, Tryz.ntmps9
 go_wp2
 rw [← hW]
 go_ret
 exact ⟨_, _, rfl, HRW.out, HB.out⟩
theorem ex_few : fewM exM = true := by decide
theorem ex_at0 : ∃ d, atZ exM (4, 0) = some d ∧ d.size = 0 := by
 have h : (atZ exM (4, 0)).map (·.size) = some 0 := by decide +kernel
 obtain ⟨d, h1, h2⟩ := Option.map_eq_some_iff.1 h
 exact ⟨d, h1, h2⟩
theorem ex_at8 : ∃ d, atZ exM (8, 8) = some d ∧ d.size = 64 := by
 have h : (atZ exM (8, 8)).map (·.size) = some 64 := by decide +kernel
 obtain ⟨d, h1, h2⟩ := Option.map_eq_some_iff.1 h
 exact ⟨d, h1, h2⟩
theorem ex_rem : ∃ d, removZ exM (4, 0) = some d := by
 have h : (removZ exM (4, 0)).isSome = true := by decide +kernel
 exact Option.isSome_iff_exists.1 h
set_option maxRecDepth 100000 in
theorem law25_lives (w : World) : Calls Tryz.prog 5 #[] w fun e w' => e = .returned (.bool true) ∧ Below w.heap.size w w' := by
 have CEX := Lib.hid (fun W => law25_example W)
 have B0 : Below w.heap.size w (w.alloc (.cells #[.int .i64 4, .int .i64 0] 28)) := bq
 have HP0 : (w.alloc (.cells #[.int .i64 4, .int .i64 0] 28)).heap[w.heap.size]? = some (.cells #[.int .i64 4, .int .i64 0] 28 (0, 0)) := heap_alloc_new _ _
 obtain ⟨W0, hW0⟩ : ∃ W0, W0 = w.alloc (.cells #[.int .i64 4, .int .i64 0] 28) := ⟨_, rfl⟩
 rw [← hW0] at B0 HP0
 have p0 := blk_cell HP0 0 rfl
 have p1 := blk_cell HP0 1 rfl
 go_enter Tryz.func5, Tryz.ntmps5
 go_wp2_with fail
 rw [← hW0]
 clear hW0
 refine start_ (n := 8) (S := fun w' => w'.cell? ⟨w.heap.size, 0, none⟩ = some (.int .i64 4) ∧ w'.cell? ⟨w.heap.size, 1, none⟩ = some (.int .i64 0)) (ds := []) #[Z,Z,Z,Z,Z,Z,Z,Z] (by kernel_rfl) rfl rfl ⟨p0, p1⟩ (fun hHeld => ?_)
 refine ta 1 10 hHeld ?_
 refine one_ (i := 0) (N := some 9) #[J,J,Z,Z,Z,Z,Z,Z] rfl rfl (by kernel_rfl) (by decide) (fun K hK => ?_)
 refine goes_ Tryz.func9 (by kernel_rfl) rfl #[] (by rfl) rfl rfl (by simp) ?_
 with_reducible refine (CEX.out _).mono ?_
 rintro e v0 ⟨A0, c0, rfl, r0, hA⟩
 refine ⟨_, rfl, ?_⟩
 refine hK.out _ _ ⟨cell_below hA p0, cell_below hA p1⟩ (fun hHeld => ?_)
 clear hK K
 refine nm 9 ?_
 refine one_ (i := 2) (N := some 11) #[J,J,J,Z,Z,Z,Z,Z] rfl rfl (by kernel_rfl) (by decide) (fun K hK => ?_)
 refine goes_ Tryz.func8 (by kernel_rfl) rfl #[.slice A0 5 c0, .agg #[.int .i64 4, .int .i64 0]] (by rfl) rfl rfl (by simp only [List.map_toArray, List.map_cons, List.map_nil]; rfl) ?_
 with_reducible refine (simplify_Size exM A0 5 c0 4 0 v0 r0 rfl ex_few 0 ex_checkM ex_at0).mono ?_
 rintro e v1 ⟨rfl, hB⟩
 refine ⟨_, rfl, ?_⟩
 refine hK.out _ _ ⟨cell_below hB (cell_below hA p0), cell_below hB (cell_below hA p1)⟩ (fun hHeld => ?_)
 clear hK K
 refine nm 11 ?_
 refine pu 3 8 ?_
 refine pu 4 12 ?_
 refine pu 5 13 ?_
 refine pu 6 2 ?_
 refine pu 7 3 ?_
 refine done_ (by kernel_rfl) ?_
 have B1 : Below W0.heap.size W0 v1 := (by repeat (first | exact Below.refl _ _ | apply below_alloc | apply below_drewN | apply below_drew | (refine below_set2 ?_ ?_; (first | (simp; done) | (simp; omega))) | (refine below_step ?_ hB) | (refine below_step ?_ hA)))
 have BW1 := Lib.hid (below_step B0 B1)
 have HP1 := blk_below HP0 B1
 clear hHeld r0 hA hB B1 B0 HP0 p0 p1
 go_wp2_with fail
 refine (CEX.out _).mono ?_
 rintro e v2 ⟨A2, c2, rfl, r2, hb2⟩
 go_wp2_with fail
 refine (simplify_Size exM A2 5 c2 8 8 v2 r2 rfl ex_few 64 ex_checkM ex_at8).mono ?_
 rintro e v3 ⟨rfl, hb3⟩
 have BW3 := Lib.hid (below_step (below_step BW1.out hb2) hb3)
 have HP3 := blk_below (blk_below HP1 hb2) hb3
 clear hb2 hb3 BW1 HP1 r2
 go_wp2_with fail
 refine (CEX.out _).mono ?_
 rintro e v4 ⟨A4, c4, rfl, r4, hb4⟩
 go_wp2_with fail
 refine (simplify_Mesh exM A4 5 c4 0 v4 r4 rfl ex_few).mono ?_
 rintro e v5 ⟨A5, c5, rfl, r5, hb5⟩
 have hl5 : (meshZ exM 0).length = 4 := by rw [ex_mesh]; rfl
 have hf5 : fewM (meshZ exM 0) = true := mesh_few exM 0 ex_few
 have hp5 : (pointsM (meshZ exM 0)).length = 4 := ex_points
 have he5 : egD (meshZ exM 0) 1 = (((0, 0), (8, 0)), ([0], [])) := by rw [ex_mesh]; rfl
 obtain ⟨ad, Aq, cq, Bq, dq, rfl, _, _, hx2, hx3, _, _, _, _, _, _⟩ := r5.edge_at 1 (by rw [hl5]; decide)
 rw [he5] at hx2 hx3
 have ea : ad.add (1 * 6) = ⟨ad.block, ad.off + 6, none⟩ := by unfold Addr.add; rw [if_neg (by decide)]
 rw [ea] at hx2 hx3
 have y2 : v5.cell? ⟨ad.block, ad.off + 6 + 2, none⟩ = some (.int .i64 8) := hx2
 have y3 : v5.cell? ⟨ad.block, ad.off + 6 + 2 + 1, none⟩ = some (.int .i64 0) := hx3
 clear ea
 have BW5 := Lib.hid (below_step (below_step BW3.out hb4) hb5)
 have HP5 := blk_below (blk_below HP3 hb4) hb5
 have R5 := Lib.hid r5
 have CPT := Lib.hid (fun W (hb : Below v5.heap.size v5 W) => simplify_Points (meshZ exM 0) (some ad) 4 c5 W (R5.out.below hb) hl5.symm hf5)
 rw [hp5] at CPT
 rw [hl5]
 have p0 := blk_cell HP5 0 rfl
 have p1 := blk_cell HP5 1 rfl
 clear hx2 hx3 hb4 hb5 BW3 HP3 r4 r5 he5 hl5 hf5 hp5 R5
 go_wp2_with fail
 refine start_ (n := 37) (S := fun w' => w'.cell? ⟨w.heap.size, 0, none⟩ = some (.int .i64 4) ∧ w'.cell? ⟨w.heap.size, 1, none⟩ = some (.int .i64 0) ∧ w'.cell? ⟨ad.block, ad.off + 6 + 2, none⟩ = some (.int .i64 8) ∧ w'.cell? ⟨ad.block, ad.off + 6 + 2 + 1, none⟩ = some (.int .i64 0)) (ds := []) #[Z,Z,Z,Z,Z,Z,Z,Z,Z,Z,Z,Z,Z,Z,Z,Z,Z,Z,Z,Z,Z,Z,Z,Z,Z,Z,Z,Z,Z,Z,Z,Z,Z,Z,Z,Z,Z] (by kernel_rfl) rfl rfl ⟨p0, p1, y2, y3⟩ (fun hHeld => ?_)
 refine pu 0 22 ?_
 refine pu 1 23 ?_
 refine pu 2 24 ?_
 refine pu 3 25 ?_
 refine pu 4 26 ?_
 refine pu 5 27 ?_
 refine pu 6 28 ?_
 refine pu 7 29 ?_
 refine pu 8 30 ?_
 refine pu 9 31 ?_
 refine pu 10 32 ?_
 refine pu 11 33 ?_
 refine pu 12 34 ?_
 refine ta 14 36 hHeld ?_
 refine one_ (i := 13) (N := some 35) #[J,J,J,J,J,J,J,J,J,J,J,J,J,J,J,Z,Z,Z,Z,Z,Z,Z,Z,Z,Z,Z,Z,Z,Z,Z,Z,Z,Z,Z,Z,Z,Z] rfl rfl (by kernel_rfl) (by decide) (fun K hK => ?_)
 refine goes_ Tryz.func9 (by kernel_rfl) rfl #[] (by rfl) rfl rfl (by simp) ?_
 with_reducible refine (CEX.out _).mono ?_
 rintro e v6 ⟨A6, c6, rfl, r6, hA⟩
 refine ⟨_, rfl, ?_⟩
 refine hK.out _ _ ⟨cell_below hA p0, cell_below hA p1, cell_below hA y2, cell_below hA y3⟩ (fun hHeld => ?_)
 clear hK K
 refine nm 35 ?_
 refine one_ (i := 15) (N := some 37) #[J,J,J,J,J,J,J,J,J,J,J,J,J,J,J,J,Z,Z,Z,Z,Z,Z,Z,Z,Z,Z,Z,Z,Z,Z,Z,Z,Z,Z,Z,Z,Z] rfl rfl (by kernel_rfl) (by decide) (fun K hK => ?_)
 refine goes_ Tryz.func11 (by kernel_rfl) rfl #[.slice A6 5 c6, .agg #[.int .i64 4, .int .i64 0]] (by rfl) rfl rfl (by simp only [List.map_toArray, List.map_cons, List.map_nil]; rfl) ?_
 with_reducible refine (simplify_Removable exM A6 5 c6 4 0 v6 r6 rfl ex_few ex_checkM ex_rem).mono ?_
 rintro e v7 ⟨rfl, hB⟩
 refine ⟨_, rfl, ?_⟩
 refine hK.out _ _ ⟨cell_below hB (cell_below hA p0), cell_below hB (cell_below hA p1), cell_below hB (cell_below hA y2), cell_below hB (cell_below hA y3)⟩ (fun hHeld => ?_)
 clear hK K
 refine nm 37 ?_
 refine pu 16 38 ?_
 refine pu 17 39 ?_
 refine pu 18 40 ?_
 refine pu 19 41 ?_
 refine pu 20 42 ?_
 refine pu 21 43 ?_
 refine pu 22 44 ?_
 refine pu 23 45 ?_
 refine one_ (i := 24) (N := some 46) #[J,J,J,J,J,J,J,J,J,J,J,J,J,J,J,J,J,J,J,J,J,J,J,J,J,Z,Z,Z,Z,Z,Z,Z,Z,Z,Z,Z,Z] rfl rfl (by kernel_rfl) (by decide) (fun K hK => ?_)
 refine goes_ Tryz.func6 (by kernel_rfl) rfl #[.slice (some ad) 4 c5] (by rfl) rfl rfl (by simp only [List.map_toArray, List.map_cons, List.map_nil]; rfl) ?_
 with_reducible refine (CPT.out _ (below_step (below_step (below_drew (Below.refl _ _)) hA) hB)).mono ?_
 rintro e v8 ⟨A8, c8, rfl, _, hC⟩
 refine ⟨_, rfl, ?_⟩
 refine hK.out _ _ ⟨cell_below hC (cell_below hB (cell_below hA p0)), cell_below hC (cell_below hB (cell_below hA p1)), cell_below hC (cell_below hB (cell_below hA y2)), cell_below hC (cell_below hB (cell_below hA y3))⟩ (fun hHeld => ?_)
 clear hK K
 refine nm 46 ?_
 refine pu 25 47 ?_
 refine pu 26 48 ?_
 refine pu 27 49 ?_
 refine pu 28 50 ?_
 refine pu 29 51 ?_
 refine pu 30 52 ?_
 refine pu 31 53 ?_
 refine pu 33 55 ?_
 refine ta 32 54 hHeld ?_
 refine pu 34 56 ?_
 refine pu 35 57 ?_
 refine pu 36 0 ?_
 refine done_ (by kernel_rfl) ?_
 have BW8 : Hid (Below w.heap.size w v8) := Lib.hid ((by repeat (first | exact Below.refl _ _ | apply below_alloc | apply below_drewN | apply below_drew | (refine below_set2 ?_ ?_; (first | (simp; done) | (simp; omega))) | (refine below_step ?_ hC) | (refine below_step ?_ hB) | (refine below_step ?_ hA) | (refine below_step ?_ BW5.out))))
 clear hHeld r6 hA hB hC p0 p1 y2 y3
 go_wp2
 go_ret
 exact ⟨rfl, BW8.out⟩
end
section
open Go.RowKit Go.Proofs.YtaeflnbjeaoapaaGreatW.PrintLast

theorem few_snoc (m : Msh) (k : Nat) (h : k < m.length) : (m.take (k + 1)).all fewE = ((m.take k).all fewE && fewE (egD m k)) := by
 rw [take_snoc m k (((0, 0), (0, 0)), ([], [])) h, List.all_append]; simp [egD]
theorem few_hit {m : Msh} {k : Nat} (h : k < m.length) (hb : fewE (egD m k) = false) : fewM m = false := by
 unfold fewM
 rw [Bool.and_eq_false_iff]
 right
 rw [List.all_eq_false]
 exact ⟨egD m k, by rw [egD_eq h]; exact List.getElem_mem _, by rw [hb]; decide⟩
theorem fewL_hit {l : List Int} {j : Nat} (h : j < l.length) (hb : inD l j > 20) : fewL l = false := by
 unfold fewL
 rw [List.all_eq_false]
 refine ⟨inD l j, ?_, by simp; omega⟩
 have : inD l j = l[j] := by simp [inD, h]
 rw [this]; exact List.getElem_mem _
theorem fewL_all {l : List Int} (h : ∀ j, j < l.length → inD l j ≤ 20) : fewL l = true := by
 unfold fewL
 rw [List.all_eq_true]
 intro x hx
 obtain ⟨j, hj, rfl⟩ := List.getElem_of_mem hx
 have := h j hj
 simp [inD, hj] at this
 simp; exact this
theorem le_snoc {l : List Int} {k : Nat} (h : ∀ j, j < k → inD l j ≤ 20) (h1 : inD l k ≤ 20) : ∀ j, j < k + 1 → inD l j ≤ 20 := fun j hj => by
 by_cases e : j = k
 ·rw [e]; exact h1
 ·exact h j (by omega)
set_option maxRecDepth 100000 in
set_option maxHeartbeats 1000000 in
theorem law25_Few {ok : Nat → Prop} (m : Msh) (A : Option Addr) (n c : Nat) (w : World) (hr : Row Ty.edge ok w A m) (hn : n = m.length) :
  Calls Tryz.prog 4 #[.slice A n c] w fun e w' => e = .returned (.bool (fewM m)) ∧ Below w.heap.size w w' := by
 subst hn
 have HR := Lib.hid hr
 have hmx := hr.len
 clear hr
 by_cases h40 : m.length > 40
 ·have q1 : decide ((m.length : Int) > 40) = true := decide_eq_true (by omega)
  have q2 : decide (40 < (m.length : Int)) = true := decide_eq_true (by omega)
  have HF : Hid (fewM m = false) := Lib.hid (by unfold fewM; rw [decide_eq_false (by omega)]; rfl)
  go_enter Tryz.func4, Tryz.ntmps4
  go_wp2
  go_ret
  exact ⟨ret_bool HF.out.symm, Below.refl _ _⟩
 ·have q1 : decide ((m.length : Int) > 40) = false := decide_eq_false (by omega)
  have q2 : decide (40 < (m.length : Int)) = false := decide_eq_false (by omega)
  go_enter Tryz.func4, Tryz.ntmps4
  go_wp2
  clear q1 q2
  go_loopw [3] (fun i wr => ∃ k : Nat, k ≤ m.length ∧ i = .int .i64 k ∧ Hid (Below w.heap.size w wr) ∧ Hid ((m.take k).all fewE = true)) (fun i _ => m.length - (intOf i).toNat)
  case atStart => exact ⟨0, Nat.zero_le _, rfl, Below.refl _ _, by simp [Hid]⟩
  case round =>
   obtain ⟨k, hk, rfl, HB, HA⟩ := hrel
   by_cases hlt : k < m.length
   ·obtain ⟨ad, A1, c1, A2, c2, rfl, hx0, hx1, hx2, hx3, hx4, hx5, hc1, hr1, hc2, hr2⟩ := (HR.out.below HB.out).edge_at k hlt
    have HS := Lib.hid (few_snoc m k hlt)
    have HH := Lib.hid (few_hit hlt)
    have HR1 := Lib.hid hr1
    have HR2 := Lib.hid hr2
    have hl1 := hr1.len
    have hl2 := hr2.len
    clear hr1 hr2 hx0 hx1 hx2 hx3
    generalize egD m k = e at *
    obtain ⟨s, L, R⟩ := e
    simp only at hx4 hx5 HR1 HR2 hl1 hl2
    have HE : Hid (fewE (s, (L, R)) = ((decide (L.length ≤ 8) && decide (R.length ≤ 8)) && (fewL L && fewL R))) := rfl
    by_cases h1 : L.length > 8
    ·have g1 : decide ((L.length : Int) > 8) = true := decide_eq_true (by omega)
     have g2 : decide (8 < (L.length : Int)) = true := decide_eq_true (by omega)
     have HF := Lib.hid (HH.out (by rw [HE.out, decide_eq_false (by omega)]; rfl))
     go_wp2
     go_ret
     exact ⟨ret_bool HF.out.symm, HB.out⟩
    ·have g1 : decide ((L.length : Int) > 8) = false := decide_eq_false (by omega)
     have g2 : decide (8 < (L.length : Int)) = false := decide_eq_false (by omega)
     by_cases h2 : R.length > 8
     ·have g3 : decide ((R.length : Int) > 8) = true := decide_eq_true (by omega)
      have g4 : decide (8 < (R.length : Int)) = true := decide_eq_true (by omega)
      have HF := Lib.hid (HH.out (by rw [HE.out, decide_eq_false (p := R.length ≤ 8) (by omega), Bool.and_false]; rfl))
      go_wp2
      go_ret
      exact ⟨ret_bool HF.out.symm, HB.out⟩
     ·have g3 : decide ((R.length : Int) > 8) = false := decide_eq_false (by omega)
      have g4 : decide (8 < (R.length : Int)) = false := decide_eq_false (by omega)
      have HL0 := Lib.hid (fun (h : fewL L = false) => HH.out (by rw [HE.out, h, Bool.false_and, Bool.and_false]))
      have HR0 := Lib.hid (fun (h : fewL R = false) => HH.out (by rw [HE.out, h, Bool.and_false, Bool.and_false]))
      have HE2 : Hid (fewL L = true → fewL R = true → fewE (s, (L, R)) = true) := Lib.hid (fun x y => by rw [HE.out, x, y, decide_eq_true (by omega), decide_eq_true (by omega)]; rfl)
      clear HE HH h1 h2
      go_wp2
      clear g1 g2 g3 g4
      obtain ⟨wo, hwo⟩ : ∃ wo, wo = wr := ⟨wr, rfl⟩
      subst hwo
      go_loopw [4] (fun i wr => ∃ j : Nat, j ≤ L.length ∧ i = .int .i64 j ∧ Hid (wr = wo) ∧ Hid (∀ q, q < j → inD L q ≤ 20)) (fun i _ => L.length - (intOf i).toNat)
      case atStart => exact ⟨0, Nat.zero_le _, rfl, (by first | exact Lib.hid rfl | exact Lib.hid trivial), Lib.hid (fun q h => by omega)⟩
      case round =>
       obtain ⟨j, hj, rfl, HW, HJ⟩ := hrel
       have hw := HW.out
       clear HW
       subst hw
       by_cases hjl : j < L.length
       ·obtain ⟨ax, rfl, hv⟩ := (HR1.out).int_at j hjl
        by_cases hb : inD L j > 20
        ·have q1 : decide (inD L j > 20) = true := decide_eq_true hb
         have q2 : decide (20 < inD L j) = true := decide_eq_true hb
         have HF := Lib.hid (HL0.out (fewL_hit hjl hb))
         clear hb
         generalize inD L j = x at *
         go_wp2
         go_ret
         exact ⟨ret_bool HF.out.symm, HB.out⟩
        ·have q1 : decide (inD L j > 20) = false := decide_eq_false hb
         have q2 : decide (20 < inD L j) = false := decide_eq_false hb
         have HJ2 := Lib.hid (le_snoc HJ.out (by omega))
         clear hb
         generalize inD L j = x at *
         go_wp2
         go_roundw
         case rel => exact ⟨j + 1, by omega, by go_num, (by first | exact Lib.hid rfl | exact Lib.hid trivial), HJ2⟩
         case measure => simp [intOf]; omega
       ·obtain rfl : j = L.length := by omega
        have HLT := Lib.hid (fewL_all HJ.out)
        clear HJ
        go_wp2
        obtain ⟨wo, hwo⟩ : ∃ wo, wo = wr := ⟨wr, rfl⟩
        subst hwo
        go_loopw [5] (fun i wr => ∃ j : Nat, j ≤ R.length ∧ i = .int .i64 j ∧ Hid (wr = wo) ∧ Hid (∀ q, q < j → inD R q ≤ 20)) (fun i _ => R.length - (intOf i).toNat)
        case atStart => exact ⟨0, Nat.zero_le _, rfl, (by first | exact Lib.hid rfl | exact Lib.hid trivial), Lib.hid (fun q h => by omega)⟩
        case round =>
         obtain ⟨j, hj, rfl, HW, HJ⟩ := hrel
         have hw := HW.out
         clear HW
         subst hw
         by_cases hjl : j < R.length
         ·obtain ⟨ax, rfl, hv⟩ := (HR2.out).int_at j hjl
          by_cases hb : inD R j > 20
          ·have q1 : decide (inD R j > 20) = true := decide_eq_true hb
           have q2 : decide (20 < inD R j) = true := decide_eq_true hb
           have HF := Lib.hid (HR0.out (fewL_hit hjl hb))
           clear hb
           generalize inD R j = x at *
           go_wp2
           go_ret
           exact ⟨ret_bool HF.out.symm, HB.out⟩
          ·have q1 : decide (inD R j > 20) = false := decide_eq_false hb
           have q2 : decide (20 < inD R j) = false := decide_eq_false hb
           have HJ2 := Lib.hid (le_snoc HJ.out (by omega))
           clear hb
           generalize inD R j = x at *
           go_wp2
           go_roundw
           case rel => exact ⟨j + 1, by omega, by go_num, (by first | exact Lib.hid rfl | exact Lib.hid trivial), HJ2⟩
           case measure => simp [intOf]; omega
         ·obtain rfl : j = R.length := by omega
          have HRT := Lib.hid (fewL_all HJ.out)
          have HA2 := Lib.hid (HS.out.trans (by rw [HA.out, HE2.out HLT.out HRT.out]))
          clear HJ
          go_wp2
          go_roundw
          case rel => exact ⟨k + 1, by omega, by go_num, HB, HA2⟩
          case measure => simp [intOf]; omega
   ·obtain rfl : k = m.length := by omega
    have HF : Hid (fewM m = true) := Lib.hid (by unfold fewM; have := HA.out; rw [List.take_length] at this; rw [this, decide_eq_true (by omega)]; first | done | rfl)
    clear HA
    go_wp2
    go_ret
    exact ⟨ret_bool HF.out.symm, HB.out⟩
end
section
open Go.RowKit

theorem ref08_Less (ax ay bx by_ : Int) (w : World) :
  Calls Tryz.prog 31 #[.agg #[.int .i64 ax, .int .i64 ay], .agg #[.int .i64 bx, .int .i64 by_]] w fun e w' => e = .returned (.bool (lessB (ax, ay) (bx, by_))) ∧ Below w.heap.size w w' := by
 go_enter Tryz.func31, Tryz.ntmps31
 go_wp2
 all_goals go_ret
 all_goals refine ⟨ret_bool ?_, bq⟩
 all_goals simp [lessB, *]
 all_goals omega
theorem ref08_Valid (ax ay : Int) (w : World) :
  Calls Tryz.prog 30 #[.agg #[.int .i64 ax, .int .i64 ay]] w fun e w' => e = .returned (.bool (validB (ax, ay))) ∧ Below w.heap.size w w' := by
 go_enter Tryz.func30, Tryz.ntmps30
 go_wp2
 all_goals go_ret
 all_goals refine ⟨ret_bool ?_, bq⟩
 all_goals simp [validB, *]
 all_goals (intros; omega)
theorem ref09_three (ax ay bx by_ cx cy : Int) (w : World) :
  Calls Tryz.prog 115 #[.agg #[.int .i64 ax, .int .i64 ay], .agg #[.int .i64 bx, .int .i64 by_], .agg #[.int .i64 cx, .int .i64 cy]] w fun e w' => e = .returned (.bool (validB (ax, ay) && validB (bx, by_) && validB (cx, cy))) ∧ Below w.heap.size w w' := by
 cases va : validB (ax, ay)
 ·go_enter Tryz.func115, Tryz.ntmps115
  go_wp2_with fail
  (refine (ref08_Valid _ _ _).mono ?_; rintro e w1 ⟨rfl, hb1⟩; obtain ⟨c_hb1, f_hb1⟩ := bcell hb1; have z_hb1 := hb1.size; (try simp at z_hb1); (try have y0_hb1 : w.heap.size < w1.heap.size := by omega); (try have y1_hb1 : w.heap.size + 1 < w1.heap.size := by omega); (try have y2_hb1 : w.heap.size + 1 + 1 < w1.heap.size := by omega); (try have y3_hb1 : w.heap.size + 1 + 1 + 1 < w1.heap.size := by omega); (try have y4_hb1 : w.heap.size + 1 + 1 + 1 + 1 < w1.heap.size := by omega))
  go_wp2
  go_ret
  exact ⟨rfl, (by repeat (first | exact Below.refl _ _ | apply below_alloc | apply below_drewN | apply below_drew | (refine below_set2 ?_ ?_; (first | (simp; done) | (simp; omega))) | (refine below_step ?_ hb1)))⟩
 ·cases vb : validB (bx, by_)
  all_goals go_enter Tryz.func115, Tryz.ntmps115
  all_goals go_wp2_with fail
  all_goals (refine (ref08_Valid _ _ _).mono ?_; rintro e w1 ⟨rfl, hb1⟩; obtain ⟨c_hb1, f_hb1⟩ := bcell hb1; have z_hb1 := hb1.size; (try simp at z_hb1); (try have y0_hb1 : w.heap.size < w1.heap.size := by omega); (try have y1_hb1 : w.heap.size + 1 < w1.heap.size := by omega); (try have y2_hb1 : w.heap.size + 1 + 1 < w1.heap.size := by omega); (try have y3_hb1 : w.heap.size + 1 + 1 + 1 < w1.heap.size := by omega); (try have y4_hb1 : w.heap.size + 1 + 1 + 1 + 1 < w1.heap.size := by omega))
  all_goals go_wp2_with fail
  all_goals (refine (ref08_Valid _ _ _).mono ?_; rintro e w2 ⟨rfl, hb2⟩; obtain ⟨c_hb2, f_hb2⟩ := bcell hb2; have z_hb2 := hb2.size; (try simp at z_hb2); (try have y0_hb2 : w.heap.size < w2.heap.size := by omega); (try have y1_hb2 : w.heap.size + 1 < w2.heap.size := by omega); (try have y2_hb2 : w.heap.size + 1 + 1 < w2.heap.size := by omega); (try have y3_hb2 : w.heap.size + 1 + 1 + 1 < w2.heap.size := by omega); (try have y4_hb2 : w.heap.size + 1 + 1 + 1 + 1 < w2.heap.size := by omega))
  ·go_wp2
   go_ret
   exact ⟨rfl, (by repeat (first | exact Below.refl _ _ | apply below_alloc | apply below_drewN | apply below_drew | (refine below_set2 ?_ ?_; (first | (simp; done) | (simp; omega))) | (refine below_step ?_ hb2) | (refine below_step ?_ hb1)))⟩
  ·go_wp2_with fail
   (refine (ref08_Valid _ _ _).mono ?_; rintro e w3 ⟨rfl, hb3⟩; obtain ⟨c_hb3, f_hb3⟩ := bcell hb3; have z_hb3 := hb3.size; (try simp at z_hb3); (try have y0_hb3 : w.heap.size < w3.heap.size := by omega); (try have y1_hb3 : w.heap.size + 1 < w3.heap.size := by omega); (try have y2_hb3 : w.heap.size + 1 + 1 < w3.heap.size := by omega); (try have y3_hb3 : w.heap.size + 1 + 1 + 1 < w3.heap.size := by omega); (try have y4_hb3 : w.heap.size + 1 + 1 + 1 + 1 < w3.heap.size := by omega))
   go_wp2
   go_ret
   exact ⟨rfl, (by repeat (first | exact Below.refl _ _ | apply below_alloc | apply below_drewN | apply below_drew | (refine below_set2 ?_ ?_; (first | (simp; done) | (simp; omega))) | (refine below_step ?_ hb3) | (refine below_step ?_ hb2) | (refine below_step ?_ hb1)))⟩
theorem ref09_Turn (ax ay bx by_ cx cy : Int) (w : World) :
  Calls Tryz.prog 117 #[.agg #[.int .i64 ax, .int .i64 ay], .agg #[.int .i64 bx, .int .i64 by_], .agg #[.int .i64 cx, .int .i64 cy]] w fun e w' => e = .returned (.int .i64 (turnZ (ax, ay) (bx, by_) (cx, cy))) ∧ Below w.heap.size w w' := by
 cases hv : (validB (ax, ay) && validB (bx, by_) && validB (cx, cy))
 ·have HV := Lib.hid hv
  go_enter Tryz.func117, Tryz.ntmps117
  go_wp2_with fail
  (refine (ref09_three _ _ _ _ _ _ _).mono ?_; rintro e w1 ⟨rfl, hb1⟩; obtain ⟨c_hb1, f_hb1⟩ := bcell hb1; have z_hb1 := hb1.size; (try simp at z_hb1); (try have y0_hb1 : w.heap.size < w1.heap.size := by omega); (try have y1_hb1 : w.heap.size + 1 < w1.heap.size := by omega); (try have y2_hb1 : w.heap.size + 1 + 1 < w1.heap.size := by omega); (try have y3_hb1 : w.heap.size + 1 + 1 + 1 < w1.heap.size := by omega); (try have y4_hb1 : w.heap.size + 1 + 1 + 1 + 1 < w1.heap.size := by omega))
  go_wp2
  go_ret
  exact ⟨ret_int (by simp [turnZ, HV.out]), (by repeat (first | exact Below.refl _ _ | apply below_alloc | apply below_drewN | apply below_drew | (refine below_set2 ?_ ?_; (first | (simp; done) | (simp; omega))) | (refine below_step ?_ hb1)))⟩
 ·have HV := Lib.hid hv
  obtain ⟨⟨va, vb⟩, vc⟩ : (validB (ax, ay) = true ∧ validB (bx, by_) = true) ∧ validB (cx, cy) = true := by simpa using hv
  obtain ⟨a1, a2, a3, a4⟩ := valid_bd va
  obtain ⟨b1, b2, b3, b4⟩ := valid_bd vb
  obtain ⟨c1, c2, c3, c4⟩ := valid_bd vc
  clear va vb vc
  simp only at a1 a2 a3 a4 b1 b2 b3 b4 c1 c2 c3 c4
  go_enter Tryz.func117, Tryz.ntmps117
  go_wp2_with fail
  (refine (ref09_three _ _ _ _ _ _ _).mono ?_; rintro e w1 ⟨rfl, hb1⟩; obtain ⟨c_hb1, f_hb1⟩ := bcell hb1; have z_hb1 := hb1.size; (try simp at z_hb1); (try have y0_hb1 : w.heap.size < w1.heap.size := by omega); (try have y1_hb1 : w.heap.size + 1 < w1.heap.size := by omega); (try have y2_hb1 : w.heap.size + 1 + 1 < w1.heap.size := by omega); (try have y3_hb1 : w.heap.size + 1 + 1 + 1 < w1.heap.size := by omega); (try have y4_hb1 : w.heap.size + 1 + 1 + 1 + 1 < w1.heap.size := by omega))
  go_wp2
  go_ret
  refine ⟨ret_int ?_, (by repeat (first | exact Below.refl _ _ | apply below_alloc | apply below_drewN | apply below_drew | (refine below_set2 ?_ ?_; (first | (simp; done) | (simp; omega))) | (refine below_step ?_ hb1)))⟩
  rw [turn_valid HV.out]
  simp only [crossZ]
  rw [cross_wrap (mul_bd (a := bx - ax) (b := cy - ay) (by omega) (by omega) (by omega) (by omega)) (mul_bd (a := by_ - ay) (b := cx - ax) (by omega) (by omega) (by omega) (by omega))]
theorem ref09_On (px py ax ay bx by_ : Int) (w : World) :
  Calls Tryz.prog 118 #[.agg #[.int .i64 px, .int .i64 py], .agg #[.int .i64 ax, .int .i64 ay], .agg #[.int .i64 bx, .int .i64 by_]] w fun e w' => e = .returned (.bool (onB (px, py) (ax, ay) (bx, by_))) ∧ Below w.heap.size w w' := by
 cases hv : (validB (px, py) && validB (ax, ay) && validB (bx, by_))
 ·have HV := Lib.hid hv
  go_enter Tryz.func118, Tryz.ntmps118
  go_wp2_with fail
  (refine (ref09_three _ _ _ _ _ _ _).mono ?_; rintro e w1 ⟨rfl, hb1⟩; obtain ⟨c_hb1, f_hb1⟩ := bcell hb1; have z_hb1 := hb1.size; (try simp at z_hb1); (try have y0_hb1 : w.heap.size < w1.heap.size := by omega); (try have y1_hb1 : w.heap.size + 1 < w1.heap.size := by omega); (try have y2_hb1 : w.heap.size + 1 + 1 < w1.heap.size := by omega); (try have y3_hb1 : w.heap.size + 1 + 1 + 1 < w1.heap.size := by omega); (try have y4_hb1 : w.heap.size + 1 + 1 + 1 + 1 < w1.heap.size := by omega))
  go_wp2
  go_ret
  exact ⟨ret_bool (onB_invalid HV.out).symm, (by repeat (first | exact Below.refl _ _ | apply below_alloc | apply below_drewN | apply below_drew | (refine below_set2 ?_ ?_; (first | (simp; done) | (simp; omega))) | (refine below_step ?_ hb1)))⟩
 ·obtain ⟨⟨vp, va⟩, vb⟩ : (validB (px, py) = true ∧ validB (ax, ay) = true) ∧ validB (bx, by_) = true := by simpa using hv
  have HT : Hid (turnZ (ax, ay) (bx, by_) (px, py) = crossZ (ax, ay) (bx, by_) (px, py)) := turn_valid (by rw [va, vb, vp]; rfl)
  have VV : Hid ((validB (px, py) && validB (ax, ay) && validB (bx, by_)) = true) := hv
  clear vp va vb
  by_cases hz : crossZ (ax, ay) (bx, by_) (px, py) = 0
  ·have hzb : (turnZ (ax, ay) (bx, by_) (px, py) != 0) = false := by rw [HT.out, hz]; rfl
   have HZ := Lib.hid hz
   clear hz
   go_enter Tryz.func118, Tryz.ntmps118
   go_wp2_with fail
   (refine (ref09_three _ _ _ _ _ _ _).mono ?_; rintro e w1 ⟨rfl, hb1⟩; obtain ⟨c_hb1, f_hb1⟩ := bcell hb1; have z_hb1 := hb1.size; (try simp at z_hb1); (try have y0_hb1 : w.heap.size < w1.heap.size := by omega); (try have y1_hb1 : w.heap.size + 1 < w1.heap.size := by omega); (try have y2_hb1 : w.heap.size + 1 + 1 < w1.heap.size := by omega); (try have y3_hb1 : w.heap.size + 1 + 1 + 1 < w1.heap.size := by omega); (try have y4_hb1 : w.heap.size + 1 + 1 + 1 + 1 < w1.heap.size := by omega))
   go_wp2_with fail
   (refine (ref09_Turn _ _ _ _ _ _ _).mono ?_; rintro e w2 ⟨rfl, hb2⟩; obtain ⟨c_hb2, f_hb2⟩ := bcell hb2; have z_hb2 := hb2.size; (try simp at z_hb2); (try have y0_hb2 : w.heap.size < w2.heap.size := by omega); (try have y1_hb2 : w.heap.size + 1 < w2.heap.size := by omega); (try have y2_hb2 : w.heap.size + 1 + 1 < w2.heap.size := by omega); (try have y3_hb2 : w.heap.size + 1 + 1 + 1 < w2.heap.size := by omega); (try have y4_hb2 : w.heap.size + 1 + 1 + 1 + 1 < w2.heap.size := by omega))
   go_wp2
   all_goals go_ret
   all_goals refine ⟨ret_bool ?_, (by repeat (first | exact Below.refl _ _ | apply below_alloc | apply below_drewN | apply below_drew | (refine below_set2 ?_ ?_; (first | (simp; done) | (simp; omega))) | (refine below_step ?_ hb2) | (refine below_step ?_ hb1)))⟩
   all_goals simp only [onB, VV.out, HZ.out, Bool.true_and, decide_true]
   go_ways
   all_goals first | (rw [decide_eq_decide]; omega) | (rw [eq_comm, decide_eq_false_iff_not]; omega)
  ·have hzb : (turnZ (ax, ay) (bx, by_) (px, py) != 0) = true := by rw [HT.out]; simpa using hz
   have HZ := Lib.hid hz
   clear hz
   go_enter Tryz.func118, Tryz.ntmps118
   go_wp2_with fail
   (refine (ref09_three _ _ _ _ _ _ _).mono ?_; rintro e w1 ⟨rfl, hb1⟩; obtain ⟨c_hb1, f_hb1⟩ := bcell hb1; have z_hb1 := hb1.size; (try simp at z_hb1); (try have y0_hb1 : w.heap.size < w1.heap.size := by omega); (try have y1_hb1 : w.heap.size + 1 < w1.heap.size := by omega); (try have y2_hb1 : w.heap.size + 1 + 1 < w1.heap.size := by omega); (try have y3_hb1 : w.heap.size + 1 + 1 + 1 < w1.heap.size := by omega); (try have y4_hb1 : w.heap.size + 1 + 1 + 1 + 1 < w1.heap.size := by omega))
   go_wp2_with fail
   (refine (ref09_Turn _ _ _ _ _ _ _).mono ?_; rintro e w2 ⟨rfl, hb2⟩; obtain ⟨c_hb2, f_hb2⟩ := bcell hb2; have z_hb2 := hb2.size; (try simp at z_hb2); (try have y0_hb2 : w.heap.size < w2.heap.size := by omega); (try have y1_hb2 : w.heap.size + 1 < w2.heap.size := by omega); (try have y2_hb2 : w.heap.size + 1 + 1 < w2.heap.size := by omega); (try have y3_hb2 : w.heap.size + 1 + 1 + 1 < w2.heap.size := by omega); (try have y4_hb2 : w.heap.size + 1 + 1 + 1 + 1 < w2.heap.size := by omega))
   go_wp2
   go_ret
   exact ⟨ret_bool (onB_off HZ.out).symm, (by repeat (first | exact Below.refl _ _ | apply below_alloc | apply below_drewN | apply below_drew | (refine below_set2 ?_ ?_; (first | (simp; done) | (simp; omega))) | (refine below_step ?_ hb2) | (refine below_step ?_ hb1)))⟩
end
section
open Go.RowKit Go.Proofs.YtaeflnbjeaoapaaGreatW.PrintLast

theorem ref09_Less (a b : Sg) (w : World) : Calls Tryz.prog 114 #[sgA a, sgA b] w fun e w' => e = .returned (.bool (lessS a b)) ∧ Below w.heap.size w w' := by
 obtain ⟨⟨a1, a2⟩, ⟨a3, a4⟩⟩ := a
 obtain ⟨⟨b1, b2⟩, ⟨b3, b4⟩⟩ := b
 simp only [sgA]
 have main : ∀ (q : Bool), (if a1 = b1 then !decide (a2 = b2) else true) = q → lessS ((a1, a2), (a3, a4)) ((b1, b2), (b3, b4)) = (if q then lessB (a1, a2) (b1, b2) else lessB (a3, a4) (b3, b4)) := by
  intro q hq
  subst hq
  unfold lessS
  by_cases h1 : a1 = b1
  ·by_cases h2 : a2 = b2
   ·simp [h1, h2]
   ·simp [h1, h2]
  ·simp [h1]
 by_cases h1 : a1 = b1
 ·by_cases h2 : a2 = b2
  ·have HM := Lib.hid (main false (by simp [h1, h2]))
   subst h1 h2
   clear main
   go_enter Tryz.func114, Tryz.ntmps114
   go_wp2_with fail
   (refine (ref08_Less _ _ _ _ _).mono ?_; rintro e w1 ⟨rfl, hb1⟩; obtain ⟨c_hb1, f_hb1⟩ := bcell hb1; have z_hb1 := hb1.size; (try simp at z_hb1); (try have y0_hb1 : w.heap.size < w1.heap.size := by omega); (try have y1_hb1 : w.heap.size + 1 < w1.heap.size := by omega); (try have y2_hb1 : w.heap.size + 1 + 1 < w1.heap.size := by omega); (try have y3_hb1 : w.heap.size + 1 + 1 + 1 < w1.heap.size := by omega); (try have y4_hb1 : w.heap.size + 1 + 1 + 1 + 1 < w1.heap.size := by omega))
   go_wp2
   go_ret
   exact ⟨ret_bool HM.out.symm, (by repeat (first | exact Below.refl _ _ | apply below_alloc | apply below_drewN | apply below_drew | (refine below_set2 ?_ ?_; (first | (simp; done) | (simp; omega))) | (refine below_step ?_ hb1)))⟩
  ·have HM := Lib.hid (main true (by simp [h1, h2]))
   subst h1
   clear main
   go_enter Tryz.func114, Tryz.ntmps114
   go_wp2_with fail
   (refine (ref08_Less _ _ _ _ _).mono ?_; rintro e w1 ⟨rfl, hb1⟩; obtain ⟨c_hb1, f_hb1⟩ := bcell hb1; have z_hb1 := hb1.size; (try simp at z_hb1); (try have y0_hb1 : w.heap.size < w1.heap.size := by omega); (try have y1_hb1 : w.heap.size + 1 < w1.heap.size := by omega); (try have y2_hb1 : w.heap.size + 1 + 1 < w1.heap.size := by omega); (try have y3_hb1 : w.heap.size + 1 + 1 + 1 < w1.heap.size := by omega); (try have y4_hb1 : w.heap.size + 1 + 1 + 1 + 1 < w1.heap.size := by omega))
   go_wp2
   go_ret
   exact ⟨ret_bool HM.out.symm, (by repeat (first | exact Below.refl _ _ | apply below_alloc | apply below_drewN | apply below_drew | (refine below_set2 ?_ ?_; (first | (simp; done) | (simp; omega))) | (refine below_step ?_ hb1)))⟩
 ·have HM := Lib.hid (main true (by simp [h1]))
  clear main
  go_enter Tryz.func114, Tryz.ntmps114
  go_wp2_with fail
  (refine (ref08_Less _ _ _ _ _).mono ?_; rintro e w1 ⟨rfl, hb1⟩; obtain ⟨c_hb1, f_hb1⟩ := bcell hb1; have z_hb1 := hb1.size; (try simp at z_hb1); (try have y0_hb1 : w.heap.size < w1.heap.size := by omega); (try have y1_hb1 : w.heap.size + 1 < w1.heap.size := by omega); (try have y2_hb1 : w.heap.size + 1 + 1 < w1.heap.size := by omega); (try have y3_hb1 : w.heap.size + 1 + 1 + 1 < w1.heap.size := by omega); (try have y4_hb1 : w.heap.size + 1 + 1 + 1 + 1 < w1.heap.size := by omega))
  go_wp2
  go_ret
  exact ⟨ret_bool HM.out.symm, (by repeat (first | exact Below.refl _ _ | apply below_alloc | apply below_drewN | apply below_drew | (refine below_set2 ?_ ?_; (first | (simp; done) | (simp; omega))) | (refine below_step ?_ hb1)))⟩
theorem ref09_Of (ax ay bx by_ : Int) (w : World) :
  Calls Tryz.prog 98 #[.agg #[.int .i64 ax, .int .i64 ay], .agg #[.int .i64 bx, .int .i64 by_]] w fun e w' =>
   e = .returned (.agg #[.int .i64 (ofB (ax, ay) (bx, by_)).1.1, .int .i64 (ofB (ax, ay) (bx, by_)).1.2, .int .i64 (ofB (ax, ay) (bx, by_)).2.1, .int .i64 (ofB (ax, ay) (bx, by_)).2.2]) ∧ Below w.heap.size w w' := by
 cases hv : lessB (bx, by_) (ax, ay)
 ·have HV := Lib.hid hv
  go_enter Tryz.func98, Tryz.ntmps98
  go_wp2_with (go_at_call 31; (refine (ref08_Less _ _ _ _ _).mono ?_; rintro e w1 ⟨rfl, hb1⟩; obtain ⟨c_hb1, f_hb1⟩ := bcell hb1; have z_hb1 := hb1.size; (try simp at z_hb1); (try have y0_hb1 : w.heap.size < w1.heap.size := by omega); (try have y1_hb1 : w.heap.size + 1 < w1.heap.size := by omega); (try have y2_hb1 : w.heap.size + 1 + 1 < w1.heap.size := by omega); (try have y3_hb1 : w.heap.size + 1 + 1 + 1 < w1.heap.size := by omega); (try have y4_hb1 : w.heap.size + 1 + 1 + 1 + 1 < w1.heap.size := by omega)))
  exact bodyPost_ret (v := .agg #[.int .i64 ax, .int .i64 ay, .int .i64 bx, .int .i64 by_]) (by simp [results, Tryz.results98]; go_simp) rfl ⟨by simp [ofB, HV.out], (by repeat (first | exact Below.refl _ _ | apply below_alloc | apply below_drewN | apply below_drew | (refine below_set2 ?_ ?_; (first | (simp; done) | (simp; omega))) | (refine below_step ?_ hb1)))⟩
 ·have HV := Lib.hid hv
  go_enter Tryz.func98, Tryz.ntmps98
  go_wp2_with (go_at_call 31; (refine (ref08_Less _ _ _ _ _).mono ?_; rintro e w1 ⟨rfl, hb1⟩; obtain ⟨c_hb1, f_hb1⟩ := bcell hb1; have z_hb1 := hb1.size; (try simp at z_hb1); (try have y0_hb1 : w.heap.size < w1.heap.size := by omega); (try have y1_hb1 : w.heap.size + 1 < w1.heap.size := by omega); (try have y2_hb1 : w.heap.size + 1 + 1 < w1.heap.size := by omega); (try have y3_hb1 : w.heap.size + 1 + 1 + 1 < w1.heap.size := by omega); (try have y4_hb1 : w.heap.size + 1 + 1 + 1 + 1 < w1.heap.size := by omega)))
  exact bodyPost_ret (v := .agg #[.int .i64 bx, .int .i64 by_, .int .i64 ax, .int .i64 ay]) (by simp [results, Tryz.results98]; go_simp) rfl ⟨by simp [ofB, HV.out], (by repeat (first | exact Below.refl _ _ | apply below_alloc | apply below_drewN | apply below_drew | (refine below_set2 ?_ ?_; (first | (simp; done) | (simp; omega))) | (refine below_step ?_ hb1)))⟩
attribute [local go_sem high] eqPt eqSg
theorem ref09_Within (q a b : Pt) (w : World) : Calls Tryz.prog 113 #[ptA q, ptA a, ptA b] w fun e w' => e = .returned (.bool (withinB q a b)) ∧ Below w.heap.size w w' := by
 have HS := Lib.hid (fun W => ref09_On q.1 q.2 a.1 a.2 b.1 b.2 W)
 cases hv : onB q a b
 ·have HR : Hid (withinB q a b = false) := withinB_off hv
  have HV : Hid (onB (q.1, q.2) (a.1, a.2) (b.1, b.2) = false) := hv
  go_enter Tryz.func113, Tryz.ntmps113
  go_wp2_with fail
  (refine (HS.out _).mono ?_; rintro e w1 ⟨rfl, hb1⟩; obtain ⟨c_hb1, f_hb1⟩ := bcell hb1; have z_hb1 := hb1.size; (try simp at z_hb1); (try have y0_hb1 : w.heap.size < w1.heap.size := by omega); (try have y1_hb1 : w.heap.size + 1 < w1.heap.size := by omega); (try have y2_hb1 : w.heap.size + 1 + 1 < w1.heap.size := by omega); (try have y3_hb1 : w.heap.size + 1 + 1 + 1 < w1.heap.size := by omega); (try have y4_hb1 : w.heap.size + 1 + 1 + 1 + 1 < w1.heap.size := by omega))
  rw [HV.out]
  go_wp2
  go_ret
  exact ⟨ret_bool HR.out.symm, (by repeat (first | exact Below.refl _ _ | apply below_alloc | apply below_drewN | apply below_drew | (refine below_set2 ?_ ?_; (first | (simp; done) | (simp; omega))) | (refine below_step ?_ hb1)))⟩
 ·have HV : Hid (onB (q.1, q.2) (a.1, a.2) (b.1, b.2) = true) := hv
  by_cases h1 : q = a
  ·have HR : Hid (withinB q a b = false) := withinB_at hv h1
   have hd := (ptB q a).trans (decide_eq_true h1)
   clear h1 hv
   go_enter Tryz.func113, Tryz.ntmps113
   go_wp2_with fail
   (refine (HS.out _).mono ?_; rintro e w1 ⟨rfl, hb1⟩; obtain ⟨c_hb1, f_hb1⟩ := bcell hb1; have z_hb1 := hb1.size; (try simp at z_hb1); (try have y0_hb1 : w.heap.size < w1.heap.size := by omega); (try have y1_hb1 : w.heap.size + 1 < w1.heap.size := by omega); (try have y2_hb1 : w.heap.size + 1 + 1 < w1.heap.size := by omega); (try have y3_hb1 : w.heap.size + 1 + 1 + 1 < w1.heap.size := by omega); (try have y4_hb1 : w.heap.size + 1 + 1 + 1 + 1 < w1.heap.size := by omega))
   rw [HV.out]
   go_wp2
   go_ret
   exact ⟨ret_bool HR.out.symm, (by repeat (first | exact Below.refl _ _ | apply below_alloc | apply below_drewN | apply below_drew | (refine below_set2 ?_ ?_; (first | (simp; done) | (simp; omega))) | (refine below_step ?_ hb1)))⟩
  ·have hd := (ptB q a).trans (decide_eq_false h1)
   by_cases h2 : q = b
   ·have HR : Hid (withinB q a b = false) := withinB_end hv h2
    have hd2 := (ptB q b).trans (decide_eq_true h2)
    clear h1 h2 hv
    go_enter Tryz.func113, Tryz.ntmps113
    go_wp2_with fail
    (refine (HS.out _).mono ?_; rintro e w1 ⟨rfl, hb1⟩; obtain ⟨c_hb1, f_hb1⟩ := bcell hb1; have z_hb1 := hb1.size; (try simp at z_hb1); (try have y0_hb1 : w.heap.size < w1.heap.size := by omega); (try have y1_hb1 : w.heap.size + 1 < w1.heap.size := by omega); (try have y2_hb1 : w.heap.size + 1 + 1 < w1.heap.size := by omega); (try have y3_hb1 : w.heap.size + 1 + 1 + 1 < w1.heap.size := by omega); (try have y4_hb1 : w.heap.size + 1 + 1 + 1 + 1 < w1.heap.size := by omega))
    rw [HV.out]
    go_wp2
    go_ret
    exact ⟨ret_bool HR.out.symm, (by repeat (first | exact Below.refl _ _ | apply below_alloc | apply below_drewN | apply below_drew | (refine below_set2 ?_ ?_; (first | (simp; done) | (simp; omega))) | (refine below_step ?_ hb1)))⟩
   ·have HR : Hid (withinB q a b = true) := withinB_in hv h1 h2
    have hd2 := (ptB q b).trans (decide_eq_false h2)
    clear h1 h2 hv
    go_enter Tryz.func113, Tryz.ntmps113
    go_wp2_with fail
    (refine (HS.out _).mono ?_; rintro e w1 ⟨rfl, hb1⟩; obtain ⟨c_hb1, f_hb1⟩ := bcell hb1; have z_hb1 := hb1.size; (try simp at z_hb1); (try have y0_hb1 : w.heap.size < w1.heap.size := by omega); (try have y1_hb1 : w.heap.size + 1 < w1.heap.size := by omega); (try have y2_hb1 : w.heap.size + 1 + 1 < w1.heap.size := by omega); (try have y3_hb1 : w.heap.size + 1 + 1 + 1 < w1.heap.size := by omega); (try have y4_hb1 : w.heap.size + 1 + 1 + 1 + 1 < w1.heap.size := by omega))
    rw [HV.out]
    go_wp2
    go_ret
    exact ⟨ret_bool HR.out.symm, (by repeat (first | exact Below.refl _ _ | apply below_alloc | apply below_drewN | apply below_drew | (refine below_set2 ?_ ?_; (first | (simp; done) | (simp; omega))) | (refine below_step ?_ hb1)))⟩
attribute [local go_sem high] eqPt eqSg
theorem ref20_good (s : Sg) (w : World) : Calls Tryz.prog 97 #[sgA s] w fun e w' => e = .returned (.bool (goodB s)) ∧ Below w.heap.size w w' := by
 have HE : Hid (goodB s = (decide (s.1 ≠ s.2) && (validB s.1 && validB s.2))) := rfl
 generalize goodB s = r at *
 have hd0 := ptB s.1 s.2
 have V1 := Lib.hid (fun W => ref08_Valid s.1.1 s.1.2 W)
 have V2 := Lib.hid (fun W => ref08_Valid s.2.1 s.2.2 W)
 by_cases h : s.1 = s.2
 ·have hd := hd0.trans (decide_eq_true h)
  have HR : Hid (r = false) := HE.out.trans (by simp [h])
  clear h hd0 HE
  go_enter Tryz.func97, Tryz.ntmps97
  go_wp2
  go_ret
  exact ⟨ret_bool HR.out.symm, bq⟩
 ·have hd := hd0.trans (decide_eq_false h)
  have HE2 : Hid (r = (validB s.1 && validB s.2)) := HE.out.trans (by simp [h])
  clear h hd0 HE
  cases h1 : validB s.1
  ·have HR : Hid (r = false) := HE2.out.trans (by rw [h1]; rfl)
   have H1 : Hid (validB (s.1.1, s.1.2) = false) := h1
   clear h1 HE2
   go_enter Tryz.func97, Tryz.ntmps97
   go_wp2_with fail
   (refine (V1.out _).mono ?_; rintro e w1 ⟨rfl, hb1⟩; obtain ⟨c_hb1, f_hb1⟩ := bcell hb1; have z_hb1 := hb1.size; (try simp at z_hb1); (try have y0_hb1 : w.heap.size < w1.heap.size := by omega); (try have y1_hb1 : w.heap.size + 1 < w1.heap.size := by omega); (try have y2_hb1 : w.heap.size + 1 + 1 < w1.heap.size := by omega); (try have y3_hb1 : w.heap.size + 1 + 1 + 1 < w1.heap.size := by omega); (try have y4_hb1 : w.heap.size + 1 + 1 + 1 + 1 < w1.heap.size := by omega))
   rw [H1.out]
   go_wp2
   go_ret
   exact ⟨ret_bool HR.out.symm, (by repeat (first | exact Below.refl _ _ | apply below_alloc | apply below_drewN | apply below_drew | (refine below_set2 ?_ ?_; (first | (simp; done) | (simp; omega))) | (refine below_step ?_ hb1)))⟩
  ·have HR : Hid (r = validB s.2) := HE2.out.trans (by rw [h1]; rfl)
   have H1 : Hid (validB (s.1.1, s.1.2) = true) := h1
   clear h1 HE2
   go_enter Tryz.func97, Tryz.ntmps97
   go_wp2_with fail
   (refine (V1.out _).mono ?_; rintro e w1 ⟨rfl, hb1⟩; obtain ⟨c_hb1, f_hb1⟩ := bcell hb1; have z_hb1 := hb1.size; (try simp at z_hb1); (try have y0_hb1 : w.heap.size < w1.heap.size := by omega); (try have y1_hb1 : w.heap.size + 1 < w1.heap.size := by omega); (try have y2_hb1 : w.heap.size + 1 + 1 < w1.heap.size := by omega); (try have y3_hb1 : w.heap.size + 1 + 1 + 1 < w1.heap.size := by omega); (try have y4_hb1 : w.heap.size + 1 + 1 + 1 + 1 < w1.heap.size := by omega))
   rw [H1.out]
   go_wp2_with fail
   (refine (V2.out _).mono ?_; rintro e w2 ⟨rfl, hb2⟩; obtain ⟨c_hb2, f_hb2⟩ := bcell hb2; have z_hb2 := hb2.size; (try simp at z_hb2); (try have y0_hb2 : w.heap.size < w2.heap.size := by omega); (try have y1_hb2 : w.heap.size + 1 < w2.heap.size := by omega); (try have y2_hb2 : w.heap.size + 1 + 1 < w2.heap.size := by omega); (try have y3_hb2 : w.heap.size + 1 + 1 + 1 < w2.heap.size := by omega); (try have y4_hb2 : w.heap.size + 1 + 1 + 1 + 1 < w2.heap.size := by omega))
   go_wp2
   go_ret
   exact ⟨ret_bool HR.out.symm, (by repeat (first | exact Below.refl _ _ | apply below_alloc | apply below_drewN | apply below_drew | (refine below_set2 ?_ ?_; (first | (simp; done) | (simp; omega))) | (refine below_step ?_ hb2) | (refine below_step ?_ hb1)))⟩
theorem ref09_sign (n : Int) (w : World) : Calls Tryz.prog 116 #[.int .i64 n] w fun e w' => e = .returned (.int .i64 (signZ n)) ∧ Below w.heap.size w w' := by
 go_enter Tryz.func116, Tryz.ntmps116
 go_wp2
 all_goals go_ret
 all_goals refine ⟨ret_int ?_, bq⟩
 all_goals (unfold signZ; omega)
end
section
open Go.RowKit Go.Proofs.YtaeflnbjeaoapaaGreatW.PrintLast

attribute [local go_sem high] eqPt eqSg
theorem insZ_at {α : Type} {less : α → α → Bool} {x : α} (d : α) : ∀ {l : List α} {k : Nat}, k ≤ l.length → (∀ j, j < k → less x (l.getD j d) = false) → (k < l.length → less x (l.getD k d) = true) → insZ less x l = l.take k ++ x :: l.drop k
 | [], k, h, _, _ => by simp [insZ]
 | y :: l, 0, h, _, h2 => by
  have := h2 (by simp)
  simp only [List.getD_cons_zero] at this
  unfold insZ; rw [if_pos this]; rfl
 | y :: l, k + 1, h, h1, h2 => by
  have h0 := h1 0 (by omega)
  simp only [List.getD_cons_zero] at h0
  have ih := insZ_at (x := x) (less := less) d (l := l) (k := k) (by simp at h; omega) (fun j hj => by have := h1 (j + 1) (by omega); simpa using this) (fun hk => by have := h2 (by simp; omega); simpa using this)
  unfold insZ
  rw [if_neg (by rw [h0]; decide), ih]; rfl
def insTo (l : Sgs) (s : Sg) (k i : Nat) : Sgs := l.take k ++ [s] ++ (l.take i).drop k
theorem insTo_start (l : Sgs) (s : Sg) (k : Nat) : insTo l s k k = l.take k ++ [s] := by simp [insTo]
theorem insTo_snoc (l : Sgs) (s : Sg) (k i : Nat) (hk : k ≤ i) (h : i < l.length) : insTo l s k (i + 1) = insTo l s k i ++ [sgD l i] := by
 unfold insTo
 rw [take_snoc l i ((0, 0), (0, 0)) h, List.drop_append_of_le_length (by rw [List.length_take]; omega), ← List.append_assoc]; rfl
theorem insTo_end (l : Sgs) (s : Sg) (k : Nat) : insTo l s k l.length = l.take k ++ s :: l.drop k := by simp [insTo]
theorem insTo_len (l : Sgs) (s : Sg) (k i : Nat) : (insTo l s k i).length ≤ l.length + 1 + l.length := by simp [insTo]; omega
set_option maxRecDepth 100000 in
set_option maxHeartbeats 4000000 in
theorem ref20_insert {ok : Nat → Prop} (l : Sgs) (A : Option Addr) (n c : Nat) (s : Sg) (w : World) (hr : Row Ty.sg ok w A l) (hn : n = l.length) (hlen : l.length ≤ 2000000) :
  Calls Tryz.prog 96 #[.slice A n c, sgA s] w fun e w' => ∃ v, e = .returned v ∧ Own1 Ty.sg 48 w.heap.size w' v (insZ lessS s l) ∧ Below w.heap.size w w' := by
 subst hn
 have HR := Lib.hid hr
 clear hr
 go_enter Tryz.func96, Tryz.ntmps96
 go_wp2
 go_loopw [5, 6] (fun v i wr => ∃ k : Nat, k ≤ l.length ∧ i = .int .i64 k ∧ wr.heap[w.heap.size]? = some (.cells #[.int .i64 s.1.1, .int .i64 s.1.2, .int .i64 s.2.1, .int .i64 s.2.2] 48 (0, 0)) ∧ Hid (Below w.heap.size w wr) ∧ Hid (Own1 Ty.sg 48 (w.heap.size + 1) wr v (l.take k)) ∧ Hid (∀ j, j < k → lessS s (l.getD j ((0, 0), (0, 0))) = false)) (fun _ i _ => l.length - (intOf i).toNat)
 case atStart => exact ⟨0, Nat.zero_le _, rfl, heap_alloc_new _ _, below_alloc (Below.refl _ _) _, OwnR.nil _ _ _ _ _, fun j hj => absurd hj (Nat.not_lt_zero j)⟩
 case round =>
  obtain ⟨k, hk, rfl, HX, HB, HO, HN⟩ := hrel
  have hsz := lt_of_block HX
  have hc0 := blk_cell HX 0 rfl
  have hc1 := blk_cell HX 1 rfl
  have hc2 := blk_cell HX 2 rfl
  have hc3 := blk_cell HX 3 rfl
  have hL : ((l.take k).length + 1) * 32 ≤ 140737488355328 := by rw [List.length_take]; omega
  have HL := Lib.hid hL
  clear hL
  by_cases hlt : k < l.length
  ·have HRk := Lib.hid (HR.out.below HB.out)
   obtain ⟨ad, rfl, hx0, hx1, hx2, hx3⟩ := HRk.out.sg_at k hlt
   obtain ⟨x, hx⟩ : ∃ x, x = sgD l k := ⟨_, rfl⟩
   have HT : Hid (l.take (k + 1) = l.take k ++ [x]) := by rw [hx]; exact take_snoc l k ((0, 0), (0, 0)) hlt
   have HXX := Lib.hid hx
   rw [← hx] at hx0 hx1 hx2 hx3
   clear hx
   cases hle : lessS s x
   ·have HLE := Lib.hid hle
    clear hle
    go_wp2_with fail
    go_still_tail 10, (by kernel_rfl)
    change wpList _ _ _ _ _ wr.drew
    go_wp2_with fail
    (refine (ref09_Less s x _).mono ?_; rintro e w1 ⟨rfl, hb1⟩)
    rw [HLE.out]
    have BR : Below wr.heap.size wr w1 := (by repeat (first | exact Below.refl _ _ | apply below_alloc | apply below_drewN | apply below_drew | (refine below_set2 ?_ ?_; (first | (simp; done) | (simp; omega))) | (refine below_step ?_ hb1)))
    have hy0 := cell_below BR hx0
    have hy1 := cell_below BR hx1
    have hy2 := cell_below BR hx2
    have hy3 := cell_below BR hx3
    have HX1 := Lib.hid (blk_below HX BR)
    have HO1 := Lib.hid (Own1.below HO.out BR)
    have HB1 := Lib.hid (below_step HB.out BR)
    have z1 := BR.size
    clear hb1 HX hc0 hc1 hc2 hc3 hx0 hx1 hx2 hx3 HRk
    go_wp2_with (at_builtin; refine app_one Ty.sg (W := w1) (w.heap.size + 1) rfl _ _ 46 48 _ 32 rfl Tryz.underlying46 infoSg rfl (by decide) u5 _ x _ _ rfl rfl rfl rfl HO1.out (by omega) HL.out ?_; intro v2 w4 HO2 hg1 hat1)
    have BZ : Below w.heap.size w w4 := below_own HB1.out hg1 (fun b e => by have := (OwnR.lt HO1.out b e).1; omega)
    have HO4 := Lib.hid (Own1.of HO2)
    have HX4 : w4.heap[w.heap.size]? = some (.cells #[.int .i64 s.1.1, .int .i64 s.1.2, .int .i64 s.2.1, .int .i64 s.2.2] 48 (0, 0)) := (hg1.block _ (lt_of_block HX1.out) (fun e => by have := (OwnR.lt HO1.out _ e.symm).1; omega)).trans HX1.out
    clear HO2 hat1 
    go_wp2
    go_roundw
    case rel => exact ⟨k + 1, by omega, by go_num, HX4, BZ, by rw [HT.out]; exact HO4.out, fun j hj => by rcases Nat.lt_succ_iff_lt_or_eq.1 hj with h | h; exact HN.out j h; subst h; exact (congrArg (lessS s) HXX.out.symm).trans HLE.out⟩
    case measure => simp [intOf]; omega
   ·have HLE := Lib.hid hle
    have HZ : Hid (insZ lessS s l = l.take k ++ s :: l.drop k) := insZ_at ((0, 0), (0, 0)) hk HN.out (fun _ => (congrArg (lessS s) HXX.out.symm).trans hle)
    clear hle
    go_wp2_with fail
    go_still_tail 10, (by kernel_rfl)
    change wpList _ _ _ _ _ wr.drew
    go_wp2_with fail
    (refine (ref09_Less s x _).mono ?_; rintro e W1 ⟨rfl, hb1⟩)
    rw [HLE.out]
    have BR : Below wr.heap.size wr W1 := (by repeat (first | exact Below.refl _ _ | apply below_alloc | apply below_drewN | apply below_drew | (refine below_set2 ?_ ?_; (first | (simp; done) | (simp; omega))) | (refine below_step ?_ hb1)))
    have HX1 := blk_below HX BR
    have hd0 := blk_cell HX1 0 rfl
    have hd1 := blk_cell HX1 1 rfl
    have hd2 := blk_cell HX1 2 rfl
    have hd3 := blk_cell HX1 3 rfl
    have HO1 := Lib.hid (Own1.below HO.out BR)
    have HB1 := Lib.hid (below_step HB.out BR)
    have z1 := BR.size
    clear hb1 HX hc0 hc1 hc2 hc3 hx0 hx1 hx2 hx3 HRk HXX BR HO HN HT HX1
    go_wp2_with (at_builtin; refine app_one Ty.sg (W := W1) (w.heap.size + 1) rfl _ _ 46 48 _ 32 rfl Tryz.underlying46 infoSg rfl (by decide) u5 _ s _ _ rfl rfl rfl rfl HO1.out (by omega) HL.out ?_; intro v2 w4 HO2 hg1 hat1)
    have BZ := Lib.hid (show Below w.heap.size w w4 from below_own HB1.out hg1 (fun b e => by have := (OwnR.lt HO1.out b e).1; omega))
    have HO4 : Hid (Own1 Ty.sg 48 (w.heap.size + 1) w4 v2 (insTo l s k k)) := by rw [insTo_start]; exact Own1.of HO2
    have hz4 : w.heap.size + 1 ≤ w4.heap.size := by have := hg1.size; omega
    clear HO2 hat1 hg1 HO1 HB1
    go_wp2
    go_loopw [5, 6] (fun v i wr => ∃ m : Nat, k ≤ m ∧ m ≤ l.length ∧ i = .int .i64 m ∧ w.heap.size + 1 ≤ wr.heap.size ∧ Hid (Below w.heap.size w wr) ∧ Hid (Own1 Ty.sg 48 (w.heap.size + 1) wr v (insTo l s k m))) (fun _ i _ => l.length - (intOf i).toNat)
    case atStart => exact ⟨k, Nat.le_refl _, hk, rfl, hz4, BZ.out, HO4.out⟩
    case round =>
     obtain ⟨m, hkm, hm, rfl, hz5, HB5, HO5⟩ := hrel
     have hL2 : ((insTo l s k m).length + 1) * 32 ≤ 140737488355328 := by have := insTo_len l s k m; omega
     have HL2 := Lib.hid hL2
     clear hL2
     by_cases hlt2 : m < l.length
     ·have HR5 := Lib.hid (HR.out.below HB5.out)
      obtain ⟨ad2, e2, hq0, hq1, hq2, hq3⟩ := HR5.out.sg_at m hlt2
      cases e2
      obtain ⟨y, hy⟩ : ∃ y, y = sgD l m := ⟨_, rfl⟩
      have HT2 : Hid (insTo l s k (m + 1) = insTo l s k m ++ [y]) := by rw [hy]; exact insTo_snoc l s k m hkm hlt2
      rw [← hy] at hq0 hq1 hq2 hq3
      clear hy
      go_wp2_with (at_builtin; refine app_one Ty.sg (W := wr) (w.heap.size + 1) rfl _ _ 46 48 _ 32 rfl Tryz.underlying46 infoSg rfl (by decide) u5 _ y _ _ rfl rfl rfl rfl HO5.out (by omega) HL2.out ?_; intro v3 w6 HO6 hg6 hat6)
      have B6 := Lib.hid (show Below w.heap.size w w6 from below_own HB5.out hg6 (fun b e => by have := (OwnR.lt HO5.out b e).1; omega))
      have HO7 := Lib.hid (Own1.of HO6)
      have hz6 := hg6.size
      clear HO6 hg6 hat6 hq0 hq1 hq2 hq3
      go_wp2
      go_roundw
      case rel => exact ⟨m + 1, by omega, by omega, by go_num, by omega, B6.out, by rw [HT2.out]; exact HO7.out⟩
      case measure => simp [intOf]; omega
     ·obtain rfl : m = l.length := by omega
      have HF : Hid (insZ lessS s l = insTo l s k l.length) := HZ.out.trans (insTo_end l s k).symm
      go_wp2
      go_ret
      exact ⟨_, rfl, by rw [HF.out]; exact Own1.base HO5.out (Nat.le_succ _), HB5.out⟩
  ·have HZ : Hid (insZ lessS s l = l.take k ++ s :: l.drop k) := insZ_at ((0, 0), (0, 0)) hk HN.out (fun h => absurd h hlt)
   go_wp2_with fail
   go_quiet (fail)
   have BR : Below wr.heap.size wr (wr.drewN nq) := bq
   obtain ⟨W1, hW1⟩ : ∃ W1, W1 = wr.drewN nq := ⟨_, rfl⟩
   rw [← hW1] at BR ⊢
   clear hW1
   have HX1 := blk_below HX BR
   have hd0 := blk_cell HX1 0 rfl
   have hd1 := blk_cell HX1 1 rfl
   have hd2 := blk_cell HX1 2 rfl
   have hd3 := blk_cell HX1 3 rfl
   have HO1 := Lib.hid (Own1.below HO.out BR)
   have HB1 := Lib.hid (below_step HB.out BR)
   have z1 := BR.size
   clear HX hc0 hc1 hc2 hc3 BR HO HN HX1 HB hlt
   go_wp2_with (at_builtin; refine app_one Ty.sg (W := W1) (w.heap.size + 1) rfl _ _ 46 48 _ 32 rfl Tryz.underlying46 infoSg rfl (by decide) u5 _ s _ _ rfl rfl rfl rfl HO1.out (by omega) HL.out ?_; intro v2 w4 HO2 hg1 hat1)
   have BZ := Lib.hid (show Below w.heap.size w w4 from below_own HB1.out hg1 (fun b e => by have := (OwnR.lt HO1.out b e).1; omega))
   have HO4 : Hid (Own1 Ty.sg 48 (w.heap.size + 1) w4 v2 (insTo l s k k)) := by rw [insTo_start]; exact Own1.of HO2
   have hz4 : w.heap.size + 1 ≤ w4.heap.size := by have := hg1.size; omega
   clear HO2 hat1 hg1 HO1 HB1
   go_wp2
   go_loopw [5, 6] (fun v i wr => ∃ m : Nat, k ≤ m ∧ m ≤ l.length ∧ i = .int .i64 m ∧ w.heap.size + 1 ≤ wr.heap.size ∧ Hid (Below w.heap.size w wr) ∧ Hid (Own1 Ty.sg 48 (w.heap.size + 1) wr v (insTo l s k m))) (fun _ i _ => l.length - (intOf i).toNat)
   case atStart => exact ⟨k, Nat.le_refl _, hk, rfl, hz4, BZ.out, HO4.out⟩
   case round =>
    obtain ⟨m, hkm, hm, rfl, hz5, HB5, HO5⟩ := hrel
    have hL2 : ((insTo l s k m).length + 1) * 32 ≤ 140737488355328 := by have := insTo_len l s k m; omega
    have HL2 := Lib.hid hL2
    clear hL2
    by_cases hlt2 : m < l.length
    ·have HR5 := Lib.hid (HR.out.below HB5.out)
     obtain ⟨ad2, e2, hq0, hq1, hq2, hq3⟩ := HR5.out.sg_at m hlt2
     cases e2
     obtain ⟨y, hy⟩ : ∃ y, y = sgD l m := ⟨_, rfl⟩
     have HT2 : Hid (insTo l s k (m + 1) = insTo l s k m ++ [y]) := by rw [hy]; exact insTo_snoc l s k m hkm hlt2
     rw [← hy] at hq0 hq1 hq2 hq3
     clear hy
     go_wp2_with (at_builtin; refine app_one Ty.sg (W := wr) (w.heap.size + 1) rfl _ _ 46 48 _ 32 rfl Tryz.underlying46 infoSg rfl (by decide) u5 _ y _ _ rfl rfl rfl rfl HO5.out (by omega) HL2.out ?_; intro v3 w6 HO6 hg6 hat6)
     have B6 := Lib.hid (show Below w.heap.size w w6 from below_own HB5.out hg6 (fun b e => by have := (OwnR.lt HO5.out b e).1; omega))
     have HO7 := Lib.hid (Own1.of HO6)
     have hz6 := hg6.size
     clear HO6 hg6 hat6 hq0 hq1 hq2 hq3
     go_wp2
     go_roundw
     case rel => exact ⟨m + 1, by omega, by omega, by go_num, by omega, B6.out, by rw [HT2.out]; exact HO7.out⟩
     case measure => simp [intOf]; omega
    ·obtain rfl : m = l.length := by omega
     have HF : Hid (insZ lessS s l = insTo l s k l.length) := HZ.out.trans (insTo_end l s k).symm
     go_wp2
     go_ret
     exact ⟨_, rfl, by rw [HF.out]; exact Own1.base HO5.out (Nat.le_succ _), HB5.out⟩
end
section
open Go.RowKit Go.Proofs.YtaeflnbjeaoapaaGreatW.PrintLast

attribute [local go_sem high] eqPt eqSg
def sortF (acc : Sgs) (s : Sg) : Sgs := if goodB s = true then insZ lessS (ofS s) acc else acc
def sortTo (l : Sgs) (k : Nat) : Sgs := (l.take k).foldl sortF []
theorem sortTo_snoc (l : Sgs) (k : Nat) (h : k < l.length) : sortTo l (k + 1) = sortF (sortTo l k) (sgD l k) := by
 unfold sortTo
 rw [take_snoc l k ((0, 0), (0, 0)) h, List.foldl_append]; rfl
theorem sortTo_end (l : Sgs) : sortTo l l.length = sortZ l := by
 unfold sortTo sortZ sortG canonZ
 rw [List.take_length, List.foldl_map, List.foldl_filter]; rfl
theorem sortTo_len (l : Sgs) : ∀ k, k ≤ l.length → (sortTo l k).length ≤ k
 | 0, _ => by simp [sortTo]
 | k + 1, h => by
  have ih := sortTo_len l k (by omega)
  rw [sortTo_snoc l k (by omega)]
  unfold sortF
  split
  ·have := (insZ_perm (less := lessS) (ofS (sgD l k)) (sortTo l k)).length_eq
   rw [this]; simp; omega
  ·omega
set_option maxRecDepth 100000 in
set_option maxHeartbeats 2000000 in
theorem ref20_Sort {ok : Nat → Prop} (l : Sgs) (A : Option Addr) (n c : Nat) (w : World) (hr : Row Ty.sg ok w A l) (hn : n = l.length) (hlen : l.length ≤ 2000000) :
  Calls Tryz.prog 58 #[.slice A n c] w fun e w' => ∃ v, e = .returned v ∧ Own1 Ty.sg 48 w.heap.size w' v (sortZ l) ∧ Below w.heap.size w w' := by
 subst hn
 have HR := Lib.hid hr
 clear hr
 go_enter Tryz.func58, Tryz.ntmps58
 go_wp2
 go_loopw [3, 4] (fun v i wr => ∃ k : Nat, k ≤ l.length ∧ i = .int .i64 k ∧ Hid (Below w.heap.size w wr) ∧ Hid (Own1 Ty.sg 48 w.heap.size wr v (sortTo l k))) (fun _ i _ => l.length - (intOf i).toNat)
 case atStart => exact ⟨0, Nat.zero_le _, rfl, Below.refl _ _, OwnR.nil _ _ _ _ _⟩
 case round =>
  obtain ⟨k, hk, rfl, HB, HO⟩ := hrel
  by_cases hlt : k < l.length
  ·have HRk := Lib.hid (HR.out.below HB.out)
   obtain ⟨ad, rfl, hx0, hx1, hx2, hx3⟩ := HRk.out.sg_at k hlt
   have HT := Lib.hid (sortTo_snoc l k hlt)
   have hsl := sortTo_len l k hk
   obtain ⟨x, hx⟩ : ∃ x, x = sgD l k := ⟨_, rfl⟩
   rw [← hx] at hx0 hx1 hx2 hx3 HT
   clear hx
   cases hg : goodB x
   ·have HG := Lib.hid hg
    have HS : Hid (sortTo l (k + 1) = sortTo l k) := HT.out.trans (if_neg (by rw [hg]; decide))
    clear hg HT
    go_wp2_with fail
    (refine (ref20_good x _).mono ?_; rintro e w1 ⟨rfl, hb1⟩)
    rw [HG.out]
    have HO1 := Lib.hid (Own1.below HO.out hb1)
    have HB1 := Lib.hid (below_step HB.out hb1)
    clear hb1 hx0 hx1 hx2 hx3 HRk
    go_wp2
    go_roundw
    case rel => exact ⟨k + 1, by omega, by go_num, HB1.out, by rw [HS.out]; exact HO1.out⟩
    case measure => simp [intOf]; omega
   ·have HG := Lib.hid hg
    have HS : Hid (sortTo l (k + 1) = insZ lessS (ofS x) (sortTo l k)) := HT.out.trans (if_pos hg)
    clear hg HT
    go_wp2_with fail
    (refine (ref20_good x _).mono ?_; rintro e w1 ⟨rfl, hb1⟩)
    rw [HG.out]
    have HO1 := Lib.hid (Own1.below HO.out hb1)
    have HB1 := Lib.hid (below_step HB.out hb1)
    have hy0 := cell_below hb1 hx0
    have hy1 := cell_below hb1 hx1
    have hy2 := cell_below hb1 hx2
    have hy3 := cell_below hb1 hx3
    obtain ⟨A3, c3, hv, hl3, hr3⟩ := HO1.out.reads
    subst hv
    have HR3 := Lib.hid hr3
    clear hb1 hx0 hx1 hx2 hx3 HRk HO HB hr3
    go_wp2_with fail
    have HR4 := Lib.hid (HR3.out.below (below_drew (Below.refl _ _)))
    refine start_ (n := 14) (S := fun w' => w'.cell? (ad.add (k * 4)) = some (.int .i64 x.1.1) ∧ w'.cell? ⟨(ad.add (k * 4)).block, (ad.add (k * 4)).off + 1, none⟩ = some (.int .i64 x.1.2) ∧ w'.cell? ⟨(ad.add (k * 4)).block, (ad.add (k * 4)).off + 2, none⟩ = some (.int .i64 x.2.1) ∧ w'.cell? ⟨(ad.add (k * 4)).block, (ad.add (k * 4)).off + 3, none⟩ = some (.int .i64 x.2.2)) (ds := [12]) #[Z,Z,Z,Z,Z,Z,Z,Z,Z,Z,Z,Z,Z,Z] (by kernel_rfl) rfl rfl ⟨hy0, hy1, hy2, hy3⟩ (fun hHeld => ?_)
    refine pu 0 16 ?_
    refine pu 1 17 ?_
    refine pu 2 18 ?_
    refine pu 3 19 ?_
    refine pu 4 20 ?_
    refine pu 6 22 ?_
    refine pu 7 23 ?_
    refine pu 8 24 ?_
    refine pu 9 25 ?_
    refine ta 5 21 hHeld ?_
    refine ta 10 26 hHeld ?_
    refine one_ (i := 11) (N := some 27) #[J,J,J,J,J,J,J,J,J,J,J,J,Z,Z] rfl rfl (by kernel_rfl) (by decide) (fun K hK => ?_)
    refine goes_ Tryz.func98 (by kernel_rfl) rfl #[.agg #[.int .i64 x.1.1, .int .i64 x.1.2], .agg #[.int .i64 x.2.1, .int .i64 x.2.2]] (by rfl) rfl rfl (by simp only [List.map_toArray, List.map_cons, List.map_nil]; rfl) ?_
    with_reducible refine (ref09_Of x.1.1 x.1.2 x.2.1 x.2.2 _).mono ?_
    rintro e w2 ⟨rfl, hb2⟩
    refine ⟨_, rfl, ?_⟩
    have HR5 := Lib.hid (HR4.out.below hb2)
    refine hK.out _ _ ⟨cell_below hb2 hy0, cell_below hb2 hy1, cell_below hb2 hy2, cell_below hb2 hy3⟩ (fun hHeld => ?_)
    clear hK K
    refine nm 27 ?_
    refine last_ (i := 12) (N := some 28) #[J,J,J,J,J,J,J,J,J,J,J,J,J,Z] rfl rfl (by kernel_rfl) (by decide) (fun K hK => ?_)
    refine goes_ Tryz.func96 (by kernel_rfl) rfl #[.slice A3 (sortTo l k).length c3, sgA (ofS x)] (by rfl) rfl rfl (by simp only [List.map_toArray, List.map_cons, List.map_nil]; rfl) ?_
    with_reducible refine (ref20_insert (sortTo l k) A3 _ c3 (ofS x) w2 HR5.out rfl (by omega)).mono ?_
    rintro e w3 ⟨v3, rfl, ho3, hb3⟩
    refine ⟨_, rfl, ?_⟩
    refine hK.out _ _ ?_
    clear hK K
    refine nm 28 ?_
    refine pu 13 3 ?_
    refine done_ (by kernel_rfl) ?_
    have HB3 := Lib.hid (show Below w.heap.size w w3 from (by repeat (first | exact Below.refl _ _ | apply below_alloc | apply below_drewN | apply below_drew | (refine below_set2 ?_ ?_; (first | (simp; done) | (simp; omega))) | (refine below_step ?_ hb3) | (refine below_step ?_ hb2) | (refine below_step ?_ HB1.out))))
    have HO3 := Lib.hid (Own1.base ho3 (Nat.le_trans HB1.out.size hb2.size))
    clear ho3 hb3 hb2 HO1 HB1 HR3 hy0 hy1 hy2 hy3
    go_wp2
    go_roundw
    case rel => exact ⟨k + 1, by omega, by go_num, HB3.out, by rw [HS.out]; exact HO3.out⟩
    case measure => simp [intOf]; omega
  ·obtain rfl : k = l.length := by omega
   go_wp2
   go_ret
   exact ⟨_, rfl, by rw [← sortTo_end]; exact HO.out, HB.out⟩
set_option maxRecDepth 100000 in
set_option maxHeartbeats 2000000 in
theorem ref20_Unique {ok : Nat → Prop} (l : Sgs) (A : Option Addr) (n c : Nat) (w : World) (hr : Row Ty.sg ok w A l) (hn : n = l.length) (hlen : l.length ≤ 2000000) :
  Calls Tryz.prog 62 #[.slice A n c] w fun e w' => ∃ v, e = .returned v ∧ Own1 Ty.sg 48 w.heap.size w' v (uniqZ l) ∧ Below w.heap.size w w' := by
 subst hn
 go_enter Tryz.func62, Tryz.ntmps62
 go_wp2_with fail
 refine (ref20_Sort l A _ c w hr rfl hlen).mono ?_
 rintro e w1 ⟨v, rfl, ho, hb⟩
 obtain ⟨A1, c1, rfl, hl1, hr1⟩ := ho.reads
 have HR := Lib.hid hr1
 have HB1 := Lib.hid hb
 have hsl : (sortZ l).length ≤ 2000000 := by
  refine Nat.le_trans ?_ hlen
  have := sortTo_len l l.length (Nat.le_refl _)
  rwa [sortTo_end] at this
 have HU : Hid (uniqZ l = compactZ ((sortZ l).take (sortZ l).length)) := by rw [List.take_length]; exact rfl
 have hsz := hb.size
 clear ho hr1 hb hr
 generalize sortZ l = s at *
 go_wp2
 go_loopw [4, 5] (fun v i wr => ∃ k : Nat, k ≤ s.length ∧ i = .int .i64 k ∧ Hid (Below w1.heap.size w1 wr) ∧ Hid (Own1 Ty.sg 48 w1.heap.size wr v (compactZ (s.take k)))) (fun _ i _ => s.length - (intOf i).toNat)
 case atStart => exact ⟨0, Nat.zero_le _, rfl, Below.refl _ _, OwnR.nil _ _ _ _ _⟩
 case round =>
  obtain ⟨k, hk, rfl, HB, HO⟩ := hrel
  by_cases hlt : k < s.length
  ·have HRk := Lib.hid (HR.out.below HB.out)
   obtain ⟨ad, rfl, hx0, hx1, hx2, hx3⟩ := HRk.out.sg_at k hlt
   have hL : ((compactZ (s.take k)).length + 1) * 32 ≤ 140737488355328 := by have := compact_take_len s k hk; omega
   have HL := Lib.hid hL
   have hz1 := HB.out.size
   clear hL
   rcases Nat.eq_zero_or_pos k with h0 | h0
   ·subst h0
    obtain ⟨x, hx⟩ : ∃ x, x = sgD s 0 := ⟨_, rfl⟩
    have HT : Hid (compactZ (s.take (0 + 1)) = compactZ (s.take 0) ++ [x]) := by rw [take_snoc s 0 ((0, 0), (0, 0)) hlt, hx]; exact rfl
    rw [← hx] at hx0 hx1 hx2 hx3
    clear hx
    go_wp2_with fail
    go_quiet (fail)
    have BR : Below wr.heap.size wr (wr.drewN nq) := bq
    obtain ⟨W1, hW1⟩ : ∃ W1, W1 = wr.drewN nq := ⟨_, rfl⟩
    rw [← hW1] at BR ⊢
    have hy0 : W1.cell? ad = some (.int .i64 x.1.1) := cell_below BR hx0
    have hy1 : W1.cell? ⟨ad.block, ad.off + 1, none⟩ = some (.int .i64 x.1.2) := cell_below BR hx1
    have hy2 : W1.cell? ⟨ad.block, ad.off + 2, none⟩ = some (.int .i64 x.2.1) := cell_below BR hx2
    have hy3 : W1.cell? ⟨ad.block, ad.off + 3, none⟩ = some (.int .i64 x.2.2) := cell_below BR hx3
    have HO1 := Lib.hid (Own1.below HO.out BR)
    have HB2 := Lib.hid (below_step HB.out BR)
    have z1 := BR.size
    clear hW1 hx0 hx1 hx2 hx3 BR HO HRk
    go_wp2_with (at_builtin; refine app_one Ty.sg (W := W1) w1.heap.size rfl _ _ 46 48 _ 32 rfl Tryz.underlying46 infoSg rfl (by decide) u4 _ x _ _ rfl rfl rfl rfl HO1.out (by omega) HL.out ?_; intro v2 w4 HO2 hg1 hat1)
    have BZ : Below w1.heap.size w1 w4 := below_own HB2.out hg1 (fun b e => (OwnR.lt HO1.out b e).1)
    have HO4 := Lib.hid (Own1.of HO2)
    clear HO2 hat1 hg1 HO1 HB2
    go_wp2
    go_roundw
    case rel => exact ⟨0 + 1, by omega, by go_num, BZ, by rw [HT.out]; exact HO4.out⟩
    case measure => simp [intOf]; omega
   ·obtain ⟨j, rfl⟩ : ∃ j, k = j + 1 := ⟨k - 1, by omega⟩
    have hw : IntKind.i64.wrap ((j : Int) + 1 - 1) = (j : Int) := (IntWalk.i64_in _ (by omega)).trans (by omega)
    have hw2 : IntKind.i64.wrap (((j + 1 : Nat) : Int) - 1) = (j : Int) := (IntWalk.i64_in _ (by omega)).trans (by omega)
    have t0 : (((j + 1 : Nat) : Int) == 0) = false := by rw [beq_eq_false_iff_ne]; omega
    have t1 : ((j : Int) + 1 == 0) = false := by rw [beq_eq_false_iff_ne]; omega
    obtain ⟨ad2, e2, hz0, hz1', hz2, hz3⟩ := HRk.out.sg_at j (by omega)
    cases e2
    obtain ⟨x, hx⟩ : ∃ x, x = sgD s (j + 1) := ⟨_, rfl⟩
    obtain ⟨y, hy⟩ : ∃ y, y = sgD s j := ⟨_, rfl⟩
    rw [← hx] at hx0 hx1 hx2 hx3
    rw [← hy] at hz0 hz1' hz2 hz3
    have hd0 := sgB x y
    by_cases hq : x = y
    ·have hd := hd0.trans (decide_eq_true hq)
     have HT : Hid (compactZ (s.take (j + 1 + 1)) = compactZ (s.take (j + 1))) := compact_eq s ((0, 0), (0, 0)) (j + 1) (by omega) hlt (hx.symm.trans (hq.trans hy))
     clear hx hy hq hd0
     go_wp2_with fail
     go_quiet (fail)
     have BR : Below wr.heap.size wr (wr.drewN nq) := bq
     have HO1 := Lib.hid (Own1.below HO.out BR)
     have HB2 := Lib.hid (below_step HB.out BR)
     clear BR HO HRk
     go_wp2
     go_roundw
     case rel => exact ⟨j + 1 + 1, by omega, by go_num, HB2.out, by rw [HT.out]; exact HO1.out⟩
     case measure => simp [intOf]; omega
    ·have hd := hd0.trans (decide_eq_false hq)
     have HT : Hid (compactZ (s.take (j + 1 + 1)) = compactZ (s.take (j + 1)) ++ [x]) := by rw [hx]; exact compact_ne s ((0, 0), (0, 0)) (j + 1) (by omega) hlt (fun h => hq (hx.trans (h.trans hy.symm)))
     clear hx hy hq hd0
     go_wp2_with fail
     go_quiet (fail)
     have BR : Below wr.heap.size wr (wr.drewN nq) := bq
     obtain ⟨W1, hW1⟩ : ∃ W1, W1 = wr.drewN nq := ⟨_, rfl⟩
     rw [← hW1] at BR ⊢
     have hy0 := cell_below BR hx0
     have hy1 := cell_below BR hx1
     have hy2 := cell_below BR hx2
     have hy3 := cell_below BR hx3
     have HO1 := Lib.hid (Own1.below HO.out BR)
     have HB2 := Lib.hid (below_step HB.out BR)
     have z1 := BR.size
     clear hW1 hx0 hx1 hx2 hx3 BR HO HRk hz0 hz1' hz2 hz3
     go_wp2_with (at_builtin; refine app_one Ty.sg (W := W1) w1.heap.size rfl _ _ 46 48 _ 32 rfl Tryz.underlying46 infoSg rfl (by decide) u4 _ x _ _ rfl rfl rfl rfl HO1.out (by omega) HL.out ?_; intro v2 w4 HO2 hg1 hat1)
     have BZ : Below w1.heap.size w1 w4 := below_own HB2.out hg1 (fun b e => (OwnR.lt HO1.out b e).1)
     have HO4 := Lib.hid (Own1.of HO2)
     clear HO2 hat1 hg1 HO1 HB2
     go_wp2
     go_roundw
     case rel => exact ⟨j + 1 + 1, by omega, by go_num, BZ, by rw [HT.out]; exact HO4.out⟩
     case measure => simp [intOf]; omega
  ·obtain rfl : k = s.length := by omega
   go_wp2
   go_ret
   exact ⟨_, rfl, by rw [HU.out]; exact Own1.base HO.out hsz, below_step HB1.out HB.out⟩
theorem ref20_Same {ok ok' : Nat → Prop} (a b : Sgs) (A B : Option Addr) (n m c d : Nat) (w : World) (ha : Row Ty.sg ok w A a) (hb : Row Ty.sg ok' w B b) (hn : n = a.length) (hm : m = b.length) :
  Calls Tryz.prog 56 #[.slice A n c, .slice B m d] w fun e w' => e = .returned (.bool (decide (a = b))) ∧ Below w.heap.size w w' := by
 subst hn hm
 have hl1 := ha.len
 have hl2 := hb.len
 have HA := Lib.hid ha
 have HB := Lib.hid hb
 clear ha hb
 by_cases hl : a.length = b.length
 ·have HL := Lib.hid hl
  have hlb : ((a.length : Int) != (b.length : Int)) = false := by simp [hl]
  have hlb2 : (a.length == b.length) = true := by simp [hl]
  clear hl
  go_enter Tryz.func56, Tryz.ntmps56
  go_wp2
  go_loopw [5] (fun i wr => ∃ k : Nat, k ≤ a.length ∧ i = .int .i64 k ∧ Hid (Below w.heap.size w wr) ∧ Hid (a.take k = b.take k)) (fun i _ => a.length - (intOf i).toNat)
  case atStart => exact ⟨0, Nat.zero_le _, rfl, Below.refl _ _, by simp [Hid]⟩
  case round =>
   obtain ⟨k, hk, rfl, hbl, hall⟩ := hrel
   by_cases hlt : k < a.length
   ·have hlt2 : k < b.length := by have := HL.out; omega
    obtain ⟨ad, rfl, hx0, hx1, hx2, hx3⟩ := (HA.out.below hbl.out).sg_at k hlt
    obtain ⟨bd, rfl, hz0, hz1, hz2, hz3⟩ := (HB.out.below hbl.out).sg_at k hlt2
    have hd0 := sgB (sgD a k) (sgD b k)
    by_cases hq : sgD a k = sgD b k
    ·have hd := hd0.trans (decide_eq_true hq)
     have HQ := Lib.hid hq
     clear hd0 hq
     go_wp2_with fail
     go_quiet (fail)
     go_wp2
     go_roundw
     case rel => exact ⟨k + 1, by omega, by go_num, (by repeat (first | exact Below.refl _ _ | apply below_alloc | apply below_drewN | apply below_drew | (refine below_set2 ?_ ?_; (first | (simp; done) | (simp; omega))) | (refine below_step ?_ hbl.out))), take_eq_step ((0, 0), (0, 0)) hall.out hlt hlt2 HQ.out⟩
     case measure => simp [intOf]; omega
    ·have hd := hd0.trans (decide_eq_false hq)
     have HQ := Lib.hid hq
     clear hd0 hq
     go_wp2_with fail
     go_quiet (fail)
     go_wp2
     go_ret
     exact ⟨ret_bool (by rw [eq_comm, decide_eq_false_iff_not]; exact take_ne ((0, 0), (0, 0)) HQ.out), (by repeat (first | exact Below.refl _ _ | apply below_alloc | apply below_drewN | apply below_drew | (refine below_set2 ?_ ?_; (first | (simp; done) | (simp; omega))) | (refine below_step ?_ hbl.out)))⟩
   ·go_wp2
    go_ret
    refine ⟨ret_bool ?_, hbl.out⟩
    have := hall.out
    rw [List.take_of_length_le (by omega), List.take_of_length_le (by have := HL.out; omega)] at this
    simp [this]
 ·have HL := Lib.hid hl
  have hlb : ((a.length : Int) != (b.length : Int)) = true := by simp; omega
  have hlb2 : (a.length == b.length) = false := by simpa using hl
  clear hl
  go_enter Tryz.func56, Tryz.ntmps56
  go_wp2
  go_ret
  exact ⟨ret_bool (by rw [eq_comm, decide_eq_false_iff_not]; exact fun h => HL.out (by rw [h])), Below.refl _ _⟩
end
end Go.Proofs.YtaeflnbjeaoapaaGreat
