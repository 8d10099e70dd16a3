/- Contract of mesh.Check. Contracts of simplify.Mesh, Points, Size and Removable. -/
import Derived.Test.YtaeflnbjeaoapaaGreatKPW
import Derived.Test.YtaeflnbjeaoapaaGreatKP13
import Derived.Test.YtaeflnbjeaoapaaGreatKP11
import Derived.Test.YtaeflnbjeaoapaaGreatKP9
import Derived.WalkMore
namespace Go.Proofs.YtaeflnbjeaoapaaGreat
set_option linter.unusedVariables false
set_option linter.unusedSimpArgs false
section
open Go.RowKit Go.Proofs.YtaeflnbjeaoapaaGreatW.PrintLast

attribute [local go_sem high] eqPt eqSg
theorem chk_bad {m : Msh} {k : Nat} (hk : k < m.length) (h : edgeB m k = false) : checkM m = 6 := by
 unfold checkM; rw [if_pos (List.any_eq_true.2 ⟨k, List.mem_range.2 hk, by rw [h]; rfl⟩)]
theorem chk_all {m : Msh} (h : ∀ j, j < m.length → edgeB m j = true) : (List.range m.length).any (fun i => !edgeB m i) = false := by
 rw [List.any_eq_false]; intro j hj; rw [h j (List.mem_range.1 hj)]; decide
theorem chk_dirty {m : Msh} (h : ∀ j, j < m.length → edgeB m j = true) (hc : cleanZ (segsM m) = false) : checkM m = 13 := by
 unfold checkM; rw [chk_all h, if_neg (by decide)]; exact if_pos hc
theorem chk_form {m : Msh} (h : ∀ j, j < m.length → edgeB m j = true) (hc : cleanZ (segsM m) = true) : checkM m = if (buildZ (ownZ m)).2 = 0 ∧ (buildZ (ownZ m)).1 = m then 0 else 4 := by
 unfold checkM; rw [chk_all h, if_neg (by decide)]
 exact if_neg (by show ¬ cleanZ (segsM m) = false; rw [hc]; decide)
theorem great_snoc (m : Msh) (k : Nat) (h : k < m.length) : greatZ (m.take (k + 1)) = topL (topL (greatZ (m.take k)) (egD m k).2.1) (egD m k).2.2 := by
 unfold greatZ; rw [take_snoc m k (((0, 0), (0, 0)), ([], [])) h, List.foldl_append]; rfl
theorem few_take {m : Msh} (h : fewM m = true) (k : Nat) : fewM (m.take k) = true := by
 unfold fewM at h ⊢
 rw [Bool.and_eq_true, decide_eq_true_eq, List.all_eq_true] at h ⊢
 exact ⟨Nat.le_trans (by rw [List.length_take]; omega) h.1, fun e he => h.2 e (List.mem_of_mem_take he)⟩
theorem segs_snoc (m : Msh) (k : Nat) (h : k < m.length) : segsM (m.take (k + 1)) = segsM (m.take k) ++ [(egD m k).1] := by
 unfold segsM; rw [take_snoc m k (((0, 0), (0, 0)), ([], [])) h, List.map_append]; rfl
theorem segs_len (m : Msh) (k : Nat) (h : k ≤ m.length) : (segsM (m.take k)).length = k := by
 unfold segsM; rw [List.length_map, List.length_take]; omega
theorem segs_at (m : Msh) (k j : Nat) (h : j < k) (hk : k ≤ m.length) : sgD (segsM (m.take k)) j = (egD m j).1 := by
 rw [sgD_eq (by rw [segs_len m k hk]; exact h), egD_eq (by omega)]
 simp [segsM]
theorem topL_pos {g : Int} {l : List Int} (h : 0 < l.length) : topL g l = max g (inD l (l.length - 1)) := by
 unfold topL; rw [if_neg (fun e => by rw [e] at h; exact absurd h (Nat.lt_irrefl _))]; rfl
theorem topL_nil {g : Int} {l : List Int} (h : ¬ 0 < l.length) : topL g l = g := by
 unfold topL; rw [if_pos (List.eq_nil_of_length_eq_zero (by omega))]
def gAt (g : Int) (L R : List Int) (j : Nat) : Int := if j = 0 then g else if j = 1 then topL g L else topL (topL g L) R
theorem own_snoc (m : Msh) (n k : Nat) (h : k < n) : ((List.range k).map (fun i : Nat => boundsZ m (i : Int)) ++ List.replicate (n - k) []).set k (boundsZ m (k : Int)) = (List.range (k + 1)).map (fun i : Nat => boundsZ m (i : Int)) ++ List.replicate (n - (k + 1)) [] := by
 rw [List.range_succ, List.map_append, List.append_assoc, List.set_append_right _ _ (by rw [List.length_map, List.length_range]; exact Nat.le_refl _), List.length_map, List.length_range, Nat.sub_self, show n - k = (n - (k + 1)) + 1 by omega, List.replicate_succ]
 rfl
set_option maxRecDepth 100000 in
set_option maxHeartbeats 4000000 in
theorem mesh_Check {ok : Nat → Prop} (m : Msh) (A : Option Addr) (n c : Nat) (w : World) (hr : Row Ty.edge ok w A m) (hn : n = m.length) (hf : fewM m = true) :
  Calls Tryz.prog 12 #[.slice A n c] w fun e w' => e = .returned (.int .i64 (checkM m)) ∧ Below w.heap.size w w' := by
 subst hn
 have HR := Lib.hid hr
 have hmx := hr.len
 have hm40 := (few_all hf).1
 have HFW := Lib.hid hf
 clear hr hf
 go_enter Tryz.func12, Tryz.ntmps12
 go_wp2
 go_loopw [3, 4, 16] (fun g v i wr => ∃ k : Nat, k ≤ m.length ∧ i = .int .i64 k ∧ g = .int .i64 (greatZ (m.take k)) ∧ Hid (Below w.heap.size w wr) ∧ Hid (Own1 Ty.sg 48 w.heap.size wr v (segsM (m.take k))) ∧ Hid (∀ j, j < k → edgeB m j = true)) (fun _ _ i _ => m.length - (intOf i).toNat)
 case atStart => exact ⟨0, Nat.zero_le _, rfl, rfl, Below.refl _ _, OwnR.nil _ _ _ _ _, Lib.hid (fun j h => by omega)⟩
 case round =>
  obtain ⟨k, hk, rfl, rfl, HB, HO, HN⟩ := hrel
  have hszw := HB.out.size
  have HG := great_bd (few_take HFW.out k)
  by_cases hlt : k < m.length
  ·obtain ⟨ad, A1, c1, A2, c2, rfl, hx0, hx1, hx2, hx3, hx4, hx5, hc1, hr1, hc2, hr2⟩ := (HR.out.below HB.out).edge_at k hlt
   have HBAD := Lib.hid (fun h => chk_bad hlt h)
   have HEB : Hid (edgeB m k = ((validB (egD m k).1.1 && validB (egD m k).1.2) && (lessB (egD m k).1.1 (egD m k).1.2 && ((decide (k = 0) || lessS (egD m (k - 1)).1 (egD m k).1) && (areasB (egD m k).2.1 && areasB (egD m k).2.2))))) := rfl
   have HGS := Lib.hid (great_snoc m k hlt)
   have HSS := Lib.hid (segs_snoc m k hlt)
   obtain ⟨hsl1, hsl2⟩ : (segsM (m.take k)).length ≤ k ∧ k ≤ (segsM (m.take k)).length := by rw [segs_len m k hk]; exact ⟨Nat.le_refl _, Nat.le_refl _⟩
   have HPV := Lib.hid (fun h => segs_at m k (k - 1) h hk)
   have HNX : Hid (edgeB m k = true → ∀ j, j < k + 1 → edgeB m j = true) := Lib.hid (fun h j hj => if e : j = k then by rw [e]; exact h else HN.out j (by omega))
   generalize (egD m (k - 1)).1 = pv at *
   generalize egD m k = e at *
   obtain ⟨⟨⟨a1, a2⟩, ⟨a3, a4⟩⟩, L, R⟩ := e
   simp only at hx0 hx1 hx2 hx3 hx4 hx5 hc1 hr1 hc2 hr2 HEB HGS HSS
   generalize edgeB m k = eb at *
   generalize segsM (m.take k) = al at *
   generalize greatZ (m.take k) = gr at *
   go_wp2_with fail
   obtain ⟨W0, hW0⟩ : ∃ W0, W0 = (wr.alloc (.cells #[.int .i64 a1, .int .i64 a2, .int .i64 a3, .int .i64 a4, .slice A1 L.length c1, .slice A2 R.length c2] 31)).alloc (.cells #[.int .i64 a1, .int .i64 a2, .int .i64 a3, .int .i64 a4] 48) := ⟨_, rfl⟩
   rw [← hW0]
   have B0 : Below wr.heap.size wr W0 := by rw [hW0]; exact bq
   have HE0 : W0.heap[wr.heap.size]? = some (.cells #[.int .i64 a1, .int .i64 a2, .int .i64 a3, .int .i64 a4, .slice A1 L.length c1, .slice A2 R.length c2] 31 (0, 0)) := by rw [hW0]; exact blk_alloc (heap_alloc_new _ _) _
   have HS0 : W0.heap[wr.heap.size + 1]? = some (.cells #[.int .i64 a1, .int .i64 a2, .int .i64 a3, .int .i64 a4] 48 (0, 0)) := by rw [hW0]; have := heap_alloc_new (wr.alloc (.cells #[.int .i64 a1, .int .i64 a2, .int .i64 a3, .int .i64 a4, .slice A1 L.length c1, .slice A2 R.length c2] 31)) (.cells #[.int .i64 a1, .int .i64 a2, .int .i64 a3, .int .i64 a4] 48); simpa using this
   have HO0 := Lib.hid (Own1.below HO.out B0)
   have HL0 := Lib.hid (hr1.below B0)
   have HR0 := Lib.hid (hr2.below B0)
   have BW0 := Lib.hid (below_step HB.out B0)
   have hz0 := lt_of_block HS0
   clear hW0 hx0 hx1 hx2 hx3 hx4 hx5 hr1 hr2 B0 HO HB HN
   have t0 := blk_cell HS0 0 rfl
   have t1 := blk_cell HS0 1 rfl
   have t2 := blk_cell HS0 2 rfl
   have t3 := blk_cell HS0 3 rfl
   have CVA := Lib.hid (fun W => grid_Valid a1 a2 W)
   have CVB := Lib.hid (fun W => grid_Valid a3 a4 W)
   have CLS := Lib.hid (fun W => grid_Less a1 a2 a3 a4 W)
   have CSL : Hid (∀ W, Calls Tryz.prog 21 #[sgA pv, sgA ((a1, a2), (a3, a4))] W fun e w' => e = .returned (.bool (lessS pv ((a1, a2), (a3, a4)))) ∧ Below W.heap.size W w') := Lib.hid (fun W => (seg_Less pv ((a1, a2), (a3, a4)) W).mono (fun e w' h => ⟨h.1, h.2.below⟩))
   generalize validB (a1, a2) = vA at *
   generalize validB (a3, a4) = vB at *
   generalize lessB (a1, a2) (a3, a4) = vL at *
   generalize lessS pv ((a1, a2), (a3, a4)) = vS at *
   cases vA
   ·skip
    refine start_ (n := 32) (S := fun w' => w'.cell? ⟨wr.heap.size + 1, 0, none⟩ = some (.int .i64 a1) ∧ w'.cell? ⟨wr.heap.size + 1, 1, none⟩ = some (.int .i64 a2) ∧ w'.cell? ⟨wr.heap.size + 1, 2, none⟩ = some (.int .i64 a3) ∧ w'.cell? ⟨wr.heap.size + 1, 3, none⟩ = some (.int .i64 a4)) (ds := []) #[Z,Z,Z,Z,Z,Z,Z,Z,Z,Z,Z,Z,Z,Z,Z,Z,Z,Z,Z,Z,Z,Z,Z,Z,Z,Z,Z,Z,Z,Z,Z,Z] (by kernel_rfl) rfl rfl ⟨t0, t1, t2, t3⟩ (fun hHeld => ?_)
    refine pu 0 26 ?_
    refine ta 1 27 hHeld ?_
    refine one_ (i := 2) (N := some 28) #[J,J,J,Z,Z,Z,Z,Z,Z,Z,Z,Z,Z,Z,Z,Z,Z,Z,Z,Z,Z,Z,Z,Z,Z,Z,Z,Z,Z,Z,Z,Z] rfl rfl (by kernel_rfl) (by decide) (fun K hK => ?_)
    refine goes_ Tryz.func19 (by kernel_rfl) rfl #[.agg #[.int .i64 a1, .int .i64 a2]] (by rfl) rfl rfl (by simp only [List.map_toArray, List.map_cons, List.map_nil]; rfl) ?_
    with_reducible refine (CVA.out _).mono ?_
    rintro e v2 ⟨rfl, h2⟩
    refine ⟨_, rfl, ?_⟩
    refine hK.out _ _ ⟨cell_below h2 (t0), cell_below h2 (t1), cell_below h2 (t2), cell_below h2 (t3)⟩ (fun hHeld => ?_)
    clear hK K
    refine nm 28 ?_
    refine pu 3 29 ?_
    refine pu 4 30 ?_
    refine pn 5 31 ?_
    refine pn 6 32 ?_
    refine pn 7 33 ?_
    refine pn 8 34 ?_
    refine pu 9 35 ?_
    refine pu 10 36 ?_
    refine pn 11 37 ?_
    refine pn 12 38 ?_
    refine pn 13 39 ?_
    refine pn 14 40 ?_
    refine pn 15 41 ?_
    refine pn 16 42 ?_
    refine pu 17 43 ?_
    refine pu 18 44 ?_
    refine pn 19 45 ?_
    refine pn 20 46 ?_
    refine pn 21 47 ?_
    refine pn 22 48 ?_
    refine pn 23 49 ?_
    refine pn 24 50 ?_
    refine pn 25 51 ?_
    refine pn 26 52 ?_
    refine pn 27 53 ?_
    refine pn 28 54 ?_
    refine pn 29 55 ?_
    refine pn 30 56 ?_
    refine pu 31 57 ?_
    refine done_ (by kernel_rfl) ?_
    have B7 : Hid (Below w.heap.size w v2) := Lib.hid ((by repeat (first | exact Below.refl _ _ | apply below_alloc | apply below_drewN | apply below_drew | (refine below_set2 ?_ ?_; (first | (simp; done) | (simp; omega))) | (refine below_step ?_ h2) | (refine below_step ?_ BW0.out))))
    clear t0 t1 t2 t3
    have HF := Lib.hid (HBAD.out (by rw [HEB.out]; simp))
    go_wp2
    go_ret
    exact ⟨ret_int HF.out.symm, B7.out⟩
   ·cases vB
    ·skip
     refine start_ (n := 32) (S := fun w' => w'.cell? ⟨wr.heap.size + 1, 0, none⟩ = some (.int .i64 a1) ∧ w'.cell? ⟨wr.heap.size + 1, 1, none⟩ = some (.int .i64 a2) ∧ w'.cell? ⟨wr.heap.size + 1, 2, none⟩ = some (.int .i64 a3) ∧ w'.cell? ⟨wr.heap.size + 1, 3, none⟩ = some (.int .i64 a4)) (ds := []) #[Z,Z,Z,Z,Z,Z,Z,Z,Z,Z,Z,Z,Z,Z,Z,Z,Z,Z,Z,Z,Z,Z,Z,Z,Z,Z,Z,Z,Z,Z,Z,Z] (by kernel_rfl) rfl rfl ⟨t0, t1, t2, t3⟩ (fun hHeld => ?_)
     refine pu 0 26 ?_
     refine ta 1 27 hHeld ?_
     refine one_ (i := 2) (N := some 28) #[J,J,J,Z,Z,Z,Z,Z,Z,Z,Z,Z,Z,Z,Z,Z,Z,Z,Z,Z,Z,Z,Z,Z,Z,Z,Z,Z,Z,Z,Z,Z] rfl rfl (by kernel_rfl) (by decide) (fun K hK => ?_)
     refine goes_ Tryz.func19 (by kernel_rfl) rfl #[.agg #[.int .i64 a1, .int .i64 a2]] (by rfl) rfl rfl (by simp only [List.map_toArray, List.map_cons, List.map_nil]; rfl) ?_
     with_reducible refine (CVA.out _).mono ?_
     rintro e v2 ⟨rfl, h2⟩
     refine ⟨_, rfl, ?_⟩
     refine hK.out _ _ ⟨cell_below h2 (t0), cell_below h2 (t1), cell_below h2 (t2), cell_below h2 (t3)⟩ (fun hHeld => ?_)
     clear hK K
     refine nm 28 ?_
     refine pu 3 29 ?_
     refine pu 4 30 ?_
     refine pu 5 31 ?_
     refine ta 6 32 hHeld ?_
     refine one_ (i := 7) (N := some 33) #[J,J,J,J,J,J,J,J,Z,Z,Z,Z,Z,Z,Z,Z,Z,Z,Z,Z,Z,Z,Z,Z,Z,Z,Z,Z,Z,Z,Z,Z] rfl rfl (by kernel_rfl) (by decide) (fun K hK => ?_)
     refine goes_ Tryz.func19 (by kernel_rfl) rfl #[.agg #[.int .i64 a3, .int .i64 a4]] (by rfl) rfl rfl (by simp only [List.map_toArray, List.map_cons, List.map_nil]; rfl) ?_
     with_reducible refine (CVB.out _).mono ?_
     rintro e v7 ⟨rfl, h7⟩
     refine ⟨_, rfl, ?_⟩
     refine hK.out _ _ ⟨cell_below h7 (cell_below h2 (t0)), cell_below h7 (cell_below h2 (t1)), cell_below h7 (cell_below h2 (t2)), cell_below h7 (cell_below h2 (t3))⟩ (fun hHeld => ?_)
     clear hK K
     refine nm 33 ?_
     refine pu 8 34 ?_
     refine pu 9 35 ?_
     refine pu 10 36 ?_
     refine pn 11 37 ?_
     refine pn 12 38 ?_
     refine pn 13 39 ?_
     refine pn 14 40 ?_
     refine pn 15 41 ?_
     refine pn 16 42 ?_
     refine pu 17 43 ?_
     refine pu 18 44 ?_
     refine pn 19 45 ?_
     refine pn 20 46 ?_
     refine pn 21 47 ?_
     refine pn 22 48 ?_
     refine pn 23 49 ?_
     refine pn 24 50 ?_
     refine pn 25 51 ?_
     refine pn 26 52 ?_
     refine pn 27 53 ?_
     refine pn 28 54 ?_
     refine pn 29 55 ?_
     refine pn 30 56 ?_
     refine pu 31 57 ?_
     refine done_ (by kernel_rfl) ?_
     have B7 : Hid (Below w.heap.size w v7) := Lib.hid ((by repeat (first | exact Below.refl _ _ | apply below_alloc | apply below_drewN | apply below_drew | (refine below_set2 ?_ ?_; (first | (simp; done) | (simp; omega))) | (refine below_step ?_ h7) | (refine below_step ?_ h2) | (refine below_step ?_ BW0.out))))
     clear t0 t1 t2 t3
     have HF := Lib.hid (HBAD.out (by rw [HEB.out]; simp))
     go_wp2
     go_ret
     exact ⟨ret_int HF.out.symm, B7.out⟩
    ·cases vL
     ·skip
      refine start_ (n := 32) (S := fun w' => w'.cell? ⟨wr.heap.size + 1, 0, none⟩ = some (.int .i64 a1) ∧ w'.cell? ⟨wr.heap.size + 1, 1, none⟩ = some (.int .i64 a2) ∧ w'.cell? ⟨wr.heap.size + 1, 2, none⟩ = some (.int .i64 a3) ∧ w'.cell? ⟨wr.heap.size + 1, 3, none⟩ = some (.int .i64 a4)) (ds := []) #[Z,Z,Z,Z,Z,Z,Z,Z,Z,Z,Z,Z,Z,Z,Z,Z,Z,Z,Z,Z,Z,Z,Z,Z,Z,Z,Z,Z,Z,Z,Z,Z] (by kernel_rfl) rfl rfl ⟨t0, t1, t2, t3⟩ (fun hHeld => ?_)
      refine pu 0 26 ?_
      refine ta 1 27 hHeld ?_
      refine one_ (i := 2) (N := some 28) #[J,J,J,Z,Z,Z,Z,Z,Z,Z,Z,Z,Z,Z,Z,Z,Z,Z,Z,Z,Z,Z,Z,Z,Z,Z,Z,Z,Z,Z,Z,Z] rfl rfl (by kernel_rfl) (by decide) (fun K hK => ?_)
      refine goes_ Tryz.func19 (by kernel_rfl) rfl #[.agg #[.int .i64 a1, .int .i64 a2]] (by rfl) rfl rfl (by simp only [List.map_toArray, List.map_cons, List.map_nil]; rfl) ?_
      with_reducible refine (CVA.out _).mono ?_
      rintro e v2 ⟨rfl, h2⟩
      refine ⟨_, rfl, ?_⟩
      refine hK.out _ _ ⟨cell_below h2 (t0), cell_below h2 (t1), cell_below h2 (t2), cell_below h2 (t3)⟩ (fun hHeld => ?_)
      clear hK K
      refine nm 28 ?_
      refine pu 3 29 ?_
      refine pu 4 30 ?_
      refine pu 5 31 ?_
      refine ta 6 32 hHeld ?_
      refine one_ (i := 7) (N := some 33) #[J,J,J,J,J,J,J,J,Z,Z,Z,Z,Z,Z,Z,Z,Z,Z,Z,Z,Z,Z,Z,Z,Z,Z,Z,Z,Z,Z,Z,Z] rfl rfl (by kernel_rfl) (by decide) (fun K hK => ?_)
      refine goes_ Tryz.func19 (by kernel_rfl) rfl #[.agg #[.int .i64 a3, .int .i64 a4]] (by rfl) rfl rfl (by simp only [List.map_toArray, List.map_cons, List.map_nil]; rfl) ?_
      with_reducible refine (CVB.out _).mono ?_
      rintro e v7 ⟨rfl, h7⟩
      refine ⟨_, rfl, ?_⟩
      refine hK.out _ _ ⟨cell_below h7 (cell_below h2 (t0)), cell_below h7 (cell_below h2 (t1)), cell_below h7 (cell_below h2 (t2)), cell_below h7 (cell_below h2 (t3))⟩ (fun hHeld => ?_)
      clear hK K
      refine nm 33 ?_
      refine pu 8 34 ?_
      refine pu 9 35 ?_
      refine pu 10 36 ?_
      refine pu 11 37 ?_
      refine pu 13 39 ?_
      refine ta 12 38 hHeld ?_
      refine ta 14 40 hHeld ?_
      refine one_ (i := 15) (N := some 41) #[J,J,J,J,J,J,J,J,J,J,J,J,J,J,J,J,Z,Z,Z,Z,Z,Z,Z,Z,Z,Z,Z,Z,Z,Z,Z,Z] rfl rfl (by kernel_rfl) (by decide) (fun K hK => ?_)
      refine goes_ Tryz.func20 (by kernel_rfl) rfl #[.agg #[.int .i64 a1, .int .i64 a2], .agg #[.int .i64 a3, .int .i64 a4]] (by rfl) rfl rfl (by simp only [List.map_toArray, List.map_cons, List.map_nil]; rfl) ?_
      with_reducible refine (CLS.out _).mono ?_
      rintro e v15 ⟨rfl, h15⟩
      refine ⟨_, rfl, ?_⟩
      refine hK.out _ _ ⟨cell_below h15 (cell_below h7 (cell_below h2 (t0))), cell_below h15 (cell_below h7 (cell_below h2 (t1))), cell_below h15 (cell_below h7 (cell_below h2 (t2))), cell_below h15 (cell_below h7 (cell_below h2 (t3)))⟩ (fun hHeld => ?_)
      clear hK K
      refine nm 41 ?_
      refine pu 16 42 ?_
      refine pu 17 43 ?_
      refine pu 18 44 ?_
      refine pn 19 45 ?_
      refine pn 20 46 ?_
      refine pn 21 47 ?_
      refine pn 22 48 ?_
      refine pn 23 49 ?_
      refine pn 24 50 ?_
      refine pn 25 51 ?_
      refine pn 26 52 ?_
      refine pn 27 53 ?_
      refine pn 28 54 ?_
      refine pn 29 55 ?_
      refine pn 30 56 ?_
      refine pu 31 57 ?_
      refine done_ (by kernel_rfl) ?_
      have B7 : Hid (Below w.heap.size w v15) := Lib.hid ((by repeat (first | exact Below.refl _ _ | apply below_alloc | apply below_drewN | apply below_drew | (refine below_set2 ?_ ?_; (first | (simp; done) | (simp; omega))) | (refine below_step ?_ h15) | (refine below_step ?_ h7) | (refine below_step ?_ h2) | (refine below_step ?_ BW0.out))))
      clear t0 t1 t2 t3
      have HF := Lib.hid (HBAD.out (by rw [HEB.out]; simp))
      go_wp2
      go_ret
      exact ⟨ret_int HF.out.symm, B7.out⟩
     ·by_cases hk0 : k = 0
      ·have q3 : decide ((0 : Int) < (k : Int)) = false := decide_eq_false (by omega)
       have q3' : decide (0 < k) = false := decide_eq_false (by omega)
       have q3'' : decide ((k : Int) > 0) = false := decide_eq_false (by omega)
       have hk1 : ¬ 0 < k := by omega
       rw [decide_eq_true hk0, Bool.true_or] at HEB
       refine start_ (n := 32) (S := fun w' => w'.cell? ⟨wr.heap.size + 1, 0, none⟩ = some (.int .i64 a1) ∧ w'.cell? ⟨wr.heap.size + 1, 1, none⟩ = some (.int .i64 a2) ∧ w'.cell? ⟨wr.heap.size + 1, 2, none⟩ = some (.int .i64 a3) ∧ w'.cell? ⟨wr.heap.size + 1, 3, none⟩ = some (.int .i64 a4)) (ds := []) #[Z,Z,Z,Z,Z,Z,Z,Z,Z,Z,Z,Z,Z,Z,Z,Z,Z,Z,Z,Z,Z,Z,Z,Z,Z,Z,Z,Z,Z,Z,Z,Z] (by kernel_rfl) rfl rfl ⟨t0, t1, t2, t3⟩ (fun hHeld => ?_)
       refine pu 0 26 ?_
       refine ta 1 27 hHeld ?_
       refine one_ (i := 2) (N := some 28) #[J,J,J,Z,Z,Z,Z,Z,Z,Z,Z,Z,Z,Z,Z,Z,Z,Z,Z,Z,Z,Z,Z,Z,Z,Z,Z,Z,Z,Z,Z,Z] rfl rfl (by kernel_rfl) (by decide) (fun K hK => ?_)
       refine goes_ Tryz.func19 (by kernel_rfl) rfl #[.agg #[.int .i64 a1, .int .i64 a2]] (by rfl) rfl rfl (by simp only [List.map_toArray, List.map_cons, List.map_nil]; rfl) ?_
       with_reducible refine (CVA.out _).mono ?_
       rintro e v2 ⟨rfl, h2⟩
       refine ⟨_, rfl, ?_⟩
       refine hK.out _ _ ⟨cell_below h2 (t0), cell_below h2 (t1), cell_below h2 (t2), cell_below h2 (t3)⟩ (fun hHeld => ?_)
       clear hK K
       refine nm 28 ?_
       refine pu 3 29 ?_
       refine pu 4 30 ?_
       refine pu 5 31 ?_
       refine ta 6 32 hHeld ?_
       refine one_ (i := 7) (N := some 33) #[J,J,J,J,J,J,J,J,Z,Z,Z,Z,Z,Z,Z,Z,Z,Z,Z,Z,Z,Z,Z,Z,Z,Z,Z,Z,Z,Z,Z,Z] rfl rfl (by kernel_rfl) (by decide) (fun K hK => ?_)
       refine goes_ Tryz.func19 (by kernel_rfl) rfl #[.agg #[.int .i64 a3, .int .i64 a4]] (by rfl) rfl rfl (by simp only [List.map_toArray, List.map_cons, List.map_nil]; rfl) ?_
       with_reducible refine (CVB.out _).mono ?_
       rintro e v7 ⟨rfl, h7⟩
       refine ⟨_, rfl, ?_⟩
       refine hK.out _ _ ⟨cell_below h7 (cell_below h2 (t0)), cell_below h7 (cell_below h2 (t1)), cell_below h7 (cell_below h2 (t2)), cell_below h7 (cell_below h2 (t3))⟩ (fun hHeld => ?_)
       clear hK K
       refine nm 33 ?_
       refine pu 8 34 ?_
       refine pu 9 35 ?_
       refine pu 10 36 ?_
       refine pu 11 37 ?_
       refine pu 13 39 ?_
       refine ta 12 38 hHeld ?_
       refine ta 14 40 hHeld ?_
       refine one_ (i := 15) (N := some 41) #[J,J,J,J,J,J,J,J,J,J,J,J,J,J,J,J,Z,Z,Z,Z,Z,Z,Z,Z,Z,Z,Z,Z,Z,Z,Z,Z] rfl rfl (by kernel_rfl) (by decide) (fun K hK => ?_)
       refine goes_ Tryz.func20 (by kernel_rfl) rfl #[.agg #[.int .i64 a1, .int .i64 a2], .agg #[.int .i64 a3, .int .i64 a4]] (by rfl) rfl rfl (by simp only [List.map_toArray, List.map_cons, List.map_nil]; rfl) ?_
       with_reducible refine (CLS.out _).mono ?_
       rintro e v15 ⟨rfl, h15⟩
       refine ⟨_, rfl, ?_⟩
       refine hK.out _ _ ⟨cell_below h15 (cell_below h7 (cell_below h2 (t0))), cell_below h15 (cell_below h7 (cell_below h2 (t1))), cell_below h15 (cell_below h7 (cell_below h2 (t2))), cell_below h15 (cell_below h7 (cell_below h2 (t3)))⟩ (fun hHeld => ?_)
       clear hK K
       refine nm 41 ?_
       refine pu 16 42 ?_
       refine pu 17 43 ?_
       refine pu 18 44 ?_
       refine pu 19 45 ?_
       refine pu 20 46 ?_
       refine pu 21 47 ?_
       refine pn 22 48 ?_
       refine pn 23 49 ?_
       refine pn 24 50 ?_
       refine pn 25 51 ?_
       refine pn 26 52 ?_
       refine pn 27 53 ?_
       refine pn 28 54 ?_
       refine pn 29 55 ?_
       refine pu 30 56 ?_
       refine pu 31 57 ?_
       refine done_ (by kernel_rfl) ?_
       have B7 : Below W0.heap.size W0 v15 := (by repeat (first | exact Below.refl _ _ | apply below_alloc | apply below_drewN | apply below_drew | (refine below_set2 ?_ ?_; (first | (simp; done) | (simp; omega))) | (refine below_step ?_ h15) | (refine below_step ?_ h7) | (refine below_step ?_ h2)))
       have HE7 := blk_below HE0 B7
       have HS7 := blk_below HS0 B7
       have HO7 := Lib.hid (Own1.below HO0.out B7)
       have HL7 := Lib.hid (HL0.out.below B7)
       have HR7 := Lib.hid (HR0.out.below B7)
       have BW7 := Lib.hid (below_step BW0.out B7)
       have hz7 := lt_of_block HS7
       clear hHeld B7 HO0 HL0 HR0 BW0 HE0 HS0 t0 t1 t2 t3 CVA CVB CLS CSL HPV h15 h7 h2 
       generalize v15 = wc at *
       have e4 := blk_cell HE7 4 rfl
       have e5 := blk_cell HE7 5 rfl
       have CA := Lib.hid (mesh_areas L A1 _ c1 wc HL7.out rfl)
       have CB := Lib.hid (fun W (hb : Below wc.heap.size wc W) => mesh_areas R A2 _ c2 W (HR7.out.below hb) rfl)
       generalize areasB L = vP at *
       generalize areasB R = vQ at *
       cases vP
       ·have HF := Lib.hid (HBAD.out (by rw [HEB.out]; simp))
        go_wp2_with fail
        refine CA.out.mono ?_
        rintro e w8 ⟨rfl, hb8⟩
        have B8 := Lib.hid (below_step BW7.out hb8)
        clear e4 e5 hb8
        go_wp2
        go_ret
        exact ⟨ret_int HF.out.symm, B8.out⟩
       ·go_wp2_with fail
        refine CA.out.mono ?_
        rintro e w8 ⟨rfl, hb8⟩
        have HE8 := blk_below HE7 hb8
        have CB8 := Lib.hid (CB.out _ hb8)
        clear e4 e5 CA CB
        have e4 := blk_cell HE8 4 rfl
        have e5 := blk_cell HE8 5 rfl
        cases vQ
        ·have HF := Lib.hid (HBAD.out (by rw [HEB.out]; simp))
         go_wp2_with fail
         refine CB8.out.mono ?_
         rintro e w9 ⟨rfl, hb9⟩
         have B9 := Lib.hid (below_step (below_step BW7.out hb8) hb9)
         clear e4 e5 hb8 hb9
         go_wp2
         go_ret
         exact ⟨ret_int HF.out.symm, B9.out⟩
        ·have HN2 := Lib.hid (HNX.out (by rw [HEB.out]; first | rfl | simp))
         clear HEB HBAD HNX
         go_wp2_with fail
         refine CB8.out.mono ?_
         rintro e w9 ⟨rfl, hb9⟩
         have B9 : Below wc.heap.size wc w9 := below_step hb8 hb9
         have HE9 := blk_below HE7 B9
         have HS9 := blk_below HS7 B9
         have HO9 := Lib.hid (Own1.below HO7.out B9)
         have HL9 := Lib.hid (HL7.out.below B9)
         have HR9 := Lib.hid (HR7.out.below B9)
         have BW9 := Lib.hid (below_step BW7.out B9)
         have hz9 := lt_of_block HS9
         clear e4 e5 hb8 hb9 B9 HE7 HS7 HO7 HL7 HR7 BW7 HE8 CB8
         have e4 := blk_cell HE9 4 rfl
         have e5 := blk_cell HE9 5 rfl
         go_wp2_with fail
         obtain ⟨W10, hW10⟩ : ∃ W10, W10 = w9.alloc (.cells #[.slice A1 L.length c1, .slice A2 R.length c2] 29) := ⟨_, rfl⟩
         rw [← hW10]
         have B10 : Below w9.heap.size w9 W10 := by rw [hW10]; exact below_alloc (Below.refl _ _) _
         have HX10 := Lib.hid (show W10.heap[w9.heap.size]? = some (.cells #[.slice A1 L.length c1, .slice A2 R.length c2] 29 (0, 0)) by rw [hW10]; exact heap_alloc_new _ _)
         have HL10 := Lib.hid (HL9.out.below B10)
         have HR10 := Lib.hid (HR9.out.below B10)
         have HS10 := Lib.hid (blk_below HS9 B10)
         have HO10 := Lib.hid (Own1.below HO9.out B10)
         have BW10 := Lib.hid (below_step BW9.out B10)
         have hlL := HL10.out.len
         have hlR := HR10.out.len
         clear hW10 e4 e5 B10 HL9 HR9 HS9 HO9 BW9 HE9
         obtain ⟨wo, hwo⟩ : ∃ wo, wo = wr := ⟨wr, rfl⟩
         subst hwo
         go_loopw [3, 74] (fun g i wr => ∃ j : Nat, j ≤ 2 ∧ i = .int .i64 j ∧ g = .int .i64 (gAt gr L R j) ∧ Hid (Below W10.heap.size W10 wr)) (fun _ i _ => 2 - (intOf i).toNat)
         case atStart => exact ⟨0, Nat.zero_le _, rfl, rfl, Below.refl _ _⟩
         case round =>
          obtain ⟨j, hj, rfl, rfl, HBi⟩ := hrel
          have hbi := HBi.out.size
          have hx10 := lt_of_block HX10.out
          rcases (by omega : j = 0 ∨ j = 1 ∨ j = 2) with rfl | rfl | rfl
          ·have G0 : Hid (gAt gr L R 0 = gr) := rfl
           have G1 : Hid (gAt gr L R 1 = topL gr L) := rfl
           rw [G0.out]
           have hxc := blk_cell (blk_below HX10.out HBi.out) 0 rfl
           have hq2 : decide ((0 : Int) < 2) = true := by decide
           by_cases hl : 0 < L.length
           ·obtain ⟨ax, rfl, hxv⟩ := (HL10.out.below HBi.out).int_at (L.length - 1) (by omega)
            rw [topL_pos hl] at G1
            have hw : IntKind.i64.wrap ((L.length : Int) - 1) = (L.length : Int) - 1 := IntWalk.i64_in _ (by omega)
            have ht1 : decide ((L.length : Int) > 0) = true := decide_eq_true (by omega)
            have ht2 : decide (0 < (L.length : Int)) = true := decide_eq_true (by omega)
            have ht3 : (0 : Int) ≤ (L.length : Int) - 1 := by omega
            have ht4 : (L.length : Int) - 1 < (L.length : Int) := by omega
            have ht5 : ((L.length : Int) - 1).toNat = L.length - 1 := by omega
            have ht6 : (1 : Int) ≤ (L.length : Int) := by omega
            generalize inD L (L.length - 1) = xv at *
            have emx : (if gr < xv then xv else gr) = max gr xv := by split <;> omega
            go_wp2_with fail
            try rw [emx]
            clear emx hw ht1 ht2 ht3 ht4 ht5 ht6
            go_roundw
            case rel => exact ⟨1, by omega, by first | rfl | go_num, by rw [G1.out], HBi⟩
            case measure => simp [intOf]
           ·rw [topL_nil hl] at G1
            have ht1 : decide ((L.length : Int) > 0) = false := decide_eq_false (by omega)
            have ht2 : decide (0 < (L.length : Int)) = false := decide_eq_false (by omega)
            go_wp2
            go_roundw
            case rel => exact ⟨1, by omega, by first | rfl | go_num, by rw [G1.out], HBi⟩
            case measure => simp [intOf]
          ·have G0 : Hid (gAt gr L R 1 = topL gr L) := rfl
           have G1 : Hid (gAt gr L R 2 = topL (topL gr L) R) := rfl
           rw [G0.out]
           have hxc := blk_cell (blk_below HX10.out HBi.out) 1 rfl
           have hq2 : decide ((1 : Int) < 2) = true := by decide
           generalize topL gr L = g1 at *
           by_cases hl : 0 < R.length
           ·obtain ⟨ax, rfl, hxv⟩ := (HR10.out.below HBi.out).int_at (R.length - 1) (by omega)
            rw [topL_pos hl] at G1
            have hw : IntKind.i64.wrap ((R.length : Int) - 1) = (R.length : Int) - 1 := IntWalk.i64_in _ (by omega)
            have ht1 : decide ((R.length : Int) > 0) = true := decide_eq_true (by omega)
            have ht2 : decide (0 < (R.length : Int)) = true := decide_eq_true (by omega)
            have ht3 : (0 : Int) ≤ (R.length : Int) - 1 := by omega
            have ht4 : (R.length : Int) - 1 < (R.length : Int) := by omega
            have ht5 : ((R.length : Int) - 1).toNat = R.length - 1 := by omega
            have ht6 : (1 : Int) ≤ (R.length : Int) := by omega
            generalize inD R (R.length - 1) = xv at *
            have emx : (if g1 < xv then xv else g1) = max g1 xv := by split <;> omega
            go_wp2_with fail
            try rw [emx]
            clear emx hw ht1 ht2 ht3 ht4 ht5 ht6
            go_roundw
            case rel => exact ⟨2, by omega, by first | rfl | go_num, by rw [G1.out], HBi⟩
            case measure => simp [intOf]
           ·rw [topL_nil hl] at G1
            have ht1 : decide ((R.length : Int) > 0) = false := decide_eq_false (by omega)
            have ht2 : decide (0 < (R.length : Int)) = false := decide_eq_false (by omega)
            go_wp2
            go_roundw
            case rel => exact ⟨2, by omega, by first | rfl | go_num, by rw [G1.out], HBi⟩
            case measure => simp [intOf]
          ·have G2 : Hid (gAt gr L R 2 = topL (topL gr L) R) := rfl
           rw [G2.out]
           generalize topL (topL gr L) R = g2 at *
           have hq2 : decide ((2 : Int) < 2) = false := by decide
           have HSz := blk_below HS10.out HBi.out
           have t0 := blk_cell HSz 0 rfl
           have t1 := blk_cell HSz 1 rfl
           have t2 := blk_cell HSz 2 rfl
           have t3 := blk_cell HSz 3 rfl
           have HOz := Lib.hid (Own1.below HO10.out HBi.out)
           have BWz := Lib.hid (below_step BW10.out HBi.out)
           have hsz1 := BWz.out.size
           clear HX10 HL10 HR10 HS10 HO10 BW10 HBi
           go_wp2_with (at_builtin; refine app_one Ty.sg (W := wr) w.heap.size rfl _ _ 46 48 _ 32 rfl Tryz.underlying46 infoSg rfl (by decide) u4 al ((a1, a2), (a3, a4)) [.int .i64 a1, .int .i64 a2, .int .i64 a3, .int .i64 a4] _ rfl rfl rfl rfl HOz.out (by omega) (by omega) ?_; intro v11 w11 HO1 hg1 hat1)
           have HO11 := Lib.hid (Own1.of HO1)
           have B11 := Lib.hid (below_own BWz.out hg1 (fun b e => (OwnR.lt HOz.out b e).1))
           clear HO1 hg1 hat1 HOz BWz t0 t1 t2 t3 HSz
           go_wp2
           go_roundw
           case rel => exact ⟨k + 1, by omega, by go_num, by rw [HGS.out], B11, Lib.hid (by rw [HSS.out]; exact HO11.out), HN2⟩
           case measure => simp [intOf]; omega
      ·have hkp : 0 < k := by omega
       rw [decide_eq_false hk0, Bool.false_or] at HEB
       obtain ⟨gp, cp, rfl, hcp⟩ := HO0.out.form (by omega)
       obtain ⟨y0, y1, y2, y3⟩ := OwnR.sg_at HO0.out (k - 1) (by omega)
       rw [HPV.out (by omega)] at y0 y1 y2 y3
       obtain ⟨⟨b1, b2⟩, b3, b4⟩ := pv
       simp only at y0 y1 y2 y3
       simp only [sgA] at CSL
       have q3 : decide ((0 : Int) < (k : Int)) = true := decide_eq_true (by omega)
       have q3' : decide (0 < k) = true := decide_eq_true hkp
       have q3'' : decide ((k : Int) > 0) = true := decide_eq_true (by omega)
       have hw : IntKind.i64.wrap ((k : Int) - 1) = (k : Int) - 1 := IntWalk.i64_in _ (by omega)
       have hb1 : (0 : Int) ≤ (k : Int) - 1 := by omega
       have hb2 : (k : Int) - 1 < (al.length : Int) := by omega
       have htn : ((k : Int) - 1).toNat = k - 1 := by omega
       have hkl : k - 1 < al.length := by omega
       have hb3 : (k : Int) - 1 < (k : Int) := by omega
       have hb4 : (1 : Int) ≤ (k : Int) := by omega
       cases vS
       ·skip
        refine start_ (n := 32) (S := fun w' => w'.cell? ⟨wr.heap.size + 1, 0, none⟩ = some (.int .i64 a1) ∧ w'.cell? ⟨wr.heap.size + 1, 1, none⟩ = some (.int .i64 a2) ∧ w'.cell? ⟨wr.heap.size + 1, 2, none⟩ = some (.int .i64 a3) ∧ w'.cell? ⟨wr.heap.size + 1, 3, none⟩ = some (.int .i64 a4) ∧ w'.cell? ⟨gp, (k - 1) * 4, none⟩ = some (.int .i64 b1) ∧ w'.cell? ⟨gp, (k - 1) * 4 + 1, none⟩ = some (.int .i64 b2) ∧ w'.cell? ⟨gp, (k - 1) * 4 + 2, none⟩ = some (.int .i64 b3) ∧ w'.cell? ⟨gp, (k - 1) * 4 + 3, none⟩ = some (.int .i64 b4)) (ds := []) #[Z,Z,Z,Z,Z,Z,Z,Z,Z,Z,Z,Z,Z,Z,Z,Z,Z,Z,Z,Z,Z,Z,Z,Z,Z,Z,Z,Z,Z,Z,Z,Z] (by kernel_rfl) rfl rfl ⟨t0, t1, t2, t3, y0, y1, y2, y3⟩ (fun hHeld => ?_)
        refine pu 0 26 ?_
        refine ta 1 27 hHeld ?_
        refine one_ (i := 2) (N := some 28) #[J,J,J,Z,Z,Z,Z,Z,Z,Z,Z,Z,Z,Z,Z,Z,Z,Z,Z,Z,Z,Z,Z,Z,Z,Z,Z,Z,Z,Z,Z,Z] rfl rfl (by kernel_rfl) (by decide) (fun K hK => ?_)
        refine goes_ Tryz.func19 (by kernel_rfl) rfl #[.agg #[.int .i64 a1, .int .i64 a2]] (by rfl) rfl rfl (by simp only [List.map_toArray, List.map_cons, List.map_nil]; rfl) ?_
        with_reducible refine (CVA.out _).mono ?_
        rintro e v2 ⟨rfl, h2⟩
        refine ⟨_, rfl, ?_⟩
        refine hK.out _ _ ⟨cell_below h2 (t0), cell_below h2 (t1), cell_below h2 (t2), cell_below h2 (t3), cell_below h2 (y0), cell_below h2 (y1), cell_below h2 (y2), cell_below h2 (y3)⟩ (fun hHeld => ?_)
        clear hK K
        refine nm 28 ?_
        refine pu 3 29 ?_
        refine pu 4 30 ?_
        refine pu 5 31 ?_
        refine ta 6 32 hHeld ?_
        refine one_ (i := 7) (N := some 33) #[J,J,J,J,J,J,J,J,Z,Z,Z,Z,Z,Z,Z,Z,Z,Z,Z,Z,Z,Z,Z,Z,Z,Z,Z,Z,Z,Z,Z,Z] rfl rfl (by kernel_rfl) (by decide) (fun K hK => ?_)
        refine goes_ Tryz.func19 (by kernel_rfl) rfl #[.agg #[.int .i64 a3, .int .i64 a4]] (by rfl) rfl rfl (by simp only [List.map_toArray, List.map_cons, List.map_nil]; rfl) ?_
        with_reducible refine (CVB.out _).mono ?_
        rintro e v7 ⟨rfl, h7⟩
        refine ⟨_, rfl, ?_⟩
        refine hK.out _ _ ⟨cell_below h7 (cell_below h2 (t0)), cell_below h7 (cell_below h2 (t1)), cell_below h7 (cell_below h2 (t2)), cell_below h7 (cell_below h2 (t3)), cell_below h7 (cell_below h2 (y0)), cell_below h7 (cell_below h2 (y1)), cell_below h7 (cell_below h2 (y2)), cell_below h7 (cell_below h2 (y3))⟩ (fun hHeld => ?_)
        clear hK K
        refine nm 33 ?_
        refine pu 8 34 ?_
        refine pu 9 35 ?_
        refine pu 10 36 ?_
        refine pu 11 37 ?_
        refine pu 13 39 ?_
        refine ta 12 38 hHeld ?_
        refine ta 14 40 hHeld ?_
        refine one_ (i := 15) (N := some 41) #[J,J,J,J,J,J,J,J,J,J,J,J,J,J,J,J,Z,Z,Z,Z,Z,Z,Z,Z,Z,Z,Z,Z,Z,Z,Z,Z] rfl rfl (by kernel_rfl) (by decide) (fun K hK => ?_)
        refine goes_ Tryz.func20 (by kernel_rfl) rfl #[.agg #[.int .i64 a1, .int .i64 a2], .agg #[.int .i64 a3, .int .i64 a4]] (by rfl) rfl rfl (by simp only [List.map_toArray, List.map_cons, List.map_nil]; rfl) ?_
        with_reducible refine (CLS.out _).mono ?_
        rintro e v15 ⟨rfl, h15⟩
        refine ⟨_, rfl, ?_⟩
        refine hK.out _ _ ⟨cell_below h15 (cell_below h7 (cell_below h2 (t0))), cell_below h15 (cell_below h7 (cell_below h2 (t1))), cell_below h15 (cell_below h7 (cell_below h2 (t2))), cell_below h15 (cell_below h7 (cell_below h2 (t3))), cell_below h15 (cell_below h7 (cell_below h2 (y0))), cell_below h15 (cell_below h7 (cell_below h2 (y1))), cell_below h15 (cell_below h7 (cell_below h2 (y2))), cell_below h15 (cell_below h7 (cell_below h2 (y3)))⟩ (fun hHeld => ?_)
        clear hK K
        refine nm 41 ?_
        refine pu 16 42 ?_
        refine pu 17 43 ?_
        refine pu 18 44 ?_
        refine pu 19 45 ?_
        refine pu 20 46 ?_
        refine pu 21 47 ?_
        refine pu 22 48 ?_
        refine pu 23 49 ?_
        refine pu 24 50 ?_
        refine pu 25 51 ?_
        refine ta 26 52 hHeld ?_
        refine ta 27 53 hHeld ?_
        refine one_ (i := 28) (N := some 54) #[J,J,J,J,J,J,J,J,J,J,J,J,J,J,J,J,J,J,J,J,J,J,J,J,J,J,J,J,J,Z,Z,Z] rfl rfl (by kernel_rfl) (by decide) (fun K hK => ?_)
        refine goes_ Tryz.func21 (by kernel_rfl) rfl #[.agg #[.int .i64 b1, .int .i64 b2, .int .i64 b3, .int .i64 b4], .agg #[.int .i64 a1, .int .i64 a2, .int .i64 a3, .int .i64 a4]] (by rfl) rfl rfl (by simp only [List.map_toArray, List.map_cons, List.map_nil]; rfl) ?_
        with_reducible refine (CSL.out _).mono ?_
        rintro e v28 ⟨rfl, h28⟩
        refine ⟨_, rfl, ?_⟩
        refine hK.out _ _ ⟨cell_below h28 (cell_below h15 (cell_below h7 (cell_below h2 (t0)))), cell_below h28 (cell_below h15 (cell_below h7 (cell_below h2 (t1)))), cell_below h28 (cell_below h15 (cell_below h7 (cell_below h2 (t2)))), cell_below h28 (cell_below h15 (cell_below h7 (cell_below h2 (t3)))), cell_below h28 (cell_below h15 (cell_below h7 (cell_below h2 (y0)))), cell_below h28 (cell_below h15 (cell_below h7 (cell_below h2 (y1)))), cell_below h28 (cell_below h15 (cell_below h7 (cell_below h2 (y2)))), cell_below h28 (cell_below h15 (cell_below h7 (cell_below h2 (y3))))⟩ (fun hHeld => ?_)
        clear hK K
        refine nm 54 ?_
        refine pu 29 55 ?_
        refine pu 30 56 ?_
        refine pu 31 57 ?_
        refine done_ (by kernel_rfl) ?_
        have B7 : Hid (Below w.heap.size w v28) := Lib.hid ((by repeat (first | exact Below.refl _ _ | apply below_alloc | apply below_drewN | apply below_drew | (refine below_set2 ?_ ?_; (first | (simp; done) | (simp; omega))) | (refine below_step ?_ h28) | (refine below_step ?_ h15) | (refine below_step ?_ h7) | (refine below_step ?_ h2) | (refine below_step ?_ BW0.out))))
        clear t0 t1 t2 t3
        have HF := Lib.hid (HBAD.out (by rw [HEB.out]; simp))
        go_wp2
        go_ret
        exact ⟨ret_int HF.out.symm, B7.out⟩
       ·skip
        refine start_ (n := 32) (S := fun w' => w'.cell? ⟨wr.heap.size + 1, 0, none⟩ = some (.int .i64 a1) ∧ w'.cell? ⟨wr.heap.size + 1, 1, none⟩ = some (.int .i64 a2) ∧ w'.cell? ⟨wr.heap.size + 1, 2, none⟩ = some (.int .i64 a3) ∧ w'.cell? ⟨wr.heap.size + 1, 3, none⟩ = some (.int .i64 a4) ∧ w'.cell? ⟨gp, (k - 1) * 4, none⟩ = some (.int .i64 b1) ∧ w'.cell? ⟨gp, (k - 1) * 4 + 1, none⟩ = some (.int .i64 b2) ∧ w'.cell? ⟨gp, (k - 1) * 4 + 2, none⟩ = some (.int .i64 b3) ∧ w'.cell? ⟨gp, (k - 1) * 4 + 3, none⟩ = some (.int .i64 b4)) (ds := []) #[Z,Z,Z,Z,Z,Z,Z,Z,Z,Z,Z,Z,Z,Z,Z,Z,Z,Z,Z,Z,Z,Z,Z,Z,Z,Z,Z,Z,Z,Z,Z,Z] (by kernel_rfl) rfl rfl ⟨t0, t1, t2, t3, y0, y1, y2, y3⟩ (fun hHeld => ?_)
        refine pu 0 26 ?_
        refine ta 1 27 hHeld ?_
        refine one_ (i := 2) (N := some 28) #[J,J,J,Z,Z,Z,Z,Z,Z,Z,Z,Z,Z,Z,Z,Z,Z,Z,Z,Z,Z,Z,Z,Z,Z,Z,Z,Z,Z,Z,Z,Z] rfl rfl (by kernel_rfl) (by decide) (fun K hK => ?_)
        refine goes_ Tryz.func19 (by kernel_rfl) rfl #[.agg #[.int .i64 a1, .int .i64 a2]] (by rfl) rfl rfl (by simp only [List.map_toArray, List.map_cons, List.map_nil]; rfl) ?_
        with_reducible refine (CVA.out _).mono ?_
        rintro e v2 ⟨rfl, h2⟩
        refine ⟨_, rfl, ?_⟩
        refine hK.out _ _ ⟨cell_below h2 (t0), cell_below h2 (t1), cell_below h2 (t2), cell_below h2 (t3), cell_below h2 (y0), cell_below h2 (y1), cell_below h2 (y2), cell_below h2 (y3)⟩ (fun hHeld => ?_)
        clear hK K
        refine nm 28 ?_
        refine pu 3 29 ?_
        refine pu 4 30 ?_
        refine pu 5 31 ?_
        refine ta 6 32 hHeld ?_
        refine one_ (i := 7) (N := some 33) #[J,J,J,J,J,J,J,J,Z,Z,Z,Z,Z,Z,Z,Z,Z,Z,Z,Z,Z,Z,Z,Z,Z,Z,Z,Z,Z,Z,Z,Z] rfl rfl (by kernel_rfl) (by decide) (fun K hK => ?_)
        refine goes_ Tryz.func19 (by kernel_rfl) rfl #[.agg #[.int .i64 a3, .int .i64 a4]] (by rfl) rfl rfl (by simp only [List.map_toArray, List.map_cons, List.map_nil]; rfl) ?_
        with_reducible refine (CVB.out _).mono ?_
        rintro e v7 ⟨rfl, h7⟩
        refine ⟨_, rfl, ?_⟩
        refine hK.out _ _ ⟨cell_below h7 (cell_below h2 (t0)), cell_below h7 (cell_below h2 (t1)), cell_below h7 (cell_below h2 (t2)), cell_below h7 (cell_below h2 (t3)), cell_below h7 (cell_below h2 (y0)), cell_below h7 (cell_below h2 (y1)), cell_below h7 (cell_below h2 (y2)), cell_below h7 (cell_below h2 (y3))⟩ (fun hHeld => ?_)
        clear hK K
        refine nm 33 ?_
        refine pu 8 34 ?_
        refine pu 9 35 ?_
        refine pu 10 36 ?_
        refine pu 11 37 ?_
        refine pu 13 39 ?_
        refine ta 12 38 hHeld ?_
        refine ta 14 40 hHeld ?_
        refine one_ (i := 15) (N := some 41) #[J,J,J,J,J,J,J,J,J,J,J,J,J,J,J,J,Z,Z,Z,Z,Z,Z,Z,Z,Z,Z,Z,Z,Z,Z,Z,Z] rfl rfl (by kernel_rfl) (by decide) (fun K hK => ?_)
        refine goes_ Tryz.func20 (by kernel_rfl) rfl #[.agg #[.int .i64 a1, .int .i64 a2], .agg #[.int .i64 a3, .int .i64 a4]] (by rfl) rfl rfl (by simp only [List.map_toArray, List.map_cons, List.map_nil]; rfl) ?_
        with_reducible refine (CLS.out _).mono ?_
        rintro e v15 ⟨rfl, h15⟩
        refine ⟨_, rfl, ?_⟩
        refine hK.out _ _ ⟨cell_below h15 (cell_below h7 (cell_below h2 (t0))), cell_below h15 (cell_below h7 (cell_below h2 (t1))), cell_below h15 (cell_below h7 (cell_below h2 (t2))), cell_below h15 (cell_below h7 (cell_below h2 (t3))), cell_below h15 (cell_below h7 (cell_below h2 (y0))), cell_below h15 (cell_below h7 (cell_below h2 (y1))), cell_below h15 (cell_below h7 (cell_below h2 (y2))), cell_below h15 (cell_below h7 (cell_below h2 (y3)))⟩ (fun hHeld => ?_)
        clear hK K
        refine nm 41 ?_
        refine pu 16 42 ?_
        refine pu 17 43 ?_
        refine pu 18 44 ?_
        refine pu 19 45 ?_
        refine pu 20 46 ?_
        refine pu 21 47 ?_
        refine pu 22 48 ?_
        refine pu 23 49 ?_
        refine pu 24 50 ?_
        refine pu 25 51 ?_
        refine ta 26 52 hHeld ?_
        refine ta 27 53 hHeld ?_
        refine one_ (i := 28) (N := some 54) #[J,J,J,J,J,J,J,J,J,J,J,J,J,J,J,J,J,J,J,J,J,J,J,J,J,J,J,J,J,Z,Z,Z] rfl rfl (by kernel_rfl) (by decide) (fun K hK => ?_)
        refine goes_ Tryz.func21 (by kernel_rfl) rfl #[.agg #[.int .i64 b1, .int .i64 b2, .int .i64 b3, .int .i64 b4], .agg #[.int .i64 a1, .int .i64 a2, .int .i64 a3, .int .i64 a4]] (by rfl) rfl rfl (by simp only [List.map_toArray, List.map_cons, List.map_nil]; rfl) ?_
        with_reducible refine (CSL.out _).mono ?_
        rintro e v28 ⟨rfl, h28⟩
        refine ⟨_, rfl, ?_⟩
        refine hK.out _ _ ⟨cell_below h28 (cell_below h15 (cell_below h7 (cell_below h2 (t0)))), cell_below h28 (cell_below h15 (cell_below h7 (cell_below h2 (t1)))), cell_below h28 (cell_below h15 (cell_below h7 (cell_below h2 (t2)))), cell_below h28 (cell_below h15 (cell_below h7 (cell_below h2 (t3)))), cell_below h28 (cell_below h15 (cell_below h7 (cell_below h2 (y0)))), cell_below h28 (cell_below h15 (cell_below h7 (cell_below h2 (y1)))), cell_below h28 (cell_below h15 (cell_below h7 (cell_below h2 (y2)))), cell_below h28 (cell_below h15 (cell_below h7 (cell_below h2 (y3))))⟩ (fun hHeld => ?_)
        clear hK K
        refine nm 54 ?_
        refine pu 29 55 ?_
        refine pu 30 56 ?_
        refine pu 31 57 ?_
        refine done_ (by kernel_rfl) ?_
        have B7 : Below W0.heap.size W0 v28 := (by repeat (first | exact Below.refl _ _ | apply below_alloc | apply below_drewN | apply below_drew | (refine below_set2 ?_ ?_; (first | (simp; done) | (simp; omega))) | (refine below_step ?_ h28) | (refine below_step ?_ h15) | (refine below_step ?_ h7) | (refine below_step ?_ h2)))
        have HE7 := blk_below HE0 B7
        have HS7 := blk_below HS0 B7
        have HO7 := Lib.hid (Own1.below HO0.out B7)
        have HL7 := Lib.hid (HL0.out.below B7)
        have HR7 := Lib.hid (HR0.out.below B7)
        have BW7 := Lib.hid (below_step BW0.out B7)
        have hz7 := lt_of_block HS7
        clear hHeld B7 HO0 HL0 HR0 BW0 HE0 HS0 t0 t1 t2 t3 CVA CVB CLS CSL HPV h28 h15 h7 h2 y0 y1 y2 y3 hw hb1 hb2 htn hkl hcp hb3 hb4
        generalize v28 = wc at *
        have e4 := blk_cell HE7 4 rfl
        have e5 := blk_cell HE7 5 rfl
        have CA := Lib.hid (mesh_areas L A1 _ c1 wc HL7.out rfl)
        have CB := Lib.hid (fun W (hb : Below wc.heap.size wc W) => mesh_areas R A2 _ c2 W (HR7.out.below hb) rfl)
        generalize areasB L = vP at *
        generalize areasB R = vQ at *
        cases vP
        ·have HF := Lib.hid (HBAD.out (by rw [HEB.out]; simp))
         go_wp2_with fail
         refine CA.out.mono ?_
         rintro e w8 ⟨rfl, hb8⟩
         have B8 := Lib.hid (below_step BW7.out hb8)
         clear e4 e5 hb8
         go_wp2
         go_ret
         exact ⟨ret_int HF.out.symm, B8.out⟩
        ·go_wp2_with fail
         refine CA.out.mono ?_
         rintro e w8 ⟨rfl, hb8⟩
         have HE8 := blk_below HE7 hb8
         have CB8 := Lib.hid (CB.out _ hb8)
         clear e4 e5 CA CB
         have e4 := blk_cell HE8 4 rfl
         have e5 := blk_cell HE8 5 rfl
         cases vQ
         ·have HF := Lib.hid (HBAD.out (by rw [HEB.out]; simp))
          go_wp2_with fail
          refine CB8.out.mono ?_
          rintro e w9 ⟨rfl, hb9⟩
          have B9 := Lib.hid (below_step (below_step BW7.out hb8) hb9)
          clear e4 e5 hb8 hb9
          go_wp2
          go_ret
          exact ⟨ret_int HF.out.symm, B9.out⟩
         ·have HN2 := Lib.hid (HNX.out (by rw [HEB.out]; first | rfl | simp))
          clear HEB HBAD HNX
          go_wp2_with fail
          refine CB8.out.mono ?_
          rintro e w9 ⟨rfl, hb9⟩
          have B9 : Below wc.heap.size wc w9 := below_step hb8 hb9
          have HE9 := blk_below HE7 B9
          have HS9 := blk_below HS7 B9
          have HO9 := Lib.hid (Own1.below HO7.out B9)
          have HL9 := Lib.hid (HL7.out.below B9)
          have HR9 := Lib.hid (HR7.out.below B9)
          have BW9 := Lib.hid (below_step BW7.out B9)
          have hz9 := lt_of_block HS9
          clear e4 e5 hb8 hb9 B9 HE7 HS7 HO7 HL7 HR7 BW7 HE8 CB8
          have e4 := blk_cell HE9 4 rfl
          have e5 := blk_cell HE9 5 rfl
          go_wp2_with fail
          obtain ⟨W10, hW10⟩ : ∃ W10, W10 = w9.alloc (.cells #[.slice A1 L.length c1, .slice A2 R.length c2] 29) := ⟨_, rfl⟩
          rw [← hW10]
          have B10 : Below w9.heap.size w9 W10 := by rw [hW10]; exact below_alloc (Below.refl _ _) _
          have HX10 := Lib.hid (show W10.heap[w9.heap.size]? = some (.cells #[.slice A1 L.length c1, .slice A2 R.length c2] 29 (0, 0)) by rw [hW10]; exact heap_alloc_new _ _)
          have HL10 := Lib.hid (HL9.out.below B10)
          have HR10 := Lib.hid (HR9.out.below B10)
          have HS10 := Lib.hid (blk_below HS9 B10)
          have HO10 := Lib.hid (Own1.below HO9.out B10)
          have BW10 := Lib.hid (below_step BW9.out B10)
          have hlL := HL10.out.len
          have hlR := HR10.out.len
          clear hW10 e4 e5 B10 HL9 HR9 HS9 HO9 BW9 HE9
          obtain ⟨wo, hwo⟩ : ∃ wo, wo = wr := ⟨wr, rfl⟩
          subst hwo
          go_loopw [3, 74] (fun g i wr => ∃ j : Nat, j ≤ 2 ∧ i = .int .i64 j ∧ g = .int .i64 (gAt gr L R j) ∧ Hid (Below W10.heap.size W10 wr)) (fun _ i _ => 2 - (intOf i).toNat)
          case atStart => exact ⟨0, Nat.zero_le _, rfl, rfl, Below.refl _ _⟩
          case round =>
           obtain ⟨j, hj, rfl, rfl, HBi⟩ := hrel
           have hbi := HBi.out.size
           have hx10 := lt_of_block HX10.out
           rcases (by omega : j = 0 ∨ j = 1 ∨ j = 2) with rfl | rfl | rfl
           ·have G0 : Hid (gAt gr L R 0 = gr) := rfl
            have G1 : Hid (gAt gr L R 1 = topL gr L) := rfl
            rw [G0.out]
            have hxc := blk_cell (blk_below HX10.out HBi.out) 0 rfl
            have hq2 : decide ((0 : Int) < 2) = true := by decide
            by_cases hl : 0 < L.length
            ·obtain ⟨ax, rfl, hxv⟩ := (HL10.out.below HBi.out).int_at (L.length - 1) (by omega)
             rw [topL_pos hl] at G1
             have hw : IntKind.i64.wrap ((L.length : Int) - 1) = (L.length : Int) - 1 := IntWalk.i64_in _ (by omega)
             have ht1 : decide ((L.length : Int) > 0) = true := decide_eq_true (by omega)
             have ht2 : decide (0 < (L.length : Int)) = true := decide_eq_true (by omega)
             have ht3 : (0 : Int) ≤ (L.length : Int) - 1 := by omega
             have ht4 : (L.length : Int) - 1 < (L.length : Int) := by omega
             have ht5 : ((L.length : Int) - 1).toNat = L.length - 1 := by omega
             have ht6 : (1 : Int) ≤ (L.length : Int) := by omega
             generalize inD L (L.length - 1) = xv at *
             have emx : (if gr < xv then xv else gr) = max gr xv := by split <;> omega
             go_wp2_with fail
             try rw [emx]
             clear emx hw ht1 ht2 ht3 ht4 ht5 ht6
             go_roundw
             case rel => exact ⟨1, by omega, by first | rfl | go_num, by rw [G1.out], HBi⟩
             case measure => simp [intOf]
            ·rw [topL_nil hl] at G1
             have ht1 : decide ((L.length : Int) > 0) = false := decide_eq_false (by omega)
             have ht2 : decide (0 < (L.length : Int)) = false := decide_eq_false (by omega)
             go_wp2
             go_roundw
             case rel => exact ⟨1, by omega, by first | rfl | go_num, by rw [G1.out], HBi⟩
             case measure => simp [intOf]
           ·have G0 : Hid (gAt gr L R 1 = topL gr L) := rfl
            have G1 : Hid (gAt gr L R 2 = topL (topL gr L) R) := rfl
            rw [G0.out]
            have hxc := blk_cell (blk_below HX10.out HBi.out) 1 rfl
            have hq2 : decide ((1 : Int) < 2) = true := by decide
            generalize topL gr L = g1 at *
            by_cases hl : 0 < R.length
            ·obtain ⟨ax, rfl, hxv⟩ := (HR10.out.below HBi.out).int_at (R.length - 1) (by omega)
             rw [topL_pos hl] at G1
             have hw : IntKind.i64.wrap ((R.length : Int) - 1) = (R.length : Int) - 1 := IntWalk.i64_in _ (by omega)
             have ht1 : decide ((R.length : Int) > 0) = true := decide_eq_true (by omega)
             have ht2 : decide (0 < (R.length : Int)) = true := decide_eq_true (by omega)
             have ht3 : (0 : Int) ≤ (R.length : Int) - 1 := by omega
             have ht4 : (R.length : Int) - 1 < (R.length : Int) := by omega
             have ht5 : ((R.length : Int) - 1).toNat = R.length - 1 := by omega
             have ht6 : (1 : Int) ≤ (R.length : Int) := by omega
             generalize inD R (R.length - 1) = xv at *
             have emx : (if g1 < xv then xv else g1) = max g1 xv := by split <;> omega
             go_wp2_with fail
             try rw [emx]
             clear emx hw ht1 ht2 ht3 ht4 ht5 ht6
             go_roundw
             case rel => exact ⟨2, by omega, by first | rfl | go_num, by rw [G1.out], HBi⟩
             case measure => simp [intOf]
            ·rw [topL_nil hl] at G1
             have ht1 : decide ((R.length : Int) > 0) = false := decide_eq_false (by omega)
             have ht2 : decide (0 < (R.length : Int)) = false := decide_eq_false (by omega)
             go_wp2
             go_roundw
             case rel => exact ⟨2, by omega, by first | rfl | go_num, by rw [G1.out], HBi⟩
             case measure => simp [intOf]
           ·have G2 : Hid (gAt gr L R 2 = topL (topL gr L) R) := rfl
            rw [G2.out]
            generalize topL (topL gr L) R = g2 at *
            have hq2 : decide ((2 : Int) < 2) = false := by decide
            have HSz := blk_below HS10.out HBi.out
            have t0 := blk_cell HSz 0 rfl
            have t1 := blk_cell HSz 1 rfl
            have t2 := blk_cell HSz 2 rfl
            have t3 := blk_cell HSz 3 rfl
            have HOz := Lib.hid (Own1.below HO10.out HBi.out)
            have BWz := Lib.hid (below_step BW10.out HBi.out)
            have hsz1 := BWz.out.size
            clear HX10 HL10 HR10 HS10 HO10 BW10 HBi
            go_wp2_with (at_builtin; refine app_one Ty.sg (W := wr) w.heap.size rfl _ _ 46 48 _ 32 rfl Tryz.underlying46 infoSg rfl (by decide) (.slice (some ⟨gp, 0, none⟩) al.length cp) al ((a1, a2), (a3, a4)) [.int .i64 a1, .int .i64 a2, .int .i64 a3, .int .i64 a4] _ rfl rfl rfl rfl HOz.out (by omega) (by omega) ?_; intro v11 w11 HO1 hg1 hat1)
            have HO11 := Lib.hid (Own1.of HO1)
            have B11 := Lib.hid (below_own BWz.out hg1 (fun b e => (OwnR.lt HOz.out b e).1))
            clear HO1 hg1 hat1 HOz BWz t0 t1 t2 t3 HSz
            go_wp2
            go_roundw
            case rel => exact ⟨k + 1, by omega, by go_num, by rw [HGS.out], B11, Lib.hid (by rw [HSS.out]; exact HO11.out), HN2⟩
            case measure => simp [intOf]; omega
  ·obtain rfl : k = m.length := by omega
   rw [List.take_length] at HG ⊢
   have HO : Hid (Own1 Ty.sg 48 w.heap.size wr _ (segsM m)) := Lib.hid (by have := HO.out; rwa [List.take_length] at this)
   obtain ⟨Aa, ca, rfl, _, har⟩ := OwnR.rowB sg_flat HO.out (fun _ => True) (fun _ _ => trivial)
   have hsl : (segsM m).length ≤ 600 := by unfold segsM; rw [List.length_map]; omega
   have CC := Lib.hid (noding_Clean (segsM m) Aa _ ca wr har rfl hsl)
   have HDY := Lib.hid (fun h => chk_dirty HN.out h)
   have HFM := Lib.hid (fun h => chk_form HN.out h)
   have HND := Lib.hid (fun h => own_node HFW.out HN.out h)
   have HOA := Lib.hid (own_all HFW.out)
   have HOL := Lib.hid (own_len HFW.out)
   have HO6 : Hid (∀ o ∈ ownZ m, o.length ≤ 600) := Lib.hid (fun o ho => by obtain ⟨a, rfl⟩ := own_mem ho; have := bounds_len m a; omega)
   obtain ⟨n, hn⟩ : ∃ n : Nat, greatZ m + 1 = (n : Int) := ⟨(greatZ m + 1).toNat, by omega⟩
   have HOZ : Hid (ownZ m = (List.range n).map fun i : Nat => boundsZ m (i : Int)) := Lib.hid (by unfold ownZ; rw [hn]; rfl)
   have hn21 : n ≤ 21 := by omega
   have hw : IntKind.i64.wrap (greatZ m + 1) = (n : Int) := by rw [hn]; exact IntWalk.i64_in _ (by omega)
   generalize greatZ m = g at *
   clear har HO HN hn HG hk hlt
   cases hcl : cleanZ (segsM m)
   ·have HF := Lib.hid (HDY.out hcl)
    rw [hcl] at CC
    clear HDY HFM HND hcl
    go_wp2_with fail
    refine CC.out.mono ?_
    rintro e w2 ⟨rfl, hb2⟩
    have B2 := Lib.hid (below_step HB.out hb2)
    clear hb2 HB CC hw
    go_wp2
    go_ret
    exact ⟨ret_int HF.out.symm, B2.out⟩
   ·have HF := Lib.hid (HFM.out hcl)
    have HND := Lib.hid (HND.out hcl)
    rw [hcl] at CC
    clear HDY HFM hcl
    go_wp2_with fail
    refine CC.out.mono ?_
    rintro e w2 ⟨rfl, hb2⟩
    have B2 := Lib.hid (below_step HB.out hb2)
    have HR2 := Lib.hid (HR.out.below B2.out)
    obtain ⟨w3, hmk, HO3, hb3, hs3⟩ := made_segs w2 n (by omega)
    have HO3 := Lib.hid HO3
    have hz2 := B2.out.size
    clear hb2 HB CC HR
    go_wp2
    go_loopw [103] (fun i wr => ∃ k : Nat, k ≤ n ∧ i = .int .i64 k ∧ Hid (Below w2.heap.size w2 wr) ∧ Hid (OwnR Ty.segs 46 w2.heap.size (fun b => b = w2.heap.size) wr (.slice (some ⟨w2.heap.size, 0, none⟩) n n) ((List.range k).map (fun i : Nat => boundsZ m (i : Int)) ++ List.replicate (n - k) []))) (fun i _ => n - (intOf i).toNat)
    case atStart => exact ⟨0, Nat.zero_le _, rfl, hb3, Lib.hid (by simpa using HO3.out)⟩
    case round =>
     obtain ⟨k, hk, rfl, HBr, HOw⟩ := hrel
     clear HO3 hb3 hmk
     by_cases hlt : k < n
     ·have HOS := Lib.hid (own_snoc m n k hlt)
      have how : ((List.range k).map (fun i : Nat => boundsZ m (i : Int)) ++ List.replicate (n - k) []).length = n := by rw [List.length_append, List.length_map, List.length_range, List.length_replicate]; omega
      generalize (List.range k).map (fun i : Nat => boundsZ m (i : Int)) ++ List.replicate (n - k) [] = ow at *
      have CB := Lib.hid (mesh_bounds m A m.length c (k : Int) wr (HR2.out.below HBr.out) rfl (by omega))
      generalize hbz : boundsZ m (k : Int) = bz at *
      clear hbz
      go_wp2_with fail
      refine CB.out.mono ?_
      rintro e w5 ⟨u, rfl, HU, hb5⟩
      have hzr := HBr.out.size
      have HOw5 := HOw.out.below hb5
      obtain ⟨_, _, hMG, cur, hcur, hcz⟩ := OwnR.blkB HOw5
      have hGl := lt_of_block hcur
      have hGr : w2.heap.size < wr.heap.size := by obtain ⟨_, _, _, cu0, hc0, _⟩ := OwnR.blkB HOw.out; exact lt_of_block hc0
      obtain ⟨Au, cu, rfl, hul, hur⟩ := OwnR.rowB sg_flat HU (fun j => ¬ j = w2.heap.size) (fun b hb e => by have h1 := (OwnR.lt HU b hb).1; omega)
      have hks : k < cur.size := by rw [hcz]; show k < n * 1; omega
      have hcell := blk_cell hcur k (v := cur[k]) (by simp [hks])
      have hfree := blk_free hcur k
      obtain ⟨HOw6, hk6⟩ := OwnR.set1 (T := Ty.segs) rfl HOw5 how.symm k (y := bz) (V := .slice Au bz.length cu) ⟨Au, cu, rfl, hul, hur⟩
      have HB6 := Lib.hid (below_kept (below_step HBr.out hb5) hk6 (fun b e => by omega))
      have HOw6 := Lib.hid HOw6
      clear HU hur HOw5 hk6 hcur hb5 HBr HOw CB
      go_wp2
      go_roundw
      case rel => exact ⟨k + 1, by omega, by go_num, HB6, Lib.hid (by rw [← HOS.out]; exact HOw6.out)⟩
      case measure => simp [intOf]; omega
     ·obtain rfl : k = n := by omega
      have HOw : Hid (OwnR Ty.segs 46 w2.heap.size (fun b => b = w2.heap.size) wr (.slice (some ⟨w2.heap.size, 0, none⟩) k k) (ownZ m)) := Lib.hid (by rw [HOZ.out]; have := HOw.out; rwa [Nat.sub_self, List.replicate_zero, List.append_nil] at this)
      obtain ⟨A0, c0, e0, _, hro, _⟩ := OwnR.reads HOw.out
      have hA0 : A0 = some ⟨w2.heap.size, 0, none⟩ := by injection e0 with h; exact h.symm
      subst hA0
      clear e0
      have hkl : k = (ownZ m).length := by rw [HOZ.out, List.length_map, List.length_range]
      have HRW := Lib.hid (HR2.out.below HBr.out)
      have BW := Lib.hid (below_step B2.out HBr.out)
      have CBD := Lib.hid (mesh_Build (ownZ m) (some ⟨w2.heap.size, 0, none⟩) k k wr hro hkl (by have := HOL.out; omega) HO6.out (by have := HOA.out; omega) (by have := HND.out; omega))
      clear hro hkl HOw HBr HOZ HO6 HOA HOL HND HR2
      generalize buildZ (ownZ m) = bz at *
      obtain ⟨bm, be⟩ := bz
      (try simp only at HF)
      go_wp2_with fail
      refine CBD.out.mono ?_
      rintro e w5 ⟨hBR, hb5⟩
      obtain ⟨Ab, cb, rfl, hbr⟩ := hBR
      have HRB := Lib.hid hbr
      have BW5 := Lib.hid (below_step BW.out hb5)
      have CS := Lib.hid (mesh_Same bm m Ab A bm.length m.length cb c w5 hbr (HRW.out.below hb5) rfl rfl)
      clear hbr hb5 CBD BW HRW
      (try simp only at CS)
      by_cases he : be = 0
      ·subst he
       by_cases hs : bm = m
       ·have HF2 := Lib.hid (HF.out.trans (if_pos ⟨rfl, hs⟩))
        rw [decide_eq_true hs] at CS
        clear HF hs
        go_wp2_with fail
        refine CS.out.mono ?_
        rintro e w6 ⟨rfl, hb6⟩
        have B6 := Lib.hid (below_step BW5.out hb6)
        clear hb6 CS
        go_wp2
        go_ret
        exact ⟨ret_int HF2.out.symm, B6.out⟩
       ·have HF2 := Lib.hid (HF.out.trans (if_neg (fun h => hs h.2)))
        rw [decide_eq_false hs] at CS
        clear HF hs
        go_wp2_with fail
        refine CS.out.mono ?_
        rintro e w6 ⟨rfl, hb6⟩
        have B6 := Lib.hid (below_step BW5.out hb6)
        clear hb6 CS
        go_wp2
        go_ret
        exact ⟨ret_int HF2.out.symm, B6.out⟩
      ·have HF2 := Lib.hid (HF.out.trans (if_neg (fun h => he h.1)))
       have hq : (be != 0) = true := by simpa using he
       clear HF he CS
       go_wp2
       go_ret
       exact ⟨ret_int HF2.out.symm, BW5.out⟩
end
section
open Go.RowKit Go.Proofs.YtaeflnbjeaoapaaGreatW.PrintLast

attribute [local go_sem high] eqPt eqSg
def lenV : Value → Nat
 | .slice _ n _ => n
 | _ => 0
theorem run_succ (limit : Int) (n : Nat) (m : Msh) (c : Cor) (h : bestZ m limit = some c) : runZ limit (n + 1) m = runZ limit n (withoutZ m c) := by
 show (match bestZ m limit with | none => m | some c => runZ limit n (withoutZ m c)) = _
 rw [h]
set_option maxHeartbeats 1000000 in
theorem simplify_Mesh {ok : Nat → Prop} (m : Msh) (A : Option Addr) (n c : Nat) (limit : Int) (w : World) (hr : Row Ty.edge ok w A m) (hn : n = m.length) (hf : fewM m = true) :
  Calls Tryz.prog 10 #[.slice A n c, .int .i64 limit] w fun e w' => ∃ A' c', e = .returned (.slice A' (meshZ m limit).length c') ∧ Row Ty.edge (fun _ => True) w' A' (meshZ m limit) ∧ Below w.heap.size w w' := by
 subst hn
 have HR := Lib.hid (hr.mono (ok' := fun _ => True) (fun _ _ => trivial))
 have CC := Lib.hid (mesh_Check m A m.length c w hr rfl hf)
 have hm40 := (few_all hf).1
 have HM0 : Hid (checkM m = 0 → meshZ m limit = runZ limit m.length m) := Lib.hid (fun h => if_pos h)
 have HM1 : Hid (¬ checkM m = 0 → meshZ m limit = m) := Lib.hid (fun h => if_neg h)
 have HFW := Lib.hid hf
 clear hr hf
 by_cases h0 : checkM m = 0
 ·have HM := Lib.hid (HM0.out h0)
  rw [h0] at CC
  clear HM0 HM1 h0
  go_enter Tryz.func10, Tryz.ntmps10
  go_wp2_with fail
  go_step3
  go_wp2_with fail
  refine CC.out.mono ?_
  rintro e w1 ⟨rfl, hb1⟩
  have HR1 := Lib.hid (HR.out.below hb1)
  have HB1 := Lib.hid hb1
  clear hb1 CC HR
  go_wp2
  go_step3
  go_wp2
  go_loopw [0] (fun v wr => ∃ (x : Msh) (q : Nat) (A' : Option Addr) (c' : Nat), v = .slice A' x.length c' ∧ Hid (Row Ty.edge (fun _ => True) wr A' x) ∧ Hid (Below w.heap.size w wr) ∧ Hid (fewM x = true) ∧ x.length ≤ q ∧ Hid (runZ limit m.length m = runZ limit q x)) (fun v _ => lenV v)
  case atStart => exact ⟨m, m.length, A, c, rfl, HR1, HB1, HFW, Nat.le_refl _, rfl⟩
  case round =>
   obtain ⟨x, q, A', c', rfl, HRx, HBx, HFx, hq, HRun⟩ := hrel
   clear HR1 HB1
   have hx40 := (few_all HFx.out).1
   have CS := Lib.hid (simplify_step x A' x.length c' limit wr HRx.out rfl (by omega))
   go_wp2_with fail
   refine CS.out.mono ?_
   rintro e w2 ⟨hS, hb2⟩
   have HB2 := Lib.hid (below_step HBx.out hb2)
   cases hbz : bestZ x limit with
   | none =>
    rw [hbz] at hS
    obtain rfl : e = _ := hS
    have HRx2 := Lib.hid (HRx.out.below hb2)
    have HE : Hid (meshZ m limit = x) := Lib.hid (by rw [HM.out, HRun.out, run_same hbz])
    clear HRun hbz hb2 CS HRx HBx
    go_wp2
    rw [Exit.noGoto_ret]
    go_ret
    exact ⟨A', c', by rw [HE.out]; rfl, by rw [HE.out]; exact HRx2.out, HB2.out⟩
   | some cr =>
    rw [hbz] at hS
    obtain ⟨A2, c2, rfl, hr2⟩ := hS
    obtain ⟨pp, hpp⟩ := best_remov hbz
    have hwl := without_len hpp
    obtain ⟨q', rfl⟩ : ∃ q', q = q' + 1 := ⟨q - 1, by omega⟩
    have HRun2 := Lib.hid (HRun.out.trans (run_succ limit q' x cr hbz))
    have HF2 := Lib.hid (without_few hpp HFx.out)
    have HR2 := Lib.hid hr2
    have hwl1 : (withoutZ x cr).length < x.length := by omega
    have hwl2 : (withoutZ x cr).length ≤ q' := by omega
    clear hwl HRun hbz hpp hr2 hb2 CS HRx HBx HFx
    generalize withoutZ x cr = y at *
    go_wp2
    go_roundw
    case rel => exact ⟨y, q', A2, c2, rfl, HR2, HB2, HF2, hwl2, HRun2⟩
    case measure => exact hwl1
 ·have HM := Lib.hid (HM1.out h0)
  have hq : (checkM m != 0) = true := by simpa using h0
  clear HM0 HM1 h0
  go_enter Tryz.func10, Tryz.ntmps10
  go_wp2_with fail
  go_step3
  go_wp2_with fail
  refine CC.out.mono ?_
  rintro e w1 ⟨rfl, hb1⟩
  have HR1 := Lib.hid (HR.out.below hb1)
  clear CC HR
  go_wp2
  rw [Exit.noGoto_ret]
  go_ret
  exact ⟨A, c, by rw [HM.out]; rfl, by rw [HM.out]; exact HR1.out, hb1⟩
theorem simplify_Points {ok : Nat → Prop} (m : Msh) (A : Option Addr) (n c : Nat) (w : World) (hr : Row Ty.edge ok w A m) (hn : n = m.length) (hf : fewM m = true) :
  Calls Tryz.prog 6 #[.slice A n c] w fun e w' => ∃ A' c', e = .returned (.slice A' (pointsM m).length c') ∧ Row Ty.pt (fun _ => True) w' A' (pointsM m) ∧ Below w.heap.size w w' := by
 subst hn
 have HR := Lib.hid hr
 have CC := Lib.hid (mesh_Check m A m.length c w hr rfl hf)
 have hm40 := (few_all hf).1
 have HM0 : Hid (checkM m = 0 → pointsM m = pointsZ m) := Lib.hid (fun h => if_pos h)
 have HM1 : Hid (¬ checkM m = 0 → pointsM m = []) := Lib.hid (fun h => if_neg h)
 clear hr hf
 by_cases h0 : checkM m = 0
 ·have HM := Lib.hid (HM0.out h0)
  rw [h0] at CC
  clear HM0 HM1 h0
  go_enter Tryz.func6, Tryz.ntmps6
  go_wp2_with fail
  refine CC.out.mono ?_
  rintro e w1 ⟨rfl, hb1⟩
  have CP := Lib.hid (simplify_points m A m.length c w1 (HR.out.below hb1) rfl (by omega))
  clear CC HR
  go_wp2_with fail
  refine CP.out.mono ?_
  rintro e w2 ⟨v, rfl, HO, hb2⟩
  obtain ⟨A', c', rfl, _, hrp⟩ := Own1.reads HO
  have HRP := Lib.hid hrp
  rw [← HM.out] at HRP
  rw [← HM.out]
  clear HO hrp CP
  go_wp2
  go_ret
  exact ⟨A', c', rfl, HRP.out, (by repeat (first | exact Below.refl _ _ | apply below_alloc | apply below_drewN | apply below_drew | (refine below_set2 ?_ ?_; (first | (simp; done) | (simp; omega))) | (refine below_step ?_ hb2) | (refine below_step ?_ hb1)))⟩
 ·have HM := Lib.hid (HM1.out h0)
  have hq : (checkM m != 0) = true := by simpa using h0
  clear HM0 HM1 h0
  go_enter Tryz.func6, Tryz.ntmps6
  go_wp2_with fail
  refine CC.out.mono ?_
  rintro e w1 ⟨rfl, hb1⟩
  clear CC HR
  go_wp2
  go_ret
  exact ⟨none, 0, by rw [HM.out]; rfl, by rw [HM.out]; exact Row.nil _ _ _ _, hb1⟩
theorem simplify_Size {ok : Nat → Prop} (m : Msh) (A : Option Addr) (n c : Nat) (p1 p2 : Int) (w : World) (hr : Row Ty.edge ok w A m) (hn : n = m.length) (hf : fewM m = true) (s : Int) (hs : checkM m = 0) (ha : ∃ d, atZ m (p1, p2) = some d ∧ d.size = s) :
  Calls Tryz.prog 8 #[.slice A n c, .agg #[.int .i64 p1, .int .i64 p2]] w fun e w' => e = .returned (.tuple #[.int .i64 s, .bool true]) ∧ Below w.heap.size w w' := by
 subst hn
 have HR := Lib.hid (hr.mono (ok' := fun _ => True) (fun _ _ => trivial))
 have HFW := Lib.hid hf
 have hm40 := (few_all hf).1
 have HCK := Lib.hid hs
 have hB0 : Below w.heap.size w (w.alloc (.cells #[.int .i64 p1, .int .i64 p2] 28)) := bq
 have CA := Lib.hid (simplify_at m A m.length c p1 p2 _ (HR.out.below hB0) rfl (by omega))
 obtain ⟨d, had, hds⟩ := ha
 subst hds
 rw [had] at CA
 clear hr hf hs had
 go_enter Tryz.func8, Tryz.ntmps8
 go_wp2_with fail
 refine CA.out.mono ?_
 rintro e w1 ⟨hA, hb1⟩
 obtain ⟨v, rfl, LA, ln, RA, rn, rfl, _, _, _, _⟩ := hA
 have B1 : Below w.heap.size w w1 := (by repeat (first | exact Below.refl _ _ | apply below_alloc | apply below_drewN | apply below_drew | (refine below_set2 ?_ ?_; (first | (simp; done) | (simp; omega))) | (refine below_step ?_ hb1)))
 have CC := Lib.hid (fun W (hb : Below w1.heap.size w1 W) => mesh_Check m A m.length c W ((HR.out.below B1).below hb) rfl HFW.out)
 rw [HCK.out] at CC
 have hzz := B1.size
 clear hb1 CA
 go_wp2_with fail
 refine (CC.out _ bq).mono ?_
 rintro e w2 ⟨rfl, hb2⟩
 have hck := (hb2.block w1.heap.size (by simp)).trans (heap_alloc_new w1 _)
 have c6 := blk_cell hck 6 rfl
 clear CC
 go_wp2
 go_ret2
 exact ⟨rfl, (by repeat (first | exact Below.refl _ _ | apply below_alloc | apply below_drewN | apply below_drew | (refine below_set2 ?_ ?_; (first | (simp; done) | (simp; omega))) | (refine below_step ?_ hb2) | (refine below_step ?_ B1)))⟩
theorem simplify_Removable {ok : Nat → Prop} (m : Msh) (A : Option Addr) (n c : Nat) (p1 p2 : Int) (w : World) (hr : Row Ty.edge ok w A m) (hn : n = m.length) (hf : fewM m = true) (hs : checkM m = 0) (ha : ∃ d, removZ m (p1, p2) = some d) :
  Calls Tryz.prog 11 #[.slice A n c, .agg #[.int .i64 p1, .int .i64 p2]] w fun e w' => e = .returned (.bool true) ∧ Below w.heap.size w w' := by
 subst hn
 have HR := Lib.hid (hr.mono (ok' := fun _ => True) (fun _ _ => trivial))
 have HFW := Lib.hid hf
 have hm40 := (few_all hf).1
 have HCK := Lib.hid hs
 have hB0 : Below w.heap.size w (w.alloc (.cells #[.int .i64 p1, .int .i64 p2] 28)) := bq
 have CA := Lib.hid (simplify_removable m A m.length c p1 p2 _ (HR.out.below hB0) rfl (by omega))
 obtain ⟨d, had⟩ := ha
 rw [had] at CA
 clear hr hf hs had
 go_enter Tryz.func11, Tryz.ntmps11
 go_wp2_with fail
 refine CA.out.mono ?_
 rintro e w1 ⟨hA, hb1⟩
 obtain ⟨v, rfl, LA, ln, RA, rn, rfl, _, _, _, _⟩ := hA
 have B1 : Below w.heap.size w w1 := (by repeat (first | exact Below.refl _ _ | apply below_alloc | apply below_drewN | apply below_drew | (refine below_set2 ?_ ?_; (first | (simp; done) | (simp; omega))) | (refine below_step ?_ hb1)))
 have CC := Lib.hid (fun W (hb : Below w1.heap.size w1 W) => mesh_Check m A m.length c W ((HR.out.below B1).below hb) rfl HFW.out)
 rw [HCK.out] at CC
 clear hb1 CA
 go_wp2_with fail
 refine (CC.out _ bq).mono ?_
 rintro e w2 ⟨rfl, hb2⟩
 clear CC
 go_wp2
 go_ret
 exact ⟨rfl, (by repeat (first | exact Below.refl _ _ | apply below_alloc | apply below_drewN | apply below_drew | (refine below_set2 ?_ ?_; (first | (simp; done) | (simp; omega))) | (refine below_step ?_ hb2) | (refine below_step ?_ B1)))⟩
end
end Go.Proofs.YtaeflnbjeaoapaaGreat
