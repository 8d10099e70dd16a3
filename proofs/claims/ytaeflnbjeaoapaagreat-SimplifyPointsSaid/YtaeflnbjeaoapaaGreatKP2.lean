/- Contracts of seg.Within, seg.sign, seg.flat and seg.Relate. -/
import Derived.Test.YtaeflnbjeaoapaaGreatKPW
import Derived.Test.YtaeflnbjeaoapaaGreatKP1
namespace Go.Proofs.YtaeflnbjeaoapaaGreat
set_option linter.unusedVariables false
set_option linter.unusedSimpArgs false
section
open Go.RowKit Go.Proofs.YtaeflnbjeaoapaaGreatW.PrintLast

attribute [local go_sem high] eqPt eqSg
theorem blk_cell {w : World} {g : Nat} {cs : Array Value} {t : TypeId} (h : w.heap[g]? = some (.cells cs t (0, 0))) (i : Nat) {v : Value} (hv : cs[i]? = some v) : w.cell? ⟨g, i, none⟩ = some v := by
 simp [World.cell?, h, hv]
theorem blk_free {w : World} {g : Nat} {cs : Array Value} {t : TypeId} (h : w.heap[g]? = some (.cells cs t (0, 0))) (i : Nat) : w.frozen? ⟨g, i, none⟩ = false := by
 simp [World.frozen?, h]
theorem blk_below {W w1 : World} {g : Nat} {o : Obj} (h : W.heap[g]? = some o) (hb : Below W.heap.size W w1) : w1.heap[g]? = some o := (hb.block g (lt_of_block h)).trans h
theorem blk_alloc {W : World} {g : Nat} {o : Obj} (h : W.heap[g]? = some o) (q : Obj) : (W.alloc q).heap[g]? = some o := blk_below h (below_alloc (Below.refl _ _) q)
theorem blk_drewN {W : World} {g : Nat} {o : Obj} (h : W.heap[g]? = some o) (n : Nat) : (W.drewN n).heap[g]? = some o := h
theorem blk_far {W : World} {g b i : Nat} {o : Obj} (h : W.heap[g]? = some o) (hne : g ≠ b) (v : Value) : (W.setCell ⟨b, i, none⟩ v).heap[g]? = some o := by
 rw [Below.heap_setCell W _ v g hne]; exact h
theorem ofS_eq (s : Sg) : ofS s = ofB s.1 s.2 := rfl
theorem withinB_off {p a b : Pt} (h : onB p a b = false) : withinB p a b = false := by simp [withinB, h]
theorem withinB_at {p a b : Pt} (h : onB p a b = true) (h1 : p = a) : withinB p a b = false := by simp [withinB, h, h1]
theorem withinB_end {p a b : Pt} (h : onB p a b = true) (h1 : p = b) : withinB p a b = false := by simp [withinB, h, h1]
theorem withinB_in {p a b : Pt} (h : onB p a b = true) (h1 : ¬ p = a) (h2 : ¬ p = b) : withinB p a b = true := by simp [withinB, h, h1, h2]
theorem seg_Within (q a b : Pt) (w : World) : Calls Tryz.prog 80 #[ptA q, ptA a, ptA b] w fun e w' => e = .returned (.bool (withinB q a b)) ∧ Below w.heap.size w w' := by
 have HS := Lib.hid (fun W => seg_On q.1 q.2 a.1 a.2 b.1 b.2 W)
 cases hv : onB q a b
 ·have HR : Hid (withinB q a b = false) := withinB_off hv
  have HV : Hid (onB (q.1, q.2) (a.1, a.2) (b.1, b.2) = false) := hv
  go_enter Tryz.func80, Tryz.ntmps80
  go_wp2_with fail
  (refine (HS.out _).mono ?_; rintro e w1 ⟨rfl, hb1⟩; obtain ⟨c_hb1, f_hb1⟩ := bcell hb1; have z_hb1 := hb1.size; (try simp at z_hb1); (try have y0_hb1 : w.heap.size < w1.heap.size := by omega); (try have y1_hb1 : w.heap.size + 1 < w1.heap.size := by omega); (try have y2_hb1 : w.heap.size + 1 + 1 < w1.heap.size := by omega); (try have y3_hb1 : w.heap.size + 1 + 1 + 1 < w1.heap.size := by omega); (try have y4_hb1 : w.heap.size + 1 + 1 + 1 + 1 < w1.heap.size := by omega))
  rw [HV.out]
  go_wp2
  go_ret
  exact ⟨ret_bool HR.out.symm, (by repeat (first | exact Below.refl _ _ | apply below_alloc | apply below_drewN | apply below_drew | (refine below_set2 ?_ ?_; (first | (simp; done) | (simp; omega))) | (refine below_step ?_ hb1)))⟩
 ·have HV : Hid (onB (q.1, q.2) (a.1, a.2) (b.1, b.2) = true) := hv
  by_cases h1 : q = a
  ·have HR : Hid (withinB q a b = false) := withinB_at hv h1
   have hd := (ptB q a).trans (decide_eq_true h1)
   clear h1 hv
   go_enter Tryz.func80, Tryz.ntmps80
   go_wp2_with fail
   (refine (HS.out _).mono ?_; rintro e w1 ⟨rfl, hb1⟩; obtain ⟨c_hb1, f_hb1⟩ := bcell hb1; have z_hb1 := hb1.size; (try simp at z_hb1); (try have y0_hb1 : w.heap.size < w1.heap.size := by omega); (try have y1_hb1 : w.heap.size + 1 < w1.heap.size := by omega); (try have y2_hb1 : w.heap.size + 1 + 1 < w1.heap.size := by omega); (try have y3_hb1 : w.heap.size + 1 + 1 + 1 < w1.heap.size := by omega); (try have y4_hb1 : w.heap.size + 1 + 1 + 1 + 1 < w1.heap.size := by omega))
   rw [HV.out]
   go_wp2
   go_ret
   exact ⟨ret_bool HR.out.symm, (by repeat (first | exact Below.refl _ _ | apply below_alloc | apply below_drewN | apply below_drew | (refine below_set2 ?_ ?_; (first | (simp; done) | (simp; omega))) | (refine below_step ?_ hb1)))⟩
  ·have hd := (ptB q a).trans (decide_eq_false h1)
   by_cases h2 : q = b
   ·have HR : Hid (withinB q a b = false) := withinB_end hv h2
    have hd2 := (ptB q b).trans (decide_eq_true h2)
    clear h1 h2 hv
    go_enter Tryz.func80, Tryz.ntmps80
    go_wp2_with fail
    (refine (HS.out _).mono ?_; rintro e w1 ⟨rfl, hb1⟩; obtain ⟨c_hb1, f_hb1⟩ := bcell hb1; have z_hb1 := hb1.size; (try simp at z_hb1); (try have y0_hb1 : w.heap.size < w1.heap.size := by omega); (try have y1_hb1 : w.heap.size + 1 < w1.heap.size := by omega); (try have y2_hb1 : w.heap.size + 1 + 1 < w1.heap.size := by omega); (try have y3_hb1 : w.heap.size + 1 + 1 + 1 < w1.heap.size := by omega); (try have y4_hb1 : w.heap.size + 1 + 1 + 1 + 1 < w1.heap.size := by omega))
    rw [HV.out]
    go_wp2
    go_ret
    exact ⟨ret_bool HR.out.symm, (by repeat (first | exact Below.refl _ _ | apply below_alloc | apply below_drewN | apply below_drew | (refine below_set2 ?_ ?_; (first | (simp; done) | (simp; omega))) | (refine below_step ?_ hb1)))⟩
   ·have HR : Hid (withinB q a b = true) := withinB_in hv h1 h2
    have hd2 := (ptB q b).trans (decide_eq_false h2)
    clear h1 h2 hv
    go_enter Tryz.func80, Tryz.ntmps80
    go_wp2_with fail
    (refine (HS.out _).mono ?_; rintro e w1 ⟨rfl, hb1⟩; obtain ⟨c_hb1, f_hb1⟩ := bcell hb1; have z_hb1 := hb1.size; (try simp at z_hb1); (try have y0_hb1 : w.heap.size < w1.heap.size := by omega); (try have y1_hb1 : w.heap.size + 1 < w1.heap.size := by omega); (try have y2_hb1 : w.heap.size + 1 + 1 < w1.heap.size := by omega); (try have y3_hb1 : w.heap.size + 1 + 1 + 1 < w1.heap.size := by omega); (try have y4_hb1 : w.heap.size + 1 + 1 + 1 + 1 < w1.heap.size := by omega))
    rw [HV.out]
    go_wp2
    go_ret
    exact ⟨ret_bool HR.out.symm, (by repeat (first | exact Below.refl _ _ | apply below_alloc | apply below_drewN | apply below_drew | (refine below_set2 ?_ ?_; (first | (simp; done) | (simp; omega))) | (refine below_step ?_ hb1)))⟩
theorem seg_sign (n : Int) (w : World) : Calls Tryz.prog 103 #[.int .i64 n] w fun e w' => e = .returned (.int .i64 (signZ n)) ∧ Below w.heap.size w w' := by
 go_enter Tryz.func103, Tryz.ntmps103
 go_wp2
 all_goals go_ret
 all_goals exact ⟨ret_int (by unfold signZ; omega), bq⟩
theorem two_alloc (W : World) (o1 o2 : Obj) : ((W.alloc o1).alloc o2).heap[W.heap.size]? = some o1 ∧ ((W.alloc o1).alloc o2).heap[W.heap.size + 1]? = some o2 := by
 constructor
 ·exact blk_alloc (heap_alloc_new W o1) o2
 ·have := heap_alloc_new (W.alloc o1) o2
  rwa [show (W.alloc o1).heap.size = W.heap.size + 1 by simp] at this
set_option maxRecDepth 100000 in
set_option maxHeartbeats 1000000 in
theorem seg_flat (s1 s2 s3 s4 t1 t2 t3 t4 : Int) (w : World) : Calls Tryz.prog 104 #[.agg #[.int .i64 s1, .int .i64 s2, .int .i64 s3, .int .i64 s4], .agg #[.int .i64 t1, .int .i64 t2, .int .i64 t3, .int .i64 t4]] w fun e w' => e = .returned (.int .i64 (flatZ ((s1, s2), (s3, s4)) ((t1, t2), (t3, t4)))) ∧ Below w.heap.size w w' := by
 obtain ⟨r, hr⟩ : ∃ r, r = flatZ ((s1, s2), (s3, s4)) ((t1, t2), (t3, t4)) := ⟨_, rfl⟩
 rw [← hr]
 have HF := Lib.hid hr
 clear hr
 go_enter Tryz.func104, Tryz.ntmps104
 go_wp2_with fail
 obtain ⟨W0, hW0⟩ : ∃ W0, W0 = (w.alloc (.cells #[.int .i64 s1, .int .i64 s2, .int .i64 s3, .int .i64 s4] 48)).alloc (.cells #[.int .i64 t1, .int .i64 t2, .int .i64 t3, .int .i64 t4] 48) := ⟨_, rfl⟩
 have HA : W0.heap[w.heap.size]? = some (.cells #[.int .i64 s1, .int .i64 s2, .int .i64 s3, .int .i64 s4] 48 (0, 0)) := by rw [hW0]; exact (two_alloc w _ _).1
 have HT : W0.heap[w.heap.size + 1]? = some (.cells #[.int .i64 t1, .int .i64 t2, .int .i64 t3, .int .i64 t4] 48 (0, 0)) := by rw [hW0]; exact (two_alloc w _ _).2
 have HB0 : Below w.heap.size w W0 := by rw [hW0]; exact below_alloc (below_alloc (Below.refl _ _) _) _
 have hsz0 := lt_of_block HT
 rw [← hW0]
 clear hW0
 refine start_ (n := 8) (S := fun w' => w'.cell? ⟨w.heap.size, 0, none⟩ = some (.int .i64 s1) ∧ w'.cell? ⟨w.heap.size, 1, none⟩ = some (.int .i64 s2) ∧ w'.cell? ⟨w.heap.size, 2, none⟩ = some (.int .i64 s3) ∧ w'.cell? ⟨w.heap.size, 3, none⟩ = some (.int .i64 s4)) (ds := [7]) #[Z,Z,Z,Z,Z,Z,Z,Z] (by kernel_rfl) rfl rfl ⟨blk_cell HA 0 rfl, blk_cell HA 1 rfl, blk_cell HA 2 rfl, blk_cell HA 3 rfl⟩ (fun hHeld => ?_)
 refine pu 0 7 ?_
 refine pu 2 9 ?_
 refine ta 1 8 hHeld ?_
 refine ta 3 10 hHeld ?_
 refine join_ (σ := Nat × Nat) 2 #[J,J,J,J,J,J,Z,Z] (fun s => [(5, .pointer (some ⟨s.1, 0, none⟩)), (6, .pointer (some ⟨s.2, 0, none⟩))]) (fun s w' => W0.heap.size ≤ s.1 ∧ W0.heap.size ≤ s.2 ∧ s.1 ≠ s.2 ∧ w'.heap[s.1]? = some (.cells #[.int .i64 0, .int .i64 0] 28 (0, 0)) ∧ w'.heap[s.2]? = some (.cells #[.int .i64 0, .int .i64 0] 28 (0, 0)) ∧ Below W0.heap.size W0 w') ?_ ?_
 rotate_left
 ·intro hCont
  refine two_ (i := 4) (j := 5) (Ni := some 5) (Nj := some 6) #[J,J,J,J,J,Z,Z,Z] #[J,J,J,J,Z,J,Z,Z] rfl rfl rfl rfl (by kernel_rfl) (by decide) (by decide) (fun K hK => ?_) (fun K hK => ?_)
  ·skip
   refine value_ (w1 := ?_) (v := ?_) (by rfl) rfl ?_ ?_
   rotate_left 2
   ·go_simp
    constructor
    ·rfl
    ·rfl
   refine hK.out _ _ ⟨blk_cell (blk_alloc HA _) 0 rfl, blk_cell (blk_alloc HA _) 1 rfl, blk_cell (blk_alloc HA _) 2 rfl, blk_cell (blk_alloc HA _) 3 rfl⟩ (fun hHeld => ?_)
   clear hK K
   refine nm 5 ?_
   refine one_ (i := 5) (N := some 6) #[J,J,J,J,J,J,Z,Z] rfl rfl (by kernel_rfl) (by decide) (fun K hK => ?_)
   refine value_ (w1 := ?_) (v := ?_) (by rfl) rfl ?_ ?_
   rotate_left 2
   ·go_simp
    constructor
    ·rfl
    ·rfl
   refine hK.out _ _ ⟨blk_cell (blk_alloc (blk_alloc HA _) _) 0 rfl, blk_cell (blk_alloc (blk_alloc HA _) _) 1 rfl, blk_cell (blk_alloc (blk_alloc HA _) _) 2 rfl, blk_cell (blk_alloc (blk_alloc HA _) _) 3 rfl⟩ (fun hHeld => ?_)
   clear hK K
   refine nm 6 ?_
   exact norm_ (by simp only [putAll, Act.put, List.setIfInBounds_toArray, List.set_cons_zero, List.set_cons_succ]) (hCont (W0.heap.size, W0.heap.size + 1) _ ⟨Nat.le_refl _, Nat.le_succ _, by simp, (two_alloc W0.drew _ _).1, (two_alloc W0.drew _ _).2, below_alloc (below_alloc (below_drew (Below.refl _ _)) _) _⟩)
  ·skip
   refine value_ (w1 := ?_) (v := ?_) (by rfl) rfl ?_ ?_
   rotate_left 2
   ·go_simp
    constructor
    ·rfl
    ·rfl
   refine hK.out _ _ ⟨blk_cell (blk_alloc HA _) 0 rfl, blk_cell (blk_alloc HA _) 1 rfl, blk_cell (blk_alloc HA _) 2 rfl, blk_cell (blk_alloc HA _) 3 rfl⟩ (fun hHeld => ?_)
   clear hK K
   refine nm 6 ?_
   refine one_ (i := 4) (N := some 5) #[J,J,J,J,J,J,Z,Z] rfl rfl (by kernel_rfl) (by decide) (fun K hK => ?_)
   refine value_ (w1 := ?_) (v := ?_) (by rfl) rfl ?_ ?_
   rotate_left 2
   ·go_simp
    constructor
    ·rfl
    ·rfl
   refine hK.out _ _ ⟨blk_cell (blk_alloc (blk_alloc HA _) _) 0 rfl, blk_cell (blk_alloc (blk_alloc HA _) _) 1 rfl, blk_cell (blk_alloc (blk_alloc HA _) _) 2 rfl, blk_cell (blk_alloc (blk_alloc HA _) _) 3 rfl⟩ (fun hHeld => ?_)
   clear hK K
   refine nm 5 ?_
   exact norm_ (by simp only [putAll, Act.put, List.setIfInBounds_toArray, List.set_cons_zero, List.set_cons_succ]) (hCont (W0.heap.size + 1, W0.heap.size) _ ⟨Nat.le_succ _, Nat.le_refl _, by simp, (two_alloc W0.drew _ _).2, (two_alloc W0.drew _ _).1, below_alloc (below_alloc (below_drew (Below.refl _ _)) _) _⟩)
 rintro ⟨p, q⟩ w1 ⟨hp, hq, hpq, hP, hQ, hW1⟩
 have hAp : ¬ w.heap.size = p := by have := lt_of_block HA; omega
 have hAq : ¬ w.heap.size = q := by have := lt_of_block HA; omega
 have hpqn : ¬ p = q := hpq
 have hqpn : ¬ q = p := fun e => hpq e.symm
 have hA1 := blk_below HA hW1
 have hHeld := And.intro (blk_cell hA1 0 rfl) (And.intro (blk_cell hA1 1 rfl) (And.intro (blk_cell hA1 2 rfl) (blk_cell hA1 3 rfl)))
 have pf0 := blk_free hP 0
 have pc0 := blk_cell hP 0 rfl
 have pf1 := blk_free hP 1
 have pc1 := blk_cell hP 1 rfl
 have qf0 := blk_free hQ 0
 have qc0 := blk_cell hQ 0 rfl
 have qf1 := blk_free hQ 1
 have qc1 := blk_cell hQ 1 rfl
 refine norm_ (a' := ?_) ?_ ?_
 rotate_left
 ·simp only [putAll, Act.put, List.setIfInBounds_toArray, List.set_cons_zero, List.set_cons_succ]
  rfl
 refine one_ (i := 6) (N := none) #[J,J,J,J,J,J,J,Z] rfl rfl (by kernel_rfl) (by decide) (fun K hK => ?_)
 refine skip_ (w1 := ?_) (by rfl) rfl ?_ ?_
 rotate_left
 ·go_simp
  rfl
 refine hK.out _ _ ⟨blk_cell (blk_far (blk_far hA1 hAp _) hAp _) 0 rfl, blk_cell (blk_far (blk_far hA1 hAp _) hAp _) 1 rfl, blk_cell (blk_far (blk_far hA1 hAp _) hAp _) 2 rfl, blk_cell (blk_far (blk_far hA1 hAp _) hAp _) 3 rfl⟩ (fun hHeld => ?_)
 clear hK K
 refine last_ (i := 7) (N := none) #[J,J,J,J,J,J,J,J] rfl rfl (by kernel_rfl) (by decide) (fun K hK => ?_)
 refine skip_ (w1 := ?_) (by rfl) rfl ?_ ?_
 rotate_left
 ·go_simp
  rfl
 refine hK.out _ _ ?_
 clear hK K
 refine done_ (by kernel_rfl) ?_
 clear hHeld pf0 pf1 qf0 qf1 pc0 pc1 qc0 qc1
 obtain ⟨W3, hW3⟩ : ∃ W3, W3 = (((w1.setCell ⟨p, 0, none⟩ (.int .i64 s1)).setCell ⟨p, 1, none⟩ (.int .i64 s2)).setCell ⟨q, 0, none⟩ (.int .i64 s3)).setCell ⟨q, 1, none⟩ (.int .i64 s4) := ⟨_, rfl⟩
 have HP : W3.heap[p]? = some (.cells #[(.int .i64 s1), (.int .i64 s2)] 28 (0, 0)) := by rw [hW3]; exact blk_far (blk_far (blk_set (blk_set hP _) _) hpqn _) hpqn _
 have HQ : W3.heap[q]? = some (.cells #[(.int .i64 s3), (.int .i64 s4)] 28 (0, 0)) := by rw [hW3]; exact blk_set (blk_set (blk_far (blk_far hQ hqpn _) hqpn _) _) _
 have HA3 : W3.heap[w.heap.size]? = some (.cells #[(.int .i64 s1), (.int .i64 s2), (.int .i64 s3), (.int .i64 s4)] 48 (0, 0)) := by rw [hW3]; exact blk_far (blk_far (blk_far (blk_far hA1 hAp _) hAp _) hAq _) hAq _
 have hbp : ¬ w.heap.size + 1 = p := by have := lt_of_block HT; omega
 have hbq : ¬ w.heap.size + 1 = q := by have := lt_of_block HT; omega
 have HT3 : W3.heap[w.heap.size + 1]? = some (.cells #[.int .i64 t1, .int .i64 t2, .int .i64 t3, .int .i64 t4] 48 (0, 0)) := by rw [hW3]; exact blk_far (blk_far (blk_far (blk_far (blk_below HT hW1) hbp _) hbp _) hbq _) hbq _
 clear hbp hbq
 have HB3 : Below W0.heap.size W0 W3 := by rw [hW3]; exact below_set2 hq (below_set2 hq (below_set2 hp (below_set2 hp hW1)))
 rw [← hW3]
 clear hP hQ hA1 hW1 hAp hAq hW3
 have HBw : Hid (Below w.heap.size w W3) := below_step HB0 HB3
 clear HB0 HB3 HA HT
 have pc0 := blk_cell HP 0 rfl
 have pc1 := blk_cell HP 1 rfl
 have qc0 := blk_cell HQ 0 rfl
 have qc1 := blk_cell HQ 1 rfl
 have tc0 := blk_cell HT3 0 rfl
 have tc1 := blk_cell HT3 1 rfl
 have tc2 := blk_cell HT3 2 rfl
 have tc3 := blk_cell HT3 3 rfl
 go_wp2_with fail
 refine (grid_Less _ _ _ _ _).mono ?_
 rintro e w2 ⟨rfl, hb2⟩
 clear pc0 pc1 qc0 qc1 tc0 tc1 tc2 tc3
 have HP2 := blk_below HP hb2
 have HQ2 := blk_below HQ hb2
 have HT2 := blk_below HT3 hb2
 have htp : ¬ w.heap.size + 1 = p := by omega
 have htq : ¬ w.heap.size + 1 = q := by omega
 have HBw2 : Hid (Below w.heap.size w w2) := below_step HBw.out hb2
 clear HP HQ HT3 HBw hb2
 have hpw : w.heap.size ≤ p := by omega
 have hqw : w.heap.size ≤ q := by omega
 cases h1 : lessB (s1, s2) (t1, t2)
 ·have H1 := Lib.hid h1
  clear h1
  have pc0 := blk_cell HP2 0 rfl
  have pc1 := blk_cell HP2 1 rfl
  have qc0 := blk_cell HQ2 0 rfl
  have qc1 := blk_cell HQ2 1 rfl
  have tc0 := blk_cell HT2 0 rfl
  have tc1 := blk_cell HT2 1 rfl
  have tc2 := blk_cell HT2 2 rfl
  have tc3 := blk_cell HT2 3 rfl
  go_wp2_with fail
  refine (grid_Less _ _ _ _ _).mono ?_
  rintro e w4 ⟨rfl, hb4⟩
  clear pc0 pc1 qc0 qc1 tc0 tc1 tc2 tc3
  have HP4 := blk_below HP2 hb4
  have HQ4 := blk_below HQ2 hb4
  have HT4 := blk_below HT2 hb4
  have HBw4 : Hid (Below w.heap.size w w4) := below_step HBw2.out hb4
  clear HP2 HQ2 HT2 HBw2 hb4
  cases h2 : lessB (t3, t4) (s3, s4)
  ·have H2 := Lib.hid h2
   have pc0 := blk_cell HP4 0 rfl
   have pc1 := blk_cell HP4 1 rfl
   have qc0 := blk_cell HQ4 0 rfl
   have qc1 := blk_cell HQ4 1 rfl
   have tc0 := blk_cell HT4 0 rfl
   have tc1 := blk_cell HT4 1 rfl
   have tc2 := blk_cell HT4 2 rfl
   have tc3 := blk_cell HT4 3 rfl
   go_wp2_with fail
   refine (grid_Less _ _ _ _ _).mono ?_
   rintro e w5 ⟨rfl, hb5⟩
   clear pc0 pc1 qc0 qc1 tc0 tc1 tc2 tc3
   have HP5 := blk_below HP4 hb5
   have HQ5 := blk_below HQ4 hb5
   have pc0 : w5.cell? ⟨p, 0, none⟩ = some (.int .i64 s1) := blk_cell HP5 0 rfl
   have pc1 : w5.cell? ⟨p, 1, none⟩ = some (.int .i64 s2) := blk_cell HP5 1 rfl
   have qc0 : w5.cell? ⟨q, 0, none⟩ = some (.int .i64 s3) := blk_cell HQ5 0 rfl
   have qc1 : w5.cell? ⟨q, 1, none⟩ = some (.int .i64 s4) := blk_cell HQ5 1 rfl
   have HB5 : Hid (Below w.heap.size w w5) := below_step HBw4.out hb5
   clear HP5 HQ5 HP4 HQ4 HT4 HBw4 hb5
   cases h3 : lessB (s1, s2) (s3, s4)
   ·by_cases h4 : ((s1, s2) : Pt) = (s3, s4)
    ·have hd := (ptB (s1, s2) (s3, s4)).trans (decide_eq_true h4)
     have HR : Hid (r = 1) := by show r = _; rw [HF.out]; simp only [flatZ, H1.out, H2.out, h3, Bool.false_eq_true, if_true, if_false]; rw [if_pos h4]
     clear HF H1 H2 h2 h3 h4
     go_wp2
     go_ret
     exact ⟨ret_int HR.out.symm, HB5.out⟩
    ·have hd := (ptB (s1, s2) (s3, s4)).trans (decide_eq_false h4)
     have HR : Hid (r = 0) := by show r = _; rw [HF.out]; simp only [flatZ, H1.out, H2.out, h3, Bool.false_eq_true, if_true, if_false]; rw [if_neg h4]
     clear HF H1 H2 h2 h3 h4
     go_wp2
     go_ret
     exact ⟨ret_int HR.out.symm, HB5.out⟩
   ·have HR : Hid (r = 3) := by show r = _; rw [HF.out]; simp [flatZ, H1.out, H2.out, h3]
    clear HF H1 H2 h2 h3
    go_wp2
    go_ret
    exact ⟨ret_int HR.out.symm, HB5.out⟩
  ·have H2 := Lib.hid h2
   have pc0 := blk_cell HP4 0 rfl
   have pc1 := blk_cell HP4 1 rfl
   have qc0 := blk_cell HQ4 0 rfl
   have qc1 := blk_cell HQ4 1 rfl
   have tc0 := blk_cell HT4 0 rfl
   have tc1 := blk_cell HT4 1 rfl
   have tc2 := blk_cell HT4 2 rfl
   have tc3 := blk_cell HT4 3 rfl
   have pf0 := blk_free HP4 0
   have pf1 := blk_free HP4 1
   have qf0 := blk_free HQ4 0
   have qf1 := blk_free HQ4 1
   go_wp2_with fail
   refine (grid_Less _ _ _ _ _).mono ?_
   rintro e w5 ⟨rfl, hb5⟩
   clear pc0 pc1 qc0 qc1 tc0 tc1 tc2 tc3
   clear pf0 pf1 qf0 qf1
   have HP5 := blk_below (blk_far (blk_far HP4 hpqn (.int .i64 t3)) hpqn (.int .i64 t4)) hb5
   have HQ5 := blk_below (blk_set (blk_set HQ4 (i := 0) (.int .i64 t3)) (i := 1) (.int .i64 t4)) hb5
   have pc0 : w5.cell? ⟨p, 0, none⟩ = some (.int .i64 s1) := blk_cell HP5 0 rfl
   have pc1 : w5.cell? ⟨p, 1, none⟩ = some (.int .i64 s2) := blk_cell HP5 1 rfl
   have qc0 : w5.cell? ⟨q, 0, none⟩ = some (.int .i64 t3) := blk_cell HQ5 0 rfl
   have qc1 : w5.cell? ⟨q, 1, none⟩ = some (.int .i64 t4) := blk_cell HQ5 1 rfl
   have HB5 : Hid (Below w.heap.size w w5) := below_step (below_set2 hqw (below_set2 hqw HBw4.out)) hb5
   clear HP5 HQ5 HP4 HQ4 HT4 HBw4 hb5
   cases h3 : lessB (s1, s2) (t3, t4)
   ·by_cases h4 : ((s1, s2) : Pt) = (t3, t4)
    ·have hd := (ptB (s1, s2) (t3, t4)).trans (decide_eq_true h4)
     have HR : Hid (r = 1) := by show r = _; rw [HF.out]; simp only [flatZ, H1.out, H2.out, h3, Bool.false_eq_true, if_true, if_false]; rw [if_pos h4]
     clear HF H1 H2 h2 h3 h4
     go_wp2
     go_ret
     exact ⟨ret_int HR.out.symm, HB5.out⟩
    ·have hd := (ptB (s1, s2) (t3, t4)).trans (decide_eq_false h4)
     have HR : Hid (r = 0) := by show r = _; rw [HF.out]; simp only [flatZ, H1.out, H2.out, h3, Bool.false_eq_true, if_true, if_false]; rw [if_neg h4]
     clear HF H1 H2 h2 h3 h4
     go_wp2
     go_ret
     exact ⟨ret_int HR.out.symm, HB5.out⟩
   ·have HR : Hid (r = 3) := by show r = _; rw [HF.out]; simp [flatZ, H1.out, H2.out, h3]
    clear HF H1 H2 h2 h3
    go_wp2
    go_ret
    exact ⟨ret_int HR.out.symm, HB5.out⟩
 ·have H1 := Lib.hid h1
  clear h1
  have pc0 := blk_cell HP2 0 rfl
  have pc1 := blk_cell HP2 1 rfl
  have qc0 := blk_cell HQ2 0 rfl
  have qc1 := blk_cell HQ2 1 rfl
  have tc0 := blk_cell HT2 0 rfl
  have tc1 := blk_cell HT2 1 rfl
  have tc2 := blk_cell HT2 2 rfl
  have tc3 := blk_cell HT2 3 rfl
  have pf0 := blk_free HP2 0
  have pf1 := blk_free HP2 1
  have qf0 := blk_free HQ2 0
  have qf1 := blk_free HQ2 1
  go_wp2_with fail
  clear pc0 pc1 qc0 qc1 tc0 tc1 tc2 tc3
  clear pf0 pf1 qf0 qf1
  obtain ⟨W6, hW6⟩ : ∃ W6, W6 = (w2.setCell ⟨p, 0, none⟩ (.int .i64 t1)).setCell ⟨p, 1, none⟩ (.int .i64 t2) := ⟨_, rfl⟩
  have HP6 : W6.heap[p]? = some (.cells #[.int .i64 t1, .int .i64 t2] 28 (0, 0)) := by rw [hW6]; exact blk_set (blk_set HP2 _) _
  have HQ6 : W6.heap[q]? = some (.cells #[.int .i64 s3, .int .i64 s4] 28 (0, 0)) := by rw [hW6]; exact blk_far (blk_far HQ2 hqpn _) hqpn _
  have HT6 : W6.heap[w.heap.size + 1]? = some (.cells #[.int .i64 t1, .int .i64 t2, .int .i64 t3, .int .i64 t4] 48 (0, 0)) := by rw [hW6]; exact blk_far (blk_far HT2 htp _) htp _
  have HB6 : Hid (Below w.heap.size w W6) := by rw [hW6]; exact below_set2 hpw (below_set2 hpw HBw2.out)
  clear HP2 HQ2 HT2 HBw2
  rw [← hW6]
  clear hW6
  have pc0 := blk_cell HP6 0 rfl
  have pc1 := blk_cell HP6 1 rfl
  have qc0 := blk_cell HQ6 0 rfl
  have qc1 := blk_cell HQ6 1 rfl
  have tc0 := blk_cell HT6 0 rfl
  have tc1 := blk_cell HT6 1 rfl
  have tc2 := blk_cell HT6 2 rfl
  have tc3 := blk_cell HT6 3 rfl
  go_wp2_with fail
  refine (grid_Less _ _ _ _ _).mono ?_
  rintro e w4 ⟨rfl, hb4⟩
  clear pc0 pc1 qc0 qc1 tc0 tc1 tc2 tc3
  have HP4 := blk_below HP6 hb4
  have HQ4 := blk_below HQ6 hb4
  have HT4 := blk_below HT6 hb4
  have HBw4 : Hid (Below w.heap.size w w4) := below_step HB6.out hb4
  clear HP6 HQ6 HT6 HB6 hb4
  cases h2 : lessB (t3, t4) (s3, s4)
  ·have H2 := Lib.hid h2
   have pc0 := blk_cell HP4 0 rfl
   have pc1 := blk_cell HP4 1 rfl
   have qc0 := blk_cell HQ4 0 rfl
   have qc1 := blk_cell HQ4 1 rfl
   have tc0 := blk_cell HT4 0 rfl
   have tc1 := blk_cell HT4 1 rfl
   have tc2 := blk_cell HT4 2 rfl
   have tc3 := blk_cell HT4 3 rfl
   go_wp2_with fail
   refine (grid_Less _ _ _ _ _).mono ?_
   rintro e w5 ⟨rfl, hb5⟩
   clear pc0 pc1 qc0 qc1 tc0 tc1 tc2 tc3
   have HP5 := blk_below HP4 hb5
   have HQ5 := blk_below HQ4 hb5
   have pc0 : w5.cell? ⟨p, 0, none⟩ = some (.int .i64 t1) := blk_cell HP5 0 rfl
   have pc1 : w5.cell? ⟨p, 1, none⟩ = some (.int .i64 t2) := blk_cell HP5 1 rfl
   have qc0 : w5.cell? ⟨q, 0, none⟩ = some (.int .i64 s3) := blk_cell HQ5 0 rfl
   have qc1 : w5.cell? ⟨q, 1, none⟩ = some (.int .i64 s4) := blk_cell HQ5 1 rfl
   have HB5 : Hid (Below w.heap.size w w5) := below_step HBw4.out hb5
   clear HP5 HQ5 HP4 HQ4 HT4 HBw4 hb5
   cases h3 : lessB (t1, t2) (s3, s4)
   ·by_cases h4 : ((t1, t2) : Pt) = (s3, s4)
    ·have hd := (ptB (t1, t2) (s3, s4)).trans (decide_eq_true h4)
     have HR : Hid (r = 1) := by show r = _; rw [HF.out]; simp only [flatZ, H1.out, H2.out, h3, Bool.false_eq_true, if_true, if_false]; rw [if_pos h4]
     clear HF H1 H2 h2 h3 h4
     go_wp2
     go_ret
     exact ⟨ret_int HR.out.symm, HB5.out⟩
    ·have hd := (ptB (t1, t2) (s3, s4)).trans (decide_eq_false h4)
     have HR : Hid (r = 0) := by show r = _; rw [HF.out]; simp only [flatZ, H1.out, H2.out, h3, Bool.false_eq_true, if_true, if_false]; rw [if_neg h4]
     clear HF H1 H2 h2 h3 h4
     go_wp2
     go_ret
     exact ⟨ret_int HR.out.symm, HB5.out⟩
   ·have HR : Hid (r = 3) := by show r = _; rw [HF.out]; simp [flatZ, H1.out, H2.out, h3]
    clear HF H1 H2 h2 h3
    go_wp2
    go_ret
    exact ⟨ret_int HR.out.symm, HB5.out⟩
  ·have H2 := Lib.hid h2
   have pc0 := blk_cell HP4 0 rfl
   have pc1 := blk_cell HP4 1 rfl
   have qc0 := blk_cell HQ4 0 rfl
   have qc1 := blk_cell HQ4 1 rfl
   have tc0 := blk_cell HT4 0 rfl
   have tc1 := blk_cell HT4 1 rfl
   have tc2 := blk_cell HT4 2 rfl
   have tc3 := blk_cell HT4 3 rfl
   have pf0 := blk_free HP4 0
   have pf1 := blk_free HP4 1
   have qf0 := blk_free HQ4 0
   have qf1 := blk_free HQ4 1
   go_wp2_with fail
   refine (grid_Less _ _ _ _ _).mono ?_
   rintro e w5 ⟨rfl, hb5⟩
   clear pc0 pc1 qc0 qc1 tc0 tc1 tc2 tc3
   clear pf0 pf1 qf0 qf1
   have HP5 := blk_below (blk_far (blk_far HP4 hpqn (.int .i64 t3)) hpqn (.int .i64 t4)) hb5
   have HQ5 := blk_below (blk_set (blk_set HQ4 (i := 0) (.int .i64 t3)) (i := 1) (.int .i64 t4)) hb5
   have pc0 : w5.cell? ⟨p, 0, none⟩ = some (.int .i64 t1) := blk_cell HP5 0 rfl
   have pc1 : w5.cell? ⟨p, 1, none⟩ = some (.int .i64 t2) := blk_cell HP5 1 rfl
   have qc0 : w5.cell? ⟨q, 0, none⟩ = some (.int .i64 t3) := blk_cell HQ5 0 rfl
   have qc1 : w5.cell? ⟨q, 1, none⟩ = some (.int .i64 t4) := blk_cell HQ5 1 rfl
   have HB5 : Hid (Below w.heap.size w w5) := below_step (below_set2 hqw (below_set2 hqw HBw4.out)) hb5
   clear HP5 HQ5 HP4 HQ4 HT4 HBw4 hb5
   cases h3 : lessB (t1, t2) (t3, t4)
   ·by_cases h4 : ((t1, t2) : Pt) = (t3, t4)
    ·have hd := (ptB (t1, t2) (t3, t4)).trans (decide_eq_true h4)
     have HR : Hid (r = 1) := by show r = _; rw [HF.out]; simp only [flatZ, H1.out, H2.out, h3, Bool.false_eq_true, if_true, if_false]; rw [if_pos h4]
     clear HF H1 H2 h2 h3 h4
     go_wp2
     go_ret
     exact ⟨ret_int HR.out.symm, HB5.out⟩
    ·have hd := (ptB (t1, t2) (t3, t4)).trans (decide_eq_false h4)
     have HR : Hid (r = 0) := by show r = _; rw [HF.out]; simp only [flatZ, H1.out, H2.out, h3, Bool.false_eq_true, if_true, if_false]; rw [if_neg h4]
     clear HF H1 H2 h2 h3 h4
     go_wp2
     go_ret
     exact ⟨ret_int HR.out.symm, HB5.out⟩
   ·have HR : Hid (r = 3) := by show r = _; rw [HF.out]; simp [flatZ, H1.out, H2.out, h3]
    clear HF H1 H2 h2 h3
    go_wp2
    go_ret
    exact ⟨ret_int HR.out.symm, HB5.out⟩
end
end Go.Proofs.YtaeflnbjeaoapaaGreat
