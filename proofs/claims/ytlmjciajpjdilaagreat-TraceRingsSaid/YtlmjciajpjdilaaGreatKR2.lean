/- Contracts of seg.Within, seg.sign, seg.flat and seg.Relate. Contracts of the references' small functions: ref09.Of, Less, Within, sign; ref20.good. Contracts of slices.Compact at segments and at points: neighbours that repeat are taken out. Contracts of ref20.insert, Sort, Unique, Same. -/
import Derived.Test.YtlmjciajpjdilaaGreatKR1
import Derived.StillTailTactics
namespace Go.Proofs.YtlmjciajpjdilaaGreat
set_option linter.unusedVariables false
set_option linter.unusedSimpArgs false
section
open Go.RowKit Go.Proofs.YtlmjciajpjdilaaGreatW.PrintLast

attribute [local go_sem high] eqPt eqSg
theorem blk_cell {w : World} {g : Nat} {cs : Array Value} {t : TypeId} (h : w.heap[g]? = some (.cells cs t (0, 0))) (i : Nat) {v : Value} (hv : cs[i]? = some v) : w.cell? ⟨g, i, none⟩ = some v := by
 simp [World.cell?, h, hv]
theorem blk_free {w : World} {g : Nat} {cs : Array Value} {t : TypeId} (h : w.heap[g]? = some (.cells cs t (0, 0))) (i : Nat) : w.frozen? ⟨g, i, none⟩ = false := by
 simp [World.frozen?, h]
theorem blk_below {W w1 : World} {g : Nat} {o : Obj} (h : W.heap[g]? = some o) (hb : Below W.heap.size W w1) : w1.heap[g]? = some o := (hb.block g (lt_of_block h)).trans h
theorem blk_alloc {W : World} {g : Nat} {o : Obj} (h : W.heap[g]? = some o) (q : Obj) : (W.alloc q).heap[g]? = some o := blk_below h (below_alloc (Below.refl _ _) q)
theorem blk_drewN {W : World} {g : Nat} {o : Obj} (h : W.heap[g]? = some o) (n : Nat) : (W.drewN n).heap[g]? = some o := h
theorem blk_far {W : World} {g b i : Nat} {o : Obj} (h : W.heap[g]? = some o) (hne : g ≠ b) (v : Value) : (W.setCell ⟨b, i, none⟩ v).heap[g]? = some o := by
 rw [Below.heap_setCell W _ v g hne]; exact h
theorem ofS_eq (s : Sg) : ofS s = ofB s.1 s.2 := rfl
theorem withinB_off {p a b : Pt} (h : onB p a b = false) : withinB p a b = false := by simp [withinB, h]
theorem withinB_at {p a b : Pt} (h : onB p a b = true) (h1 : p = a) : withinB p a b = false := by simp [withinB, h, h1]
theorem withinB_end {p a b : Pt} (h : onB p a b = true) (h1 : p = b) : withinB p a b = false := by simp [withinB, h, h1]
theorem withinB_in {p a b : Pt} (h : onB p a b = true) (h1 : ¬ p = a) (h2 : ¬ p = b) : withinB p a b = true := by simp [withinB, h, h1, h2]
theorem seg_Within (q a b : Pt) (w : World) : Calls Tryz.prog 110 #[ptA q, ptA a, ptA b] w fun e w' => e = .returned (.bool (withinB q a b)) ∧ Below w.heap.size w w' := by
 have HS := Lib.hid (fun W => seg_On q.1 q.2 a.1 a.2 b.1 b.2 W)
 cases hv : onB q a b
 ·have HR : Hid (withinB q a b = false) := withinB_off hv
  have HV : Hid (onB (q.1, q.2) (a.1, a.2) (b.1, b.2) = false) := hv
  go_enter Tryz.func110, Tryz.ntmps110
  go_wp2_with fail
  (refine (HS.out _).mono ?_; rintro e w1 ⟨rfl, hb1⟩; obtain ⟨c_hb1, f_hb1⟩ := bcell hb1; have z_hb1 := hb1.size; (try simp at z_hb1); (try have y0_hb1 : w.heap.size < w1.heap.size := by omega); (try have y1_hb1 : w.heap.size + 1 < w1.heap.size := by omega); (try have y2_hb1 : w.heap.size + 1 + 1 < w1.heap.size := by omega); (try have y3_hb1 : w.heap.size + 1 + 1 + 1 < w1.heap.size := by omega); (try have y4_hb1 : w.heap.size + 1 + 1 + 1 + 1 < w1.heap.size := by omega))
  rw [HV.out]
  go_wp2
  go_ret
  exact ⟨ret_bool HR.out.symm, (by repeat (first | exact Below.refl _ _ | apply below_alloc | apply below_drewN | apply below_drew | (refine below_set2 ?_ ?_; (first | (simp; done) | (simp; omega))) | (refine below_step ?_ hb1)))⟩
 ·have HV : Hid (onB (q.1, q.2) (a.1, a.2) (b.1, b.2) = true) := hv
  by_cases h1 : q = a
  ·have HR : Hid (withinB q a b = false) := withinB_at hv h1
   have hd := (ptB q a).trans (decide_eq_true h1)
   clear h1 hv
   go_enter Tryz.func110, Tryz.ntmps110
   go_wp2_with fail
   (refine (HS.out _).mono ?_; rintro e w1 ⟨rfl, hb1⟩; obtain ⟨c_hb1, f_hb1⟩ := bcell hb1; have z_hb1 := hb1.size; (try simp at z_hb1); (try have y0_hb1 : w.heap.size < w1.heap.size := by omega); (try have y1_hb1 : w.heap.size + 1 < w1.heap.size := by omega); (try have y2_hb1 : w.heap.size + 1 + 1 < w1.heap.size := by omega); (try have y3_hb1 : w.heap.size + 1 + 1 + 1 < w1.heap.size := by omega); (try have y4_hb1 : w.heap.size + 1 + 1 + 1 + 1 < w1.heap.size := by omega))
   rw [HV.out]
   go_wp2
   go_ret
   exact ⟨ret_bool HR.out.symm, (by repeat (first | exact Below.refl _ _ | apply below_alloc | apply below_drewN | apply below_drew | (refine below_set2 ?_ ?_; (first | (simp; done) | (simp; omega))) | (refine below_step ?_ hb1)))⟩
  ·have hd := (ptB q a).trans (decide_eq_false h1)
   by_cases h2 : q = b
   ·have HR : Hid (withinB q a b = false) := withinB_end hv h2
    have hd2 := (ptB q b).trans (decide_eq_true h2)
    clear h1 h2 hv
    go_enter Tryz.func110, Tryz.ntmps110
    go_wp2_with fail
    (refine (HS.out _).mono ?_; rintro e w1 ⟨rfl, hb1⟩; obtain ⟨c_hb1, f_hb1⟩ := bcell hb1; have z_hb1 := hb1.size; (try simp at z_hb1); (try have y0_hb1 : w.heap.size < w1.heap.size := by omega); (try have y1_hb1 : w.heap.size + 1 < w1.heap.size := by omega); (try have y2_hb1 : w.heap.size + 1 + 1 < w1.heap.size := by omega); (try have y3_hb1 : w.heap.size + 1 + 1 + 1 < w1.heap.size := by omega); (try have y4_hb1 : w.heap.size + 1 + 1 + 1 + 1 < w1.heap.size := by omega))
    rw [HV.out]
    go_wp2
    go_ret
    exact ⟨ret_bool HR.out.symm, (by repeat (first | exact Below.refl _ _ | apply below_alloc | apply below_drewN | apply below_drew | (refine below_set2 ?_ ?_; (first | (simp; done) | (simp; omega))) | (refine below_step ?_ hb1)))⟩
   ·have HR : Hid (withinB q a b = true) := withinB_in hv h1 h2
    have hd2 := (ptB q b).trans (decide_eq_false h2)
    clear h1 h2 hv
    go_enter Tryz.func110, Tryz.ntmps110
    go_wp2_with fail
    (refine (HS.out _).mono ?_; rintro e w1 ⟨rfl, hb1⟩; obtain ⟨c_hb1, f_hb1⟩ := bcell hb1; have z_hb1 := hb1.size; (try simp at z_hb1); (try have y0_hb1 : w.heap.size < w1.heap.size := by omega); (try have y1_hb1 : w.heap.size + 1 < w1.heap.size := by omega); (try have y2_hb1 : w.heap.size + 1 + 1 < w1.heap.size := by omega); (try have y3_hb1 : w.heap.size + 1 + 1 + 1 < w1.heap.size := by omega); (try have y4_hb1 : w.heap.size + 1 + 1 + 1 + 1 < w1.heap.size := by omega))
    rw [HV.out]
    go_wp2
    go_ret
    exact ⟨ret_bool HR.out.symm, (by repeat (first | exact Below.refl _ _ | apply below_alloc | apply below_drewN | apply below_drew | (refine below_set2 ?_ ?_; (first | (simp; done) | (simp; omega))) | (refine below_step ?_ hb1)))⟩
theorem seg_sign (n : Int) (w : World) : Calls Tryz.prog 131 #[.int .i64 n] w fun e w' => e = .returned (.int .i64 (signZ n)) ∧ Below w.heap.size w w' := by
 go_enter Tryz.func131, Tryz.ntmps131
 go_wp2
 all_goals go_ret
 all_goals exact ⟨ret_int (by unfold signZ; omega), bq⟩
theorem two_alloc (W : World) (o1 o2 : Obj) : ((W.alloc o1).alloc o2).heap[W.heap.size]? = some o1 ∧ ((W.alloc o1).alloc o2).heap[W.heap.size + 1]? = some o2 := by
 constructor
 ·exact blk_alloc (heap_alloc_new W o1) o2
 ·have := heap_alloc_new (W.alloc o1) o2
  rwa [show (W.alloc o1).heap.size = W.heap.size + 1 by simp] at this
set_option maxRecDepth 100000 in
set_option maxHeartbeats 1000000 in
theorem seg_flat (s1 s2 s3 s4 t1 t2 t3 t4 : Int) (w : World) : Calls Tryz.prog 132 #[.agg #[.int .i64 s1, .int .i64 s2, .int .i64 s3, .int .i64 s4], .agg #[.int .i64 t1, .int .i64 t2, .int .i64 t3, .int .i64 t4]] w fun e w' => e = .returned (.int .i64 (flatZ ((s1, s2), (s3, s4)) ((t1, t2), (t3, t4)))) ∧ Below w.heap.size w w' := by
 obtain ⟨r, hr⟩ : ∃ r, r = flatZ ((s1, s2), (s3, s4)) ((t1, t2), (t3, t4)) := ⟨_, rfl⟩
 rw [← hr]
 have HF := Lib.hid hr
 clear hr
 go_enter Tryz.func132, Tryz.ntmps132
 go_wp2_with fail
 obtain ⟨W0, hW0⟩ : ∃ W0, W0 = (w.alloc (.cells #[.int .i64 s1, .int .i64 s2, .int .i64 s3, .int .i64 s4] 32)).alloc (.cells #[.int .i64 t1, .int .i64 t2, .int .i64 t3, .int .i64 t4] 32) := ⟨_, rfl⟩
 have HA : W0.heap[w.heap.size]? = some (.cells #[.int .i64 s1, .int .i64 s2, .int .i64 s3, .int .i64 s4] 32 (0, 0)) := by rw [hW0]; exact (two_alloc w _ _).1
 have HT : W0.heap[w.heap.size + 1]? = some (.cells #[.int .i64 t1, .int .i64 t2, .int .i64 t3, .int .i64 t4] 32 (0, 0)) := by rw [hW0]; exact (two_alloc w _ _).2
 have HB0 : Below w.heap.size w W0 := by rw [hW0]; exact below_alloc (below_alloc (Below.refl _ _) _) _
 have hsz0 := lt_of_block HT
 rw [← hW0]
 clear hW0
 refine start_ (n := 8) (S := fun w' => w'.cell? ⟨w.heap.size, 0, none⟩ = some (.int .i64 s1) ∧ w'.cell? ⟨w.heap.size, 1, none⟩ = some (.int .i64 s2) ∧ w'.cell? ⟨w.heap.size, 2, none⟩ = some (.int .i64 s3) ∧ w'.cell? ⟨w.heap.size, 3, none⟩ = some (.int .i64 s4)) (ds := [7]) #[Z,Z,Z,Z,Z,Z,Z,Z] (by kernel_rfl) rfl rfl ⟨blk_cell HA 0 rfl, blk_cell HA 1 rfl, blk_cell HA 2 rfl, blk_cell HA 3 rfl⟩ (fun hHeld => ?_)
 refine pure_ (i := 0) (N := some 7) (v := ?_) (a' := ?_) #[J,Z,Z,Z,Z,Z,Z,Z] rfl rfl (by kernel_rfl) (fun _ _ _ h => h) (Or.inl ⟨by rfl, ?_⟩) ?_ ?_
 rotate_left
 ·intro w'; go_simp; with_reducible rfl
 rotate_left
 ·simp only [Act.put, sA, sB, sC, i64_w, i32_w]; rfl
 refine pure_ (i := 2) (N := some 9) (v := ?_) (a' := ?_) #[J,Z,J,Z,Z,Z,Z,Z] rfl rfl (by kernel_rfl) (fun _ _ _ h => h) (Or.inl ⟨by rfl, ?_⟩) ?_ ?_
 rotate_left
 ·intro w'; go_simp; with_reducible rfl
 rotate_left
 ·simp only [Act.put, sA, sB, sC, i64_w, i32_w]; rfl
 refine take_ (i := 1) (N := some 8) (v := ?_) (a' := ?_) #[J,J,J,Z,Z,Z,Z,Z] rfl rfl (by kernel_rfl) (fun _ _ _ h => h) (Or.inl ⟨by rfl, ?_⟩) hHeld ?_ ?_
 rotate_left
 ·rintro w' ⟨s0, s1, s2, s3⟩; go_simp; with_reducible rfl
 rotate_left
 ·simp only [Act.put, sA, sB, sC, i64_w, i32_w]; rfl
 refine take_ (i := 3) (N := some 10) (v := ?_) (a' := ?_) #[J,J,J,J,Z,Z,Z,Z] rfl rfl (by kernel_rfl) (fun _ _ _ h => h) (Or.inl ⟨by rfl, ?_⟩) hHeld ?_ ?_
 rotate_left
 ·rintro w' ⟨s0, s1, s2, s3⟩; go_simp; with_reducible rfl
 rotate_left
 ·simp only [Act.put, sA, sB, sC, i64_w, i32_w]; rfl
 refine join_ (σ := Nat × Nat) 2 #[J,J,J,J,J,J,Z,Z] (fun s => [(5, .pointer (some ⟨s.1, 0, none⟩)), (6, .pointer (some ⟨s.2, 0, none⟩))]) (fun s w' => W0.heap.size ≤ s.1 ∧ W0.heap.size ≤ s.2 ∧ s.1 ≠ s.2 ∧ w'.heap[s.1]? = some (.cells #[.int .i64 0, .int .i64 0] 24 (0, 0)) ∧ w'.heap[s.2]? = some (.cells #[.int .i64 0, .int .i64 0] 24 (0, 0)) ∧ Below W0.heap.size W0 w') ?_ ?_
 rotate_left
 ·intro hCont
  refine two_ (i := 4) (j := 5) (Ni := some 5) (Nj := some 6) #[J,J,J,J,J,Z,Z,Z] #[J,J,J,J,Z,J,Z,Z] rfl rfl rfl rfl (by kernel_rfl) (by decide) (by decide) (fun K hK => ?_) (fun K hK => ?_)
  ·skip
   refine value_ (w1 := ?_) (v := ?_) (by rfl) rfl ?_ ?_
   rotate_left 2
   ·go_simp
    constructor
    ·rfl
    ·rfl
   refine hK.out _ _ ⟨blk_cell (blk_alloc HA _) 0 rfl, blk_cell (blk_alloc HA _) 1 rfl, blk_cell (blk_alloc HA _) 2 rfl, blk_cell (blk_alloc HA _) 3 rfl⟩ (fun hHeld => ?_)
   clear hK K
   refine norm_ (a' := ?_) ?_ ?_
   rotate_left
   ·show Act.put _ (some 5) _ = _
    simp only [Act.put, sA, sB, sC, i64_w, i32_w]; rfl
   refine one_ (i := 5) (N := some 6) #[J,J,J,J,J,J,Z,Z] rfl rfl (by kernel_rfl) (by decide) (fun K hK => ?_)
   refine value_ (w1 := ?_) (v := ?_) (by rfl) rfl ?_ ?_
   rotate_left 2
   ·go_simp
    constructor
    ·rfl
    ·rfl
   refine hK.out _ _ ⟨blk_cell (blk_alloc (blk_alloc HA _) _) 0 rfl, blk_cell (blk_alloc (blk_alloc HA _) _) 1 rfl, blk_cell (blk_alloc (blk_alloc HA _) _) 2 rfl, blk_cell (blk_alloc (blk_alloc HA _) _) 3 rfl⟩ (fun hHeld => ?_)
   clear hK K
   refine norm_ (a' := ?_) ?_ ?_
   rotate_left
   ·show Act.put _ (some 6) _ = _
    simp only [Act.put, sA, sB, sC, i64_w, i32_w]; rfl
   exact norm_ (by simp only [putAll, Act.put, List.setIfInBounds_toArray, List.set_cons_zero, List.set_cons_succ]) (hCont (W0.heap.size, W0.heap.size + 1) _ ⟨Nat.le_refl _, Nat.le_succ _, by simp, (two_alloc W0.drew _ _).1, (two_alloc W0.drew _ _).2, below_alloc (below_alloc (below_drew (Below.refl _ _)) _) _⟩)
  ·skip
   refine value_ (w1 := ?_) (v := ?_) (by rfl) rfl ?_ ?_
   rotate_left 2
   ·go_simp
    constructor
    ·rfl
    ·rfl
   refine hK.out _ _ ⟨blk_cell (blk_alloc HA _) 0 rfl, blk_cell (blk_alloc HA _) 1 rfl, blk_cell (blk_alloc HA _) 2 rfl, blk_cell (blk_alloc HA _) 3 rfl⟩ (fun hHeld => ?_)
   clear hK K
   refine norm_ (a' := ?_) ?_ ?_
   rotate_left
   ·show Act.put _ (some 6) _ = _
    simp only [Act.put, sA, sB, sC, i64_w, i32_w]; rfl
   refine one_ (i := 4) (N := some 5) #[J,J,J,J,J,J,Z,Z] rfl rfl (by kernel_rfl) (by decide) (fun K hK => ?_)
   refine value_ (w1 := ?_) (v := ?_) (by rfl) rfl ?_ ?_
   rotate_left 2
   ·go_simp
    constructor
    ·rfl
    ·rfl
   refine hK.out _ _ ⟨blk_cell (blk_alloc (blk_alloc HA _) _) 0 rfl, blk_cell (blk_alloc (blk_alloc HA _) _) 1 rfl, blk_cell (blk_alloc (blk_alloc HA _) _) 2 rfl, blk_cell (blk_alloc (blk_alloc HA _) _) 3 rfl⟩ (fun hHeld => ?_)
   clear hK K
   refine norm_ (a' := ?_) ?_ ?_
   rotate_left
   ·show Act.put _ (some 5) _ = _
    simp only [Act.put, sA, sB, sC, i64_w, i32_w]; rfl
   exact norm_ (by simp only [putAll, Act.put, List.setIfInBounds_toArray, List.set_cons_zero, List.set_cons_succ]) (hCont (W0.heap.size + 1, W0.heap.size) _ ⟨Nat.le_succ _, Nat.le_refl _, by simp, (two_alloc W0.drew _ _).2, (two_alloc W0.drew _ _).1, below_alloc (below_alloc (below_drew (Below.refl _ _)) _) _⟩)
 rintro ⟨p, q⟩ w1 ⟨hp, hq, hpq, hP, hQ, hW1⟩
 have hAp : ¬ w.heap.size = p := by have := lt_of_block HA; omega
 have hAq : ¬ w.heap.size = q := by have := lt_of_block HA; omega
 have hpqn : ¬ p = q := hpq
 have hqpn : ¬ q = p := fun e => hpq e.symm
 have hA1 := blk_below HA hW1
 have hHeld := And.intro (blk_cell hA1 0 rfl) (And.intro (blk_cell hA1 1 rfl) (And.intro (blk_cell hA1 2 rfl) (blk_cell hA1 3 rfl)))
 have pf0 := blk_free hP 0
 have pc0 := blk_cell hP 0 rfl
 have pf1 := blk_free hP 1
 have pc1 := blk_cell hP 1 rfl
 have qf0 := blk_free hQ 0
 have qc0 := blk_cell hQ 0 rfl
 have qf1 := blk_free hQ 1
 have qc1 := blk_cell hQ 1 rfl
 refine norm_ (a' := ?_) ?_ ?_
 rotate_left
 ·simp only [putAll, Act.put, List.setIfInBounds_toArray, List.set_cons_zero, List.set_cons_succ]
  rfl
 refine one_ (i := 6) (N := none) #[J,J,J,J,J,J,J,Z] rfl rfl (by kernel_rfl) (by decide) (fun K hK => ?_)
 refine skip_ (w1 := ?_) (by rfl) rfl ?_ ?_
 rotate_left
 ·go_simp
  rfl
 refine hK.out _ _ ⟨blk_cell (blk_far (blk_far hA1 hAp _) hAp _) 0 rfl, blk_cell (blk_far (blk_far hA1 hAp _) hAp _) 1 rfl, blk_cell (blk_far (blk_far hA1 hAp _) hAp _) 2 rfl, blk_cell (blk_far (blk_far hA1 hAp _) hAp _) 3 rfl⟩ (fun hHeld => ?_)
 clear hK K
 refine last_ (i := 7) (N := none) #[J,J,J,J,J,J,J,J] rfl rfl (by kernel_rfl) (by decide) (fun K hK => ?_)
 refine skip_ (w1 := ?_) (by rfl) rfl ?_ ?_
 rotate_left
 ·go_simp
  rfl
 refine hK.out _ _ ?_
 clear hK K
 refine done_ (by kernel_rfl) ?_
 clear hHeld pf0 pf1 qf0 qf1 pc0 pc1 qc0 qc1
 obtain ⟨W3, hW3⟩ : ∃ W3, W3 = (((w1.setCell ⟨p, 0, none⟩ (.int .i64 s1)).setCell ⟨p, 1, none⟩ (.int .i64 s2)).setCell ⟨q, 0, none⟩ (.int .i64 s3)).setCell ⟨q, 1, none⟩ (.int .i64 s4) := ⟨_, rfl⟩
 have HP : W3.heap[p]? = some (.cells #[(.int .i64 s1), (.int .i64 s2)] 24 (0, 0)) := by rw [hW3]; exact blk_far (blk_far (blk_set (blk_set hP _) _) hpqn _) hpqn _
 have HQ : W3.heap[q]? = some (.cells #[(.int .i64 s3), (.int .i64 s4)] 24 (0, 0)) := by rw [hW3]; exact blk_set (blk_set (blk_far (blk_far hQ hqpn _) hqpn _) _) _
 have HA3 : W3.heap[w.heap.size]? = some (.cells #[(.int .i64 s1), (.int .i64 s2), (.int .i64 s3), (.int .i64 s4)] 32 (0, 0)) := by rw [hW3]; exact blk_far (blk_far (blk_far (blk_far hA1 hAp _) hAp _) hAq _) hAq _
 have hbp : ¬ w.heap.size + 1 = p := by have := lt_of_block HT; omega
 have hbq : ¬ w.heap.size + 1 = q := by have := lt_of_block HT; omega
 have HT3 : W3.heap[w.heap.size + 1]? = some (.cells #[.int .i64 t1, .int .i64 t2, .int .i64 t3, .int .i64 t4] 32 (0, 0)) := by rw [hW3]; exact blk_far (blk_far (blk_far (blk_far (blk_below HT hW1) hbp _) hbp _) hbq _) hbq _
 clear hbp hbq
 have HB3 : Below W0.heap.size W0 W3 := by rw [hW3]; exact below_set2 hq (below_set2 hq (below_set2 hp (below_set2 hp hW1)))
 rw [← hW3]
 clear hP hQ hA1 hW1 hAp hAq hW3
 have HBw : Hid (Below w.heap.size w W3) := below_step HB0 HB3
 clear HB0 HB3 HA HT
 have pc0 := blk_cell HP 0 rfl
 have pc1 := blk_cell HP 1 rfl
 have qc0 := blk_cell HQ 0 rfl
 have qc1 := blk_cell HQ 1 rfl
 have tc0 := blk_cell HT3 0 rfl
 have tc1 := blk_cell HT3 1 rfl
 have tc2 := blk_cell HT3 2 rfl
 have tc3 := blk_cell HT3 3 rfl
 go_wp2_with fail
 refine (grid_Less _ _ _ _ _).mono ?_
 rintro e w2 ⟨rfl, hb2⟩
 clear pc0 pc1 qc0 qc1 tc0 tc1 tc2 tc3
 have HP2 := blk_below HP hb2
 have HQ2 := blk_below HQ hb2
 have HT2 := blk_below HT3 hb2
 have htp : ¬ w.heap.size + 1 = p := by omega
 have htq : ¬ w.heap.size + 1 = q := by omega
 have HBw2 : Hid (Below w.heap.size w w2) := below_step HBw.out hb2
 clear HP HQ HT3 HBw hb2
 have hpw : w.heap.size ≤ p := by omega
 have hqw : w.heap.size ≤ q := by omega
 cases h1 : lessB (s1, s2) (t1, t2)
 ·have H1 := Lib.hid h1
  clear h1
  have pc0 := blk_cell HP2 0 rfl
  have pc1 := blk_cell HP2 1 rfl
  have qc0 := blk_cell HQ2 0 rfl
  have qc1 := blk_cell HQ2 1 rfl
  have tc0 := blk_cell HT2 0 rfl
  have tc1 := blk_cell HT2 1 rfl
  have tc2 := blk_cell HT2 2 rfl
  have tc3 := blk_cell HT2 3 rfl
  go_wp2_with fail
  refine (grid_Less _ _ _ _ _).mono ?_
  rintro e w4 ⟨rfl, hb4⟩
  clear pc0 pc1 qc0 qc1 tc0 tc1 tc2 tc3
  have HP4 := blk_below HP2 hb4
  have HQ4 := blk_below HQ2 hb4
  have HT4 := blk_below HT2 hb4
  have HBw4 : Hid (Below w.heap.size w w4) := below_step HBw2.out hb4
  clear HP2 HQ2 HT2 HBw2 hb4
  cases h2 : lessB (t3, t4) (s3, s4)
  ·have H2 := Lib.hid h2
   have pc0 := blk_cell HP4 0 rfl
   have pc1 := blk_cell HP4 1 rfl
   have qc0 := blk_cell HQ4 0 rfl
   have qc1 := blk_cell HQ4 1 rfl
   have tc0 := blk_cell HT4 0 rfl
   have tc1 := blk_cell HT4 1 rfl
   have tc2 := blk_cell HT4 2 rfl
   have tc3 := blk_cell HT4 3 rfl
   go_wp2_with fail
   refine (grid_Less _ _ _ _ _).mono ?_
   rintro e w5 ⟨rfl, hb5⟩
   clear pc0 pc1 qc0 qc1 tc0 tc1 tc2 tc3
   have HP5 := blk_below HP4 hb5
   have HQ5 := blk_below HQ4 hb5
   have pc0 : w5.cell? ⟨p, 0, none⟩ = some (.int .i64 s1) := blk_cell HP5 0 rfl
   have pc1 : w5.cell? ⟨p, 1, none⟩ = some (.int .i64 s2) := blk_cell HP5 1 rfl
   have qc0 : w5.cell? ⟨q, 0, none⟩ = some (.int .i64 s3) := blk_cell HQ5 0 rfl
   have qc1 : w5.cell? ⟨q, 1, none⟩ = some (.int .i64 s4) := blk_cell HQ5 1 rfl
   have HB5 : Hid (Below w.heap.size w w5) := below_step HBw4.out hb5
   clear HP5 HQ5 HP4 HQ4 HT4 HBw4 hb5
   cases h3 : lessB (s1, s2) (s3, s4)
   ·by_cases h4 : ((s1, s2) : Pt) = (s3, s4)
    ·have hd := (ptB (s1, s2) (s3, s4)).trans (decide_eq_true h4)
     have HR : Hid (r = 1) := by show r = _; rw [HF.out]; simp only [flatZ, H1.out, H2.out, h3, Bool.false_eq_true, if_true, if_false]; rw [if_pos h4]
     clear HF H1 H2 h2 h3 h4
     go_wp2
     go_ret
     exact ⟨ret_int HR.out.symm, HB5.out⟩
    ·have hd := (ptB (s1, s2) (s3, s4)).trans (decide_eq_false h4)
     have HR : Hid (r = 0) := by show r = _; rw [HF.out]; simp only [flatZ, H1.out, H2.out, h3, Bool.false_eq_true, if_true, if_false]; rw [if_neg h4]
     clear HF H1 H2 h2 h3 h4
     go_wp2
     go_ret
     exact ⟨ret_int HR.out.symm, HB5.out⟩
   ·have HR : Hid (r = 3) := by show r = _; rw [HF.out]; simp [flatZ, H1.out, H2.out, h3]
    clear HF H1 H2 h2 h3
    go_wp2
    go_ret
    exact ⟨ret_int HR.out.symm, HB5.out⟩
  ·have H2 := Lib.hid h2
   have pc0 := blk_cell HP4 0 rfl
   have pc1 := blk_cell HP4 1 rfl
   have qc0 := blk_cell HQ4 0 rfl
   have qc1 := blk_cell HQ4 1 rfl
   have tc0 := blk_cell HT4 0 rfl
   have tc1 := blk_cell HT4 1 rfl
   have tc2 := blk_cell HT4 2 rfl
   have tc3 := blk_cell HT4 3 rfl
   have pf0 := blk_free HP4 0
   have pf1 := blk_free HP4 1
   have qf0 := blk_free HQ4 0
   have qf1 := blk_free HQ4 1
   go_wp2_with fail
   refine (grid_Less _ _ _ _ _).mono ?_
   rintro e w5 ⟨rfl, hb5⟩
   clear pc0 pc1 qc0 qc1 tc0 tc1 tc2 tc3
   clear pf0 pf1 qf0 qf1
   have HP5 := blk_below (blk_far (blk_far HP4 hpqn (.int .i64 t3)) hpqn (.int .i64 t4)) hb5
   have HQ5 := blk_below (blk_set (blk_set HQ4 (i := 0) (.int .i64 t3)) (i := 1) (.int .i64 t4)) hb5
   have pc0 : w5.cell? ⟨p, 0, none⟩ = some (.int .i64 s1) := blk_cell HP5 0 rfl
   have pc1 : w5.cell? ⟨p, 1, none⟩ = some (.int .i64 s2) := blk_cell HP5 1 rfl
   have qc0 : w5.cell? ⟨q, 0, none⟩ = some (.int .i64 t3) := blk_cell HQ5 0 rfl
   have qc1 : w5.cell? ⟨q, 1, none⟩ = some (.int .i64 t4) := blk_cell HQ5 1 rfl
   have HB5 : Hid (Below w.heap.size w w5) := below_step (below_set2 hqw (below_set2 hqw HBw4.out)) hb5
   clear HP5 HQ5 HP4 HQ4 HT4 HBw4 hb5
   cases h3 : lessB (s1, s2) (t3, t4)
   ·by_cases h4 : ((s1, s2) : Pt) = (t3, t4)
    ·have hd := (ptB (s1, s2) (t3, t4)).trans (decide_eq_true h4)
     have HR : Hid (r = 1) := by show r = _; rw [HF.out]; simp only [flatZ, H1.out, H2.out, h3, Bool.false_eq_true, if_true, if_false]; rw [if_pos h4]
     clear HF H1 H2 h2 h3 h4
     go_wp2
     go_ret
     exact ⟨ret_int HR.out.symm, HB5.out⟩
    ·have hd := (ptB (s1, s2) (t3, t4)).trans (decide_eq_false h4)
     have HR : Hid (r = 0) := by show r = _; rw [HF.out]; simp only [flatZ, H1.out, H2.out, h3, Bool.false_eq_true, if_true, if_false]; rw [if_neg h4]
     clear HF H1 H2 h2 h3 h4
     go_wp2
     go_ret
     exact ⟨ret_int HR.out.symm, HB5.out⟩
   ·have HR : Hid (r = 3) := by show r = _; rw [HF.out]; simp [flatZ, H1.out, H2.out, h3]
    clear HF H1 H2 h2 h3
    go_wp2
    go_ret
    exact ⟨ret_int HR.out.symm, HB5.out⟩
 ·have H1 := Lib.hid h1
  clear h1
  have pc0 := blk_cell HP2 0 rfl
  have pc1 := blk_cell HP2 1 rfl
  have qc0 := blk_cell HQ2 0 rfl
  have qc1 := blk_cell HQ2 1 rfl
  have tc0 := blk_cell HT2 0 rfl
  have tc1 := blk_cell HT2 1 rfl
  have tc2 := blk_cell HT2 2 rfl
  have tc3 := blk_cell HT2 3 rfl
  have pf0 := blk_free HP2 0
  have pf1 := blk_free HP2 1
  have qf0 := blk_free HQ2 0
  have qf1 := blk_free HQ2 1
  go_wp2_with fail
  clear pc0 pc1 qc0 qc1 tc0 tc1 tc2 tc3
  clear pf0 pf1 qf0 qf1
  obtain ⟨W6, hW6⟩ : ∃ W6, W6 = (w2.setCell ⟨p, 0, none⟩ (.int .i64 t1)).setCell ⟨p, 1, none⟩ (.int .i64 t2) := ⟨_, rfl⟩
  have HP6 : W6.heap[p]? = some (.cells #[.int .i64 t1, .int .i64 t2] 24 (0, 0)) := by rw [hW6]; exact blk_set (blk_set HP2 _) _
  have HQ6 : W6.heap[q]? = some (.cells #[.int .i64 s3, .int .i64 s4] 24 (0, 0)) := by rw [hW6]; exact blk_far (blk_far HQ2 hqpn _) hqpn _
  have HT6 : W6.heap[w.heap.size + 1]? = some (.cells #[.int .i64 t1, .int .i64 t2, .int .i64 t3, .int .i64 t4] 32 (0, 0)) := by rw [hW6]; exact blk_far (blk_far HT2 htp _) htp _
  have HB6 : Hid (Below w.heap.size w W6) := by rw [hW6]; exact below_set2 hpw (below_set2 hpw HBw2.out)
  clear HP2 HQ2 HT2 HBw2
  rw [← hW6]
  clear hW6
  have pc0 := blk_cell HP6 0 rfl
  have pc1 := blk_cell HP6 1 rfl
  have qc0 := blk_cell HQ6 0 rfl
  have qc1 := blk_cell HQ6 1 rfl
  have tc0 := blk_cell HT6 0 rfl
  have tc1 := blk_cell HT6 1 rfl
  have tc2 := blk_cell HT6 2 rfl
  have tc3 := blk_cell HT6 3 rfl
  go_wp2_with fail
  refine (grid_Less _ _ _ _ _).mono ?_
  rintro e w4 ⟨rfl, hb4⟩
  clear pc0 pc1 qc0 qc1 tc0 tc1 tc2 tc3
  have HP4 := blk_below HP6 hb4
  have HQ4 := blk_below HQ6 hb4
  have HT4 := blk_below HT6 hb4
  have HBw4 : Hid (Below w.heap.size w w4) := below_step HB6.out hb4
  clear HP6 HQ6 HT6 HB6 hb4
  cases h2 : lessB (t3, t4) (s3, s4)
  ·have H2 := Lib.hid h2
   have pc0 := blk_cell HP4 0 rfl
   have pc1 := blk_cell HP4 1 rfl
   have qc0 := blk_cell HQ4 0 rfl
   have qc1 := blk_cell HQ4 1 rfl
   have tc0 := blk_cell HT4 0 rfl
   have tc1 := blk_cell HT4 1 rfl
   have tc2 := blk_cell HT4 2 rfl
   have tc3 := blk_cell HT4 3 rfl
   go_wp2_with fail
   refine (grid_Less _ _ _ _ _).mono ?_
   rintro e w5 ⟨rfl, hb5⟩
   clear pc0 pc1 qc0 qc1 tc0 tc1 tc2 tc3
   have HP5 := blk_below HP4 hb5
   have HQ5 := blk_below HQ4 hb5
   have pc0 : w5.cell? ⟨p, 0, none⟩ = some (.int .i64 t1) := blk_cell HP5 0 rfl
   have pc1 : w5.cell? ⟨p, 1, none⟩ = some (.int .i64 t2) := blk_cell HP5 1 rfl
   have qc0 : w5.cell? ⟨q, 0, none⟩ = some (.int .i64 s3) := blk_cell HQ5 0 rfl
   have qc1 : w5.cell? ⟨q, 1, none⟩ = some (.int .i64 s4) := blk_cell HQ5 1 rfl
   have HB5 : Hid (Below w.heap.size w w5) := below_step HBw4.out hb5
   clear HP5 HQ5 HP4 HQ4 HT4 HBw4 hb5
   cases h3 : lessB (t1, t2) (s3, s4)
   ·by_cases h4 : ((t1, t2) : Pt) = (s3, s4)
    ·have hd := (ptB (t1, t2) (s3, s4)).trans (decide_eq_true h4)
     have HR : Hid (r = 1) := by show r = _; rw [HF.out]; simp only [flatZ, H1.out, H2.out, h3, Bool.false_eq_true, if_true, if_false]; rw [if_pos h4]
     clear HF H1 H2 h2 h3 h4
     go_wp2
     go_ret
     exact ⟨ret_int HR.out.symm, HB5.out⟩
    ·have hd := (ptB (t1, t2) (s3, s4)).trans (decide_eq_false h4)
     have HR : Hid (r = 0) := by show r = _; rw [HF.out]; simp only [flatZ, H1.out, H2.out, h3, Bool.false_eq_true, if_true, if_false]; rw [if_neg h4]
     clear HF H1 H2 h2 h3 h4
     go_wp2
     go_ret
     exact ⟨ret_int HR.out.symm, HB5.out⟩
   ·have HR : Hid (r = 3) := by show r = _; rw [HF.out]; simp [flatZ, H1.out, H2.out, h3]
    clear HF H1 H2 h2 h3
    go_wp2
    go_ret
    exact ⟨ret_int HR.out.symm, HB5.out⟩
  ·have H2 := Lib.hid h2
   have pc0 := blk_cell HP4 0 rfl
   have pc1 := blk_cell HP4 1 rfl
   have qc0 := blk_cell HQ4 0 rfl
   have qc1 := blk_cell HQ4 1 rfl
   have tc0 := blk_cell HT4 0 rfl
   have tc1 := blk_cell HT4 1 rfl
   have tc2 := blk_cell HT4 2 rfl
   have tc3 := blk_cell HT4 3 rfl
   have pf0 := blk_free HP4 0
   have pf1 := blk_free HP4 1
   have qf0 := blk_free HQ4 0
   have qf1 := blk_free HQ4 1
   go_wp2_with fail
   refine (grid_Less _ _ _ _ _).mono ?_
   rintro e w5 ⟨rfl, hb5⟩
   clear pc0 pc1 qc0 qc1 tc0 tc1 tc2 tc3
   clear pf0 pf1 qf0 qf1
   have HP5 := blk_below (blk_far (blk_far HP4 hpqn (.int .i64 t3)) hpqn (.int .i64 t4)) hb5
   have HQ5 := blk_below (blk_set (blk_set HQ4 (i := 0) (.int .i64 t3)) (i := 1) (.int .i64 t4)) hb5
   have pc0 : w5.cell? ⟨p, 0, none⟩ = some (.int .i64 t1) := blk_cell HP5 0 rfl
   have pc1 : w5.cell? ⟨p, 1, none⟩ = some (.int .i64 t2) := blk_cell HP5 1 rfl
   have qc0 : w5.cell? ⟨q, 0, none⟩ = some (.int .i64 t3) := blk_cell HQ5 0 rfl
   have qc1 : w5.cell? ⟨q, 1, none⟩ = some (.int .i64 t4) := blk_cell HQ5 1 rfl
   have HB5 : Hid (Below w.heap.size w w5) := below_step (below_set2 hqw (below_set2 hqw HBw4.out)) hb5
   clear HP5 HQ5 HP4 HQ4 HT4 HBw4 hb5
   cases h3 : lessB (t1, t2) (t3, t4)
   ·by_cases h4 : ((t1, t2) : Pt) = (t3, t4)
    ·have hd := (ptB (t1, t2) (t3, t4)).trans (decide_eq_true h4)
     have HR : Hid (r = 1) := by show r = _; rw [HF.out]; simp only [flatZ, H1.out, H2.out, h3, Bool.false_eq_true, if_true, if_false]; rw [if_pos h4]
     clear HF H1 H2 h2 h3 h4
     go_wp2
     go_ret
     exact ⟨ret_int HR.out.symm, HB5.out⟩
    ·have hd := (ptB (t1, t2) (t3, t4)).trans (decide_eq_false h4)
     have HR : Hid (r = 0) := by show r = _; rw [HF.out]; simp only [flatZ, H1.out, H2.out, h3, Bool.false_eq_true, if_true, if_false]; rw [if_neg h4]
     clear HF H1 H2 h2 h3 h4
     go_wp2
     go_ret
     exact ⟨ret_int HR.out.symm, HB5.out⟩
   ·have HR : Hid (r = 3) := by show r = _; rw [HF.out]; simp [flatZ, H1.out, H2.out, h3]
    clear HF H1 H2 h2 h3
    go_wp2
    go_ret
    exact ⟨ret_int HR.out.symm, HB5.out⟩
end
section
open Go.RowKit Go.Proofs.YtlmjciajpjdilaaGreatW.PrintLast

theorem ref09_Less (a b : Sg) (w : World) : Calls Tryz.prog 97 #[sgA a, sgA b] w fun e w' => e = .returned (.bool (lessS a b)) ∧ Below w.heap.size w w' := by
 obtain ⟨⟨a1, a2⟩, ⟨a3, a4⟩⟩ := a
 obtain ⟨⟨b1, b2⟩, ⟨b3, b4⟩⟩ := b
 simp only [sgA]
 have main : ∀ (q : Bool), (if a1 = b1 then !decide (a2 = b2) else true) = q → lessS ((a1, a2), (a3, a4)) ((b1, b2), (b3, b4)) = (if q then lessB (a1, a2) (b1, b2) else lessB (a3, a4) (b3, b4)) := by
  intro q hq
  subst hq
  unfold lessS
  by_cases h1 : a1 = b1
  ·by_cases h2 : a2 = b2
   ·simp [h1, h2]
   ·simp [h1, h2]
  ·simp [h1]
 by_cases h1 : a1 = b1
 ·by_cases h2 : a2 = b2
  ·have HM := Lib.hid (main false (by simp [h1, h2]))
   subst h1 h2
   clear main
   go_enter Tryz.func97, Tryz.ntmps97
   go_wp2_with fail
   (refine (ref08_Less _ _ _ _ _).mono ?_; rintro e w1 ⟨rfl, hb1⟩; obtain ⟨c_hb1, f_hb1⟩ := bcell hb1; have z_hb1 := hb1.size; (try simp at z_hb1); (try have y0_hb1 : w.heap.size < w1.heap.size := by omega); (try have y1_hb1 : w.heap.size + 1 < w1.heap.size := by omega); (try have y2_hb1 : w.heap.size + 1 + 1 < w1.heap.size := by omega); (try have y3_hb1 : w.heap.size + 1 + 1 + 1 < w1.heap.size := by omega); (try have y4_hb1 : w.heap.size + 1 + 1 + 1 + 1 < w1.heap.size := by omega))
   go_wp2
   go_ret
   exact ⟨ret_bool HM.out.symm, (by repeat (first | exact Below.refl _ _ | apply below_alloc | apply below_drewN | apply below_drew | (refine below_set2 ?_ ?_; (first | (simp; done) | (simp; omega))) | (refine below_step ?_ hb1)))⟩
  ·have HM := Lib.hid (main true (by simp [h1, h2]))
   subst h1
   clear main
   go_enter Tryz.func97, Tryz.ntmps97
   go_wp2_with fail
   (refine (ref08_Less _ _ _ _ _).mono ?_; rintro e w1 ⟨rfl, hb1⟩; obtain ⟨c_hb1, f_hb1⟩ := bcell hb1; have z_hb1 := hb1.size; (try simp at z_hb1); (try have y0_hb1 : w.heap.size < w1.heap.size := by omega); (try have y1_hb1 : w.heap.size + 1 < w1.heap.size := by omega); (try have y2_hb1 : w.heap.size + 1 + 1 < w1.heap.size := by omega); (try have y3_hb1 : w.heap.size + 1 + 1 + 1 < w1.heap.size := by omega); (try have y4_hb1 : w.heap.size + 1 + 1 + 1 + 1 < w1.heap.size := by omega))
   go_wp2
   go_ret
   exact ⟨ret_bool HM.out.symm, (by repeat (first | exact Below.refl _ _ | apply below_alloc | apply below_drewN | apply below_drew | (refine below_set2 ?_ ?_; (first | (simp; done) | (simp; omega))) | (refine below_step ?_ hb1)))⟩
 ·have HM := Lib.hid (main true (by simp [h1]))
  clear main
  go_enter Tryz.func97, Tryz.ntmps97
  go_wp2_with fail
  (refine (ref08_Less _ _ _ _ _).mono ?_; rintro e w1 ⟨rfl, hb1⟩; obtain ⟨c_hb1, f_hb1⟩ := bcell hb1; have z_hb1 := hb1.size; (try simp at z_hb1); (try have y0_hb1 : w.heap.size < w1.heap.size := by omega); (try have y1_hb1 : w.heap.size + 1 < w1.heap.size := by omega); (try have y2_hb1 : w.heap.size + 1 + 1 < w1.heap.size := by omega); (try have y3_hb1 : w.heap.size + 1 + 1 + 1 < w1.heap.size := by omega); (try have y4_hb1 : w.heap.size + 1 + 1 + 1 + 1 < w1.heap.size := by omega))
  go_wp2
  go_ret
  exact ⟨ret_bool HM.out.symm, (by repeat (first | exact Below.refl _ _ | apply below_alloc | apply below_drewN | apply below_drew | (refine below_set2 ?_ ?_; (first | (simp; done) | (simp; omega))) | (refine below_step ?_ hb1)))⟩
theorem ref09_Of (ax ay bx by_ : Int) (w : World) :
  Calls Tryz.prog 60 #[.agg #[.int .i64 ax, .int .i64 ay], .agg #[.int .i64 bx, .int .i64 by_]] w fun e w' =>
   e = .returned (.agg #[.int .i64 (ofB (ax, ay) (bx, by_)).1.1, .int .i64 (ofB (ax, ay) (bx, by_)).1.2, .int .i64 (ofB (ax, ay) (bx, by_)).2.1, .int .i64 (ofB (ax, ay) (bx, by_)).2.2]) ∧ Below w.heap.size w w' := by
 cases hv : lessB (bx, by_) (ax, ay)
 ·have HV := Lib.hid hv
  go_enter Tryz.func60, Tryz.ntmps60
  go_wp2_with (go_at_call 59; (refine (ref08_Less _ _ _ _ _).mono ?_; rintro e w1 ⟨rfl, hb1⟩; obtain ⟨c_hb1, f_hb1⟩ := bcell hb1; have z_hb1 := hb1.size; (try simp at z_hb1); (try have y0_hb1 : w.heap.size < w1.heap.size := by omega); (try have y1_hb1 : w.heap.size + 1 < w1.heap.size := by omega); (try have y2_hb1 : w.heap.size + 1 + 1 < w1.heap.size := by omega); (try have y3_hb1 : w.heap.size + 1 + 1 + 1 < w1.heap.size := by omega); (try have y4_hb1 : w.heap.size + 1 + 1 + 1 + 1 < w1.heap.size := by omega)))
  exact bodyPost_ret (v := .agg #[.int .i64 ax, .int .i64 ay, .int .i64 bx, .int .i64 by_]) (by simp [results, Tryz.results60]; go_simp) rfl ⟨by simp [ofB, HV.out], (by repeat (first | exact Below.refl _ _ | apply below_alloc | apply below_drewN | apply below_drew | (refine below_set2 ?_ ?_; (first | (simp; done) | (simp; omega))) | (refine below_step ?_ hb1)))⟩
 ·have HV := Lib.hid hv
  go_enter Tryz.func60, Tryz.ntmps60
  go_wp2_with (go_at_call 59; (refine (ref08_Less _ _ _ _ _).mono ?_; rintro e w1 ⟨rfl, hb1⟩; obtain ⟨c_hb1, f_hb1⟩ := bcell hb1; have z_hb1 := hb1.size; (try simp at z_hb1); (try have y0_hb1 : w.heap.size < w1.heap.size := by omega); (try have y1_hb1 : w.heap.size + 1 < w1.heap.size := by omega); (try have y2_hb1 : w.heap.size + 1 + 1 < w1.heap.size := by omega); (try have y3_hb1 : w.heap.size + 1 + 1 + 1 < w1.heap.size := by omega); (try have y4_hb1 : w.heap.size + 1 + 1 + 1 + 1 < w1.heap.size := by omega)))
  exact bodyPost_ret (v := .agg #[.int .i64 bx, .int .i64 by_, .int .i64 ax, .int .i64 ay]) (by simp [results, Tryz.results60]; go_simp) rfl ⟨by simp [ofB, HV.out], (by repeat (first | exact Below.refl _ _ | apply below_alloc | apply below_drewN | apply below_drew | (refine below_set2 ?_ ?_; (first | (simp; done) | (simp; omega))) | (refine below_step ?_ hb1)))⟩
attribute [local go_sem high] eqPt eqSg
theorem ref09_Within (q a b : Pt) (w : World) : Calls Tryz.prog 133 #[ptA q, ptA a, ptA b] w fun e w' => e = .returned (.bool (withinB q a b)) ∧ Below w.heap.size w w' := by
 have HS := Lib.hid (fun W => ref09_On q.1 q.2 a.1 a.2 b.1 b.2 W)
 cases hv : onB q a b
 ·have HR : Hid (withinB q a b = false) := withinB_off hv
  have HV : Hid (onB (q.1, q.2) (a.1, a.2) (b.1, b.2) = false) := hv
  go_enter Tryz.func133, Tryz.ntmps133
  go_wp2_with fail
  (refine (HS.out _).mono ?_; rintro e w1 ⟨rfl, hb1⟩; obtain ⟨c_hb1, f_hb1⟩ := bcell hb1; have z_hb1 := hb1.size; (try simp at z_hb1); (try have y0_hb1 : w.heap.size < w1.heap.size := by omega); (try have y1_hb1 : w.heap.size + 1 < w1.heap.size := by omega); (try have y2_hb1 : w.heap.size + 1 + 1 < w1.heap.size := by omega); (try have y3_hb1 : w.heap.size + 1 + 1 + 1 < w1.heap.size := by omega); (try have y4_hb1 : w.heap.size + 1 + 1 + 1 + 1 < w1.heap.size := by omega))
  rw [HV.out]
  go_wp2
  go_ret
  exact ⟨ret_bool HR.out.symm, (by repeat (first | exact Below.refl _ _ | apply below_alloc | apply below_drewN | apply below_drew | (refine below_set2 ?_ ?_; (first | (simp; done) | (simp; omega))) | (refine below_step ?_ hb1)))⟩
 ·have HV : Hid (onB (q.1, q.2) (a.1, a.2) (b.1, b.2) = true) := hv
  by_cases h1 : q = a
  ·have HR : Hid (withinB q a b = false) := withinB_at hv h1
   have hd := (ptB q a).trans (decide_eq_true h1)
   clear h1 hv
   go_enter Tryz.func133, Tryz.ntmps133
   go_wp2_with fail
   (refine (HS.out _).mono ?_; rintro e w1 ⟨rfl, hb1⟩; obtain ⟨c_hb1, f_hb1⟩ := bcell hb1; have z_hb1 := hb1.size; (try simp at z_hb1); (try have y0_hb1 : w.heap.size < w1.heap.size := by omega); (try have y1_hb1 : w.heap.size + 1 < w1.heap.size := by omega); (try have y2_hb1 : w.heap.size + 1 + 1 < w1.heap.size := by omega); (try have y3_hb1 : w.heap.size + 1 + 1 + 1 < w1.heap.size := by omega); (try have y4_hb1 : w.heap.size + 1 + 1 + 1 + 1 < w1.heap.size := by omega))
   rw [HV.out]
   go_wp2
   go_ret
   exact ⟨ret_bool HR.out.symm, (by repeat (first | exact Below.refl _ _ | apply below_alloc | apply below_drewN | apply below_drew | (refine below_set2 ?_ ?_; (first | (simp; done) | (simp; omega))) | (refine below_step ?_ hb1)))⟩
  ·have hd := (ptB q a).trans (decide_eq_false h1)
   by_cases h2 : q = b
   ·have HR : Hid (withinB q a b = false) := withinB_end hv h2
    have hd2 := (ptB q b).trans (decide_eq_true h2)
    clear h1 h2 hv
    go_enter Tryz.func133, Tryz.ntmps133
    go_wp2_with fail
    (refine (HS.out _).mono ?_; rintro e w1 ⟨rfl, hb1⟩; obtain ⟨c_hb1, f_hb1⟩ := bcell hb1; have z_hb1 := hb1.size; (try simp at z_hb1); (try have y0_hb1 : w.heap.size < w1.heap.size := by omega); (try have y1_hb1 : w.heap.size + 1 < w1.heap.size := by omega); (try have y2_hb1 : w.heap.size + 1 + 1 < w1.heap.size := by omega); (try have y3_hb1 : w.heap.size + 1 + 1 + 1 < w1.heap.size := by omega); (try have y4_hb1 : w.heap.size + 1 + 1 + 1 + 1 < w1.heap.size := by omega))
    rw [HV.out]
    go_wp2
    go_ret
    exact ⟨ret_bool HR.out.symm, (by repeat (first | exact Below.refl _ _ | apply below_alloc | apply below_drewN | apply below_drew | (refine below_set2 ?_ ?_; (first | (simp; done) | (simp; omega))) | (refine below_step ?_ hb1)))⟩
   ·have HR : Hid (withinB q a b = true) := withinB_in hv h1 h2
    have hd2 := (ptB q b).trans (decide_eq_false h2)
    clear h1 h2 hv
    go_enter Tryz.func133, Tryz.ntmps133
    go_wp2_with fail
    (refine (HS.out _).mono ?_; rintro e w1 ⟨rfl, hb1⟩; obtain ⟨c_hb1, f_hb1⟩ := bcell hb1; have z_hb1 := hb1.size; (try simp at z_hb1); (try have y0_hb1 : w.heap.size < w1.heap.size := by omega); (try have y1_hb1 : w.heap.size + 1 < w1.heap.size := by omega); (try have y2_hb1 : w.heap.size + 1 + 1 < w1.heap.size := by omega); (try have y3_hb1 : w.heap.size + 1 + 1 + 1 < w1.heap.size := by omega); (try have y4_hb1 : w.heap.size + 1 + 1 + 1 + 1 < w1.heap.size := by omega))
    rw [HV.out]
    go_wp2
    go_ret
    exact ⟨ret_bool HR.out.symm, (by repeat (first | exact Below.refl _ _ | apply below_alloc | apply below_drewN | apply below_drew | (refine below_set2 ?_ ?_; (first | (simp; done) | (simp; omega))) | (refine below_step ?_ hb1)))⟩
attribute [local go_sem high] eqPt eqSg
theorem ref20_good (s : Sg) (w : World) : Calls Tryz.prog 61 #[sgA s] w fun e w' => e = .returned (.bool (goodB s)) ∧ Below w.heap.size w w' := by
 have HE : Hid (goodB s = (decide (s.1 ≠ s.2) && (validB s.1 && validB s.2))) := rfl
 generalize goodB s = r at *
 have hd0 := ptB s.1 s.2
 have V1 := Lib.hid (fun W => ref08_Valid s.1.1 s.1.2 W)
 have V2 := Lib.hid (fun W => ref08_Valid s.2.1 s.2.2 W)
 by_cases h : s.1 = s.2
 ·have hd := hd0.trans (decide_eq_true h)
  have HR : Hid (r = false) := HE.out.trans (by simp [h])
  clear h hd0 HE
  go_enter Tryz.func61, Tryz.ntmps61
  go_wp2
  go_ret
  exact ⟨ret_bool HR.out.symm, bq⟩
 ·have hd := hd0.trans (decide_eq_false h)
  have HE2 : Hid (r = (validB s.1 && validB s.2)) := HE.out.trans (by simp [h])
  clear h hd0 HE
  cases h1 : validB s.1
  ·have HR : Hid (r = false) := HE2.out.trans (by rw [h1]; rfl)
   have H1 : Hid (validB (s.1.1, s.1.2) = false) := h1
   clear h1 HE2
   go_enter Tryz.func61, Tryz.ntmps61
   go_wp2_with fail
   (refine (V1.out _).mono ?_; rintro e w1 ⟨rfl, hb1⟩; obtain ⟨c_hb1, f_hb1⟩ := bcell hb1; have z_hb1 := hb1.size; (try simp at z_hb1); (try have y0_hb1 : w.heap.size < w1.heap.size := by omega); (try have y1_hb1 : w.heap.size + 1 < w1.heap.size := by omega); (try have y2_hb1 : w.heap.size + 1 + 1 < w1.heap.size := by omega); (try have y3_hb1 : w.heap.size + 1 + 1 + 1 < w1.heap.size := by omega); (try have y4_hb1 : w.heap.size + 1 + 1 + 1 + 1 < w1.heap.size := by omega))
   rw [H1.out]
   go_wp2
   go_ret
   exact ⟨ret_bool HR.out.symm, (by repeat (first | exact Below.refl _ _ | apply below_alloc | apply below_drewN | apply below_drew | (refine below_set2 ?_ ?_; (first | (simp; done) | (simp; omega))) | (refine below_step ?_ hb1)))⟩
  ·have HR : Hid (r = validB s.2) := HE2.out.trans (by rw [h1]; rfl)
   have H1 : Hid (validB (s.1.1, s.1.2) = true) := h1
   clear h1 HE2
   go_enter Tryz.func61, Tryz.ntmps61
   go_wp2_with fail
   (refine (V1.out _).mono ?_; rintro e w1 ⟨rfl, hb1⟩; obtain ⟨c_hb1, f_hb1⟩ := bcell hb1; have z_hb1 := hb1.size; (try simp at z_hb1); (try have y0_hb1 : w.heap.size < w1.heap.size := by omega); (try have y1_hb1 : w.heap.size + 1 < w1.heap.size := by omega); (try have y2_hb1 : w.heap.size + 1 + 1 < w1.heap.size := by omega); (try have y3_hb1 : w.heap.size + 1 + 1 + 1 < w1.heap.size := by omega); (try have y4_hb1 : w.heap.size + 1 + 1 + 1 + 1 < w1.heap.size := by omega))
   rw [H1.out]
   go_wp2_with fail
   (refine (V2.out _).mono ?_; rintro e w2 ⟨rfl, hb2⟩; obtain ⟨c_hb2, f_hb2⟩ := bcell hb2; have z_hb2 := hb2.size; (try simp at z_hb2); (try have y0_hb2 : w.heap.size < w2.heap.size := by omega); (try have y1_hb2 : w.heap.size + 1 < w2.heap.size := by omega); (try have y2_hb2 : w.heap.size + 1 + 1 < w2.heap.size := by omega); (try have y3_hb2 : w.heap.size + 1 + 1 + 1 < w2.heap.size := by omega); (try have y4_hb2 : w.heap.size + 1 + 1 + 1 + 1 < w2.heap.size := by omega))
   go_wp2
   go_ret
   exact ⟨ret_bool HR.out.symm, (by repeat (first | exact Below.refl _ _ | apply below_alloc | apply below_drewN | apply below_drew | (refine below_set2 ?_ ?_; (first | (simp; done) | (simp; omega))) | (refine below_step ?_ hb2) | (refine below_step ?_ hb1)))⟩
theorem ref09_sign (n : Int) (w : World) : Calls Tryz.prog 96 #[.int .i64 n] w fun e w' => e = .returned (.int .i64 (signZ n)) ∧ Below w.heap.size w w' := by
 go_enter Tryz.func96, Tryz.ntmps96
 go_wp2
 all_goals go_ret
 all_goals refine ⟨ret_int ?_, bq⟩
 all_goals (unfold signZ; omega)
end
section
open Go.RowKit Go.Proofs.YtlmjciajpjdilaaGreatW.PrintLast

attribute [local go_sem high] eqPt eqSg

set_option maxHeartbeats 2000000 in
theorem Compact_sg (xs : List _) (v : Value) (base : Nat) (w : World) (ho : Own1 Ty.sg 32 base w v xs) :
  Calls Tryz.prog 74 #[v] w fun e w' => ∃ v', e = .returned v' ∧ Own1 Ty.sg 32 base w' v' (compactZ xs) ∧ KeptS (fun b => v.ownBlock = some b) w w' := by
 obtain ⟨A, c, rfl, hlc, hr⟩ := ho.reads
 have HO := Lib.hid ho
 have hmx := hr.len
 clear ho hr
 by_cases h2 : xs.length < 2
 ·have HE : Hid (compactZ xs = xs) := compact_one h2
  go_enter Tryz.func74, Tryz.ntmps74
  go_wp2
  go_ret
  exact ⟨_, rfl, by rw [HE.out]; exact Own1.below HO.out bq, kept_of_below bq⟩
 ·obtain ⟨g, c', hv, _⟩ := HO.out.form (by omega)
  injection hv with hv _ hc'
  subst hv hc'
  go_enter Tryz.func74, Tryz.ntmps74
  go_wp2
  go_loopw [3] (fun i wr => ∃ k : Nat, 1 ≤ k ∧ k ≤ xs.length ∧ i = .int .i64 k ∧ Hid (KeptS (fun b => b = g) w wr) ∧ Hid (Own1 Ty.sg 32 base wr (.slice (some ⟨g, 0, none⟩) xs.length c) xs) ∧ Hid (compactZ (xs.take k) = xs.take k)) (fun i _ => xs.length - (intOf i).toNat)
  case atStart => exact ⟨1, Nat.le_refl _, by omega, rfl, kept_refl _ _, HO, by show _ = _; exact compact_one (by rw [List.length_take]; omega)⟩
  case round =>
   obtain ⟨k, hk1, hk, rfl, HB, HOk, HC⟩ := hrel
   clear HO
   by_cases hlt : k < xs.length
   ·obtain ⟨hx0, hx1, hx2, hx3⟩ := OwnR.sg_at HOk.out k hlt
    obtain ⟨hy0, hy1, hy2, hy3⟩ := OwnR.sg_at HOk.out (k - 1) (by omega)
    have ek : ((k : Int) - 1).toNat = k - 1 := by omega
    have ew : wrap64 ((k : Int) - 1) = (k : Int) - 1 := by unfold wrap64; omega
    have eb : (0 : Int) ≤ (k : Int) - 1 := by omega
    have eb2 : (k : Int) - 1 < xs.length := by omega
    by_cases hq : sgD xs k = sgD xs (k - 1)
    ·have hd := (sgB (sgD xs k) (sgD xs (k - 1))).trans (decide_eq_true hq)
     have HQ := Lib.hid hq
     clear hq
     go_wp2_with fail
     go_quiet (fail)
     clear ek ew eb eb2 hd hx0 hx1 hx2 hx3 hy0 hy1 hy2 hy3
     go_wp2
     go_loopw [3, 5] (fun i j wr => ∃ (i' j' : Nat) (ys : List _), i = .int .i64 i' ∧ j = .int .i64 j' ∧ 1 ≤ i' ∧ 1 ≤ j' ∧ i' + 1 ≤ k + j' ∧ k + j' ≤ xs.length ∧ ys.length = xs.length ∧ Hid (KeptS (fun b => b = g) w wr) ∧ Hid (Own1 Ty.sg 32 base wr (.slice (some ⟨g, 0, none⟩) xs.length c) ys) ∧
      Hid (ys.take i' = compactZ (xs.take (k + j'))) ∧ Hid (∀ m, k + j' ≤ m + 1 → ys[m]? = xs[m]?)) (fun _ j _ => xs.length - k - (intOf j).toNat)
     case atStart => exact ⟨k, 1, xs, rfl, rfl, hk1, Nat.le_refl _, by omega, by omega, rfl, kept_drewN HB.out _, Own1.below HOk.out bq, by show _ = _; rw [compact_eq xs ((0, 0), (0, 0)) k (by omega) hlt HQ.out, HC.out], fun m _ => rfl⟩
     case round =>
      obtain ⟨i, j, ys, rfl, rfl, hi1, hj1, hij, hjn, hyl, HB1, HOy, HI, HJ⟩ := hrel
      clear HB HOk HC
      by_cases hlt2 : k + j < xs.length
      ·obtain ⟨hx0, hx1, hx2, hx3⟩ := OwnR.sg_at HOy.out (k + j) (by omega)
       obtain ⟨hy0, hy1, hy2, hy3⟩ := OwnR.sg_at HOy.out (k + j - 1) (by omega)
       have e1 : sgD ys (k + j) = sgD xs (k + j) := by simp only [sgD, List.getD_eq_getElem?_getD, HJ.out (k + j) (by omega)]
       have e2 : sgD ys (k + j - 1) = sgD xs (k + j - 1) := by simp only [sgD, List.getD_eq_getElem?_getD, HJ.out (k + j - 1) (by omega)]
       rw [e1] at hx0 hx1 hx2 hx3
       rw [e2] at hy0 hy1 hy2 hy3
       have ek : ((j : Int) - 1).toNat = j - 1 := by omega
       have ew : wrap64 ((j : Int) - 1) = (j : Int) - 1 := by unfold wrap64; omega
       have eb : (0 : Int) ≤ (j : Int) - 1 := by omega
       have hj2 : j < xs.length - k := by omega
       have ea : k * 4 + j * 4 = (k + j) * 4 := by omega
       have ea2 : k * 4 + (j - 1) * 4 = (k + j - 1) * 4 := by omega
       by_cases hq : sgD xs (k + j) = sgD xs (k + j - 1)
       ·have hd := (sgB (sgD xs (k + j)) (sgD xs (k + j - 1))).trans (decide_eq_true hq)
        have HQ := Lib.hid hq
        clear hq
        go_wp2_with fail
        go_quiet (fail)
        go_wp2
        go_roundw
        case rel => exact ⟨i, j + 1, ys, rfl, by go_num, hi1, by omega, by omega, by omega, hyl, kept_drewN HB1.out _, Own1.below HOy.out bq, by show _ = _; rw [HI.out]; exact (compact_eq xs ((0, 0), (0, 0)) (k + j) (by omega) hlt2 HQ.out).symm, fun m hm => HJ.out m (by omega)⟩
        case measure => simp [intOf]; omega
       ·have hd := (sgB (sgD xs (k + j)) (sgD xs (k + j - 1))).trans (decide_eq_false hq)
        have HQ := Lib.hid hq
        clear hq
        go_wp2_with fail
        go_quiet (fail)
        clear ek ew eb hd
        go_wp2_with (refine wpList_storeT (T := Ty.sg) (y := sgD xs (k + j)) (i := i) rfl (.tmp 51) (.tmp 50) 32 rfl (by kernel_rfl) rfl rfl (Own1.below HOy.out bq) (by omega) rfl rfl ?_; intro w3 HO3 HK3 hs3)
        have HB3 := Lib.hid (kept_step (kept_below HB1.out bq) HK3)
        have HO3' := Lib.hid HO3
        clear HO3 HK3 hs3 hx0 hx1 hx2 hx3 hy0 hy1 hy2 hy3
        go_wp2
        go_roundw
        case rel => exact ⟨i + 1, j + 1, ys.set i (sgD xs (k + j)), by go_num, by go_num, by omega, by omega, by omega, by omega, by rw [List.length_set]; exact hyl, HB3, HO3', by show _ = _; rw [set_take_snoc _ (by omega), HI.out]; exact (compact_ne xs ((0, 0), (0, 0)) (k + j) (by omega) hlt2 HQ.out).symm, fun m hm => by rw [List.getElem?_set_ne (by omega)]; exact HJ.out m (by omega)⟩
        case measure => simp [intOf]; omega
      ·obtain rfl : j = xs.length - k := by omega
       have HE : Hid (ys.take i = compactZ xs) := by have := HI.out; rw [show k + (xs.length - k) = xs.length by omega, List.take_length] at this; exact this
       go_wp2_with (refine wpList_clearT (T := Ty.sg) (i := i) rfl (.tmp 56) 22 rfl Tryz.underlying22 (z := .agg #[.int .i64 0, .int .i64 0, .int .i64 0, .int .i64 0]) (fun w => by kernel_rfl) rfl (by decide) rfl HOy.out rfl (by omega) (by omega) ?_; intro w3 HO3 HK3 hs3)
       have HB3 := Lib.hid (kept_step HB1.out HK3)
       have HO3' := Lib.hid HO3
       clear HO3 HK3 hs3
       rw [HE.out] at HO3'
       go_wp2
       go_ret
       exact ⟨_, rfl, HO3'.out, kept_mono HB3.out (fun k _ hk => by rw [hk]; rfl)⟩
    ·have hd := (sgB (sgD xs k) (sgD xs (k - 1))).trans (decide_eq_false hq)
     have HQ := Lib.hid hq
     clear hq
     go_wp2_with fail
     go_quiet (fail)
     go_wp2
     go_roundw
     case rel => exact ⟨k + 1, by omega, by omega, by go_num, kept_drewN HB.out _, Own1.below HOk.out bq, by show _ = _; rw [compact_ne xs ((0, 0), (0, 0)) k (by omega) hlt HQ.out, HC.out, take_snoc xs k ((0, 0), (0, 0)) hlt]⟩
     case measure => simp [intOf]; omega
   ·obtain rfl : k = xs.length := by omega
    have HE : Hid (compactZ xs = xs) := by have := HC.out; rwa [List.take_length] at this
    go_wp2
    go_ret
    exact ⟨_, rfl, by rw [HE.out]; exact Own1.below HOk.out bq, kept_mono (kept_drewN HB.out 0) (fun k _ hk => by rw [hk]; rfl)⟩

set_option maxHeartbeats 2000000 in
theorem Compact_pt (xs : List _) (v : Value) (base : Nat) (w : World) (ho : Own1 Ty.pt 24 base w v xs) :
  Calls Tryz.prog 109 #[v] w fun e w' => ∃ v', e = .returned v' ∧ Own1 Ty.pt 24 base w' v' (compactZ xs) ∧ KeptS (fun b => v.ownBlock = some b) w w' := by
 obtain ⟨A, c, rfl, hlc, hr⟩ := ho.reads
 have HO := Lib.hid ho
 have hmx := hr.len
 clear ho hr
 by_cases h2 : xs.length < 2
 ·have HE : Hid (compactZ xs = xs) := compact_one h2
  go_enter Tryz.func109, Tryz.ntmps109
  go_wp2
  go_ret
  exact ⟨_, rfl, by rw [HE.out]; exact Own1.below HO.out bq, kept_of_below bq⟩
 ·obtain ⟨g, c', hv, _⟩ := HO.out.form (by omega)
  injection hv with hv _ hc'
  subst hv hc'
  go_enter Tryz.func109, Tryz.ntmps109
  go_wp2
  go_loopw [3] (fun i wr => ∃ k : Nat, 1 ≤ k ∧ k ≤ xs.length ∧ i = .int .i64 k ∧ Hid (KeptS (fun b => b = g) w wr) ∧ Hid (Own1 Ty.pt 24 base wr (.slice (some ⟨g, 0, none⟩) xs.length c) xs) ∧ Hid (compactZ (xs.take k) = xs.take k)) (fun i _ => xs.length - (intOf i).toNat)
  case atStart => exact ⟨1, Nat.le_refl _, by omega, rfl, kept_refl _ _, HO, by show _ = _; exact compact_one (by rw [List.length_take]; omega)⟩
  case round =>
   obtain ⟨k, hk1, hk, rfl, HB, HOk, HC⟩ := hrel
   clear HO
   by_cases hlt : k < xs.length
   ·obtain ⟨hx0, hx1⟩ := OwnR.pt_at HOk.out k hlt
    obtain ⟨hy0, hy1⟩ := OwnR.pt_at HOk.out (k - 1) (by omega)
    have ek : ((k : Int) - 1).toNat = k - 1 := by omega
    have ew : wrap64 ((k : Int) - 1) = (k : Int) - 1 := by unfold wrap64; omega
    have eb : (0 : Int) ≤ (k : Int) - 1 := by omega
    have eb2 : (k : Int) - 1 < xs.length := by omega
    by_cases hq : ptD xs k = ptD xs (k - 1)
    ·have hd := (ptB (ptD xs k) (ptD xs (k - 1))).trans (decide_eq_true hq)
     have HQ := Lib.hid hq
     clear hq
     go_wp2_with fail
     go_quiet (fail)
     clear ek ew eb eb2 hd hx0 hx1 hy0 hy1
     go_wp2
     go_loopw [3, 5] (fun i j wr => ∃ (i' j' : Nat) (ys : List _), i = .int .i64 i' ∧ j = .int .i64 j' ∧ 1 ≤ i' ∧ 1 ≤ j' ∧ i' + 1 ≤ k + j' ∧ k + j' ≤ xs.length ∧ ys.length = xs.length ∧ Hid (KeptS (fun b => b = g) w wr) ∧ Hid (Own1 Ty.pt 24 base wr (.slice (some ⟨g, 0, none⟩) xs.length c) ys) ∧
      Hid (ys.take i' = compactZ (xs.take (k + j'))) ∧ Hid (∀ m, k + j' ≤ m + 1 → ys[m]? = xs[m]?)) (fun _ j _ => xs.length - k - (intOf j).toNat)
     case atStart => exact ⟨k, 1, xs, rfl, rfl, hk1, Nat.le_refl _, by omega, by omega, rfl, kept_drewN HB.out _, Own1.below HOk.out bq, by show _ = _; rw [compact_eq xs (0, 0) k (by omega) hlt HQ.out, HC.out], fun m _ => rfl⟩
     case round =>
      obtain ⟨i, j, ys, rfl, rfl, hi1, hj1, hij, hjn, hyl, HB1, HOy, HI, HJ⟩ := hrel
      clear HB HOk HC
      by_cases hlt2 : k + j < xs.length
      ·obtain ⟨hx0, hx1⟩ := OwnR.pt_at HOy.out (k + j) (by omega)
       obtain ⟨hy0, hy1⟩ := OwnR.pt_at HOy.out (k + j - 1) (by omega)
       have e1 : ptD ys (k + j) = ptD xs (k + j) := by simp only [ptD, List.getD_eq_getElem?_getD, HJ.out (k + j) (by omega)]
       have e2 : ptD ys (k + j - 1) = ptD xs (k + j - 1) := by simp only [ptD, List.getD_eq_getElem?_getD, HJ.out (k + j - 1) (by omega)]
       rw [e1] at hx0 hx1
       rw [e2] at hy0 hy1
       have ek : ((j : Int) - 1).toNat = j - 1 := by omega
       have ew : wrap64 ((j : Int) - 1) = (j : Int) - 1 := by unfold wrap64; omega
       have eb : (0 : Int) ≤ (j : Int) - 1 := by omega
       have hj2 : j < xs.length - k := by omega
       have ea : k * 2 + j * 2 = (k + j) * 2 := by omega
       have ea2 : k * 2 + (j - 1) * 2 = (k + j - 1) * 2 := by omega
       by_cases hq : ptD xs (k + j) = ptD xs (k + j - 1)
       ·have hd := (ptB (ptD xs (k + j)) (ptD xs (k + j - 1))).trans (decide_eq_true hq)
        have HQ := Lib.hid hq
        clear hq
        go_wp2_with fail
        go_quiet (fail)
        go_wp2
        go_roundw
        case rel => exact ⟨i, j + 1, ys, rfl, by go_num, hi1, by omega, by omega, by omega, hyl, kept_drewN HB1.out _, Own1.below HOy.out bq, by show _ = _; rw [HI.out]; exact (compact_eq xs (0, 0) (k + j) (by omega) hlt2 HQ.out).symm, fun m hm => HJ.out m (by omega)⟩
        case measure => simp [intOf]; omega
       ·have hd := (ptB (ptD xs (k + j)) (ptD xs (k + j - 1))).trans (decide_eq_false hq)
        have HQ := Lib.hid hq
        clear hq
        go_wp2_with fail
        go_quiet (fail)
        clear ek ew eb hd
        go_wp2_with (refine wpList_storeT (T := Ty.pt) (y := ptD xs (k + j)) (i := i) rfl (.tmp 51) (.tmp 50) 24 rfl (by kernel_rfl) rfl rfl (Own1.below HOy.out bq) (by omega) rfl rfl ?_; intro w3 HO3 HK3 hs3)
        have HB3 := Lib.hid (kept_step (kept_below HB1.out bq) HK3)
        have HO3' := Lib.hid HO3
        clear HO3 HK3 hs3 hx0 hx1 hy0 hy1
        go_wp2
        go_roundw
        case rel => exact ⟨i + 1, j + 1, ys.set i (ptD xs (k + j)), by go_num, by go_num, by omega, by omega, by omega, by omega, by rw [List.length_set]; exact hyl, HB3, HO3', by show _ = _; rw [set_take_snoc _ (by omega), HI.out]; exact (compact_ne xs (0, 0) (k + j) (by omega) hlt2 HQ.out).symm, fun m hm => by rw [List.getElem?_set_ne (by omega)]; exact HJ.out m (by omega)⟩
        case measure => simp [intOf]; omega
      ·obtain rfl : j = xs.length - k := by omega
       have HE : Hid (ys.take i = compactZ xs) := by have := HI.out; rw [show k + (xs.length - k) = xs.length by omega, List.take_length] at this; exact this
       go_wp2_with (refine wpList_clearT (T := Ty.pt) (i := i) rfl (.tmp 56) 41 rfl Tryz.underlying41 (z := .agg #[.int .i64 0, .int .i64 0]) (fun w => by kernel_rfl) rfl (by decide) rfl HOy.out rfl (by omega) (by omega) ?_; intro w3 HO3 HK3 hs3)
       have HB3 := Lib.hid (kept_step HB1.out HK3)
       have HO3' := Lib.hid HO3
       clear HO3 HK3 hs3
       rw [HE.out] at HO3'
       go_wp2
       go_ret
       exact ⟨_, rfl, HO3'.out, kept_mono HB3.out (fun k _ hk => by rw [hk]; rfl)⟩
    ·have hd := (ptB (ptD xs k) (ptD xs (k - 1))).trans (decide_eq_false hq)
     have HQ := Lib.hid hq
     clear hq
     go_wp2_with fail
     go_quiet (fail)
     go_wp2
     go_roundw
     case rel => exact ⟨k + 1, by omega, by omega, by go_num, kept_drewN HB.out _, Own1.below HOk.out bq, by show _ = _; rw [compact_ne xs (0, 0) k (by omega) hlt HQ.out, HC.out, take_snoc xs k (0, 0) hlt]⟩
     case measure => simp [intOf]; omega
   ·obtain rfl : k = xs.length := by omega
    have HE : Hid (compactZ xs = xs) := by have := HC.out; rwa [List.take_length] at this
    go_wp2
    go_ret
    exact ⟨_, rfl, by rw [HE.out]; exact Own1.below HOk.out bq, kept_mono (kept_drewN HB.out 0) (fun k _ hk => by rw [hk]; rfl)⟩
end
section
open Go.RowKit Go.Proofs.YtlmjciajpjdilaaGreatW.PrintLast

attribute [local go_sem high] eqPt eqSg
theorem insZ_at {α : Type} {less : α → α → Bool} {x : α} (d : α) : ∀ {l : List α} {k : Nat}, k ≤ l.length → (∀ j, j < k → less x (l.getD j d) = false) → (k < l.length → less x (l.getD k d) = true) → insZ less x l = l.take k ++ x :: l.drop k
 | [], k, h, _, _ => by simp [insZ]
 | y :: l, 0, h, _, h2 => by
  have := h2 (by simp)
  simp only [List.getD_cons_zero] at this
  unfold insZ; rw [if_pos this]; rfl
 | y :: l, k + 1, h, h1, h2 => by
  have h0 := h1 0 (by omega)
  simp only [List.getD_cons_zero] at h0
  have ih := insZ_at (x := x) (less := less) d (l := l) (k := k) (by simp at h; omega) (fun j hj => by have := h1 (j + 1) (by omega); simpa using this) (fun hk => by have := h2 (by simp; omega); simpa using this)
  unfold insZ
  rw [if_neg (by rw [h0]; decide), ih]; rfl
def insTo (l : Sgs) (s : Sg) (k i : Nat) : Sgs := l.take k ++ [s] ++ (l.take i).drop k
theorem insTo_start (l : Sgs) (s : Sg) (k : Nat) : insTo l s k k = l.take k ++ [s] := by simp [insTo]
theorem insTo_snoc (l : Sgs) (s : Sg) (k i : Nat) (hk : k ≤ i) (h : i < l.length) : insTo l s k (i + 1) = insTo l s k i ++ [sgD l i] := by
 unfold insTo
 rw [take_snoc l i ((0, 0), (0, 0)) h, List.drop_append_of_le_length (by rw [List.length_take]; omega), ← List.append_assoc]; rfl
theorem insTo_end (l : Sgs) (s : Sg) (k : Nat) : insTo l s k l.length = l.take k ++ s :: l.drop k := by simp [insTo]
theorem insTo_len (l : Sgs) (s : Sg) (k i : Nat) : (insTo l s k i).length ≤ l.length + 1 + l.length := by simp [insTo]; omega
set_option maxRecDepth 100000 in
set_option maxHeartbeats 4000000 in
theorem ref20_insert {ok : Nat → Prop} (l : Sgs) (A : Option Addr) (n c : Nat) (s : Sg) (w : World) (hr : Row Ty.sg ok w A l) (hn : n = l.length) (hlen : l.length ≤ 1000000) :
  Calls Tryz.prog 62 #[.slice A n c, sgA s] w fun e w' => ∃ v, e = .returned v ∧ Own1 Ty.sg 32 w.heap.size w' v (insZ lessS s l) ∧ Below w.heap.size w w' := by
 subst hn
 have HR := Lib.hid hr
 clear hr
 go_enter Tryz.func62, Tryz.ntmps62
 go_wp2
 go_loopw [5, 6] (fun v i wr => ∃ k : Nat, k ≤ l.length ∧ i = .int .i64 k ∧ wr.heap[w.heap.size]? = some (.cells #[.int .i64 s.1.1, .int .i64 s.1.2, .int .i64 s.2.1, .int .i64 s.2.2] 32 (0, 0)) ∧ Hid (Below w.heap.size w wr) ∧ Hid (Own1 Ty.sg 32 (w.heap.size + 1) wr v (l.take k)) ∧ Hid (∀ j, j < k → lessS s (l.getD j ((0, 0), (0, 0))) = false)) (fun _ i _ => l.length - (intOf i).toNat)
 case atStart => exact ⟨0, Nat.zero_le _, rfl, heap_alloc_new _ _, below_alloc (Below.refl _ _) _, OwnR.nil _ _ _ _ _, fun j hj => absurd hj (Nat.not_lt_zero j)⟩
 case round =>
  obtain ⟨k, hk, rfl, HX, HB, HO, HN⟩ := hrel
  have hsz := lt_of_block HX
  have hc0 := blk_cell HX 0 rfl
  have hc1 := blk_cell HX 1 rfl
  have hc2 := blk_cell HX 2 rfl
  have hc3 := blk_cell HX 3 rfl
  have hL : ((l.take k).length + 1) * 32 ≤ 140737488355328 := by rw [List.length_take]; omega
  have HL := Lib.hid hL
  clear hL
  by_cases hlt : k < l.length
  ·have HRk := Lib.hid (HR.out.below HB.out)
   obtain ⟨ad, rfl, hx0, hx1, hx2, hx3⟩ := HRk.out.sg_at k hlt
   obtain ⟨x, hx⟩ : ∃ x, x = sgD l k := ⟨_, rfl⟩
   have HT : Hid (l.take (k + 1) = l.take k ++ [x]) := by rw [hx]; exact take_snoc l k ((0, 0), (0, 0)) hlt
   have HXX := Lib.hid hx
   rw [← hx] at hx0 hx1 hx2 hx3
   clear hx
   cases hle : lessS s x
   ·have HLE := Lib.hid hle
    clear hle
    go_wp2_with fail
    go_still_tail 10, (by kernel_rfl)
    change wpList _ _ _ _ _ wr.drew
    go_wp2_with fail
    (refine (ref09_Less s x _).mono ?_; rintro e w1 ⟨rfl, hb1⟩)
    rw [HLE.out]
    have BR : Below wr.heap.size wr w1 := (by repeat (first | exact Below.refl _ _ | apply below_alloc | apply below_drewN | apply below_drew | (refine below_set2 ?_ ?_; (first | (simp; done) | (simp; omega))) | (refine below_step ?_ hb1)))
    have hy0 := cell_below BR hx0
    have hy1 := cell_below BR hx1
    have hy2 := cell_below BR hx2
    have hy3 := cell_below BR hx3
    have HX1 := Lib.hid (blk_below HX BR)
    have HO1 := Lib.hid (Own1.below HO.out BR)
    have HB1 := Lib.hid (below_step HB.out BR)
    have z1 := BR.size
    clear hb1 HX hc0 hc1 hc2 hc3 hx0 hx1 hx2 hx3 HRk
    go_wp2_with (at_builtin; refine app_one Ty.sg (W := w1) (w.heap.size + 1) rfl _ _ 22 32 _ 32 rfl Tryz.underlying22 infoSg rfl (by decide) u5 _ x _ _ rfl rfl rfl rfl HO1.out (by omega) HL.out ?_; intro v2 w4 HO2 hg1 hat1)
    have BZ : Below w.heap.size w w4 := below_own HB1.out hg1 (fun b e => by have := (OwnR.lt HO1.out b e).1; omega)
    have HO4 := Lib.hid (Own1.of HO2)
    have HX4 : w4.heap[w.heap.size]? = some (.cells #[.int .i64 s.1.1, .int .i64 s.1.2, .int .i64 s.2.1, .int .i64 s.2.2] 32 (0, 0)) := (hg1.block _ (lt_of_block HX1.out) (fun e => by have := (OwnR.lt HO1.out _ e.symm).1; omega)).trans HX1.out
    clear HO2 hat1 
    go_wp2
    go_roundw
    case rel => exact ⟨k + 1, by omega, by go_num, HX4, BZ, by rw [HT.out]; exact HO4.out, fun j hj => by rcases Nat.lt_succ_iff_lt_or_eq.1 hj with h | h; exact HN.out j h; subst h; exact (congrArg (lessS s) HXX.out.symm).trans HLE.out⟩
    case measure => simp [intOf]; omega
   ·have HLE := Lib.hid hle
    have HZ : Hid (insZ lessS s l = l.take k ++ s :: l.drop k) := insZ_at ((0, 0), (0, 0)) hk HN.out (fun _ => (congrArg (lessS s) HXX.out.symm).trans hle)
    clear hle
    go_wp2_with fail
    go_still_tail 10, (by kernel_rfl)
    change wpList _ _ _ _ _ wr.drew
    go_wp2_with fail
    (refine (ref09_Less s x _).mono ?_; rintro e W1 ⟨rfl, hb1⟩)
    rw [HLE.out]
    have BR : Below wr.heap.size wr W1 := (by repeat (first | exact Below.refl _ _ | apply below_alloc | apply below_drewN | apply below_drew | (refine below_set2 ?_ ?_; (first | (simp; done) | (simp; omega))) | (refine below_step ?_ hb1)))
    have HX1 := blk_below HX BR
    have hd0 := blk_cell HX1 0 rfl
    have hd1 := blk_cell HX1 1 rfl
    have hd2 := blk_cell HX1 2 rfl
    have hd3 := blk_cell HX1 3 rfl
    have HO1 := Lib.hid (Own1.below HO.out BR)
    have HB1 := Lib.hid (below_step HB.out BR)
    have z1 := BR.size
    clear hb1 HX hc0 hc1 hc2 hc3 hx0 hx1 hx2 hx3 HRk HXX BR HO HN HT HX1
    go_wp2_with (at_builtin; refine app_one Ty.sg (W := W1) (w.heap.size + 1) rfl _ _ 22 32 _ 32 rfl Tryz.underlying22 infoSg rfl (by decide) u5 _ s _ _ rfl rfl rfl rfl HO1.out (by omega) HL.out ?_; intro v2 w4 HO2 hg1 hat1)
    have BZ := Lib.hid (show Below w.heap.size w w4 from below_own HB1.out hg1 (fun b e => by have := (OwnR.lt HO1.out b e).1; omega))
    have HO4 : Hid (Own1 Ty.sg 32 (w.heap.size + 1) w4 v2 (insTo l s k k)) := by rw [insTo_start]; exact Own1.of HO2
    have hz4 : w.heap.size + 1 ≤ w4.heap.size := by have := hg1.size; omega
    clear HO2 hat1 hg1 HO1 HB1
    go_wp2
    go_loopw [5, 6] (fun v i wr => ∃ m : Nat, k ≤ m ∧ m ≤ l.length ∧ i = .int .i64 m ∧ w.heap.size + 1 ≤ wr.heap.size ∧ Hid (Below w.heap.size w wr) ∧ Hid (Own1 Ty.sg 32 (w.heap.size + 1) wr v (insTo l s k m))) (fun _ i _ => l.length - (intOf i).toNat)
    case atStart => exact ⟨k, Nat.le_refl _, hk, rfl, hz4, BZ.out, HO4.out⟩
    case round =>
     obtain ⟨m, hkm, hm, rfl, hz5, HB5, HO5⟩ := hrel
     have hL2 : ((insTo l s k m).length + 1) * 32 ≤ 140737488355328 := by have := insTo_len l s k m; omega
     have HL2 := Lib.hid hL2
     clear hL2
     by_cases hlt2 : m < l.length
     ·have HR5 := Lib.hid (HR.out.below HB5.out)
      obtain ⟨ad2, e2, hq0, hq1, hq2, hq3⟩ := HR5.out.sg_at m hlt2
      cases e2
      obtain ⟨y, hy⟩ : ∃ y, y = sgD l m := ⟨_, rfl⟩
      have HT2 : Hid (insTo l s k (m + 1) = insTo l s k m ++ [y]) := by rw [hy]; exact insTo_snoc l s k m hkm hlt2
      rw [← hy] at hq0 hq1 hq2 hq3
      clear hy
      go_wp2_with (at_builtin; refine app_one Ty.sg (W := wr) (w.heap.size + 1) rfl _ _ 22 32 _ 32 rfl Tryz.underlying22 infoSg rfl (by decide) u5 _ y _ _ rfl rfl rfl rfl HO5.out (by omega) HL2.out ?_; intro v3 w6 HO6 hg6 hat6)
      have B6 := Lib.hid (show Below w.heap.size w w6 from below_own HB5.out hg6 (fun b e => by have := (OwnR.lt HO5.out b e).1; omega))
      have HO7 := Lib.hid (Own1.of HO6)
      have hz6 := hg6.size
      clear HO6 hg6 hat6 hq0 hq1 hq2 hq3
      go_wp2
      go_roundw
      case rel => exact ⟨m + 1, by omega, by omega, by go_num, by omega, B6.out, by rw [HT2.out]; exact HO7.out⟩
      case measure => simp [intOf]; omega
     ·obtain rfl : m = l.length := by omega
      have HF : Hid (insZ lessS s l = insTo l s k l.length) := HZ.out.trans (insTo_end l s k).symm
      go_wp2
      go_ret
      exact ⟨_, rfl, by rw [HF.out]; exact Own1.base HO5.out (Nat.le_succ _), HB5.out⟩
  ·have HZ : Hid (insZ lessS s l = l.take k ++ s :: l.drop k) := insZ_at ((0, 0), (0, 0)) hk HN.out (fun h => absurd h hlt)
   go_wp2_with fail
   go_quiet (fail)
   have BR : Below wr.heap.size wr (wr.drewN nq) := bq
   obtain ⟨W1, hW1⟩ : ∃ W1, W1 = wr.drewN nq := ⟨_, rfl⟩
   rw [← hW1] at BR ⊢
   clear hW1
   have HX1 := blk_below HX BR
   have hd0 := blk_cell HX1 0 rfl
   have hd1 := blk_cell HX1 1 rfl
   have hd2 := blk_cell HX1 2 rfl
   have hd3 := blk_cell HX1 3 rfl
   have HO1 := Lib.hid (Own1.below HO.out BR)
   have HB1 := Lib.hid (below_step HB.out BR)
   have z1 := BR.size
   clear HX hc0 hc1 hc2 hc3 BR HO HN HX1 HB hlt
   go_wp2_with (at_builtin; refine app_one Ty.sg (W := W1) (w.heap.size + 1) rfl _ _ 22 32 _ 32 rfl Tryz.underlying22 infoSg rfl (by decide) u5 _ s _ _ rfl rfl rfl rfl HO1.out (by omega) HL.out ?_; intro v2 w4 HO2 hg1 hat1)
   have BZ := Lib.hid (show Below w.heap.size w w4 from below_own HB1.out hg1 (fun b e => by have := (OwnR.lt HO1.out b e).1; omega))
   have HO4 : Hid (Own1 Ty.sg 32 (w.heap.size + 1) w4 v2 (insTo l s k k)) := by rw [insTo_start]; exact Own1.of HO2
   have hz4 : w.heap.size + 1 ≤ w4.heap.size := by have := hg1.size; omega
   clear HO2 hat1 hg1 HO1 HB1
   go_wp2
   go_loopw [5, 6] (fun v i wr => ∃ m : Nat, k ≤ m ∧ m ≤ l.length ∧ i = .int .i64 m ∧ w.heap.size + 1 ≤ wr.heap.size ∧ Hid (Below w.heap.size w wr) ∧ Hid (Own1 Ty.sg 32 (w.heap.size + 1) wr v (insTo l s k m))) (fun _ i _ => l.length - (intOf i).toNat)
   case atStart => exact ⟨k, Nat.le_refl _, hk, rfl, hz4, BZ.out, HO4.out⟩
   case round =>
    obtain ⟨m, hkm, hm, rfl, hz5, HB5, HO5⟩ := hrel
    have hL2 : ((insTo l s k m).length + 1) * 32 ≤ 140737488355328 := by have := insTo_len l s k m; omega
    have HL2 := Lib.hid hL2
    clear hL2
    by_cases hlt2 : m < l.length
    ·have HR5 := Lib.hid (HR.out.below HB5.out)
     obtain ⟨ad2, e2, hq0, hq1, hq2, hq3⟩ := HR5.out.sg_at m hlt2
     cases e2
     obtain ⟨y, hy⟩ : ∃ y, y = sgD l m := ⟨_, rfl⟩
     have HT2 : Hid (insTo l s k (m + 1) = insTo l s k m ++ [y]) := by rw [hy]; exact insTo_snoc l s k m hkm hlt2
     rw [← hy] at hq0 hq1 hq2 hq3
     clear hy
     go_wp2_with (at_builtin; refine app_one Ty.sg (W := wr) (w.heap.size + 1) rfl _ _ 22 32 _ 32 rfl Tryz.underlying22 infoSg rfl (by decide) u5 _ y _ _ rfl rfl rfl rfl HO5.out (by omega) HL2.out ?_; intro v3 w6 HO6 hg6 hat6)
     have B6 := Lib.hid (show Below w.heap.size w w6 from below_own HB5.out hg6 (fun b e => by have := (OwnR.lt HO5.out b e).1; omega))
     have HO7 := Lib.hid (Own1.of HO6)
     have hz6 := hg6.size
     clear HO6 hg6 hat6 hq0 hq1 hq2 hq3
     go_wp2
     go_roundw
     case rel => exact ⟨m + 1, by omega, by omega, by go_num, by omega, B6.out, by rw [HT2.out]; exact HO7.out⟩
     case measure => simp [intOf]; omega
    ·obtain rfl : m = l.length := by omega
     have HF : Hid (insZ lessS s l = insTo l s k l.length) := HZ.out.trans (insTo_end l s k).symm
     go_wp2
     go_ret
     exact ⟨_, rfl, by rw [HF.out]; exact Own1.base HO5.out (Nat.le_succ _), HB5.out⟩
end
end Go.Proofs.YtlmjciajpjdilaaGreat
