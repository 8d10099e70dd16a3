/- The law SimplifyPoints holds: whatever the input, it answers true, and each argument reads afterwards as it read before. -/
import Derived.Test.YtaeflnbjeaoapaaGreatKPW
import Derived.Test.YtaeflnbjeaoapaaGreatKP21
import Derived.Test.YtaeflnbjeaoapaaGreatKP22
import Derived.Test.YtaeflnbjeaoapaaGreatKP14
import Derived.Test.YtaeflnbjeaoapaaGreatKP15
import Derived.Test.YtaeflnbjeaoapaaGreatKP1
import Derived.Deep.Slices
import Derived.Test.YtaeflnbjeaoapaaGreatProg
import Derived.Test.YtaeflnbjeaoapaaGreatRows
import Derived.WalkKit
import Derived.ProofKit
import Derived.OpenShut
import Derived.ShutString
import Derived.ChangeOld
import Derived.Below
import Derived.SizedLaws
import Derived.Lib.SmallJoins
namespace Go.Proofs.YtaeflnbjeaoapaaGreat
set_option linter.unusedVariables false
set_option linter.unusedSimpArgs false
section
open Go.RowKit Go.Proofs.YtaeflnbjeaoapaaGreatW.PrintLast

attribute [local go_sem high] eqPt eqSg
theorem c24_bad {m : Msh} {k : Nat} (hk : k < m.length) (h : edge24 m k = false) : check24 m = 6 := by
 unfold check24; rw [if_pos (List.any_eq_true.2 ⟨k, List.mem_range.2 hk, by rw [h]; rfl⟩)]
theorem c24_all {m : Msh} (h : ∀ j, j < m.length → edge24 m j = true) : (List.range m.length).any (fun i => !edge24 m i) = false := by
 rw [List.any_eq_false]; intro j hj; rw [h j (List.mem_range.1 hj)]; decide
theorem c24_dirty {m : Msh} (h : ∀ j, j < m.length → edge24 m j = true) (hc : cleanZ (segsM m) = false) : check24 m = 13 := by
 unfold check24; rw [c24_all h, if_neg (by decide)]; exact if_pos hc
theorem c24_form {m : Msh} (h : ∀ j, j < m.length → edge24 m j = true) (hc : cleanZ (segsM m) = true) : check24 m = if (build24 (sets24 m)).2 = 0 ∧ (build24 (sets24 m)).1 = m then 0 else 4 := by
 unfold check24; rw [c24_all h, if_neg (by decide)]
 exact if_neg (by show ¬ cleanZ (segsM m) = false; rw [hc]; decide)
def topI (l : List Int) : Nat := if l = [] then 0 else (inD l (l.length - 1) + 1).toNat
def setsN (m : Msh) (n j : Nat) : List Sgs := (List.range n).map fun i : Nat => if ((i : Nat) : Int) ∈ (areasR m).take j then boundsZ m (i : Int) else []
theorem setsN_zero (m : Msh) (n : Nat) : setsN m n 0 = List.replicate n [] := by
 unfold setsN
 apply List.ext_getElem
 ·simp
 ·intro j h1 h2; simp
theorem setsN_len (m : Msh) (n j : Nat) : (setsN m n j).length = n := by simp [setsN]
theorem setsN_end (m : Msh) : setsN m (topI (areasR m)) (areasR m).length = sets24 m := by
 unfold setsN sets24 topI
 rw [List.take_length]; rfl
theorem setsN_step (m : Msh) (n j x : Nat) (hj : j < (areasR m).length) (hx : inD (areasR m) j = (x : Int)) (hn : x < n) : (setsN m n j).set x (boundsZ m (x : Int)) = setsN m n (j + 1) := by
 apply List.ext_getElem
 ·simp [setsN]
 ·intro i h1 h2
  rw [setsN_len] at h2
  rw [List.getElem_set]
  have e1 : (areasR m).take (j + 1) = (areasR m).take j ++ [(x : Int)] := by rw [take_snoc (areasR m) j 0 hj, ← hx]; rfl
  simp only [setsN, List.getElem_map, List.getElem_range, e1, List.mem_append, List.mem_singleton]
  by_cases e : x = i
  ·subst e
   rw [if_pos rfl, if_pos (.inr rfl)]
  ·rw [if_neg e]
   have e3 : ¬ ((i : Nat) : Int) = (x : Int) := by omega
   by_cases hm : ((i : Nat) : Int) ∈ (areasR m).take j
   ·rw [if_pos hm, if_pos (.inl hm)]
   ·rw [if_neg hm, if_neg (fun h => h.elim hm e3)]
theorem area_bd {m : Msh} (h : ∀ e ∈ m, areasB e.2.1 = true ∧ areasB e.2.2 = true) (j : Nat) (hj : j < (areasR m).length) : ∃ x : Nat, inD (areasR m) j = (x : Int) ∧ x < topI (areasR m) ∧ topI (areasR m) ≤ 20000 := by
 have hn : areasR m ≠ [] := fun e => by rw [e] at hj; exact absurd hj (Nat.not_lt_zero _)
 have hm := last_max (areas_inc m) hn
 have hb : ∀ x ∈ areasR m, 0 ≤ x ∧ x < 20000 := fun x hx => by
  obtain ⟨e, he, hx⟩ := mem_allI.1 (mem_areas.1 hx)
  rcases hx with hx | hx
  ·exact (areasB_inc (h e he).1).2 x hx
  ·exact (areasB_inc (h e he).2).2 x hx
 have e1 : inD (areasR m) j = (areasR m)[j] := by simp [inD, hj]
 have hx : inD (areasR m) j ∈ areasR m := by rw [e1]; exact List.getElem_mem _
 have h1 := hb _ hx
 have h2 := hm.2 _ hx
 have h3 := hb _ hm.1
 refine ⟨(inD (areasR m) j).toNat, by omega, ?_, ?_⟩
 ·unfold topI; rw [if_neg hn]
  show _ < ((areasR m).getD ((areasR m).length - 1) 0 + 1).toNat
  omega
 ·unfold topI; rw [if_neg hn]
  show ((areasR m).getD ((areasR m).length - 1) 0 + 1).toNat ≤ _
  omega
theorem edge24_areas {m : Msh} (h : ∀ j, j < m.length → edge24 m j = true) : ∀ e ∈ m, areasB e.2.1 = true ∧ areasB e.2.2 = true := fun e he => by
 obtain ⟨i, hi, rfl⟩ := mesh_mem he
 exact (edge_facts (by rw [← edge_same]; exact h i hi)).2
set_option maxRecDepth 100000 in
set_option maxHeartbeats 16000000 in
theorem ref24_Check {ok : Nat → Prop} (m : Msh) (A : Option Addr) (n c : Nat) (w : World) (hr : Row Ty.edge ok w A m) (hn : n = m.length) (hf : fewM m = true) :
  Calls Tryz.prog 14 #[.slice A n c] w fun e w' => e = .returned (.int .i64 (checkM m)) ∧ Below w.heap.size w w' := by
 subst hn
 rw [← check24_same]
 have HR := Lib.hid hr
 have hmx := hr.len
 have hm40 := (few_all hf).1
 have HFW := Lib.hid hf
 clear hr hf
 go_enter Tryz.func14, Tryz.ntmps14
 go_wp2
 go_loopw [3, 4] (fun v i wr => ∃ k : Nat, k ≤ m.length ∧ i = .int .i64 k ∧ Hid (Below w.heap.size w wr) ∧ Hid (Own1 Ty.sg 48 w.heap.size wr v (segsM (m.take k))) ∧ Hid (∀ j, j < k → edge24 m j = true)) (fun _ i _ => m.length - (intOf i).toNat)
 case atStart => exact ⟨0, Nat.zero_le _, rfl, Below.refl _ _, OwnR.nil _ _ _ _ _, Lib.hid (fun j h => by omega)⟩
 case round =>
  obtain ⟨k, hk, rfl, HB, HO, HN⟩ := hrel
  have hszw := HB.out.size
  by_cases hlt : k < m.length
  ·have HRW := Lib.hid (HR.out.below HB.out)
   obtain ⟨ad, A1, c1, A2, c2, rfl, hx0, hx1, hx2, hx3, hx4, hx5, hc1, hr1, hc2, hr2⟩ := HRW.out.edge_at k hlt
   have HPV : Hid (wr.cell? (ad.add ((k - 1) * 6)) = some (.int .i64 (egD m (k - 1)).1.1.1) ∧ wr.cell? ⟨(ad.add ((k - 1) * 6)).block, (ad.add ((k - 1) * 6)).off + 1, none⟩ = some (.int .i64 (egD m (k - 1)).1.1.2) ∧ wr.cell? ⟨(ad.add ((k - 1) * 6)).block, (ad.add ((k - 1) * 6)).off + 2, none⟩ = some (.int .i64 (egD m (k - 1)).1.2.1) ∧ wr.cell? ⟨(ad.add ((k - 1) * 6)).block, (ad.add ((k - 1) * 6)).off + 3, none⟩ = some (.int .i64 (egD m (k - 1)).1.2.2)) := by
    obtain ⟨ad', _, _, _, _, e, y0, y1, y2, y3, _⟩ := HRW.out.edge_at (k - 1) (by omega)
    cases e
    exact ⟨y0, y1, y2, y3⟩
   have HBAD := Lib.hid (fun h => c24_bad hlt h)
   have HEB : Hid (edge24 m k = ((validB (egD m k).1.1 && (validB (egD m k).1.2 && (lessB (egD m k).1.1 (egD m k).1.2 && (areasB (egD m k).2.1 && areasB (egD m k).2.2)))) && (decide (k = 0) || !(lessB (egD m k).1.1 (egD m (k - 1)).1.1 || (decide ((egD m k).1.1 = (egD m (k - 1)).1.1) && !lessB (egD m (k - 1)).1.2 (egD m k).1.2))))) := rfl
   have HSS := Lib.hid (segs_snoc m k hlt)
   obtain ⟨hsl1, hsl2⟩ : (segsM (m.take k)).length ≤ k ∧ k ≤ (segsM (m.take k)).length := by rw [segs_len m k hk]; exact ⟨Nat.le_refl _, Nat.le_refl _⟩
   have HNX : Hid (edge24 m k = true → ∀ j, j < k + 1 → edge24 m j = true) := Lib.hid (fun h j hj => if e : j = k then by rw [e]; exact h else HN.out j (by omega))
   generalize (egD m (k - 1)).1 = pv at *
   generalize egD m k = e at *
   obtain ⟨⟨⟨a1, a2⟩, ⟨a3, a4⟩⟩, L, R⟩ := e
   obtain ⟨⟨p1, p2⟩, ⟨p3, p4⟩⟩ := pv
   simp only at hx0 hx1 hx2 hx3 hx4 hx5 hc1 hr1 hc2 hr2 HEB HSS HPV
   generalize edge24 m k = eb at *
   generalize segsM (m.take k) = al at *
   obtain ⟨W0, hW0⟩ : ∃ W0, W0 = wr.alloc (.cells #[.int .i64 a1, .int .i64 a2, .int .i64 a3, .int .i64 a4, .slice A1 L.length c1, .slice A2 R.length c2] 31) := ⟨_, rfl⟩
   have B0 := Lib.hid (show Below wr.heap.size wr W0 from by rw [hW0]; exact bq)
   have HE0 : Hid (W0.heap[wr.heap.size]? = some (.cells #[.int .i64 a1, .int .i64 a2, .int .i64 a3, .int .i64 a4, .slice A1 L.length c1, .slice A2 R.length c2] 31 (0, 0))) := Lib.hid (by rw [hW0]; exact heap_alloc_new _ _)
   have CRA := Lib.hid (fun W (h : Below wr.heap.size wr W) => ref24_rising L A1 L.length c1 W (hr1.below h) rfl)
   have CRB := Lib.hid (fun W (h : Below wr.heap.size wr W) => ref24_rising R A2 R.length c2 W (hr2.below h) rfl)
   have CVA := Lib.hid (fun W => ref08_Valid a1 a2 W)
   have CVB := Lib.hid (fun W => ref08_Valid a3 a4 W)
   have CLS := Lib.hid (fun W => ref08_Less a1 a2 a3 a4 W)
   have CPA := Lib.hid (fun W => ref08_Less a1 a2 p1 p2 W)
   have CPB := Lib.hid (fun W => ref08_Less p3 p4 a3 a4 W)
   generalize validB (a1, a2) = vA at *
   generalize validB (a3, a4) = vB at *
   generalize lessB (a1, a2) (a3, a4) = vL at *
   generalize areasB L = rA at *
   generalize areasB R = rB at *
   generalize lessB (a1, a2) (p1, p2) = pA at *
   generalize lessB (p3, p4) (a3, a4) = pB at *
   go_wp2_with fail
   rw [← hW0]
   clear hW0 hx0 hx1 hx2 hx3 hx4 hx5 hr1 hr2 hc1 hc2 HN
   have t0 := blk_cell HE0.out 0 rfl
   have t1 := blk_cell HE0.out 1 rfl
   have t2 := blk_cell HE0.out 2 rfl
   have t3 := blk_cell HE0.out 3 rfl
   have t4 := blk_cell HE0.out 4 rfl
   have t5 := blk_cell HE0.out 5 rfl
   refine (CVA.out _).mono ?_
   rintro e w1 ⟨rfl, hb1⟩
   have HE1 := Lib.hid (blk_below HE0.out hb1)
   have B1 := Lib.hid (below_step B0.out hb1)
   clear hb1 t0 t1 t2 t3 t4 t5
   cases vA
   ·have HF := Lib.hid (HBAD.out (by rw [HEB.out]; simp))
    have BF := Lib.hid (below_step HB.out B1.out)
    go_wp2
    go_ret
    exact ⟨ret_int HF.out.symm, BF.out⟩
   have t0 := blk_cell HE1.out 0 rfl
   have t1 := blk_cell HE1.out 1 rfl
   have t2 := blk_cell HE1.out 2 rfl
   have t3 := blk_cell HE1.out 3 rfl
   have t4 := blk_cell HE1.out 4 rfl
   have t5 := blk_cell HE1.out 5 rfl
   go_wp2_with fail
   refine (CVB.out _).mono ?_
   rintro e w2 ⟨rfl, hb2⟩
   have HE2 := Lib.hid (blk_below HE1.out hb2)
   have B2 := Lib.hid (below_step B1.out hb2)
   clear hb2 t0 t1 t2 t3 t4 t5
   cases vB
   ·have HF := Lib.hid (HBAD.out (by rw [HEB.out]; simp))
    have BF := Lib.hid (below_step HB.out B2.out)
    go_wp2
    go_ret
    exact ⟨ret_int HF.out.symm, BF.out⟩
   have t0 := blk_cell HE2.out 0 rfl
   have t1 := blk_cell HE2.out 1 rfl
   have t2 := blk_cell HE2.out 2 rfl
   have t3 := blk_cell HE2.out 3 rfl
   have t4 := blk_cell HE2.out 4 rfl
   have t5 := blk_cell HE2.out 5 rfl
   go_wp2_with fail
   refine (CLS.out _).mono ?_
   rintro e w3 ⟨rfl, hb3⟩
   have HE3 := Lib.hid (blk_below HE2.out hb3)
   have B3 := Lib.hid (below_step B2.out hb3)
   clear hb3 t0 t1 t2 t3 t4 t5
   cases vL
   ·have HF := Lib.hid (HBAD.out (by rw [HEB.out]; simp))
    have BF := Lib.hid (below_step HB.out B3.out)
    go_wp2
    go_ret
    exact ⟨ret_int HF.out.symm, BF.out⟩
   have t0 := blk_cell HE3.out 0 rfl
   have t1 := blk_cell HE3.out 1 rfl
   have t2 := blk_cell HE3.out 2 rfl
   have t3 := blk_cell HE3.out 3 rfl
   have t4 := blk_cell HE3.out 4 rfl
   have t5 := blk_cell HE3.out 5 rfl
   go_wp2_with fail
   refine (CRA.out _ B3.out).mono ?_
   rintro e w4 ⟨rfl, hb4⟩
   have HE4 := Lib.hid (blk_below HE3.out hb4)
   have B4 := Lib.hid (below_step B3.out hb4)
   clear hb4 t0 t1 t2 t3 t4 t5
   cases rA
   ·have HF := Lib.hid (HBAD.out (by rw [HEB.out]; simp))
    have BF := Lib.hid (below_step HB.out B4.out)
    go_wp2
    go_ret
    exact ⟨ret_int HF.out.symm, BF.out⟩
   have t0 := blk_cell HE4.out 0 rfl
   have t1 := blk_cell HE4.out 1 rfl
   have t2 := blk_cell HE4.out 2 rfl
   have t3 := blk_cell HE4.out 3 rfl
   have t4 := blk_cell HE4.out 4 rfl
   have t5 := blk_cell HE4.out 5 rfl
   go_wp2_with fail
   refine (CRB.out _ B4.out).mono ?_
   rintro e w5 ⟨rfl, hb5⟩
   have HE5 := Lib.hid (blk_below HE4.out hb5)
   have B5 := Lib.hid (below_step B4.out hb5)
   clear hb5 t0 t1 t2 t3 t4 t5
   cases rB
   ·have HF := Lib.hid (HBAD.out (by rw [HEB.out]; simp))
    have BF := Lib.hid (below_step HB.out B5.out)
    go_wp2
    go_ret
    exact ⟨ret_int HF.out.symm, BF.out⟩
   have t0 := blk_cell HE5.out 0 rfl
   have t1 := blk_cell HE5.out 1 rfl
   have t2 := blk_cell HE5.out 2 rfl
   have t3 := blk_cell HE5.out 3 rfl
   have t4 := blk_cell HE5.out 4 rfl
   have t5 := blk_cell HE5.out 5 rfl
   clear CRA CRB CVA CVB CLS t4 t5 HE0 HE1 HE2 HE3 HE4 B0 B1 B2 B3 B4
   simp only [Bool.true_and] at HEB
   by_cases hk0 : k = 0
   ·have q3 : decide ((0 : Int) < (k : Int)) = false := decide_eq_false (by omega)
    have q3' : decide (0 < k) = false := decide_eq_false (by omega)
    have hk1 : ¬ 0 < k := by omega
    have HG : eb = true := by rw [HEB.out, decide_eq_true hk0]; rfl
    have HGH := Lib.hid HG
    clear hk0 HG HEB HBAD CPA CPB HPV
    go_wp2_with fail
    go_quiet (fail)
    obtain ⟨W9, hW9⟩ : ∃ W9, W9 = w5.drewN nq := ⟨_, rfl⟩
    have HE9 : Hid (W9.heap[wr.heap.size]? = some (.cells #[.int .i64 a1, .int .i64 a2, .int .i64 a3, .int .i64 a4, .slice A1 L.length c1, .slice A2 R.length c2] 31 (0, 0))) := Lib.hid (by rw [hW9]; exact blk_below HE5.out (below_drewN (Below.refl _ _) _))
    have B9 : Hid (Below wr.heap.size wr W9) := Lib.hid (by rw [hW9]; exact below_drewN B5.out _)
    rw [← hW9]
    clear hW9 t0 t1 t2 t3 HE5 B5
    have HG := HGH.out
    have HOz := Lib.hid (Own1.below HO.out B9.out)
    have HBz := Lib.hid (below_step HB.out B9.out)
    have hzz := HBz.out.size
    have t0 := blk_cell (HE9.out) 0 rfl
    have t1 := blk_cell (HE9.out) 1 rfl
    have t2 := blk_cell (HE9.out) 2 rfl
    have t3 := blk_cell (HE9.out) 3 rfl
    go_wp2_with (at_builtin; refine app_one Ty.sg (W := W9) w.heap.size rfl _ _ 46 48 _ 32 rfl Tryz.underlying46 infoSg rfl (by decide) u3 al ((a1, a2), (a3, a4)) [.int .i64 a1, .int .i64 a2, .int .i64 a3, .int .i64 a4] _ rfl rfl rfl rfl HOz.out hzz (by omega) ?_; intro v11 w11 HO1 hg1 hat1)
    have HO11 := Lib.hid (Own1.of HO1)
    have B11 := Lib.hid (below_own HBz.out hg1 (fun b e => (OwnR.lt HOz.out b e).1))
    clear HO1 hg1 hat1 HOz HBz t0 t1 t2 t3
    go_wp2
    go_roundw
    case rel => exact ⟨k + 1, by omega, by go_num, B11.out, Lib.hid (by rw [HSS.out]; exact HO11.out), Lib.hid (HNX.out HG)⟩
    case measure => simp [intOf]; omega
   ·have hkp : 0 < k := by omega
    obtain ⟨y0, y1, y2, y3⟩ := HPV.out
    have y0 := cell_below B5.out y0
    have y1 := cell_below B5.out y1
    have y2 := cell_below B5.out y2
    have y3 := cell_below B5.out y3
    have q3 : decide ((0 : Int) < (k : Int)) = true := decide_eq_true (by omega)
    have q3' : decide (0 < k) = true := decide_eq_true hkp
    have hw : IntKind.i64.wrap ((k : Int) - 1) = (k : Int) - 1 := IntWalk.i64_in _ (by omega)
    have hb1 : (0 : Int) ≤ (k : Int) - 1 := by omega
    have hb2 : (k : Int) - 1 < (m.length : Int) := by omega
    have hk3 : (k : Int) < (m.length : Int) := by omega
    have hk4 : ((k : Int) - 1).toNat = k - 1 := by omega
    have hk5 : (1 : Int) ≤ (k : Int) := by omega
    have hk6 : 1 ≤ k := by omega
    rw [decide_eq_false hk0, Bool.false_or] at HEB
    clear hk0 HPV
    cases pA
    ·by_cases heq : ((a1, a2) : Pt) = (p1, p2)
     ·cases heq
      have qe : (decide (a1 = a1) && decide (a2 = a2)) = true := by simp
      rw [decide_eq_true rfl] at HEB
      go_wp2_with fail
      refine start_ (n := 36) (S := fun w' => w'.cell? ⟨wr.heap.size, 0, none⟩ = some (.int .i64 a1) ∧ w'.cell? ⟨wr.heap.size, 1, none⟩ = some (.int .i64 a2) ∧ w'.cell? ⟨wr.heap.size, 2, none⟩ = some (.int .i64 a3) ∧ w'.cell? ⟨wr.heap.size, 3, none⟩ = some (.int .i64 a4) ∧ w'.cell? (ad.add ((k - 1) * 6)) = some (.int .i64 a1) ∧ w'.cell? ⟨(ad.add ((k - 1) * 6)).block, (ad.add ((k - 1) * 6)).off + 1, none⟩ = some (.int .i64 a2) ∧ w'.cell? ⟨(ad.add ((k - 1) * 6)).block, (ad.add ((k - 1) * 6)).off + 2, none⟩ = some (.int .i64 p3) ∧ w'.cell? ⟨(ad.add ((k - 1) * 6)).block, (ad.add ((k - 1) * 6)).off + 3, none⟩ = some (.int .i64 p4) ∧ w'.cell? ⟨(ad.add ((k - 1) * 6)).block, (ad.add ((k - 1) * 6)).off + 2 + 1, none⟩ = some (.int .i64 p4)) (ds := []) #[Z,Z,Z,Z,Z,Z,Z,Z,Z,Z,Z,Z,Z,Z,Z,Z,Z,Z,Z,Z,Z,Z,Z,Z,Z,Z,Z,Z,Z,Z,Z,Z,Z,Z,Z,Z] (by kernel_rfl) rfl rfl ⟨t0, t1, t2, t3, y0, y1, y2, y3, y3⟩ (fun hHeld => ?_)
      refine pu 0 52 ?_
      refine pu 1 53 ?_
      refine pu 2 54 ?_
      refine pu 3 55 ?_
      refine pu 5 57 ?_
      refine pu 6 58 ?_
      refine pu 7 59 ?_
      refine pu 8 60 ?_
      refine pu 9 61 ?_
      refine ta 4 56 hHeld ?_
      refine ta 10 62 hHeld ?_
      refine one_ (i := 11) (N := some 63) #[J,J,J,J,J,J,J,J,J,J,J,J,Z,Z,Z,Z,Z,Z,Z,Z,Z,Z,Z,Z,Z,Z,Z,Z,Z,Z,Z,Z,Z,Z,Z,Z] rfl rfl (by kernel_rfl) (by decide) (fun K hK => ?_)
      refine goes_ Tryz.func31 (by kernel_rfl) rfl #[.agg #[.int .i64 a1, .int .i64 a2], .agg #[.int .i64 a1, .int .i64 a2]] (by rfl) rfl rfl (by simp only [List.map_toArray, List.map_cons, List.map_nil]; rfl) ?_
      with_reducible refine (CPA.out _).mono ?_
      rintro e v6 ⟨rfl, h6⟩
      refine ⟨_, rfl, ?_⟩
      refine hK.out _ _ ⟨(cell_below h6 t0), (cell_below h6 t1), (cell_below h6 t2), (cell_below h6 t3), (cell_below h6 y0), (cell_below h6 y1), (cell_below h6 y2), (cell_below h6 y3), (cell_below h6 y3)⟩ (fun hHeld => ?_)
      clear hK K
      refine nm 63 ?_
      refine pu 12 64 ?_
      refine pu 13 65 ?_
      refine pu 15 67 ?_
      refine pu 16 68 ?_
      refine pu 17 69 ?_
      refine pu 18 70 ?_
      refine pu 19 71 ?_
      refine ta 14 66 hHeld ?_
      refine ta 20 72 hHeld ?_
      refine pu 21 73 ?_
      refine pu 22 74 ?_
      refine pu 23 75 ?_
      refine pu 24 76 ?_
      refine pu 25 77 ?_
      refine pu 26 78 ?_
      refine pu 27 79 ?_
      refine pu 29 81 ?_
      refine ta 28 80 hHeld ?_
      refine ta 30 82 hHeld ?_
      refine one_ (i := 31) (N := some 83) #[J,J,J,J,J,J,J,J,J,J,J,J,J,J,J,J,J,J,J,J,J,J,J,J,J,J,J,J,J,J,J,J,Z,Z,Z,Z] rfl rfl (by kernel_rfl) (by decide) (fun K hK => ?_)
      refine goes_ Tryz.func31 (by kernel_rfl) rfl #[.agg #[.int .i64 p3, .int .i64 p4], .agg #[.int .i64 a3, .int .i64 a4]] (by rfl) rfl rfl (by simp only [List.map_toArray, List.map_cons, List.map_nil]; rfl) ?_
      with_reducible refine (CPB.out _).mono ?_
      rintro e v7 ⟨rfl, h7⟩
      refine ⟨_, rfl, ?_⟩
      refine hK.out _ _ ⟨(cell_below h7 (cell_below h6 t0)), (cell_below h7 (cell_below h6 t1)), (cell_below h7 (cell_below h6 t2)), (cell_below h7 (cell_below h6 t3)), (cell_below h7 (cell_below h6 y0)), (cell_below h7 (cell_below h6 y1)), (cell_below h7 (cell_below h6 y2)), (cell_below h7 (cell_below h6 y3)), (cell_below h7 (cell_below h6 y3))⟩ (fun hHeld => ?_)
      clear hK K
      refine nm 83 ?_
      refine pu 32 84 ?_
      refine pu 33 85 ?_
      refine pu 34 86 ?_
      refine pu 35 87 ?_
      refine done_ (by kernel_rfl) ?_
      have B7 := Lib.hid (below_step (below_step (below_drew B5.out) h6) h7)
      have HE7 := Lib.hid (blk_below (blk_below (blk_below HE5.out (below_drew (Below.refl _ _))) h6) h7)
      clear h6 h7 hHeld t0 t1 t2 t3 y0 y1 y2 y3 HE5 B5 CPA CPB
      cases pB
      ·have HF := Lib.hid (HBAD.out (by rw [HEB.out]; rfl))
       have BF := Lib.hid (below_step HB.out B7.out)
       go_wp2
       go_ret
       exact ⟨ret_int HF.out.symm, BF.out⟩
      ·have HG : eb = true := by rw [HEB.out]; rfl
       clear HEB HBAD
       have HOz := Lib.hid (Own1.below HO.out B7.out)
       have HBz := Lib.hid (below_step HB.out B7.out)
       have hzz := HBz.out.size
       have t0 := blk_cell (HE7.out) 0 rfl
       have t1 := blk_cell (HE7.out) 1 rfl
       have t2 := blk_cell (HE7.out) 2 rfl
       have t3 := blk_cell (HE7.out) 3 rfl
       go_wp2_with (at_builtin; refine app_one Ty.sg (W := v7) w.heap.size rfl _ _ 46 48 _ 32 rfl Tryz.underlying46 infoSg rfl (by decide) u3 al ((a1, a2), (a3, a4)) [.int .i64 a1, .int .i64 a2, .int .i64 a3, .int .i64 a4] _ rfl rfl rfl rfl HOz.out hzz (by omega) ?_; intro v11 w11 HO1 hg1 hat1)
       have HO11 := Lib.hid (Own1.of HO1)
       have B11 := Lib.hid (below_own HBz.out hg1 (fun b e => (OwnR.lt HOz.out b e).1))
       clear HO1 hg1 hat1 HOz HBz t0 t1 t2 t3
       go_wp2
       go_roundw
       case rel => exact ⟨k + 1, by omega, by go_num, B11.out, Lib.hid (by rw [HSS.out]; exact HO11.out), Lib.hid (HNX.out HG)⟩
       case measure => simp [intOf]; omega
     ·have qe : (decide (a1 = p1) && decide (a2 = p2)) = false := by simpa using heq
      rw [decide_eq_false heq] at HEB
      have HG : eb = true := by rw [HEB.out]; rfl
      have HGH := Lib.hid HG
      clear heq HG HEB HBAD
      go_wp2_with fail
      refine start_ (n := 36) (S := fun w' => w'.cell? ⟨wr.heap.size, 0, none⟩ = some (.int .i64 a1) ∧ w'.cell? ⟨wr.heap.size, 1, none⟩ = some (.int .i64 a2) ∧ w'.cell? ⟨wr.heap.size, 2, none⟩ = some (.int .i64 a3) ∧ w'.cell? ⟨wr.heap.size, 3, none⟩ = some (.int .i64 a4) ∧ w'.cell? (ad.add ((k - 1) * 6)) = some (.int .i64 p1) ∧ w'.cell? ⟨(ad.add ((k - 1) * 6)).block, (ad.add ((k - 1) * 6)).off + 1, none⟩ = some (.int .i64 p2) ∧ w'.cell? ⟨(ad.add ((k - 1) * 6)).block, (ad.add ((k - 1) * 6)).off + 2, none⟩ = some (.int .i64 p3) ∧ w'.cell? ⟨(ad.add ((k - 1) * 6)).block, (ad.add ((k - 1) * 6)).off + 3, none⟩ = some (.int .i64 p4) ∧ w'.cell? ⟨(ad.add ((k - 1) * 6)).block, (ad.add ((k - 1) * 6)).off + 2 + 1, none⟩ = some (.int .i64 p4)) (ds := []) #[Z,Z,Z,Z,Z,Z,Z,Z,Z,Z,Z,Z,Z,Z,Z,Z,Z,Z,Z,Z,Z,Z,Z,Z,Z,Z,Z,Z,Z,Z,Z,Z,Z,Z,Z,Z] (by kernel_rfl) rfl rfl ⟨t0, t1, t2, t3, y0, y1, y2, y3, y3⟩ (fun hHeld => ?_)
      refine pu 0 52 ?_
      refine pu 1 53 ?_
      refine pu 2 54 ?_
      refine pu 3 55 ?_
      refine pu 5 57 ?_
      refine pu 6 58 ?_
      refine pu 7 59 ?_
      refine pu 8 60 ?_
      refine pu 9 61 ?_
      refine ta 4 56 hHeld ?_
      refine ta 10 62 hHeld ?_
      refine one_ (i := 11) (N := some 63) #[J,J,J,J,J,J,J,J,J,J,J,J,Z,Z,Z,Z,Z,Z,Z,Z,Z,Z,Z,Z,Z,Z,Z,Z,Z,Z,Z,Z,Z,Z,Z,Z] rfl rfl (by kernel_rfl) (by decide) (fun K hK => ?_)
      refine goes_ Tryz.func31 (by kernel_rfl) rfl #[.agg #[.int .i64 a1, .int .i64 a2], .agg #[.int .i64 p1, .int .i64 p2]] (by rfl) rfl rfl (by simp only [List.map_toArray, List.map_cons, List.map_nil]; rfl) ?_
      with_reducible refine (CPA.out _).mono ?_
      rintro e v6 ⟨rfl, h6⟩
      refine ⟨_, rfl, ?_⟩
      refine hK.out _ _ ⟨(cell_below h6 t0), (cell_below h6 t1), (cell_below h6 t2), (cell_below h6 t3), (cell_below h6 y0), (cell_below h6 y1), (cell_below h6 y2), (cell_below h6 y3), (cell_below h6 y3)⟩ (fun hHeld => ?_)
      clear hK K
      refine nm 63 ?_
      refine pu 12 64 ?_
      refine pu 13 65 ?_
      refine pu 15 67 ?_
      refine pu 16 68 ?_
      refine pu 17 69 ?_
      refine pu 18 70 ?_
      refine pu 19 71 ?_
      refine ta 14 66 hHeld ?_
      refine ta 20 72 hHeld ?_
      refine pu 21 73 ?_
      refine pu 22 74 ?_
      refine pn 23 75 ?_
      refine pn 24 76 ?_
      refine pn 25 77 ?_
      refine pn 26 78 ?_
      refine pn 27 79 ?_
      refine pn 28 80 ?_
      refine pn 29 81 ?_
      refine pn 30 82 ?_
      refine pn 31 83 ?_
      refine pn 32 84 ?_
      refine pu 33 85 ?_
      refine pu 34 86 ?_
      refine pu 35 87 ?_
      refine done_ (by kernel_rfl) ?_
      have B7 := Lib.hid (below_step (below_drew B5.out) h6)
      have HE7 := Lib.hid (blk_below (blk_below HE5.out (below_drew (Below.refl _ _))) h6)
      clear h6 hHeld t0 t1 t2 t3 y0 y1 y2 y3 HE5 B5 CPA CPB
      have HG := HGH.out
      have HOz := Lib.hid (Own1.below HO.out B7.out)
      have HBz := Lib.hid (below_step HB.out B7.out)
      have hzz := HBz.out.size
      have t0 := blk_cell (HE7.out) 0 rfl
      have t1 := blk_cell (HE7.out) 1 rfl
      have t2 := blk_cell (HE7.out) 2 rfl
      have t3 := blk_cell (HE7.out) 3 rfl
      go_wp2_with (at_builtin; refine app_one Ty.sg (W := v6) w.heap.size rfl _ _ 46 48 _ 32 rfl Tryz.underlying46 infoSg rfl (by decide) u3 al ((a1, a2), (a3, a4)) [.int .i64 a1, .int .i64 a2, .int .i64 a3, .int .i64 a4] _ rfl rfl rfl rfl HOz.out hzz (by omega) ?_; intro v11 w11 HO1 hg1 hat1)
      have HO11 := Lib.hid (Own1.of HO1)
      have B11 := Lib.hid (below_own HBz.out hg1 (fun b e => (OwnR.lt HOz.out b e).1))
      clear HO1 hg1 hat1 HOz HBz t0 t1 t2 t3
      go_wp2
      go_roundw
      case rel => exact ⟨k + 1, by omega, by go_num, B11.out, Lib.hid (by rw [HSS.out]; exact HO11.out), Lib.hid (HNX.out HG)⟩
      case measure => simp [intOf]; omega
    ·have HF := Lib.hid (HBAD.out (by rw [HEB.out]; rfl))
     clear HEB HBAD
     go_wp2_with fail
     refine start_ (n := 36) (S := fun w' => w'.cell? ⟨wr.heap.size, 0, none⟩ = some (.int .i64 a1) ∧ w'.cell? ⟨wr.heap.size, 1, none⟩ = some (.int .i64 a2) ∧ w'.cell? ⟨wr.heap.size, 2, none⟩ = some (.int .i64 a3) ∧ w'.cell? ⟨wr.heap.size, 3, none⟩ = some (.int .i64 a4) ∧ w'.cell? (ad.add ((k - 1) * 6)) = some (.int .i64 p1) ∧ w'.cell? ⟨(ad.add ((k - 1) * 6)).block, (ad.add ((k - 1) * 6)).off + 1, none⟩ = some (.int .i64 p2) ∧ w'.cell? ⟨(ad.add ((k - 1) * 6)).block, (ad.add ((k - 1) * 6)).off + 2, none⟩ = some (.int .i64 p3) ∧ w'.cell? ⟨(ad.add ((k - 1) * 6)).block, (ad.add ((k - 1) * 6)).off + 3, none⟩ = some (.int .i64 p4) ∧ w'.cell? ⟨(ad.add ((k - 1) * 6)).block, (ad.add ((k - 1) * 6)).off + 2 + 1, none⟩ = some (.int .i64 p4)) (ds := []) #[Z,Z,Z,Z,Z,Z,Z,Z,Z,Z,Z,Z,Z,Z,Z,Z,Z,Z,Z,Z,Z,Z,Z,Z,Z,Z,Z,Z,Z,Z,Z,Z,Z,Z,Z,Z] (by kernel_rfl) rfl rfl ⟨t0, t1, t2, t3, y0, y1, y2, y3, y3⟩ (fun hHeld => ?_)
     refine pu 0 52 ?_
     refine pu 1 53 ?_
     refine pu 2 54 ?_
     refine pu 3 55 ?_
     refine pu 5 57 ?_
     refine pu 6 58 ?_
     refine pu 7 59 ?_
     refine pu 8 60 ?_
     refine pu 9 61 ?_
     refine ta 4 56 hHeld ?_
     refine ta 10 62 hHeld ?_
     refine one_ (i := 11) (N := some 63) #[J,J,J,J,J,J,J,J,J,J,J,J,Z,Z,Z,Z,Z,Z,Z,Z,Z,Z,Z,Z,Z,Z,Z,Z,Z,Z,Z,Z,Z,Z,Z,Z] rfl rfl (by kernel_rfl) (by decide) (fun K hK => ?_)
     refine goes_ Tryz.func31 (by kernel_rfl) rfl #[.agg #[.int .i64 a1, .int .i64 a2], .agg #[.int .i64 p1, .int .i64 p2]] (by rfl) rfl rfl (by simp only [List.map_toArray, List.map_cons, List.map_nil]; rfl) ?_
     with_reducible refine (CPA.out _).mono ?_
     rintro e v6 ⟨rfl, h6⟩
     refine ⟨_, rfl, ?_⟩
     refine hK.out _ _ ⟨(cell_below h6 t0), (cell_below h6 t1), (cell_below h6 t2), (cell_below h6 t3), (cell_below h6 y0), (cell_below h6 y1), (cell_below h6 y2), (cell_below h6 y3), (cell_below h6 y3)⟩ (fun hHeld => ?_)
     clear hK K
     refine nm 63 ?_
     refine pu 12 64 ?_
     refine pn 13 65 ?_
     refine pn 14 66 ?_
     refine pn 15 67 ?_
     refine pn 16 68 ?_
     refine pn 17 69 ?_
     refine pn 18 70 ?_
     refine pn 19 71 ?_
     refine pn 20 72 ?_
     refine pn 21 73 ?_
     refine pn 22 74 ?_
     refine pn 23 75 ?_
     refine pn 24 76 ?_
     refine pn 25 77 ?_
     refine pn 26 78 ?_
     refine pn 27 79 ?_
     refine pn 28 80 ?_
     refine pn 29 81 ?_
     refine pn 30 82 ?_
     refine pn 31 83 ?_
     refine pn 32 84 ?_
     refine pn 33 85 ?_
     refine pu 34 86 ?_
     refine pu 35 87 ?_
     refine done_ (by kernel_rfl) ?_
     have BF := Lib.hid (below_step (below_step HB.out (below_drew B5.out)) h6)
     clear h6 hHeld t0 t1 t2 t3 y0 y1 y2 y3 HE5 B5 CPA CPB
     go_wp2
     go_ret
     exact ⟨ret_int HF.out.symm, BF.out⟩
  ·obtain rfl : k = m.length := by omega
   have HE := HN.out
   have HO : Hid (Own1 Ty.sg 48 w.heap.size wr _ (segsM m)) := Lib.hid (by have := HO.out; rwa [List.take_length] at this)
   obtain ⟨Aa, ca, rfl, hca, har⟩ := Own1.reads HO.out
   have hsl : (segsM m).length ≤ 40 := by unfold segsM; rw [List.length_map]; exact hm40
   have CC := Lib.hid (ref20_Clean (segsM m) Aa _ ca wr har rfl (by omega))
   rw [clean_same] at CC
   have HDY := Lib.hid (c24_dirty HE)
   have HFM := Lib.hid (c24_form HE)
   have HAB := edge24_areas HE
   have hE : ∀ i, i < m.length → edgeB m i = true := fun i hi => by rw [← edge_same]; exact HE i hi
   have HS24 := Lib.hid (sets_same HAB)
   have HOA := Lib.hid (own_all HFW.out)
   have HOL := Lib.hid (own_len HFW.out)
   have HNL := Lib.hid (own_node HFW.out hE)
   have HO6 : Hid (∀ o ∈ ownZ m, o.length ≤ 600) := Lib.hid (fun o ho => by obtain ⟨a, rfl⟩ := own_mem ho; have := bounds_len m a; omega)
   have HBD := Lib.hid (area_bd HAB)
   have HFE : Hid (∀ e ∈ m, e.2.1.length ≤ 1000 ∧ e.2.2.length ≤ 1000) := Lib.hid (fun e he => by
    have := (few_all HFW.out).2 e he
    unfold fewE at this
    simp only [Bool.and_eq_true, decide_eq_true_eq] at this
    omega)
   clear har HO HN hk hlt hE HAB HE
   cases hcl : cleanZ (segsM m)
   ·have HF := Lib.hid (HDY.out hcl)
    rw [hcl] at CC
    clear HDY HFM HNL hcl
    go_wp2_with fail
    refine CC.out.mono ?_
    rintro e w2 ⟨rfl, hb2⟩
    have B2 := Lib.hid (below_step HB.out hb2)
    clear hb2 HB CC
    go_wp2
    go_ret
    exact ⟨ret_int HF.out.symm, B2.out⟩
   ·have HF := Lib.hid (HFM.out hcl)
    have HNL := Lib.hid (HNL.out hcl)
    rw [hcl] at CC
    clear HDY HFM hcl
    go_wp2_with fail
    refine CC.out.mono ?_
    rintro e w2 ⟨rfl, hb2⟩
    have B2 := Lib.hid (below_step HB.out hb2)
    have HR2 := Lib.hid (HR.out.below B2.out)
    clear hb2 HB CC
    go_wp2_with fail
    refine (ref24_Areas m A _ c w2 HR2.out rfl (by omega) HFE.out).mono ?_
    rintro e w3 ⟨vl, rfl, HL, hb3⟩
    obtain ⟨Al, cl, rfl, _, hlr⟩ := Own1.reads HL
    have HLR := Lib.hid hlr
    have B3 := Lib.hid (below_step B2.out hb3)
    have HR3 := Lib.hid (HR2.out.below hb3)
    have hll := hlr.len
    clear hb3 HL hlr HR2
    by_cases hn0 : 0 < (areasR m).length
    ·obtain ⟨xl, hxl, hxn, hN⟩ := HBD.out ((areasR m).length - 1) (by omega)
     have htop : topI (areasR m) = xl + 1 := by
      unfold topI
      rw [if_neg (fun e => by rw [e] at hn0; exact absurd hn0 (Nat.lt_irrefl _)), hxl]
      omega
     have HBD : Hid (∀ j, j < (areasR m).length → ∃ x : Nat, inD (areasR m) j = (x : Int) ∧ x < xl + 1) := Lib.hid (fun j hj => by obtain ⟨x, h1, h2, _⟩ := HBD.out j hj; exact ⟨x, h1, by omega⟩)
     have HSN : Hid (topI (areasR m) = xl + 1) := Lib.hid htop
     obtain ⟨az0, e, hv0⟩ := HLR.out.int_at ((areasR m).length - 1) (by omega)
     cases e
     rw [hxl] at hv0
     have hwa : IntKind.i64.wrap (((areasR m).length : Int) - 1) = ((areasR m).length : Int) - 1 := IntWalk.i64_in _ (by omega)
     have hwb : IntKind.i64.wrap ((xl : Int) + 1) = (xl : Int) + 1 := IntWalk.i64_in _ (by omega)
     have ht1 : (1 : Int) ≤ ((areasR m).length : Int) := by omega
     have ht2 : (((areasR m).length : Int) - 1).toNat = (areasR m).length - 1 := by omega
     have ht3 : ((areasR m).length : Int) - 1 < ((areasR m).length : Int) := by omega
     have ht4 : (0 : Int) ≤ ((areasR m).length : Int) - 1 := by omega
     have q1 : decide (((areasR m).length : Int) > 0) = true := decide_eq_true (by omega)
     have q2 : decide (0 < ((areasR m).length : Int)) = true := decide_eq_true (by omega)
     have hxb : xl ≤ 20000 := by omega
     clear hxl hxn htop
     obtain ⟨w4, hmk0, HO4, hb4, hs4⟩ := made_segs w3 (xl + 1) (by omega)
     have hmk : (Instr.makeSlice 55 (.int .i64 ((xl : Int) + 1)) (.int .i64 ((xl : Int) + 1))).run Tryz.prog w3 = .ok (.slice (some ⟨w3.heap.size, 0, none⟩) (xl + 1) (xl + 1)) w4 := hmk0
     have HO4 := Lib.hid HO4
     clear hmk0
     go_wp2
     go_loopw [9] (fun i wr => ∃ j : Nat, j ≤ (areasR m).length ∧ i = .int .i64 j ∧ Hid (Below w3.heap.size w3 wr) ∧ Hid (OwnR Ty.segs 46 w3.heap.size (fun b => b = w3.heap.size) wr (.slice (some ⟨w3.heap.size, 0, none⟩) (xl + 1) (xl + 1)) (setsN m (xl + 1) j))) (fun i _ => (areasR m).length - (intOf i).toNat)
     case atStart => exact ⟨0, Nat.zero_le _, rfl, hb4, Lib.hid (by rw [setsN_zero]; exact HO4.out)⟩
     case round =>
      obtain ⟨j, hj, rfl, HBr, HOw⟩ := hrel
      clear HO4 hb4 hmk hs4
      have hzr := HBr.out.size
      by_cases hjl : j < (areasR m).length
      ·obtain ⟨x, hx, hxn⟩ := HBD.out j hjl
       obtain ⟨az, e, hv⟩ := (HLR.out.below HBr.out).int_at j hjl
       cases e
       rw [hx] at hv
       have HST := Lib.hid (setsN_step m (xl + 1) j x hjl hx hxn)
       have CB := Lib.hid (fun W (hW : Below wr.heap.size wr W) => ref24_Bounds m A m.length c (x : Int) W ((HR3.out.below HBr.out).below hW) rfl (by omega))
       have hsl := setsN_len m (xl + 1) j
       generalize setsN m (xl + 1) j = ow at *
       generalize boundsZ m (x : Int) = bz at *
       have hx0 : (0 : Int) ≤ (x : Int) := by omega
       have hx1 : (x : Int) < (((xl + 1) : Nat) : Int) := by omega
       have hx2 : (x : Int) < ((xl : Int) + 1) := by omega
       clear hx
       go_wp2_with fail
       refine start_ (n := 13) (S := fun w' => w'.cell? (az0.add j) = some (.int .i64 x)) (ds := [12]) #[Z,Z,Z,Z,Z,Z,Z,Z,Z,Z,Z,Z,Z] (by kernel_rfl) rfl rfl (hv) (fun hHeld => ?_)
       refine pu 0 119 ?_
       refine pu 1 120 ?_
       refine pu 2 121 ?_
       refine pu 3 122 ?_
       refine pu 5 124 ?_
       refine pu 6 125 ?_
       refine pu 7 126 ?_
       refine pu 8 127 ?_
       refine take_ (i := 4) (N := some 123) (v := ?_) (a' := ?_) #[J,J,J,J,J,J,J,J,J,Z,Z,Z,Z] rfl rfl (by kernel_rfl) (fun _ _ _ h => h) (Or.inl ⟨by rfl, ?_⟩) hHeld ?_ ?_
       rotate_left
       ·intro w' s0; go_simp; with_reducible rfl
       rotate_left
       ·simp only [Act.put, sA, sB, sC, i64_w, i32_w]; rfl
       refine take_ (i := 9) (N := some 128) (v := ?_) (a' := ?_) #[J,J,J,J,J,J,J,J,J,J,Z,Z,Z] rfl rfl (by kernel_rfl) (fun _ _ _ h => h) (Or.inl ⟨by rfl, ?_⟩) hHeld ?_ ?_
       rotate_left
       ·intro w' s0; go_simp; with_reducible rfl
       rotate_left
       ·simp only [Act.put, sA, sB, sC, i64_w, i32_w]; rfl
       refine one_ (i := 10) (N := some 129) #[J,J,J,J,J,J,J,J,J,J,J,Z,Z] rfl rfl (by kernel_rfl) (by decide) (fun K hK => ?_)
       refine goes_ Tryz.func35 (by kernel_rfl) rfl #[.slice A m.length c, .int .i64 x] (by rfl) rfl rfl (by simp only [List.map_toArray, List.map_cons, List.map_nil]; rfl) ?_
       with_reducible refine (CB.out _ (below_drew (Below.refl _ _))).mono ?_
       rintro e w5 ⟨u, rfl, HU, hb5⟩
       refine ⟨_, rfl, ?_⟩
       have HOw5 := (HOw.out.below (below_drew (Below.refl _ _))).below hb5
       obtain ⟨_, _, hMG, cur, hcur, hcz⟩ := OwnR.blkB HOw5
       obtain ⟨Au, cu, rfl, hul, hur⟩ := OwnR.rowB sg_flat HU (fun j => ¬ j = w3.heap.size) (fun b hb e => by have h1 := (OwnR.lt HU b hb).1; have h2 : wr.drew.heap.size = wr.heap.size := rfl; have h3 := (OwnR.lt HOw.out w3.heap.size rfl).2; omega)
       have hks : x < cur.size := by rw [hcz]; show x < (xl + 1) * 1; omega
       have hcell := blk_cell hcur x (v := cur[x]) (by simp [hks])
       have hfree := blk_free hcur x
       refine hK.out _ _ (cell_below hb5 hv) (fun hHeld => ?_)
       clear hK K
       refine nm 129 ?_
       refine pu 11 130 ?_
       refine last_ (i := 12) (N := none) #[J,J,J,J,J,J,J,J,J,J,J,J,J] rfl rfl (by kernel_rfl) (by decide) (fun K hK => ?_)
       refine skip_ (w1 := ?_) (by rfl) rfl ?_ ?_
       rotate_left
       ·go_simp
        rfl
       refine hK.out _ _ ?_
       clear hK K
       refine done_ (by kernel_rfl) ?_
       obtain ⟨HOw6, hk6⟩ := OwnR.set1 (T := Ty.segs) rfl HOw5 hsl.symm x (y := bz) (V := .slice Au bz.length cu) ⟨Au, cu, rfl, hul, hur⟩
       have HB6 := Lib.hid (below_kept (below_step (below_drew HBr.out) hb5) hk6 (fun b e => by omega))
       have HOw6 := Lib.hid HOw6
       clear HU hur HOw5 hk6 hcur hb5 HBr HOw CB hcell hfree
       go_wp2
       go_roundw
       case rel => exact ⟨j + 1, by omega, by go_num, HB6.out, Lib.hid (by rw [← HST.out]; exact HOw6.out)⟩
       case measure => simp [intOf]; omega
      ·obtain rfl : j = (areasR m).length := by omega
       have hsl := setsN_len m (xl + 1) (areasR m).length
       have HEND : Hid (setsN m (xl + 1) (areasR m).length = ownZ m) := Lib.hid (by rw [← HSN.out, ← HS24.out]; exact setsN_end m)
       rw [HEND.out] at HOw hsl
       obtain ⟨A0, c0, e0, _, hro, _⟩ := OwnR.reads HOw.out
       have hA0 : A0 = some ⟨w3.heap.size, 0, none⟩ := by injection e0 with h; exact h.symm
       subst hA0
       clear e0
       have HRW := Lib.hid (HR3.out.below HBr.out)
       have BW := Lib.hid (below_step B3.out HBr.out)
       have CBD := Lib.hid (ref24_Build (ownZ m) (some ⟨w3.heap.size, 0, none⟩) (xl + 1) (xl + 1) wr hro hsl.symm (by have := HOL.out; omega) HO6.out (by have := HOA.out; omega) (by have := HNL.out; omega))
       rw [HS24.out] at HF
       clear hro HOw HBr HEND hsl HLR HBD
       generalize build24 (ownZ m) = bz at *
       obtain ⟨bm, be⟩ := bz
       (try simp only at HF)
       go_wp2_with fail
       refine CBD.out.mono ?_
       rintro e w5 ⟨hBR, hb5⟩
       obtain ⟨Ab, cb, rfl, hbr⟩ := hBR
       have BW5 := Lib.hid (below_step BW.out hb5)
       have CS := Lib.hid (ref24_Same bm m Ab A bm.length m.length cb c w5 hbr (HRW.out.below hb5) rfl rfl)
       clear hbr hb5 CBD BW HRW
       (try simp only at CS)
       by_cases he : be = 0
       ·subst he
        by_cases hs : bm = m
        ·have HF2 := Lib.hid (HF.out.trans (if_pos ⟨rfl, hs⟩))
         rw [decide_eq_true hs] at CS
         clear HF hs
         go_wp2_with fail
         refine CS.out.mono ?_
         rintro e w6 ⟨rfl, hb6⟩
         have B6 := Lib.hid (below_step BW5.out hb6)
         clear hb6 CS
         go_wp2
         go_ret
         exact ⟨ret_int HF2.out.symm, B6.out⟩
        ·have HF2 := Lib.hid (HF.out.trans (if_neg (fun h => hs h.2)))
         rw [decide_eq_false hs] at CS
         clear HF hs
         go_wp2_with fail
         refine CS.out.mono ?_
         rintro e w6 ⟨rfl, hb6⟩
         have B6 := Lib.hid (below_step BW5.out hb6)
         clear hb6 CS
         go_wp2
         go_ret
         exact ⟨ret_int HF2.out.symm, B6.out⟩
       ·have HF2 := Lib.hid (HF.out.trans (if_neg (fun h => he h.1)))
        have hq : (be != 0) = true := by simpa using he
        clear HF he CS
        go_wp2
        go_ret
        exact ⟨ret_int HF2.out.symm, BW5.out⟩
    ·have hnil : areasR m = [] := List.eq_nil_of_length_eq_zero (by omega)
     have HBD : Hid (∀ j, j < (areasR m).length → ∃ x : Nat, inD (areasR m) j = (x : Int) ∧ x < 0) := Lib.hid (fun j hj => absurd hj (by omega))
     have HSN : Hid (topI (areasR m) = 0) := Lib.hid (by rw [hnil]; rfl)
     have q1 : decide (((areasR m).length : Int) > 0) = false := decide_eq_false (by omega)
     have q2 : decide (0 < ((areasR m).length : Int)) = false := decide_eq_false (by omega)
     clear hnil
     obtain ⟨w4, hmk0, HO4, hb4, hs4⟩ := made_segs w3 0 (by omega)
     have hmk : (Instr.makeSlice 55 (.int .i64 0) (.int .i64 0)).run Tryz.prog w3 = .ok (.slice (some ⟨w3.heap.size, 0, none⟩) 0 0) w4 := hmk0
     have HO4 := Lib.hid HO4
     clear hmk0
     go_wp2
     go_loopw [9] (fun i wr => ∃ j : Nat, j ≤ (areasR m).length ∧ i = .int .i64 j ∧ Hid (Below w3.heap.size w3 wr) ∧ Hid (OwnR Ty.segs 46 w3.heap.size (fun b => b = w3.heap.size) wr (.slice (some ⟨w3.heap.size, 0, none⟩) 0 0) (setsN m 0 j))) (fun i _ => (areasR m).length - (intOf i).toNat)
     case atStart => exact ⟨0, Nat.zero_le _, rfl, hb4, Lib.hid (by rw [setsN_zero]; exact HO4.out)⟩
     case round =>
      obtain ⟨j, hj, rfl, HBr, HOw⟩ := hrel
      clear HO4 hb4 hmk hs4
      have hzr := HBr.out.size
      by_cases hjl : j < (areasR m).length
      ·obtain ⟨x, hx, hxn⟩ := HBD.out j hjl
       obtain ⟨az, e, hv⟩ := (HLR.out.below HBr.out).int_at j hjl
       cases e
       rw [hx] at hv
       have HST := Lib.hid (setsN_step m 0 j x hjl hx hxn)
       have CB := Lib.hid (fun W (hW : Below wr.heap.size wr W) => ref24_Bounds m A m.length c (x : Int) W ((HR3.out.below HBr.out).below hW) rfl (by omega))
       have hsl := setsN_len m 0 j
       generalize setsN m 0 j = ow at *
       generalize boundsZ m (x : Int) = bz at *
       have hx0 : (0 : Int) ≤ (x : Int) := by omega
       have hx1 : (x : Int) < ((0 : Nat) : Int) := by omega
       have hx2 : (x : Int) < 0 := by omega
       clear hx
       go_wp2_with fail
       refine start_ (n := 13) (S := fun w' => w'.cell? (az.add j) = some (.int .i64 x)) (ds := [12]) #[Z,Z,Z,Z,Z,Z,Z,Z,Z,Z,Z,Z,Z] (by kernel_rfl) rfl rfl (hv) (fun hHeld => ?_)
       refine pu 0 119 ?_
       refine pu 1 120 ?_
       refine pu 2 121 ?_
       refine pu 3 122 ?_
       refine pu 5 124 ?_
       refine pu 6 125 ?_
       refine pu 7 126 ?_
       refine pu 8 127 ?_
       refine take_ (i := 4) (N := some 123) (v := ?_) (a' := ?_) #[J,J,J,J,J,J,J,J,J,Z,Z,Z,Z] rfl rfl (by kernel_rfl) (fun _ _ _ h => h) (Or.inl ⟨by rfl, ?_⟩) hHeld ?_ ?_
       rotate_left
       ·intro w' s0; go_simp; with_reducible rfl
       rotate_left
       ·simp only [Act.put, sA, sB, sC, i64_w, i32_w]; rfl
       refine take_ (i := 9) (N := some 128) (v := ?_) (a' := ?_) #[J,J,J,J,J,J,J,J,J,J,Z,Z,Z] rfl rfl (by kernel_rfl) (fun _ _ _ h => h) (Or.inl ⟨by rfl, ?_⟩) hHeld ?_ ?_
       rotate_left
       ·intro w' s0; go_simp; with_reducible rfl
       rotate_left
       ·simp only [Act.put, sA, sB, sC, i64_w, i32_w]; rfl
       refine one_ (i := 10) (N := some 129) #[J,J,J,J,J,J,J,J,J,J,J,Z,Z] rfl rfl (by kernel_rfl) (by decide) (fun K hK => ?_)
       refine goes_ Tryz.func35 (by kernel_rfl) rfl #[.slice A m.length c, .int .i64 x] (by rfl) rfl rfl (by simp only [List.map_toArray, List.map_cons, List.map_nil]; rfl) ?_
       with_reducible refine (CB.out _ (below_drew (Below.refl _ _))).mono ?_
       rintro e w5 ⟨u, rfl, HU, hb5⟩
       refine ⟨_, rfl, ?_⟩
       have HOw5 := (HOw.out.below (below_drew (Below.refl _ _))).below hb5
       obtain ⟨_, _, hMG, cur, hcur, hcz⟩ := OwnR.blkB HOw5
       obtain ⟨Au, cu, rfl, hul, hur⟩ := OwnR.rowB sg_flat HU (fun j => ¬ j = w3.heap.size) (fun b hb e => by have h1 := (OwnR.lt HU b hb).1; have h2 : wr.drew.heap.size = wr.heap.size := rfl; have h3 := (OwnR.lt HOw.out w3.heap.size rfl).2; omega)
       have hks : x < cur.size := by rw [hcz]; show x < 0 * 1; omega
       have hcell := blk_cell hcur x (v := cur[x]) (by simp [hks])
       have hfree := blk_free hcur x
       refine hK.out _ _ (cell_below hb5 hv) (fun hHeld => ?_)
       clear hK K
       refine nm 129 ?_
       refine pu 11 130 ?_
       refine last_ (i := 12) (N := none) #[J,J,J,J,J,J,J,J,J,J,J,J,J] rfl rfl (by kernel_rfl) (by decide) (fun K hK => ?_)
       refine skip_ (w1 := ?_) (by rfl) rfl ?_ ?_
       rotate_left
       ·go_simp
        rfl
       refine hK.out _ _ ?_
       clear hK K
       refine done_ (by kernel_rfl) ?_
       obtain ⟨HOw6, hk6⟩ := OwnR.set1 (T := Ty.segs) rfl HOw5 hsl.symm x (y := bz) (V := .slice Au bz.length cu) ⟨Au, cu, rfl, hul, hur⟩
       have HB6 := Lib.hid (below_kept (below_step (below_drew HBr.out) hb5) hk6 (fun b e => by omega))
       have HOw6 := Lib.hid HOw6
       clear HU hur HOw5 hk6 hcur hb5 HBr HOw CB hcell hfree
       go_wp2
       go_roundw
       case rel => exact ⟨j + 1, by omega, by go_num, HB6.out, Lib.hid (by rw [← HST.out]; exact HOw6.out)⟩
       case measure => simp [intOf]; omega
      ·obtain rfl : j = (areasR m).length := by omega
       have hsl := setsN_len m 0 (areasR m).length
       have HEND : Hid (setsN m 0 (areasR m).length = ownZ m) := Lib.hid (by rw [← HSN.out, ← HS24.out]; exact setsN_end m)
       rw [HEND.out] at HOw hsl
       obtain ⟨A0, c0, e0, _, hro, _⟩ := OwnR.reads HOw.out
       have hA0 : A0 = some ⟨w3.heap.size, 0, none⟩ := by injection e0 with h; exact h.symm
       subst hA0
       clear e0
       have HRW := Lib.hid (HR3.out.below HBr.out)
       have BW := Lib.hid (below_step B3.out HBr.out)
       have CBD := Lib.hid (ref24_Build (ownZ m) (some ⟨w3.heap.size, 0, none⟩) 0 0 wr hro hsl.symm (by have := HOL.out; omega) HO6.out (by have := HOA.out; omega) (by have := HNL.out; omega))
       rw [HS24.out] at HF
       clear hro HOw HBr HEND hsl HLR HBD
       generalize build24 (ownZ m) = bz at *
       obtain ⟨bm, be⟩ := bz
       (try simp only at HF)
       go_wp2_with fail
       refine CBD.out.mono ?_
       rintro e w5 ⟨hBR, hb5⟩
       obtain ⟨Ab, cb, rfl, hbr⟩ := hBR
       have BW5 := Lib.hid (below_step BW.out hb5)
       have CS := Lib.hid (ref24_Same bm m Ab A bm.length m.length cb c w5 hbr (HRW.out.below hb5) rfl rfl)
       clear hbr hb5 CBD BW HRW
       (try simp only at CS)
       by_cases he : be = 0
       ·subst he
        by_cases hs : bm = m
        ·have HF2 := Lib.hid (HF.out.trans (if_pos ⟨rfl, hs⟩))
         rw [decide_eq_true hs] at CS
         clear HF hs
         go_wp2_with fail
         refine CS.out.mono ?_
         rintro e w6 ⟨rfl, hb6⟩
         have B6 := Lib.hid (below_step BW5.out hb6)
         clear hb6 CS
         go_wp2
         go_ret
         exact ⟨ret_int HF2.out.symm, B6.out⟩
        ·have HF2 := Lib.hid (HF.out.trans (if_neg (fun h => hs h.2)))
         rw [decide_eq_false hs] at CS
         clear HF hs
         go_wp2_with fail
         refine CS.out.mono ?_
         rintro e w6 ⟨rfl, hb6⟩
         have B6 := Lib.hid (below_step BW5.out hb6)
         clear hb6 CS
         go_wp2
         go_ret
         exact ⟨ret_int HF2.out.symm, B6.out⟩
       ·have HF2 := Lib.hid (HF.out.trans (if_neg (fun h => he h.1)))
        have hq : (be != 0) = true := by simpa using he
        clear HF he CS
        go_wp2
        go_ret
        exact ⟨ret_int HF2.out.symm, BW5.out⟩
/-- What the reference's Points answers. -/
def points24 (m : Msh) : Pts := if checkM m = 0 then pts25 m else []
set_option maxRecDepth 100000 in
set_option maxHeartbeats 2000000 in
theorem ref25_Points {ok : Nat → Prop} (m : Msh) (A : Option Addr) (n c : Nat) (w : World) (hr : Row Ty.edge ok w A m) (hn : n = m.length) (hf : fewM m = true) :
  Calls Tryz.prog 7 #[.slice A n c] w fun e w' => ∃ B d, e = .returned (.slice B (pointsM m).length d) ∧ Row Ty.pt (fun _ => True) w' B (pointsM m) ∧ Below w.heap.size w w' := by
 subst hn
 have HR := Lib.hid hr
 have hm40 := (few_all hf).1
 have CC := Lib.hid (ref24_Check m A _ c w hr rfl hf)
 have HP : Hid (pointsM m = points24 m) := Lib.hid (by unfold pointsM points24; rw [pts25_same])
 rw [HP.out]
 clear hr hf HP
 by_cases h0 : checkM m = 0
 ·have HZ : Hid (points24 m = pts25 m) := Lib.hid (by unfold points24; rw [if_pos h0])
  rw [h0] at CC
  rw [HZ.out]
  clear h0 HZ
  go_enter Tryz.func7, Tryz.ntmps7
  go_wp2_with fail
  refine CC.out.mono ?_
  rintro e w2 ⟨rfl, hb2⟩
  have HR2 := Lib.hid (HR.out.below hb2)
  have HB2 := Lib.hid hb2
  clear hb2 CC HR
  go_wp2_with fail
  refine (ref25_points m A _ c w2 HR2.out rfl (by omega)).mono ?_
  rintro e w3 ⟨v, rfl, HO, hb3⟩
  obtain ⟨B, d, rfl, _, hor⟩ := Own1.reads HO
  have HOR := Lib.hid hor
  have HB3 := Lib.hid (below_step HB2.out hb3)
  clear HO hor hb3 HB2 HR2
  go_wp2
  go_ret
  exact ⟨_, _, rfl, HOR.out, HB3.out⟩
 ·have HZ : Hid (points24 m = []) := Lib.hid (by unfold points24; rw [if_neg h0])
  have hq : (checkM m != 0) = true := by simpa using h0
  rw [HZ.out]
  clear h0 HZ
  generalize checkM m = ck at *
  go_enter Tryz.func7, Tryz.ntmps7
  go_wp2_with fail
  refine CC.out.mono ?_
  rintro e w2 ⟨rfl, hb2⟩
  have HB2 := Lib.hid hb2
  clear hb2 CC HR
  go_wp2
  go_ret
  exact ⟨none, 0, rfl, Row.nil _ _ _ _, HB2.out⟩
end
section
open Go.RowKit Go.Proofs.YtaeflnbjeaoapaaGreatW.PrintLast

attribute [local go_sem high] eqPt eqSg
set_option maxRecDepth 100000 in
set_option maxHeartbeats 2000000 in
theorem law25_SimplifyPoints {ok : Nat → Prop} (m : Msh) (A : Option Addr) (n c : Nat) (w : World) (hr : Row Ty.edge ok w A m) (hn : n = m.length) :
  Calls Tryz.prog 3 #[.slice A n c] w fun e w' => e = .returned (.bool true) ∧ Below w.heap.size w w' := by
 subst hn
 have HR := Lib.hid (hr.mono (ok' := fun _ => True) (fun _ _ => trivial))
 have CF := Lib.hid (law25_Few m A m.length c w hr rfl)
 have CL := Lib.hid (fun W => law25_lives W)
 clear hr
 cases hf : fewM m
 ·rw [hf] at CF
  clear hf
  go_enter Tryz.func3, Tryz.ntmps3
  go_wp2_with fail
  refine CF.out.mono ?_
  rintro e w1 ⟨rfl, hb1⟩
  clear CF
  go_wp2_with fail
  refine (CL.out _).mono ?_
  rintro e w2 ⟨rfl, hb2⟩
  go_wp2
  go_ret
  exact ⟨rfl, (by repeat (first | exact Below.refl _ _ | apply below_alloc | apply below_drewN | apply below_drew | (refine below_set2 ?_ ?_; (first | (simp; done) | (simp; omega))) | (refine below_step ?_ hb2) | (refine below_step ?_ hb1)))⟩
 ·rw [hf] at CF
  have HF := Lib.hid hf
  clear hf
  go_enter Tryz.func3, Tryz.ntmps3
  go_wp2_with fail
  refine CF.out.mono ?_
  rintro e w1 ⟨rfl, hb1⟩
  have R1 := Lib.hid (HR.out.below hb1)
  clear CF HR
  go_wp2_with fail
  refine (simplify_Points m A _ c w1 R1.out rfl HF.out).mono ?_
  rintro e w2 ⟨A2, c2, rfl, hp2, hb2⟩
  have R2 := Lib.hid (R1.out.below hb2)
  have P2 := Lib.hid hp2
  have BW2 := Lib.hid (below_step hb1 hb2)
  clear hb1 hb2 hp2 R1
  go_wp2_with fail
  refine (ref25_Points m A _ c w2 R2.out rfl HF.out).mono ?_
  rintro e w3 ⟨A3, c3, rfl, hp3, hb3⟩
  have P3 := Lib.hid hp3
  have P2 := Lib.hid (P2.out.below hb3)
  have BW3 := Lib.hid (below_step BW2.out hb3)
  have hlx := hp3.len
  clear hb3 hp3 R2 BW2 HF
  generalize pointsM m = l at *
  have hlb : ((l.length : Int) != (l.length : Int)) = false := by simp
  go_wp2
  go_loopw [5] (fun i wr => ∃ k : Nat, k ≤ l.length ∧ i = .int .i64 k ∧ Hid (Below w3.heap.size w3 wr)) (fun i _ => l.length - (intOf i).toNat)
  case atStart => exact ⟨0, Nat.zero_le _, rfl, Below.refl _ _⟩
  case round =>
   obtain ⟨k, hk, rfl, HB⟩ := hrel
   by_cases hlt : k < l.length
   ·obtain ⟨ad, rfl, hx0, hx1⟩ := (P2.out.below HB.out).pt_at k hlt
    obtain ⟨bd, rfl, hy0, hy1⟩ := (P3.out.below HB.out).pt_at k hlt
    generalize ptD l k = p at *
    obtain ⟨p1, p2⟩ := p
    simp only at hx0 hx1 hy0 hy1
    have qe : (decide (p1 = p1) && decide (p2 = p2)) = true := by simp
    go_wp2_with fail
    go_quiet (fail)
    go_wp2
    go_roundw
    case rel => exact ⟨k + 1, by omega, by go_num, below_drewN HB.out _⟩
    case measure => simp [intOf]; omega
   ·have BW4 := Lib.hid (below_step BW3.out HB.out)
    go_wp2_with fail
    refine (CL.out _).mono ?_
    rintro e w5 ⟨rfl, hb5⟩
    have BW5 := Lib.hid (below_step BW4.out hb5)
    clear hb5
    go_wp2
    go_ret
    exact ⟨rfl, BW5.out⟩
end
section
open Go.RowKit Go.ChangeShapes Go.WideShapes

/-- What reads by type t is a T. -/
def Opens {α : Type} (P : Program) (T : Ty α) (t : TypeId) : Prop := ∀ (H : Type) (enc : TypeId × Value → H) (w : World) (base : Nat) (spare : Nat → Bool) (held : Bool) (fuel : Nat) (cs : List Value) (x : DataW H × List MemPlace),
 DataW.trod enc P w base spare held fuel t cs = some x → ∃ a : α, T.R (fun _ => True) w a cs

section
variable {P : Program} {α β : Type}
theorem Opens.int {t : TypeId} {k : IntKind} (ht : P.underlying t = some (.int k)) : Opens P (Ty.int k) t := fun H enc w base spare held fuel cs x h => by
 obtain ⟨n, rfl, _⟩ := DataW.trod_int ht h
 exact ⟨n, rfl⟩
theorem Opens.slice [Inhabited α] {T : Ty α} {t e : TypeId} (ht : P.underlying t = some (.slice e)) (hs : P.cellsOf e = T.sz) (ho : Opens P T e) : Opens P (Ty.slice T) t := fun H enc w base spare held fuel cs x h => by
 rcases Deep.open_slice ht h with ⟨rfl, _⟩ | ⟨a, len, cap, m, n, D, Pl, rfl, hb, hl, hm, hmm, _, hx⟩
 ·exact ⟨[], none, 0, rfl, Nat.le_refl _, Row.nil _ _ _ _⟩
 ·have hlm : len ≤ m := by rw [hmm]; split <;> omega
  obtain ⟨f, hf⟩ := Deep.choose_lt (α := α) (n := len) (p := fun i y => ∃ cs', T.R (fun _ => True) w y cs' ∧ CellsAt w a (i * T.sz) cs') (fun i hi => by
   obtain ⟨cs', h1, h2⟩ := hx i (by omega)
   rw [hs] at h1
   obtain ⟨y, hy⟩ := ho H enc w base spare held n cs' _ h2
   obtain ⟨_, hlen, hc⟩ := World.cells?_some h1
   refine ⟨y, cs', hy, fun j u hu => ?_⟩
   have := hc j (by have := (List.getElem?_eq_some_iff.1 hu).1; omega)
   rw [← add_add, this, hu])
  have hlen : ((List.range len).map f).length = len := by simp
  refine ⟨(List.range len).map f, some a, cap, by rw [hlen], by rw [hlen]; exact hl, by rw [hlen]; simp only [maxLen] at hm; omega, fun _ => ⟨a, rfl, trivial, fun i y hy => ?_⟩⟩
  have hi : i < len := by have := (List.getElem?_eq_some_iff.1 hy).1; rwa [hlen] at this
  obtain ⟨cs', h1, h2⟩ := hf i hi
  have e : y = f i := by simp [hi] at hy; exact hy.symm
  rw [e]
  exact ⟨cs', h1, h2⟩
theorem Opens.pair {T : Ty α} {U : Ty β} {t : TypeId} {f0 f1 : Field} (ht : P.underlying t = some (.struct #[f0, f1])) (hs : P.cellsOf t = T.sz + U.sz) (h0 : f0.offset = 0) (h1 : f1.offset = T.sz)
  (c0 : P.cellsOf f0.type = T.sz) (c1 : P.cellsOf f1.type = U.sz) (o0 : Opens P T f0.type) (o1 : Opens P U f1.type) : Opens P (Ty.pair T U) t := fun H enc w base spare held fuel cs x h => by
 obtain ⟨xs, n, rfl, _, hl, hxl, hf⟩ := DataW.trod_struct ht h
 have g0 := hf 0 f0 rfl
 have g1 := hf 1 f1 rfl
 rw [h0, c0, List.drop_zero] at g0
 rw [h1, c1] at g1
 rw [hs] at hl
 match xs, hxl with
 | [y0, y1], _ =>
  obtain ⟨a, ha⟩ := o0 H enc w base spare held n _ y0 (by simpa using g0)
  obtain ⟨b, hb⟩ := o1 H enc w base spare held n _ y1 (by simpa using g1)
  refine ⟨(a, b), cs.take T.sz, (cs.drop T.sz).take U.sz, ?_, ha, hb⟩
  rw [List.take_of_length_le (l := cs.drop T.sz) (by rw [List.length_drop]; omega), List.take_append_drop]
theorem Opens.of_eq {T U : Ty α} {t : TypeId} (h : ∀ w x cs, T.R (fun _ => True) w x cs → U.R (fun _ => True) w x cs) (ho : Opens P T t) : Opens P U t := fun H enc w base spare held fuel cs x hx => by
 obtain ⟨a, ha⟩ := ho H enc w base spare held fuel cs x hx
 exact ⟨a, h w a cs ha⟩
theorem Opens.pt {t : TypeId} {f0 f1 : Field} (ht : P.underlying t = some (.struct #[f0, f1])) (hs : P.cellsOf t = 2) (h0 : f0.offset = 0) (h1 : f1.offset = 1)
  (c0 : P.cellsOf f0.type = 1) (c1 : P.cellsOf f1.type = 1) (o0 : P.underlying f0.type = some (.int .i64)) (o1 : P.underlying f1.type = some (.int .i64)) : Opens P Ty.pt t :=
 Opens.of_eq (T := Ty.pair (Ty.int .i64) (Ty.int .i64)) (fun w x cs h => by obtain ⟨c1, c2, rfl, h1, h2⟩ := h; rw [show c1 = _ from h1, show c2 = _ from h2]; rfl) (Opens.pair ht hs h0 h1 c0 c1 (Opens.int o0) (Opens.int o1))
theorem Opens.sg {t : TypeId} {f0 f1 : Field} (ht : P.underlying t = some (.struct #[f0, f1])) (hs : P.cellsOf t = 4) (h0 : f0.offset = 0) (h1 : f1.offset = 2)
  (c0 : P.cellsOf f0.type = 2) (c1 : P.cellsOf f1.type = 2) (o0 : Opens P Ty.pt f0.type) (o1 : Opens P Ty.pt f1.type) : Opens P Ty.sg t :=
 Opens.of_eq (T := Ty.pair Ty.pt Ty.pt) (fun w x cs h => by obtain ⟨c1, c2, rfl, h1, h2⟩ := h; rw [show c1 = _ from h1, show c2 = _ from h2]; rfl) (Opens.pair ht hs h0 h1 c0 c1 o0 o1)
/-- A slice that came as an argument. -/
theorem Opens.arg [Inhabited α] {T : Ty α} {t e : TypeId} (ht : P.underlying t = some (.slice e)) (hs : P.cellsOf e = T.sz) (ho : Opens P T e) {H : Type} {enc : TypeId × Value → H} {w : World} {base : Nat} {spare : Nat → Bool} {held : Bool} {A : Option Addr} {n c : Nat} {d : DataW H} {ps : List MemPlace}
  (h : DataW.Trod enc P w base spare held t (.slice A n c) d ps) : ∃ xs : List α, n = xs.length ∧ Row T (fun _ => True) w A xs := by
 obtain ⟨fuel, hf⟩ := h
 obtain ⟨xs, A', c', e1, _, hr⟩ := Opens.slice ht hs ho H enc w base spare held fuel _ _ hf
 simp only [Value.cells, List.cons.injEq, Value.slice.injEq, and_true] at e1
 obtain ⟨rfl, rfl, rfl⟩ := e1
 exact ⟨xs, rfl, hr⟩
/-- A point that came as an argument. -/
theorem Opens.ptArg {t : TypeId} {fs : Array Field} (hs : P.underlying t = some (.struct fs)) (ho : Opens P Ty.pt t) {H : Type} {enc : TypeId × Value → H} {w : World} {base b0 : Nat} {spare : Nat → Bool} {held : Bool} {r : Reach} {v : Value} {d : DataW H} {ps : List MemPlace}
  (hv : Value.okWide P w r b0 t v) (h : DataW.Trod enc P w base spare held t v d ps) : ∃ x y : Int, v = .agg #[.int .i64 x, .int .i64 y] := by
 obtain ⟨cs, rfl, hsz⟩ := okWide_struct hs hv
 obtain ⟨fuel, hf⟩ := h
 obtain ⟨a, ha⟩ := ho H enc w base spare held fuel _ _ hf
 have e : cs.toList = [.int .i64 a.1, .int .i64 a.2] := ha
 refine ⟨a.1, a.2, ?_⟩
 have := congrArg List.toArray e
 rw [Array.toArray_toList] at this
 rw [this]
/-- A segment that came as an argument. -/
theorem Opens.sgArg {t : TypeId} {fs : Array Field} (hs : P.underlying t = some (.struct fs)) (ho : Opens P Ty.sg t) {H : Type} {enc : TypeId × Value → H} {w : World} {base b0 : Nat} {spare : Nat → Bool} {held : Bool} {r : Reach} {v : Value} {d : DataW H} {ps : List MemPlace}
  (hv : Value.okWide P w r b0 t v) (h : DataW.Trod enc P w base spare held t v d ps) : ∃ s : Sg, v = .agg #[.int .i64 s.1.1, .int .i64 s.1.2, .int .i64 s.2.1, .int .i64 s.2.2] := by
 obtain ⟨cs, rfl, hsz⟩ := okWide_struct hs hv
 obtain ⟨fuel, hf⟩ := h
 obtain ⟨a, ha⟩ := ho H enc w base spare held fuel _ _ hf
 have e : cs.toList = [.int .i64 a.1.1, .int .i64 a.1.2, .int .i64 a.2.1, .int .i64 a.2.2] := ha
 refine ⟨a, ?_⟩
 have := congrArg List.toArray e
 rw [Array.toArray_toList] at this
 rw [this]
end
end
section
open Go.RowKit Go.ChangeShapes Go.WideShapes

section
variable {P : Program} {α β γ δ : Type}
theorem Opens.map {T : Ty α} {U : Ty β} {t : TypeId} (f : α → β) (h : ∀ w x cs, T.R (fun _ => True) w x cs → U.R (fun _ => True) w (f x) cs) (ho : Opens P T t) : Opens P U t := fun H enc w base spare held fuel cs x hx => by
 obtain ⟨a, ha⟩ := ho H enc w base spare held fuel cs x hx
 exact ⟨f a, h w a cs ha⟩
theorem Opens.quad {T : Ty α} {U : Ty β} {V : Ty γ} {X : Ty δ} {t : TypeId} {f0 f1 f2 f3 : Field} (ht : P.underlying t = some (.struct #[f0, f1, f2, f3])) (hs : P.cellsOf t = T.sz + (U.sz + (V.sz + X.sz))) (h0 : f0.offset = 0) (h1 : f1.offset = T.sz)
  (h2 : f2.offset = T.sz + U.sz) (h3 : f3.offset = T.sz + U.sz + V.sz) (c0 : P.cellsOf f0.type = T.sz) (c1 : P.cellsOf f1.type = U.sz) (c2 : P.cellsOf f2.type = V.sz) (c3 : P.cellsOf f3.type = X.sz)
  (o0 : Opens P T f0.type) (o1 : Opens P U f1.type) (o2 : Opens P V f2.type) (o3 : Opens P X f3.type) : Opens P (Ty.pair T (Ty.pair U (Ty.pair V X))) t := fun H enc w base spare held fuel cs x h => by
 obtain ⟨xs, n, rfl, _, hl, hxl, hf⟩ := DataW.trod_struct ht h
 have g0 := hf 0 f0 rfl
 have g1 := hf 1 f1 rfl
 have g2 := hf 2 f2 rfl
 have g3 := hf 3 f3 rfl
 rw [h0, c0, List.drop_zero] at g0
 rw [h1, c1] at g1
 rw [h2, c2] at g2
 rw [h3, c3] at g3
 rw [hs] at hl
 match xs, hxl with
 | [y0, y1, y2, y3], _ =>
  obtain ⟨a, ha⟩ := o0 H enc w base spare held n _ y0 (by simpa using g0)
  obtain ⟨b, hb⟩ := o1 H enc w base spare held n _ y1 (by simpa using g1)
  obtain ⟨c, hc⟩ := o2 H enc w base spare held n _ y2 (by simpa using g2)
  obtain ⟨d, hd⟩ := o3 H enc w base spare held n _ y3 (by simpa using g3)
  refine ⟨(a, (b, (c, d))), cs.take T.sz, (cs.drop T.sz).take U.sz ++ ((cs.drop (T.sz + U.sz)).take V.sz ++ (cs.drop (T.sz + U.sz + V.sz)).take X.sz), ?_, ha, _, _, rfl, hb, _, _, rfl, hc, hd⟩
  have e1 : (cs.drop (T.sz + U.sz + V.sz)).take X.sz = cs.drop (T.sz + U.sz + V.sz) := List.take_of_length_le (by rw [List.length_drop]; omega)
  have e2 : cs.drop (T.sz + U.sz + V.sz) = (cs.drop (T.sz + U.sz)).drop V.sz := by rw [List.drop_drop]
  have e3 : cs.drop (T.sz + U.sz) = (cs.drop T.sz).drop U.sz := by rw [List.drop_drop]
  rw [e1, e2, List.take_append_drop, e3, List.take_append_drop, List.take_append_drop]
theorem Opens.edge {t : TypeId} {f0 f1 f2 f3 : Field} (ht : P.underlying t = some (.struct #[f0, f1, f2, f3])) (hs : P.cellsOf t = 6) (h0 : f0.offset = 0) (h1 : f1.offset = 2) (h2 : f2.offset = 4) (h3 : f3.offset = 5)
  (c0 : P.cellsOf f0.type = 2) (c1 : P.cellsOf f1.type = 2) (c2 : P.cellsOf f2.type = 1) (c3 : P.cellsOf f3.type = 1) (o0 : Opens P Ty.pt f0.type) (o1 : Opens P Ty.pt f1.type) (o2 : Opens P Ty.ints f2.type) (o3 : Opens P Ty.ints f3.type) : Opens P Ty.edge t :=
 Opens.map (T := Ty.pair Ty.pt (Ty.pair Ty.pt (Ty.pair Ty.ints Ty.ints))) (fun x => ((x.1, x.2.1), x.2.2)) (fun w x cs h => by
  obtain ⟨c1, c2, rfl, h1, c3, c4, rfl, h2, h3⟩ := h
  obtain rfl : c1 = _ := h1
  obtain rfl : c3 = _ := h2
  exact ⟨_, c4, rfl, rfl, h3⟩) (Opens.quad ht hs h0 h1 h2 h3 c0 c1 c2 c3 o0 o1 o2 o3)
end
end
end Go.Proofs.YtaeflnbjeaoapaaGreat
section
namespace Go.Proofs.YtaeflnbjeaoapaaGreat.simplifyPoints
open Go.ChangeShapes Go.WideShapes Go.ChangeAt Go.RowKit
set_option linter.unusedVariables false
set_option linter.unusedSimpArgs false
theorem own : ownKnob Tryz.prog.godebug = none := by kernel_rfl
theorem laidOut : laidOutB Tryz.prog = true := by kernel_rfl
theorem opens0 : Opens Tryz.prog Ty.edge 31 := Opens.edge Tryz.underlying31 (by kernel_rfl) rfl rfl rfl rfl (by kernel_rfl) (by kernel_rfl) (by kernel_rfl) (by kernel_rfl) (Opens.pt Tryz.underlying28 (by kernel_rfl) rfl rfl (by kernel_rfl) (by kernel_rfl) Tryz.underlying3 Tryz.underlying3) (Opens.pt Tryz.underlying28 (by kernel_rfl) rfl rfl (by kernel_rfl) (by kernel_rfl) Tryz.underlying3 Tryz.underlying3) (Opens.slice Tryz.underlying29 (by kernel_rfl) (Opens.int Tryz.underlying3)) (Opens.slice Tryz.underlying29 (by kernel_rfl) (Opens.int Tryz.underlying3))
set_option maxRecDepth 100000 in
theorem lifted (os : Os) (started : os.Started) (H : Type) (enc : TypeId × Value → H) :
  ReturnsInHanded {} Tryz.checked os 3 .any (Rows.simplifyPointsSpec.pre6 enc Tryz.prog Tryz.f3 Rows.simplifyPointsRow.domain false) (Rows.simplifyPointsSpec.post enc Tryz.prog Tryz.f3 false true false false) := by
 refine returnsInHanded_of_change_sized (C := Tryz.checked) own started (by kernel_rfl) Tryz.func3
  (ChangeSpec.witness6 (enc := enc) (C := Tryz.checked) false ⟨#[], #[.slice none 0 0], []⟩ 8 (by kernel_rfl) (by kernel_rfl) (by kernel_rfl) (by kernel_rfl)) ?_
 intro W base args ds gs before hval0 hW hcnd hsz0 _
 have hval : ∀ (j : Nat) t v, Tryz.f3.params[j]? = some t → args[j]? = some v → Value.okWide Tryz.prog W .any base t v := hval0
 have hW' := hW
 obtain ⟨p, q, hA0, hV, rfl, hfz, hnd⟩ := hW
 have hA : DataW.TrodAll enc Tryz.prog W 0 (fun _ => true) true Tryz.f3.params.toList args.toList ds p := hA0
 rw [Tryz.params3] at hA hval
 obtain ⟨v0, vs0, d0, ds0, p0, q0, hargs, rfl, rfl, h0, r0⟩ := trodAll_cons hA
 obtain ⟨rfl, rfl, rfl⟩ := trodAll_nil r0
 obtain rfl : args = #[v0] := by cases args; simp_all
 obtain ⟨rfl, rfl⟩ := trodVars_none hV
 obtain ⟨a0, len0, cap0, rfl⟩ := okWide_slice Tryz.underlying22 (hval 0 22 v0 rfl rfl)
 have k0 := h0
 have lt0 : ∀ x ∈ p0, x.block < W.heap.size := by obtain ⟨m, hm⟩ := k0; exact DataW.trod_lt m _ _ _ hm
 obtain ⟨xs0, hn0, hr0⟩ := Opens.arg (T := Ty.edge) Tryz.underlying22 (by kernel_rfl) opens0 h0
 clear hA0 hval0 hsz0
 refine (law25_SimplifyPoints xs0 _ _ _ W hr0 hn0).mono fun e W' ⟨he, bel⟩ => ?_
 subst he
 exact ⟨_, rfl, _, _, _, [], _, [], hW', trodAll_mk1 (shut_bool Tryz.underlying4 _), (trodAll_cons_mk (Below.trod laidOut (by kernel_rfl) (of_decide_eq_true (by kernel_rfl)) k0 bel lt0) trodAll_mk0), rfl, bel.frame _, fun h => by cases h⟩
theorem over : Rows.simplifyPointsRow.holds Tryz.pinned (OpenSpec.ofChange Rows.simplifyPointsSpec) :=
 OpenClaim.holds_of_wide 3 Tryz.f3 rfl rfl rfl rfl rfl rfl rfl ⟨rfl, rfl, rfl, rfl, rfl⟩ rfl rfl rfl rfl rfl (by kernel_rfl) Tryz.func3 (by kernel_rfl)
  (of_decide_eq_true (by kernel_rfl)) (by unfold Func.isWrapper; first | (rw [if_pos (by decide +kernel)]; kernel_rfl) | (rw [if_neg (by decide +kernel)]; exact ⟨rfl, rfl⟩))
  (fun os started H enc _ => lifted os started H enc)
theorem proved : Rows.SimplifyPointsSaid := over
#print axioms proved
end Go.Proofs.YtaeflnbjeaoapaaGreat.simplifyPoints
namespace Go.Proofs.YtaeflnbjeaoapaaGreat
theorem simplifyPoints_holds : Rows.SimplifyPointsSaid := simplifyPoints.proved
end Go.Proofs.YtaeflnbjeaoapaaGreat
end
