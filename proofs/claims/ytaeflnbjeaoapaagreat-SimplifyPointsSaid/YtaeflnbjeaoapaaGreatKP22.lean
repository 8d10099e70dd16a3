/- Contracts of ref25.less and ref25.points. Contract of ref24.Same. Contract of ref24.rising. -/
import Derived.Test.YtaeflnbjeaoapaaGreatKPW
import Derived.Test.YtaeflnbjeaoapaaGreatKP21
import Derived.Test.YtaeflnbjeaoapaaGreatKP20
import Derived.Test.YtaeflnbjeaoapaaGreatKP15
import Derived.Test.YtaeflnbjeaoapaaGreatKP4
import Derived.Test.YtaeflnbjeaoapaaGreatKP1
namespace Go.Proofs.YtaeflnbjeaoapaaGreat
set_option linter.unusedVariables false
set_option linter.unusedSimpArgs false
section
open Go.RowKit Go.Proofs.YtaeflnbjeaoapaaGreatW.PrintLast

attribute [local go_sem high] eqPt eqSg
theorem ref25_less (ax ay bx by_ : Int) (w : World) :
  Calls Tryz.prog 38 #[.agg #[.int .i64 ax, .int .i64 ay], .agg #[.int .i64 bx, .int .i64 by_]] w fun e w' => e = .returned (.bool (lessB (ax, ay) (bx, by_))) ∧ Below w.heap.size w w' := by
 go_enter Tryz.func38, Tryz.ntmps38
 go_wp2
 all_goals go_ret
 all_goals refine ⟨ret_bool ?_, bq⟩
 all_goals simp [lessB, *]
 all_goals omega
def ptsAt (m : Msh) (i : Nat) : Pt := if i % 2 = 1 then (egD m (i / 2)).1.2 else (egD m (i / 2)).1.1
theorem ptsR_len : ∀ m : Msh, (ptsOf m).length = 2 * m.length
 | [] => rfl
 | e :: m => by
  have := ptsR_len m
  show (e.1.1 :: e.1.2 :: ptsOf m).length = _
  simp only [List.length_cons]; omega
theorem ptsOf_at : ∀ (m : Msh) (i : Nat), i < 2 * m.length → ptD (ptsOf m) i = ptsAt m i
 | [], i, h => absurd h (Nat.not_lt_zero _)
 | e :: m, 0, h => rfl
 | e :: m, 1, h => rfl
 | e :: m, i + 2, h => by
  have ih := ptsOf_at m i (by simp only [List.length_cons] at h; omega)
  have e1 : ptD (ptsOf (e :: m)) (i + 2) = ptD (ptsOf m) i := rfl
  rw [e1, ih]
  unfold ptsAt
  rw [show (i + 2) % 2 = i % 2 by omega, show (i + 2) / 2 = i / 2 + 1 by omega]
  rfl
def poTo (m : Msh) (i : Nat) : Pts := ((ptsOf m).take i).foldl addP []
theorem poTo_snoc (m : Msh) (i : Nat) (h : i < 2 * m.length) : poTo m (i + 1) = addP (poTo m i) (ptsAt m i) := by
 unfold poTo
 rw [take_snoc (ptsOf m) i (0, 0) (by rw [ptsR_len]; exact h), List.foldl_append]
 show addP _ (ptD (ptsOf m) i) = _
 rw [ptsOf_at m i h]
theorem poTo_inc (m : Msh) (i : Nat) : Inc lessB (poTo m i) := (fold_addP _ [] List.Pairwise.nil).1
theorem poTo_len (m : Msh) : ∀ i, (poTo m i).length ≤ i
 | 0 => Nat.le_refl _
 | i + 1 => by
  have ih := poTo_len m i
  by_cases h : i < 2 * m.length
  ·rw [poTo_snoc m i h]
   unfold addP
   split
   ·omega
   ·rw [(insZ_perm _ _).length_eq, List.length_cons]; omega
  ·have : poTo m (i + 1) = poTo m i := by unfold poTo; rw [List.take_of_length_le (by rw [ptsR_len]; omega), List.take_of_length_le (by rw [ptsR_len]; omega)]
   rw [this]; omega
theorem addP_in {acc : Pts} {p : Pt} {q : Nat} (hq : q < acc.length) (h : ptD acc q = p) : addP acc p = acc := by
 unfold addP; rw [if_pos (by rw [← h, ptD_eq hq]; exact List.getElem_mem _)]
theorem addP_ins {acc : Pts} {p : Pt} {q : Nat} (hi : Inc lessB acc) (hq : q ≤ acc.length) (h1 : ∀ j, j < q → lessB (ptD acc j) p = true) (h2 : q < acc.length → lessB (ptD acc q) p = false ∧ ptD acc q ≠ p) : addP acc p = acc.take q ++ p :: acc.drop q := by
 have hn : p ∉ acc := fun hp => by
  obtain ⟨j, hj, rfl⟩ := List.getElem_of_mem hp
  by_cases hjq : j < q
  ·have := h1 j hjq
   rw [ptD_eq hj, totB.irr] at this; cases this
  ·obtain ⟨h3, h4⟩ := h2 (by omega)
   by_cases e : j = q
   ·subst e; exact h4 (ptD_eq hj)
   ·have h5 := List.pairwise_iff_getElem.1 hi q j (by omega) hj (by omega)
    rw [ptD_eq (by omega), h5] at h3; cases h3
 unfold addP
 rw [if_neg hn]
 refine insZ_at (0, 0) hq (fun j hj => totB.asymm (h1 j hj)) (fun hlt => ?_)
 obtain ⟨h3, h4⟩ := h2 hlt
 have h3 : lessB (acc.getD q (0, 0)) p = false := h3
 have := totB.total (a := acc.getD q (0, 0)) (b := p) h4
 rw [h3] at this
 simpa using this
theorem sh_set (acc : Pts) (X Y : Pt) (r : Nat) (h : r ≤ acc.length) : (acc.take r ++ X :: acc.drop r).set r Y = acc.take r ++ Y :: acc.drop r := by
 have hl : (acc.take r).length = r := by rw [List.length_take]; omega
 rw [List.set_append_right _ _ (by omega), hl, Nat.sub_self]; rfl
theorem sh_at (acc : Pts) (X : Pt) (r : Nat) (h0 : 0 < r) (h : r ≤ acc.length) : ptD (acc.take r ++ X :: acc.drop r) (r - 1) = ptD acc (r - 1) := by
 have hl : (acc.take r).length = r := by rw [List.length_take]; omega
 unfold ptD
 rw [List.getD_eq_getElem?_getD, List.getD_eq_getElem?_getD, List.getElem?_append_left (by omega), List.getElem?_take, if_pos (by omega)]
theorem sh_step (acc : Pts) (r : Nat) (h0 : 0 < r) (h : r ≤ acc.length) : acc.take r ++ ptD acc (r - 1) :: acc.drop r = acc.take (r - 1) ++ ptD acc (r - 1) :: acc.drop (r - 1) := by
 obtain ⟨k, rfl⟩ : ∃ k, r = k + 1 := ⟨r - 1, by omega⟩
 simp only [Nat.add_sub_cancel]
 rw [take_snoc acc k (0, 0) (by omega), List.append_assoc]
 have e : acc.drop k = ptD acc k :: acc.drop (k + 1) := by rw [ptD_eq (by omega)]; exact List.drop_eq_getElem_cons (by omega)
 rw [e]; rfl
theorem sh_len (acc : Pts) (X : Pt) (r : Nat) (h : r ≤ acc.length) : (acc.take r ++ X :: acc.drop r).length = acc.length + 1 := by
 rw [List.length_append, List.length_cons, List.length_take, List.length_drop]; omega
theorem app_form {w : World} {base : Nat} {M : Nat → Prop} {v : Value} {acc : Pts} {p : Pt} (h : OwnR Ty.pt 28 base M w v (acc ++ [p])) : ∃ g c, v = .slice (some ⟨g, 0, none⟩) (acc.length + 1) c ∧ base ≤ g ∧ g < w.heap.size ∧ acc.length + 1 ≤ c := by
 rcases OwnR.forms h with ⟨_, hn⟩ | ⟨g, c, hv, h1, h2, h3, _⟩
 ·simp at hn
 ·rw [List.length_append, List.length_singleton] at hv h3
  exact ⟨g, c, hv, h1, h2, h3⟩
set_option maxRecDepth 100000 in
set_option maxHeartbeats 4000000 in
theorem ref25_points {ok : Nat → Prop} (m : Msh) (A : Option Addr) (n c : Nat) (w : World) (hr : Row Ty.edge ok w A m) (hn : n = m.length) (hlen : m.length ≤ 1000000) :
  Calls Tryz.prog 15 #[.slice A n c] w fun e w' => ∃ v, e = .returned v ∧ Own1 Ty.pt 28 w.heap.size w' v (pts25 m) ∧ Below w.heap.size w w' := by
 subst hn
 have HR := Lib.hid hr
 have hmx := hr.len
 clear hr
 have hw : IntKind.i64.wrap (2 * (m.length : Int)) = 2 * (m.length : Int) := IntWalk.i64_in _ (by omega)
 go_enter Tryz.func15, Tryz.ntmps15
 go_wp2
 go_loopw [3, 4] (fun v i wr => ∃ k : Nat, k ≤ 2 * m.length ∧ i = .int .i64 k ∧ Hid (Below w.heap.size w wr) ∧ Hid (Own1 Ty.pt 28 w.heap.size wr v (poTo m k))) (fun _ i _ => 2 * m.length - (intOf i).toNat)
 case atStart => exact ⟨0, Nat.zero_le _, rfl, Below.refl _ _, OwnR.nil _ _ _ _ _⟩
 case round =>
  obtain ⟨k, hk, rfl, HB, HO⟩ := hrel
  have hszw := HB.out.size
  by_cases hlt : k < 2 * m.length
  ·have q0 : decide ((k : Int) < 2 * (m.length : Int)) = true := decide_eq_true (by omega)
   have HSJ := Lib.hid (poTo_snoc m k hlt)
   have HINC := Lib.hid (poTo_inc m k)
   have hal := poTo_len m k
   have hhm : k / 2 < m.length := by omega
   obtain ⟨ad, A1, c1, A2, c2, rfl, hx0, hx1, hx2, hx3, hx4, hx5, hc1, hr1, hc2, hr2⟩ := (HR.out.below HB.out).edge_at (k / 2) hhm
   have HAT : Hid (ptsAt m k = if k % 2 = 1 then (egD m (k / 2)).1.2 else (egD m (k / 2)).1.1) := Lib.hid rfl
   clear hx4 hx5 hr1 hr2 hc1 hc2
   rw [HAT.out] at HSJ
   obtain ⟨e, he⟩ : ∃ e, e = egD m (k / 2) := ⟨_, rfl⟩
   rw [← he] at hx0 hx1 hx2 hx3 HSJ
   clear he HAT
   obtain ⟨⟨⟨a1, a2⟩, ⟨a3, a4⟩⟩, L, R⟩ := e
   simp only at hx0 hx1 hx2 hx3 HSJ
   generalize poTo m k = acc at *
   obtain ⟨A3, c3, rfl, hl3, hr3⟩ := HO.out.reads
   have HR3 := Lib.hid hr3
   clear hr3
   have HNB : Hid (∀ b, (Value.slice A3 acc.length c3).ownBlock = some b → b < wr.heap.size) := Lib.hid (fun b hb => (OwnR.lt HO.out b hb).2)
   by_cases hodd : k % 2 = 1
   ·have hrm : ((k : Int) % 2 == 1) = true := by simp; omega
    have hrm2 : (k % 2 == 1) = true := by simp; omega
    rw [if_pos hodd] at HSJ
    have z2 := cell_below (below_alloc (Below.refl _ _) (.cells #[.int .i64 a1, .int .i64 a2] 28)) hx2
    have z3 := cell_below (below_alloc (Below.refl _ _) (.cells #[.int .i64 a1, .int .i64 a2] 28)) hx3
    have z3' : (wr.alloc (.cells #[.int .i64 a1, .int .i64 a2] 28)).cell? ⟨(ad.add (k / 2 * 6)).block, (ad.add (k / 2 * 6)).off + 2 + 1, none⟩ = some (.int .i64 a4) := z3
    obtain ⟨W0, hW0⟩ : ∃ W0, W0 = wr.alloc (.cells #[.int .i64 a3, .int .i64 a4] 28) := ⟨_, rfl⟩
    have HP0 : Hid (W0.heap[wr.heap.size]? = some (.cells #[.int .i64 a3, .int .i64 a4] 28 (0, 0))) := Lib.hid (by rw [hW0]; exact heap_alloc_new _ _)
    have B0 : Hid (Below wr.heap.size wr W0) := Lib.hid (by rw [hW0]; exact below_alloc (Below.refl _ _) _)
    clear hodd
    go_wp2_with fail
    rw [← hW0]
    clear hW0 hx0 hx1 hx2 hx3 z2 z3 z3' hrm hrm2
    obtain ⟨wo, hwo⟩ : ∃ wo, wo = wr := ⟨wr, rfl⟩
    subst hwo
    have HB0 := Lib.hid (below_step HB.out B0.out)
    have HO0 := Lib.hid (Own1.below HO.out B0.out)
    have HR0 := Lib.hid (HR3.out.below B0.out)
    have hz0 := lt_of_block HP0.out
    clear HO HB B0 HR3
    go_loopw [6] (fun i wr => ∃ q : Nat, q ≤ acc.length ∧ i = .int .i64 q ∧ Hid (Below W0.heap.size W0 wr) ∧ Hid (∀ j, j < q → lessB (ptD acc j) (a3, a4) = true)) (fun i _ => acc.length - (intOf i).toNat)
    case atStart => exact ⟨0, Nat.zero_le _, rfl, Below.refl _ _, Lib.hid (fun j h => by omega)⟩
    case round =>
     obtain ⟨q, hq, rfl, HBq, HL⟩ := hrel
     have HPq := Lib.hid (blk_below HP0.out HBq.out)
     have HOq := Lib.hid (Own1.below HO0.out HBq.out)
     have hp0 := blk_cell HPq.out 0 rfl
     have hp1 := blk_cell HPq.out 1 rfl
     by_cases hql : q < acc.length
     ·obtain ⟨az, e, hv0, hv1⟩ := (HR0.out.below HBq.out).pt_at q hql
      cases e
      obtain ⟨y, hy⟩ : ∃ y, y = ptD acc q := ⟨_, rfl⟩
      have HY := Lib.hid hy
      rw [← hy] at hv0 hv1
      clear hy
      obtain ⟨y1, y2⟩ := y
      simp only at hv0 hv1
      cases hle : lessB (y1, y2) (a3, a4)
      ·go_wp2_with fail
       go_still_tail 10, (by kernel_rfl)
       change wpList _ _ _ _ _ wr.drew
       go_wp2_with fail
       (refine (ref25_less y1 y2 _ _ _).mono ?_; rintro e w1 ⟨rfl, hb1⟩)
       rw [hle]
       have B1 : Below wr.heap.size wr w1 := (by repeat (first | exact Below.refl _ _ | apply below_alloc | apply below_drewN | apply below_drew | (refine below_set2 ?_ ?_; (first | (simp; done) | (simp; omega))) | (refine below_step ?_ hb1)))
       have HP1 := Lib.hid (blk_below HPq.out B1)
       have HO1 := Lib.hid (Own1.below HOq.out B1)
       have HB1 := Lib.hid (below_step HBq.out B1)
       have hv0 := cell_below B1 hv0
       have hv1 := cell_below B1 hv1
       have hp0 := blk_cell HP1.out 0 rfl
       have hp1 := blk_cell HP1.out 1 rfl
       clear hb1 B1 HPq HOq HBq
       by_cases heq : ((y1, y2) : Pt) = (a3, a4)
       ·cases heq
        have HE : Hid (poTo m (k + 1) = acc) := Lib.hid (HSJ.out.trans (addP_in hql HY.out.symm))
        have HB8 := Lib.hid (below_step HB0.out HB1.out)
        clear hle HSJ
        go_wp2_with fail
        go_quiet (fail)
        go_wp2
        go_roundw
        case rel => exact ⟨k + 1, by omega, by go_num, below_drewN HB8.out _, by rw [HE.out]; exact Own1.below HO1.out (below_drewN (Below.refl _ _) _)⟩
        case measure => simp [intOf]; omega
       ·have qe : (decide (y1 = a3) && decide (y2 = a4)) = false := by simpa using heq
        have HI : Hid (poTo m (k + 1) = acc.take q ++ (a3, a4) :: acc.drop q) := Lib.hid (HSJ.out.trans (addP_ins HINC.out hq HL.out (fun _ => ⟨by rw [← HY.out]; exact hle, by rw [← HY.out]; exact heq⟩)))
        clear hle heq HSJ HL HY
        go_wp2_with fail
        go_quiet (fail)
        obtain ⟨W1, hW1⟩ : ∃ W1, W1 = w1.drewN nq := ⟨_, rfl⟩
        have HP1 : Hid (W1.heap[wo.heap.size]? = some (.cells #[.int .i64 a3, .int .i64 a4] 28 (0, 0))) := Lib.hid (by rw [hW1]; exact blk_below HP1.out (below_drewN (Below.refl _ _) _))
        have HO1 : Hid (Own1 Ty.pt 28 w.heap.size W1 _ acc) := Lib.hid (by rw [hW1]; exact Own1.below HO1.out (below_drewN (Below.refl _ _) _))
        have HB1 : Hid (Below W0.heap.size W0 W1) := Lib.hid (by rw [hW1]; exact below_drewN HB1.out _)
        rw [← hW1]
        clear hW1 hv0 hv1 hp0 hp1
        have HO5 := HO1.out
        have hlen5 : (acc.length + 1) * 16 ≤ 140737488355328 := by omega
        have hpz := lt_of_block HP1.out
        have hzb := HB1.out.size
        have x0 := blk_cell HP1.out 0 rfl
        have x1 := blk_cell HP1.out 1 rfl
        go_wp2_with (at_builtin; refine app_one Ty.pt (W := W1) w.heap.size rfl _ _ 25 28 _ 16 rfl Tryz.underlying25 infoPt rfl (by decide) (.slice (some az) acc.length c3) acc (a3, a4) [.int .i64 a3, .int .i64 a4] _ rfl rfl rfl rfl HO5 (by omega) hlen5 ?_; intro v4 w4 HO4 hg4 hat4; obtain ⟨g, c4, hv4, hgw, hgz, hgc⟩ := app_form HO4; have hv5 := hv4; subst hv4; have HP4 : Hid (w4.heap[wo.heap.size]? = some (.cells #[.int .i64 a3, .int .i64 a4] 28 (0, 0))) := Lib.hid ((hg4.block _ (lt_of_block HP1.out) (fun e => by have := HNB.out _ e.symm; omega)).trans HP1.out); have hgo : g ≠ wo.heap.size := (by rcases hat4 with h | ⟨b, h, h2⟩; (have := HNB.out g (by rw [← h]; rfl); omega); (have : some g = some b := h; injection this with this; omega)); have HB4 := Lib.hid (show Below w.heap.size w w4 from below_own (below_step HB0.out HB1.out) hg4 (fun b e => (OwnR.lt HO1.out b e).1)); have HO6 := Lib.hid (Own1.of HO4); clear HO4 hg4 hat4 HO5 x0 x1 HP1 HB1 HO1)
        have hw7 : IntKind.i64.wrap ((acc.length : Int) + 1 - 1) = (acc.length : Int) := by rw [show ((acc.length : Int) + 1 - 1) = (acc.length : Int) by omega]; exact IntWalk.i64_in _ (by omega)
        have HO7 : Hid (∃ X : Pt, Own1 Ty.pt 28 w.heap.size w4 (.slice (some ⟨g, 0, none⟩) (acc.length + 1) c4) (acc.take acc.length ++ X :: acc.drop acc.length)) := Lib.hid ⟨(a3, a4), by rw [List.take_length, List.drop_length]; exact HO6.out⟩
        clear HO6
        go_wp2_with fail
        go_loopw [7] (fun i wr => ∃ r : Nat, q ≤ r ∧ r ≤ acc.length ∧ i = .int .i64 r ∧ Hid (Below w.heap.size w wr) ∧ Hid (wr.heap[wo.heap.size]? = some (.cells #[.int .i64 a3, .int .i64 a4] 28 (0, 0))) ∧ Hid (∃ X : Pt, Own1 Ty.pt 28 w.heap.size wr (.slice (some ⟨g, 0, none⟩) (acc.length + 1) c4) (acc.take r ++ X :: acc.drop r))) (fun i _ => (intOf i).toNat)
        case atStart => exact ⟨acc.length, hq, Nat.le_refl _, rfl, HB4.out, HP4.out, HO7.out⟩
        case round =>
         obtain ⟨r, hqr, hr, rfl, HBr, HPr, HOr⟩ := hrel
         obtain ⟨X, hX⟩ := HOr.out
         have hlX := sh_len acc X r hr
         obtain ⟨hgB, hcm, _, cur, hcur, hcz⟩ := OwnR.blkB hX
         have hcs : cur.size = c4 * 2 := hcz
         have HX := Lib.hid hX
         clear hX HOr HP4 HB4 HO7
         by_cases hrq : q < r
         rotate_left
         ·have hrq2 : r ≤ q := by omega
          obtain rfl : r = q := Nat.le_antisymm hrq2 hqr
          obtain ⟨HO9, hk9⟩ := OwnR.setP HX.out hlX.symm r (by omega) (a3, a4) rfl rfl
          rw [sh_set acc X _ r hr] at HO9
          have HB9 := Lib.hid (below_kept HBr.out hk9 (fun b e => by omega))
          have HO9 := Lib.hid HO9
          have hc0 := blk_cell hcur (r * 2) (v := cur[r * 2]) (by simp)
          have hc1 := blk_cell hcur (r * 2 + 1) (v := cur[r * 2 + 1]) (by simp)
          have hf0 := blk_free hcur (r * 2)
          have hf1 := blk_free hcur (r * 2 + 1)
          have x0 := blk_cell HPr.out 0 rfl
          have x1 := blk_cell HPr.out 1 rfl
          have ht4 : (r : Int) < (acc.length : Int) + 1 := by omega
          have q7 : decide ((r : Int) < (r : Int)) = false := decide_eq_false (by omega)
          clear HX hk9 hcur HBr
          go_wp2
          go_roundw
          case rel => exact ⟨k + 1, by omega, by go_num, HB9.out, by rw [HI.out]; exact HO9.out⟩
          case measure => simp [intOf]; omega
         ·try (exfalso; omega)
          all_goals
           obtain ⟨A9, c9, e9, _, hr9⟩ := OwnR.rowB pt_flat HX.out (fun _ => True) (fun _ _ => trivial)
           have hA9 : A9 = some ⟨g, 0, none⟩ := by injection e9 with e9; exact e9.symm
           subst hA9
           obtain ⟨az, e, hs0, hs1⟩ := hr9.pt_at (r - 1) (by omega)
           cases e
           rw [sh_at acc X r (by omega) hr] at hs0 hs1
           rw [add_at, Nat.zero_add] at hs0 hs1
           obtain ⟨HO9, hk9⟩ := OwnR.setP HX.out hlX.symm r (by omega) (ptD acc (r - 1)) rfl rfl
           rw [sh_set acc X _ r hr, sh_step acc r (by omega) hr] at HO9
           have HB9 := Lib.hid (below_kept HBr.out hk9 (fun b e => by omega))
           have HP9 := Lib.hid ((hk9.block _ (lt_of_block HPr.out) (fun e => hgo e.symm)).trans HPr.out)
           have HO9 := Lib.hid HO9
           have hc0 := blk_cell hcur (r * 2) (v := cur[r * 2]) (by simp)
           have hc1 := blk_cell hcur (r * 2 + 1) (v := cur[r * 2 + 1]) (by simp)
           have hf0 := blk_free hcur (r * 2)
           have hf1 := blk_free hcur (r * 2 + 1)
           have hwr : IntKind.i64.wrap ((r : Int) - 1) = (r : Int) - 1 := IntWalk.i64_in _ (by omega)
           have ht1 : (0 : Int) ≤ (r : Int) - 1 := by omega
           have ht2 : (r : Int) - 1 < (acc.length : Int) + 1 := by omega
           have ht3 : ((r : Int) - 1).toNat = r - 1 := by omega
           have ht4 : (r : Int) < (acc.length : Int) + 1 := by omega
           have q7 : decide ((q : Int) < (r : Int)) = true := decide_eq_true (by omega)
           generalize ptD acc (r - 1) = yy at *
           clear HX hk9 hr9 hcur e9 HBr HPr
           go_wp2_with fail
           go_roundw
           case rel => exact ⟨r - 1, by omega, by omega, by rw [show ((r : Int) - 1) = ((r - 1 : Nat) : Int) by omega], HB9.out, HP9.out, ⟨yy, HO9.out⟩⟩
           case measure => simp [intOf]; omega
      ·go_wp2_with fail
       go_still_tail 10, (by kernel_rfl)
       change wpList _ _ _ _ _ wr.drew
       go_wp2_with fail
       (refine (ref25_less y1 y2 _ _ _).mono ?_; rintro e w1 ⟨rfl, hb1⟩)
       rw [hle]
       have B1 : Below wr.heap.size wr w1 := (by repeat (first | exact Below.refl _ _ | apply below_alloc | apply below_drewN | apply below_drew | (refine below_set2 ?_ ?_; (first | (simp; done) | (simp; omega))) | (refine below_step ?_ hb1)))
       have HB1 := Lib.hid (below_step HBq.out B1)
       have HL2 : Hid (∀ j, j < q + 1 → lessB (ptD acc j) (a3, a4) = true) := Lib.hid (fun j hj => if e : j = q then by rw [e, ← HY.out]; exact hle else HL.out j (by omega))
       clear hb1 B1 HPq HOq HBq hle HL hv0 hv1 hp0 hp1
       go_wp2
       go_roundw
       case rel => exact ⟨q + 1, by omega, by go_num, HB1.out, HL2.out⟩
       case measure => simp [intOf]; omega
     ·have HI : Hid (poTo m (k + 1) = acc.take q ++ (a3, a4) :: acc.drop q) := Lib.hid (HSJ.out.trans (addP_ins HINC.out hq HL.out (fun h => absurd h hql)))
      have q3 : decide ((q : Int) < (acc.length : Int)) = false := decide_eq_false (by omega)
      clear HL HSJ
      go_wp2_with fail
      go_quiet (fail)
      obtain ⟨W5, hW5⟩ : ∃ W5, W5 = wr.drewN nq := ⟨_, rfl⟩
      have HP5 : Hid (W5.heap[wo.heap.size]? = some (.cells #[.int .i64 a3, .int .i64 a4] 28 (0, 0))) := Lib.hid (by rw [hW5]; exact blk_below HPq.out (below_drewN (Below.refl _ _) _))
      have HO5 : Hid (Own1 Ty.pt 28 w.heap.size W5 _ acc) := Lib.hid (by rw [hW5]; exact Own1.below HOq.out (below_drewN (Below.refl _ _) _))
      have HB5 : Hid (Below W0.heap.size W0 W5) := Lib.hid (by rw [hW5]; exact below_drewN HBq.out _)
      rw [← hW5]
      clear hW5 hp0 hp1 HPq HOq HBq
      go_wp2_with fail
      go_quiet (fail)
      obtain ⟨W1, hW1⟩ : ∃ W1, W1 = W5.drewN nq := ⟨_, rfl⟩
      have HP1 : Hid (W1.heap[wo.heap.size]? = some (.cells #[.int .i64 a3, .int .i64 a4] 28 (0, 0))) := Lib.hid (by rw [hW1]; exact blk_below HP5.out (below_drewN (Below.refl _ _) _))
      have HO1 : Hid (Own1 Ty.pt 28 w.heap.size W1 _ acc) := Lib.hid (by rw [hW1]; exact Own1.below HO5.out (below_drewN (Below.refl _ _) _))
      have HB1 : Hid (Below W0.heap.size W0 W1) := Lib.hid (by rw [hW1]; exact below_drewN HB5.out _)
      rw [← hW1]
      clear hW1 HP5 HO5 HB5
      have HO5 := HO1.out
      have hlen5 : (acc.length + 1) * 16 ≤ 140737488355328 := by omega
      have hpz := lt_of_block HP1.out
      have hzb := HB1.out.size
      have x0 := blk_cell HP1.out 0 rfl
      have x1 := blk_cell HP1.out 1 rfl
      go_wp2_with (at_builtin; refine app_one Ty.pt (W := W1) w.heap.size rfl _ _ 25 28 _ 16 rfl Tryz.underlying25 infoPt rfl (by decide) (.slice A3 acc.length c3) acc (a3, a4) [.int .i64 a3, .int .i64 a4] _ rfl rfl rfl rfl HO5 (by omega) hlen5 ?_; intro v4 w4 HO4 hg4 hat4; obtain ⟨g, c4, hv4, hgw, hgz, hgc⟩ := app_form HO4; have hv5 := hv4; subst hv4; have HP4 : Hid (w4.heap[wo.heap.size]? = some (.cells #[.int .i64 a3, .int .i64 a4] 28 (0, 0))) := Lib.hid ((hg4.block _ (lt_of_block HP1.out) (fun e => by have := HNB.out _ e.symm; omega)).trans HP1.out); have hgo : g ≠ wo.heap.size := (by rcases hat4 with h | ⟨b, h, h2⟩; (have := HNB.out g (by rw [← h]; rfl); omega); (have : some g = some b := h; injection this with this; omega)); have HB4 := Lib.hid (show Below w.heap.size w w4 from below_own (below_step HB0.out HB1.out) hg4 (fun b e => (OwnR.lt HO1.out b e).1)); have HO6 := Lib.hid (Own1.of HO4); clear HO4 hg4 hat4 HO5 x0 x1 HP1 HB1 HO1)
      have hw7 : IntKind.i64.wrap ((acc.length : Int) + 1 - 1) = (acc.length : Int) := by rw [show ((acc.length : Int) + 1 - 1) = (acc.length : Int) by omega]; exact IntWalk.i64_in _ (by omega)
      have HO7 : Hid (∃ X : Pt, Own1 Ty.pt 28 w.heap.size w4 (.slice (some ⟨g, 0, none⟩) (acc.length + 1) c4) (acc.take acc.length ++ X :: acc.drop acc.length)) := Lib.hid ⟨(a3, a4), by rw [List.take_length, List.drop_length]; exact HO6.out⟩
      clear HO6
      go_wp2_with fail
      go_loopw [7] (fun i wr => ∃ r : Nat, q ≤ r ∧ r ≤ acc.length ∧ i = .int .i64 r ∧ Hid (Below w.heap.size w wr) ∧ Hid (wr.heap[wo.heap.size]? = some (.cells #[.int .i64 a3, .int .i64 a4] 28 (0, 0))) ∧ Hid (∃ X : Pt, Own1 Ty.pt 28 w.heap.size wr (.slice (some ⟨g, 0, none⟩) (acc.length + 1) c4) (acc.take r ++ X :: acc.drop r))) (fun i _ => (intOf i).toNat)
      case atStart => exact ⟨acc.length, hq, Nat.le_refl _, rfl, HB4.out, HP4.out, HO7.out⟩
      case round =>
       obtain ⟨r, hqr, hr, rfl, HBr, HPr, HOr⟩ := hrel
       obtain ⟨X, hX⟩ := HOr.out
       have hlX := sh_len acc X r hr
       obtain ⟨hgB, hcm, _, cur, hcur, hcz⟩ := OwnR.blkB hX
       have hcs : cur.size = c4 * 2 := hcz
       have HX := Lib.hid hX
       clear hX HOr HP4 HB4 HO7
       by_cases hrq : q < r
       rotate_left
       ·have hrq2 : r ≤ q := by omega
        obtain rfl : r = q := Nat.le_antisymm hrq2 hqr
        obtain ⟨HO9, hk9⟩ := OwnR.setP HX.out hlX.symm r (by omega) (a3, a4) rfl rfl
        rw [sh_set acc X _ r hr] at HO9
        have HB9 := Lib.hid (below_kept HBr.out hk9 (fun b e => by omega))
        have HO9 := Lib.hid HO9
        have hc0 := blk_cell hcur (r * 2) (v := cur[r * 2]) (by simp)
        have hc1 := blk_cell hcur (r * 2 + 1) (v := cur[r * 2 + 1]) (by simp)
        have hf0 := blk_free hcur (r * 2)
        have hf1 := blk_free hcur (r * 2 + 1)
        have x0 := blk_cell HPr.out 0 rfl
        have x1 := blk_cell HPr.out 1 rfl
        have ht4 : (r : Int) < (acc.length : Int) + 1 := by omega
        have q7 : decide ((r : Int) < (r : Int)) = false := decide_eq_false (by omega)
        clear HX hk9 hcur HBr
        go_wp2
        go_roundw
        case rel => exact ⟨k + 1, by omega, by go_num, HB9.out, by rw [HI.out]; exact HO9.out⟩
        case measure => simp [intOf]; omega
       ·try (exfalso; omega)
        all_goals
         obtain ⟨A9, c9, e9, _, hr9⟩ := OwnR.rowB pt_flat HX.out (fun _ => True) (fun _ _ => trivial)
         have hA9 : A9 = some ⟨g, 0, none⟩ := by injection e9 with e9; exact e9.symm
         subst hA9
         obtain ⟨az, e, hs0, hs1⟩ := hr9.pt_at (r - 1) (by omega)
         cases e
         rw [sh_at acc X r (by omega) hr] at hs0 hs1
         rw [add_at, Nat.zero_add] at hs0 hs1
         obtain ⟨HO9, hk9⟩ := OwnR.setP HX.out hlX.symm r (by omega) (ptD acc (r - 1)) rfl rfl
         rw [sh_set acc X _ r hr, sh_step acc r (by omega) hr] at HO9
         have HB9 := Lib.hid (below_kept HBr.out hk9 (fun b e => by omega))
         have HP9 := Lib.hid ((hk9.block _ (lt_of_block HPr.out) (fun e => hgo e.symm)).trans HPr.out)
         have HO9 := Lib.hid HO9
         have hc0 := blk_cell hcur (r * 2) (v := cur[r * 2]) (by simp)
         have hc1 := blk_cell hcur (r * 2 + 1) (v := cur[r * 2 + 1]) (by simp)
         have hf0 := blk_free hcur (r * 2)
         have hf1 := blk_free hcur (r * 2 + 1)
         have hwr : IntKind.i64.wrap ((r : Int) - 1) = (r : Int) - 1 := IntWalk.i64_in _ (by omega)
         have ht1 : (0 : Int) ≤ (r : Int) - 1 := by omega
         have ht2 : (r : Int) - 1 < (acc.length : Int) + 1 := by omega
         have ht3 : ((r : Int) - 1).toNat = r - 1 := by omega
         have ht4 : (r : Int) < (acc.length : Int) + 1 := by omega
         have q7 : decide ((q : Int) < (r : Int)) = true := decide_eq_true (by omega)
         generalize ptD acc (r - 1) = yy at *
         clear HX hk9 hr9 hcur e9 HBr HPr
         go_wp2_with fail
         go_roundw
         case rel => exact ⟨r - 1, by omega, by omega, by rw [show ((r : Int) - 1) = ((r - 1 : Nat) : Int) by omega], HB9.out, HP9.out, ⟨yy, HO9.out⟩⟩
         case measure => simp [intOf]; omega
   ·have hrm : ((k : Int) % 2 == 1) = false := by simp; omega
    have hrm2 : (k % 2 == 1) = false := by simp; omega
    rw [if_neg hodd] at HSJ
    obtain ⟨W0, hW0⟩ : ∃ W0, W0 = wr.alloc (.cells #[.int .i64 a1, .int .i64 a2] 28) := ⟨_, rfl⟩
    have HP0 : Hid (W0.heap[wr.heap.size]? = some (.cells #[.int .i64 a1, .int .i64 a2] 28 (0, 0))) := Lib.hid (by rw [hW0]; exact heap_alloc_new _ _)
    have B0 : Hid (Below wr.heap.size wr W0) := Lib.hid (by rw [hW0]; exact below_alloc (Below.refl _ _) _)
    clear hodd
    go_wp2_with fail
    rw [← hW0]
    clear hW0 hx0 hx1 hx2 hx3 hrm hrm2
    obtain ⟨wo, hwo⟩ : ∃ wo, wo = wr := ⟨wr, rfl⟩
    subst hwo
    have HB0 := Lib.hid (below_step HB.out B0.out)
    have HO0 := Lib.hid (Own1.below HO.out B0.out)
    have HR0 := Lib.hid (HR3.out.below B0.out)
    have hz0 := lt_of_block HP0.out
    clear HO HB B0 HR3
    go_loopw [6] (fun i wr => ∃ q : Nat, q ≤ acc.length ∧ i = .int .i64 q ∧ Hid (Below W0.heap.size W0 wr) ∧ Hid (∀ j, j < q → lessB (ptD acc j) (a1, a2) = true)) (fun i _ => acc.length - (intOf i).toNat)
    case atStart => exact ⟨0, Nat.zero_le _, rfl, Below.refl _ _, Lib.hid (fun j h => by omega)⟩
    case round =>
     obtain ⟨q, hq, rfl, HBq, HL⟩ := hrel
     have HPq := Lib.hid (blk_below HP0.out HBq.out)
     have HOq := Lib.hid (Own1.below HO0.out HBq.out)
     have hp0 := blk_cell HPq.out 0 rfl
     have hp1 := blk_cell HPq.out 1 rfl
     by_cases hql : q < acc.length
     ·obtain ⟨az, e, hv0, hv1⟩ := (HR0.out.below HBq.out).pt_at q hql
      cases e
      obtain ⟨y, hy⟩ : ∃ y, y = ptD acc q := ⟨_, rfl⟩
      have HY := Lib.hid hy
      rw [← hy] at hv0 hv1
      clear hy
      obtain ⟨y1, y2⟩ := y
      simp only at hv0 hv1
      cases hle : lessB (y1, y2) (a1, a2)
      ·go_wp2_with fail
       go_still_tail 10, (by kernel_rfl)
       change wpList _ _ _ _ _ wr.drew
       go_wp2_with fail
       (refine (ref25_less y1 y2 _ _ _).mono ?_; rintro e w1 ⟨rfl, hb1⟩)
       rw [hle]
       have B1 : Below wr.heap.size wr w1 := (by repeat (first | exact Below.refl _ _ | apply below_alloc | apply below_drewN | apply below_drew | (refine below_set2 ?_ ?_; (first | (simp; done) | (simp; omega))) | (refine below_step ?_ hb1)))
       have HP1 := Lib.hid (blk_below HPq.out B1)
       have HO1 := Lib.hid (Own1.below HOq.out B1)
       have HB1 := Lib.hid (below_step HBq.out B1)
       have hv0 := cell_below B1 hv0
       have hv1 := cell_below B1 hv1
       have hp0 := blk_cell HP1.out 0 rfl
       have hp1 := blk_cell HP1.out 1 rfl
       clear hb1 B1 HPq HOq HBq
       by_cases heq : ((y1, y2) : Pt) = (a1, a2)
       ·cases heq
        have HE : Hid (poTo m (k + 1) = acc) := Lib.hid (HSJ.out.trans (addP_in hql HY.out.symm))
        have HB8 := Lib.hid (below_step HB0.out HB1.out)
        clear hle HSJ
        go_wp2_with fail
        go_quiet (fail)
        go_wp2
        go_roundw
        case rel => exact ⟨k + 1, by omega, by go_num, below_drewN HB8.out _, by rw [HE.out]; exact Own1.below HO1.out (below_drewN (Below.refl _ _) _)⟩
        case measure => simp [intOf]; omega
       ·have qe : (decide (y1 = a1) && decide (y2 = a2)) = false := by simpa using heq
        have HI : Hid (poTo m (k + 1) = acc.take q ++ (a1, a2) :: acc.drop q) := Lib.hid (HSJ.out.trans (addP_ins HINC.out hq HL.out (fun _ => ⟨by rw [← HY.out]; exact hle, by rw [← HY.out]; exact heq⟩)))
        clear hle heq HSJ HL HY
        go_wp2_with fail
        go_quiet (fail)
        obtain ⟨W1, hW1⟩ : ∃ W1, W1 = w1.drewN nq := ⟨_, rfl⟩
        have HP1 : Hid (W1.heap[wo.heap.size]? = some (.cells #[.int .i64 a1, .int .i64 a2] 28 (0, 0))) := Lib.hid (by rw [hW1]; exact blk_below HP1.out (below_drewN (Below.refl _ _) _))
        have HO1 : Hid (Own1 Ty.pt 28 w.heap.size W1 _ acc) := Lib.hid (by rw [hW1]; exact Own1.below HO1.out (below_drewN (Below.refl _ _) _))
        have HB1 : Hid (Below W0.heap.size W0 W1) := Lib.hid (by rw [hW1]; exact below_drewN HB1.out _)
        rw [← hW1]
        clear hW1 hv0 hv1 hp0 hp1
        have HO5 := HO1.out
        have hlen5 : (acc.length + 1) * 16 ≤ 140737488355328 := by omega
        have hpz := lt_of_block HP1.out
        have hzb := HB1.out.size
        have x0 := blk_cell HP1.out 0 rfl
        have x1 := blk_cell HP1.out 1 rfl
        go_wp2_with (at_builtin; refine app_one Ty.pt (W := W1) w.heap.size rfl _ _ 25 28 _ 16 rfl Tryz.underlying25 infoPt rfl (by decide) (.slice (some az) acc.length c3) acc (a1, a2) [.int .i64 a1, .int .i64 a2] _ rfl rfl rfl rfl HO5 (by omega) hlen5 ?_; intro v4 w4 HO4 hg4 hat4; obtain ⟨g, c4, hv4, hgw, hgz, hgc⟩ := app_form HO4; have hv5 := hv4; subst hv4; have HP4 : Hid (w4.heap[wo.heap.size]? = some (.cells #[.int .i64 a1, .int .i64 a2] 28 (0, 0))) := Lib.hid ((hg4.block _ (lt_of_block HP1.out) (fun e => by have := HNB.out _ e.symm; omega)).trans HP1.out); have hgo : g ≠ wo.heap.size := (by rcases hat4 with h | ⟨b, h, h2⟩; (have := HNB.out g (by rw [← h]; rfl); omega); (have : some g = some b := h; injection this with this; omega)); have HB4 := Lib.hid (show Below w.heap.size w w4 from below_own (below_step HB0.out HB1.out) hg4 (fun b e => (OwnR.lt HO1.out b e).1)); have HO6 := Lib.hid (Own1.of HO4); clear HO4 hg4 hat4 HO5 x0 x1 HP1 HB1 HO1)
        have hw7 : IntKind.i64.wrap ((acc.length : Int) + 1 - 1) = (acc.length : Int) := by rw [show ((acc.length : Int) + 1 - 1) = (acc.length : Int) by omega]; exact IntWalk.i64_in _ (by omega)
        have HO7 : Hid (∃ X : Pt, Own1 Ty.pt 28 w.heap.size w4 (.slice (some ⟨g, 0, none⟩) (acc.length + 1) c4) (acc.take acc.length ++ X :: acc.drop acc.length)) := Lib.hid ⟨(a1, a2), by rw [List.take_length, List.drop_length]; exact HO6.out⟩
        clear HO6
        go_wp2_with fail
        go_loopw [7] (fun i wr => ∃ r : Nat, q ≤ r ∧ r ≤ acc.length ∧ i = .int .i64 r ∧ Hid (Below w.heap.size w wr) ∧ Hid (wr.heap[wo.heap.size]? = some (.cells #[.int .i64 a1, .int .i64 a2] 28 (0, 0))) ∧ Hid (∃ X : Pt, Own1 Ty.pt 28 w.heap.size wr (.slice (some ⟨g, 0, none⟩) (acc.length + 1) c4) (acc.take r ++ X :: acc.drop r))) (fun i _ => (intOf i).toNat)
        case atStart => exact ⟨acc.length, hq, Nat.le_refl _, rfl, HB4.out, HP4.out, HO7.out⟩
        case round =>
         obtain ⟨r, hqr, hr, rfl, HBr, HPr, HOr⟩ := hrel
         obtain ⟨X, hX⟩ := HOr.out
         have hlX := sh_len acc X r hr
         obtain ⟨hgB, hcm, _, cur, hcur, hcz⟩ := OwnR.blkB hX
         have hcs : cur.size = c4 * 2 := hcz
         have HX := Lib.hid hX
         clear hX HOr HP4 HB4 HO7
         by_cases hrq : q < r
         rotate_left
         ·have hrq2 : r ≤ q := by omega
          obtain rfl : r = q := Nat.le_antisymm hrq2 hqr
          obtain ⟨HO9, hk9⟩ := OwnR.setP HX.out hlX.symm r (by omega) (a1, a2) rfl rfl
          rw [sh_set acc X _ r hr] at HO9
          have HB9 := Lib.hid (below_kept HBr.out hk9 (fun b e => by omega))
          have HO9 := Lib.hid HO9
          have hc0 := blk_cell hcur (r * 2) (v := cur[r * 2]) (by simp)
          have hc1 := blk_cell hcur (r * 2 + 1) (v := cur[r * 2 + 1]) (by simp)
          have hf0 := blk_free hcur (r * 2)
          have hf1 := blk_free hcur (r * 2 + 1)
          have x0 := blk_cell HPr.out 0 rfl
          have x1 := blk_cell HPr.out 1 rfl
          have ht4 : (r : Int) < (acc.length : Int) + 1 := by omega
          have q7 : decide ((r : Int) < (r : Int)) = false := decide_eq_false (by omega)
          clear HX hk9 hcur HBr
          go_wp2
          go_roundw
          case rel => exact ⟨k + 1, by omega, by go_num, HB9.out, by rw [HI.out]; exact HO9.out⟩
          case measure => simp [intOf]; omega
         ·try (exfalso; omega)
          all_goals
           obtain ⟨A9, c9, e9, _, hr9⟩ := OwnR.rowB pt_flat HX.out (fun _ => True) (fun _ _ => trivial)
           have hA9 : A9 = some ⟨g, 0, none⟩ := by injection e9 with e9; exact e9.symm
           subst hA9
           obtain ⟨az, e, hs0, hs1⟩ := hr9.pt_at (r - 1) (by omega)
           cases e
           rw [sh_at acc X r (by omega) hr] at hs0 hs1
           rw [add_at, Nat.zero_add] at hs0 hs1
           obtain ⟨HO9, hk9⟩ := OwnR.setP HX.out hlX.symm r (by omega) (ptD acc (r - 1)) rfl rfl
           rw [sh_set acc X _ r hr, sh_step acc r (by omega) hr] at HO9
           have HB9 := Lib.hid (below_kept HBr.out hk9 (fun b e => by omega))
           have HP9 := Lib.hid ((hk9.block _ (lt_of_block HPr.out) (fun e => hgo e.symm)).trans HPr.out)
           have HO9 := Lib.hid HO9
           have hc0 := blk_cell hcur (r * 2) (v := cur[r * 2]) (by simp)
           have hc1 := blk_cell hcur (r * 2 + 1) (v := cur[r * 2 + 1]) (by simp)
           have hf0 := blk_free hcur (r * 2)
           have hf1 := blk_free hcur (r * 2 + 1)
           have hwr : IntKind.i64.wrap ((r : Int) - 1) = (r : Int) - 1 := IntWalk.i64_in _ (by omega)
           have ht1 : (0 : Int) ≤ (r : Int) - 1 := by omega
           have ht2 : (r : Int) - 1 < (acc.length : Int) + 1 := by omega
           have ht3 : ((r : Int) - 1).toNat = r - 1 := by omega
           have ht4 : (r : Int) < (acc.length : Int) + 1 := by omega
           have q7 : decide ((q : Int) < (r : Int)) = true := decide_eq_true (by omega)
           generalize ptD acc (r - 1) = yy at *
           clear HX hk9 hr9 hcur e9 HBr HPr
           go_wp2_with fail
           go_roundw
           case rel => exact ⟨r - 1, by omega, by omega, by rw [show ((r : Int) - 1) = ((r - 1 : Nat) : Int) by omega], HB9.out, HP9.out, ⟨yy, HO9.out⟩⟩
           case measure => simp [intOf]; omega
      ·go_wp2_with fail
       go_still_tail 10, (by kernel_rfl)
       change wpList _ _ _ _ _ wr.drew
       go_wp2_with fail
       (refine (ref25_less y1 y2 _ _ _).mono ?_; rintro e w1 ⟨rfl, hb1⟩)
       rw [hle]
       have B1 : Below wr.heap.size wr w1 := (by repeat (first | exact Below.refl _ _ | apply below_alloc | apply below_drewN | apply below_drew | (refine below_set2 ?_ ?_; (first | (simp; done) | (simp; omega))) | (refine below_step ?_ hb1)))
       have HB1 := Lib.hid (below_step HBq.out B1)
       have HL2 : Hid (∀ j, j < q + 1 → lessB (ptD acc j) (a1, a2) = true) := Lib.hid (fun j hj => if e : j = q then by rw [e, ← HY.out]; exact hle else HL.out j (by omega))
       clear hb1 B1 HPq HOq HBq hle HL hv0 hv1 hp0 hp1
       go_wp2
       go_roundw
       case rel => exact ⟨q + 1, by omega, by go_num, HB1.out, HL2.out⟩
       case measure => simp [intOf]; omega
     ·have HI : Hid (poTo m (k + 1) = acc.take q ++ (a1, a2) :: acc.drop q) := Lib.hid (HSJ.out.trans (addP_ins HINC.out hq HL.out (fun h => absurd h hql)))
      have q3 : decide ((q : Int) < (acc.length : Int)) = false := decide_eq_false (by omega)
      clear HL HSJ
      go_wp2_with fail
      go_quiet (fail)
      obtain ⟨W5, hW5⟩ : ∃ W5, W5 = wr.drewN nq := ⟨_, rfl⟩
      have HP5 : Hid (W5.heap[wo.heap.size]? = some (.cells #[.int .i64 a1, .int .i64 a2] 28 (0, 0))) := Lib.hid (by rw [hW5]; exact blk_below HPq.out (below_drewN (Below.refl _ _) _))
      have HO5 : Hid (Own1 Ty.pt 28 w.heap.size W5 _ acc) := Lib.hid (by rw [hW5]; exact Own1.below HOq.out (below_drewN (Below.refl _ _) _))
      have HB5 : Hid (Below W0.heap.size W0 W5) := Lib.hid (by rw [hW5]; exact below_drewN HBq.out _)
      rw [← hW5]
      clear hW5 hp0 hp1 HPq HOq HBq
      go_wp2_with fail
      go_quiet (fail)
      obtain ⟨W1, hW1⟩ : ∃ W1, W1 = W5.drewN nq := ⟨_, rfl⟩
      have HP1 : Hid (W1.heap[wo.heap.size]? = some (.cells #[.int .i64 a1, .int .i64 a2] 28 (0, 0))) := Lib.hid (by rw [hW1]; exact blk_below HP5.out (below_drewN (Below.refl _ _) _))
      have HO1 : Hid (Own1 Ty.pt 28 w.heap.size W1 _ acc) := Lib.hid (by rw [hW1]; exact Own1.below HO5.out (below_drewN (Below.refl _ _) _))
      have HB1 : Hid (Below W0.heap.size W0 W1) := Lib.hid (by rw [hW1]; exact below_drewN HB5.out _)
      rw [← hW1]
      clear hW1 HP5 HO5 HB5
      have HO5 := HO1.out
      have hlen5 : (acc.length + 1) * 16 ≤ 140737488355328 := by omega
      have hpz := lt_of_block HP1.out
      have hzb := HB1.out.size
      have x0 := blk_cell HP1.out 0 rfl
      have x1 := blk_cell HP1.out 1 rfl
      go_wp2_with (at_builtin; refine app_one Ty.pt (W := W1) w.heap.size rfl _ _ 25 28 _ 16 rfl Tryz.underlying25 infoPt rfl (by decide) (.slice A3 acc.length c3) acc (a1, a2) [.int .i64 a1, .int .i64 a2] _ rfl rfl rfl rfl HO5 (by omega) hlen5 ?_; intro v4 w4 HO4 hg4 hat4; obtain ⟨g, c4, hv4, hgw, hgz, hgc⟩ := app_form HO4; have hv5 := hv4; subst hv4; have HP4 : Hid (w4.heap[wo.heap.size]? = some (.cells #[.int .i64 a1, .int .i64 a2] 28 (0, 0))) := Lib.hid ((hg4.block _ (lt_of_block HP1.out) (fun e => by have := HNB.out _ e.symm; omega)).trans HP1.out); have hgo : g ≠ wo.heap.size := (by rcases hat4 with h | ⟨b, h, h2⟩; (have := HNB.out g (by rw [← h]; rfl); omega); (have : some g = some b := h; injection this with this; omega)); have HB4 := Lib.hid (show Below w.heap.size w w4 from below_own (below_step HB0.out HB1.out) hg4 (fun b e => (OwnR.lt HO1.out b e).1)); have HO6 := Lib.hid (Own1.of HO4); clear HO4 hg4 hat4 HO5 x0 x1 HP1 HB1 HO1)
      have hw7 : IntKind.i64.wrap ((acc.length : Int) + 1 - 1) = (acc.length : Int) := by rw [show ((acc.length : Int) + 1 - 1) = (acc.length : Int) by omega]; exact IntWalk.i64_in _ (by omega)
      have HO7 : Hid (∃ X : Pt, Own1 Ty.pt 28 w.heap.size w4 (.slice (some ⟨g, 0, none⟩) (acc.length + 1) c4) (acc.take acc.length ++ X :: acc.drop acc.length)) := Lib.hid ⟨(a1, a2), by rw [List.take_length, List.drop_length]; exact HO6.out⟩
      clear HO6
      go_wp2_with fail
      go_loopw [7] (fun i wr => ∃ r : Nat, q ≤ r ∧ r ≤ acc.length ∧ i = .int .i64 r ∧ Hid (Below w.heap.size w wr) ∧ Hid (wr.heap[wo.heap.size]? = some (.cells #[.int .i64 a1, .int .i64 a2] 28 (0, 0))) ∧ Hid (∃ X : Pt, Own1 Ty.pt 28 w.heap.size wr (.slice (some ⟨g, 0, none⟩) (acc.length + 1) c4) (acc.take r ++ X :: acc.drop r))) (fun i _ => (intOf i).toNat)
      case atStart => exact ⟨acc.length, hq, Nat.le_refl _, rfl, HB4.out, HP4.out, HO7.out⟩
      case round =>
       obtain ⟨r, hqr, hr, rfl, HBr, HPr, HOr⟩ := hrel
       obtain ⟨X, hX⟩ := HOr.out
       have hlX := sh_len acc X r hr
       obtain ⟨hgB, hcm, _, cur, hcur, hcz⟩ := OwnR.blkB hX
       have hcs : cur.size = c4 * 2 := hcz
       have HX := Lib.hid hX
       clear hX HOr HP4 HB4 HO7
       by_cases hrq : q < r
       rotate_left
       ·have hrq2 : r ≤ q := by omega
        obtain rfl : r = q := Nat.le_antisymm hrq2 hqr
        obtain ⟨HO9, hk9⟩ := OwnR.setP HX.out hlX.symm r (by omega) (a1, a2) rfl rfl
        rw [sh_set acc X _ r hr] at HO9
        have HB9 := Lib.hid (below_kept HBr.out hk9 (fun b e => by omega))
        have HO9 := Lib.hid HO9
        have hc0 := blk_cell hcur (r * 2) (v := cur[r * 2]) (by simp)
        have hc1 := blk_cell hcur (r * 2 + 1) (v := cur[r * 2 + 1]) (by simp)
        have hf0 := blk_free hcur (r * 2)
        have hf1 := blk_free hcur (r * 2 + 1)
        have x0 := blk_cell HPr.out 0 rfl
        have x1 := blk_cell HPr.out 1 rfl
        have ht4 : (r : Int) < (acc.length : Int) + 1 := by omega
        have q7 : decide ((r : Int) < (r : Int)) = false := decide_eq_false (by omega)
        clear HX hk9 hcur HBr
        go_wp2
        go_roundw
        case rel => exact ⟨k + 1, by omega, by go_num, HB9.out, by rw [HI.out]; exact HO9.out⟩
        case measure => simp [intOf]; omega
       ·try (exfalso; omega)
        all_goals
         obtain ⟨A9, c9, e9, _, hr9⟩ := OwnR.rowB pt_flat HX.out (fun _ => True) (fun _ _ => trivial)
         have hA9 : A9 = some ⟨g, 0, none⟩ := by injection e9 with e9; exact e9.symm
         subst hA9
         obtain ⟨az, e, hs0, hs1⟩ := hr9.pt_at (r - 1) (by omega)
         cases e
         rw [sh_at acc X r (by omega) hr] at hs0 hs1
         rw [add_at, Nat.zero_add] at hs0 hs1
         obtain ⟨HO9, hk9⟩ := OwnR.setP HX.out hlX.symm r (by omega) (ptD acc (r - 1)) rfl rfl
         rw [sh_set acc X _ r hr, sh_step acc r (by omega) hr] at HO9
         have HB9 := Lib.hid (below_kept HBr.out hk9 (fun b e => by omega))
         have HP9 := Lib.hid ((hk9.block _ (lt_of_block HPr.out) (fun e => hgo e.symm)).trans HPr.out)
         have HO9 := Lib.hid HO9
         have hc0 := blk_cell hcur (r * 2) (v := cur[r * 2]) (by simp)
         have hc1 := blk_cell hcur (r * 2 + 1) (v := cur[r * 2 + 1]) (by simp)
         have hf0 := blk_free hcur (r * 2)
         have hf1 := blk_free hcur (r * 2 + 1)
         have hwr : IntKind.i64.wrap ((r : Int) - 1) = (r : Int) - 1 := IntWalk.i64_in _ (by omega)
         have ht1 : (0 : Int) ≤ (r : Int) - 1 := by omega
         have ht2 : (r : Int) - 1 < (acc.length : Int) + 1 := by omega
         have ht3 : ((r : Int) - 1).toNat = r - 1 := by omega
         have ht4 : (r : Int) < (acc.length : Int) + 1 := by omega
         have q7 : decide ((q : Int) < (r : Int)) = true := decide_eq_true (by omega)
         generalize ptD acc (r - 1) = yy at *
         clear HX hk9 hr9 hcur e9 HBr HPr
         go_wp2_with fail
         go_roundw
         case rel => exact ⟨r - 1, by omega, by omega, by rw [show ((r : Int) - 1) = ((r - 1 : Nat) : Int) by omega], HB9.out, HP9.out, ⟨yy, HO9.out⟩⟩
         case measure => simp [intOf]; omega
  ·have q0 : decide ((k : Int) < 2 * (m.length : Int)) = false := decide_eq_false (by omega)
   obtain rfl : k = 2 * m.length := by omega
   have HF : Hid (poTo m (2 * m.length) = pts25 m) := by unfold poTo pts25; rw [List.take_of_length_le (by rw [ptsR_len]; omega)]; rfl
   go_wp2
   go_ret
   exact ⟨_, rfl, by rw [← HF.out]; exact HO.out, HB.out⟩
end
section
open Go.RowKit Go.Proofs.YtaeflnbjeaoapaaGreatW.PrintLast

attribute [local go_sem high] eqPt eqSg
set_option maxRecDepth 100000 in
set_option maxHeartbeats 4000000 in
theorem ref24_Same {ok ok' : Nat → Prop} (a b : Msh) (A B : Option Addr) (n m c d : Nat) (w : World) (ha : Row Ty.edge ok w A a) (hb : Row Ty.edge ok' w B b) (hn : n = a.length) (hm : m = b.length) :
  Calls Tryz.prog 37 #[.slice A n c, .slice B m d] w fun e w' => e = .returned (.bool (decide (a = b))) ∧ Below w.heap.size w w' := by
 subst hn hm
 have hl1 := ha.len
 have hl2 := hb.len
 have HA := Lib.hid ha
 have HB := Lib.hid hb
 clear ha hb
 by_cases hl : a.length = b.length
 ·have HL := Lib.hid hl
  have hlb : ((a.length : Int) != (b.length : Int)) = false := by simp [hl]
  have hlb2 : (a.length == b.length) = true := by simp [hl]
  clear hl
  go_enter Tryz.func37, Tryz.ntmps37
  go_wp2
  go_loopw [5] (fun i wr => ∃ k : Nat, k ≤ a.length ∧ i = .int .i64 k ∧ Hid (Below w.heap.size w wr) ∧ Hid (a.take k = b.take k)) (fun i _ => a.length - (intOf i).toNat)
  case atStart => exact ⟨0, Nat.zero_le _, rfl, Below.refl _ _, by simp [Hid]⟩
  case round =>
   obtain ⟨k, hk, rfl, hbl, hall⟩ := hrel
   by_cases hlt : k < a.length
   ·have hlt2 : k < b.length := by have := HL.out; omega
    obtain ⟨ad, A1, c1, A2, c2, rfl, hx0, hx1, hx2, hx3, hx4, hx5, hc1, hr1, hc2, hr2⟩ := (HA.out.below hbl.out).edge_at k hlt
    obtain ⟨bd, B1, d1, B2, d2, rfl, hy0, hy1, hy2, hy3, hy4, hy5, hd1, hs1, hd2, hs2⟩ := (HB.out.below hbl.out).edge_at k hlt2
    have HT := Lib.hid (take_eq_step (((0, 0), (0, 0)), ([], [])) hall.out hlt hlt2)
    have HN := Lib.hid (fun h => take_ne (k := k) (a := a) (b := b) (((0, 0), (0, 0)), ([], [])) h)
    have HT : Hid (egD a k = egD b k → a.take (k + 1) = b.take (k + 1)) := HT
    have HN : Hid (egD a k ≠ egD b k → a ≠ b) := HN
    generalize egD a k = e at *
    generalize egD b k = f at *
    obtain ⟨⟨⟨a1, a2⟩, ⟨a3, a4⟩⟩, L, R⟩ := e
    obtain ⟨⟨⟨b1, b2⟩, ⟨b3, b4⟩⟩, L', R'⟩ := f
    simp only at hx0 hx1 hx2 hx3 hx4 hx5 hc1 hr1 hc2 hr2 hy0 hy1 hy2 hy3 hy4 hy5 hd1 hs1 hd2 hs2
    have CL := Lib.hid (fun W (hW : Below wr.heap.size wr W) => ref24_ints L L' A1 B1 L.length L'.length c1 d1 W (hr1.below hW) (hs1.below hW) rfl rfl)
    have CR := Lib.hid (fun W (hW : Below wr.heap.size wr W) => ref24_ints R R' A2 B2 R.length R'.length c2 d2 W (hr2.below hW) (hs2.below hW) rfl rfl)
    clear hr1 hr2 hs1 hs2 hc1 hc2 hd1 hd2
    by_cases hp : ((a1, a2) : Pt) = (b1, b2)
    ·cases hp
     by_cases hq : ((a3, a4) : Pt) = (b3, b4)
     ·cases hq
      have qa : (decide (a1 = a1) && decide (a2 = a2)) = true := by simp
      have qb : (decide (a3 = a3) && decide (a4 = a4)) = true := by simp
      by_cases hL : L = L'
      ·have HQ : Hid (decide (L = L') = true) := decide_eq_true hL
       by_cases hR : R = R'
       ·have HQR : Hid (decide (R = R') = true) := decide_eq_true hR
        have HT2 := Lib.hid (HT.out (by rw [hL, hR]))
        clear hL hR HT HN
        go_wp2_with fail
        refine start_ (n := 52) (S := fun w' => w'.cell? (ad.add (k * 6)) = some (.int .i64 a1) ∧ w'.cell? ⟨(ad.add (k * 6)).block, (ad.add (k * 6)).off + 1, none⟩ = some (.int .i64 a2) ∧ w'.cell? ⟨(ad.add (k * 6)).block, (ad.add (k * 6)).off + 2, none⟩ = some (.int .i64 a3) ∧ w'.cell? ⟨(ad.add (k * 6)).block, (ad.add (k * 6)).off + 3, none⟩ = some (.int .i64 a4) ∧ w'.cell? ⟨(ad.add (k * 6)).block, (ad.add (k * 6)).off + 2 + 1, none⟩ = some (.int .i64 a4) ∧ w'.cell? ⟨(ad.add (k * 6)).block, (ad.add (k * 6)).off + 4, none⟩ = some (.slice A1 L.length c1) ∧ w'.cell? ⟨(ad.add (k * 6)).block, (ad.add (k * 6)).off + 5, none⟩ = some (.slice A2 R.length c2) ∧ w'.cell? (bd.add (k * 6)) = some (.int .i64 a1) ∧ w'.cell? ⟨(bd.add (k * 6)).block, (bd.add (k * 6)).off + 1, none⟩ = some (.int .i64 a2) ∧ w'.cell? ⟨(bd.add (k * 6)).block, (bd.add (k * 6)).off + 2, none⟩ = some (.int .i64 a3) ∧ w'.cell? ⟨(bd.add (k * 6)).block, (bd.add (k * 6)).off + 3, none⟩ = some (.int .i64 a4) ∧ w'.cell? ⟨(bd.add (k * 6)).block, (bd.add (k * 6)).off + 2 + 1, none⟩ = some (.int .i64 a4) ∧ w'.cell? ⟨(bd.add (k * 6)).block, (bd.add (k * 6)).off + 4, none⟩ = some (.slice B1 L'.length d1) ∧ w'.cell? ⟨(bd.add (k * 6)).block, (bd.add (k * 6)).off + 5, none⟩ = some (.slice B2 R'.length d2)) (ds := []) #[Z,Z,Z,Z,Z,Z,Z,Z,Z,Z,Z,Z,Z,Z,Z,Z,Z,Z,Z,Z,Z,Z,Z,Z,Z,Z,Z,Z,Z,Z,Z,Z,Z,Z,Z,Z,Z,Z,Z,Z,Z,Z,Z,Z,Z,Z,Z,Z,Z,Z,Z,Z] (by kernel_rfl) rfl rfl ⟨hx0, hx1, hx2, hx3, hx3, hx4, hx5, hy0, hy1, hy2, hy3, hy3, hy4, hy5⟩ (fun hHeld => ?_)
        refine pu 0 17 ?_
        refine pu 1 18 ?_
        refine pu 2 19 ?_
        refine pu 3 20 ?_
        refine pu 5 22 ?_
        refine pu 6 23 ?_
        refine pu 7 24 ?_
        refine pu 8 25 ?_
        refine ta 4 21 hHeld ?_
        refine ta 9 26 hHeld ?_
        refine pu 10 27 ?_
        refine pu 11 28 ?_
        refine pu 12 29 ?_
        refine pu 13 30 ?_
        refine pu 14 31 ?_
        refine pu 15 32 ?_
        refine pu 17 34 ?_
        refine pu 18 35 ?_
        refine pu 19 36 ?_
        refine pu 20 37 ?_
        refine ta 16 33 hHeld ?_
        refine ta 21 38 hHeld ?_
        refine pu 22 39 ?_
        refine pu 23 40 ?_
        refine pu 24 41 ?_
        refine pu 25 42 ?_
        refine pu 26 43 ?_
        refine pu 27 44 ?_
        refine pu 28 45 ?_
        refine pu 30 47 ?_
        refine pu 31 48 ?_
        refine pu 32 49 ?_
        refine pu 33 50 ?_
        refine ta 29 46 hHeld ?_
        refine ta 34 51 hHeld ?_
        refine one_ (i := 35) (N := some 52) #[J,J,J,J,J,J,J,J,J,J,J,J,J,J,J,J,J,J,J,J,J,J,J,J,J,J,J,J,J,J,J,J,J,J,J,J,Z,Z,Z,Z,Z,Z,Z,Z,Z,Z,Z,Z,Z,Z,Z,Z] rfl rfl (by kernel_rfl) (by decide) (fun K hK => ?_)
        refine goes_ Tryz.func65 (by kernel_rfl) rfl #[.slice A1 L.length c1, .slice B1 L'.length d1] (by rfl) rfl rfl (by simp only [List.map_toArray, List.map_cons, List.map_nil]; rfl) ?_
        with_reducible refine (CL.out _ (below_drew (Below.refl _ _))).mono ?_
        rintro e w1 ⟨rfl, hb1⟩
        refine ⟨_, rfl, ?_⟩
        rw [HQ.out]
        refine hK.out _ _ ⟨(cell_below hb1 hx0), (cell_below hb1 hx1), (cell_below hb1 hx2), (cell_below hb1 hx3), (cell_below hb1 hx3), (cell_below hb1 hx4), (cell_below hb1 hx5), (cell_below hb1 hy0), (cell_below hb1 hy1), (cell_below hb1 hy2), (cell_below hb1 hy3), (cell_below hb1 hy3), (cell_below hb1 hy4), (cell_below hb1 hy5)⟩ (fun hHeld => ?_)
        clear hK K
        refine nm 52 ?_
        refine pu 36 53 ?_
        refine pu 37 54 ?_
        refine pu 38 55 ?_
        refine pu 39 56 ?_
        refine pu 40 57 ?_
        refine pu 41 58 ?_
        refine pu 42 59 ?_
        refine pu 44 61 ?_
        refine pu 45 62 ?_
        refine pu 46 63 ?_
        refine pu 47 64 ?_
        refine ta 43 60 hHeld ?_
        refine ta 48 65 hHeld ?_
        refine one_ (i := 49) (N := some 66) #[J,J,J,J,J,J,J,J,J,J,J,J,J,J,J,J,J,J,J,J,J,J,J,J,J,J,J,J,J,J,J,J,J,J,J,J,J,J,J,J,J,J,J,J,J,J,J,J,J,J,Z,Z] rfl rfl (by kernel_rfl) (by decide) (fun K hK => ?_)
        refine goes_ Tryz.func65 (by kernel_rfl) rfl #[.slice A2 R.length c2, .slice B2 R'.length d2] (by rfl) rfl rfl (by simp only [List.map_toArray, List.map_cons, List.map_nil]; rfl) ?_
        with_reducible refine (CR.out _ (below_step (below_drew (Below.refl _ _)) hb1)).mono ?_
        rintro e w2 ⟨rfl, hb2⟩
        refine ⟨_, rfl, ?_⟩
        refine hK.out _ _ ⟨(cell_below hb2 (cell_below hb1 hx0)), (cell_below hb2 (cell_below hb1 hx1)), (cell_below hb2 (cell_below hb1 hx2)), (cell_below hb2 (cell_below hb1 hx3)), (cell_below hb2 (cell_below hb1 hx3)), (cell_below hb2 (cell_below hb1 hx4)), (cell_below hb2 (cell_below hb1 hx5)), (cell_below hb2 (cell_below hb1 hy0)), (cell_below hb2 (cell_below hb1 hy1)), (cell_below hb2 (cell_below hb1 hy2)), (cell_below hb2 (cell_below hb1 hy3)), (cell_below hb2 (cell_below hb1 hy3)), (cell_below hb2 (cell_below hb1 hy4)), (cell_below hb2 (cell_below hb1 hy5))⟩ (fun hHeld => ?_)
        clear hK K
        refine nm 66 ?_
        refine pu 50 67 ?_
        refine pu 51 68 ?_
        refine done_ (by kernel_rfl) ?_
        rw [HQR.out]
        have HB2 := Lib.hid (below_step (below_step (below_drew hbl.out) hb1) hb2)
        go_wp2
        go_roundw
        case rel => exact ⟨k + 1, by omega, by go_num, HB2.out, HT2.out⟩
        case measure => simp [intOf]; omega
       ·have HQR : Hid (decide (R = R') = false) := decide_eq_false hR
        have HN2 := Lib.hid (HN.out (fun h => hR (by injection h with h1 h2; injection h2)))
        clear hL hR HT HN
        go_wp2_with fail
        refine start_ (n := 52) (S := fun w' => w'.cell? (ad.add (k * 6)) = some (.int .i64 a1) ∧ w'.cell? ⟨(ad.add (k * 6)).block, (ad.add (k * 6)).off + 1, none⟩ = some (.int .i64 a2) ∧ w'.cell? ⟨(ad.add (k * 6)).block, (ad.add (k * 6)).off + 2, none⟩ = some (.int .i64 a3) ∧ w'.cell? ⟨(ad.add (k * 6)).block, (ad.add (k * 6)).off + 3, none⟩ = some (.int .i64 a4) ∧ w'.cell? ⟨(ad.add (k * 6)).block, (ad.add (k * 6)).off + 2 + 1, none⟩ = some (.int .i64 a4) ∧ w'.cell? ⟨(ad.add (k * 6)).block, (ad.add (k * 6)).off + 4, none⟩ = some (.slice A1 L.length c1) ∧ w'.cell? ⟨(ad.add (k * 6)).block, (ad.add (k * 6)).off + 5, none⟩ = some (.slice A2 R.length c2) ∧ w'.cell? (bd.add (k * 6)) = some (.int .i64 a1) ∧ w'.cell? ⟨(bd.add (k * 6)).block, (bd.add (k * 6)).off + 1, none⟩ = some (.int .i64 a2) ∧ w'.cell? ⟨(bd.add (k * 6)).block, (bd.add (k * 6)).off + 2, none⟩ = some (.int .i64 a3) ∧ w'.cell? ⟨(bd.add (k * 6)).block, (bd.add (k * 6)).off + 3, none⟩ = some (.int .i64 a4) ∧ w'.cell? ⟨(bd.add (k * 6)).block, (bd.add (k * 6)).off + 2 + 1, none⟩ = some (.int .i64 a4) ∧ w'.cell? ⟨(bd.add (k * 6)).block, (bd.add (k * 6)).off + 4, none⟩ = some (.slice B1 L'.length d1) ∧ w'.cell? ⟨(bd.add (k * 6)).block, (bd.add (k * 6)).off + 5, none⟩ = some (.slice B2 R'.length d2)) (ds := []) #[Z,Z,Z,Z,Z,Z,Z,Z,Z,Z,Z,Z,Z,Z,Z,Z,Z,Z,Z,Z,Z,Z,Z,Z,Z,Z,Z,Z,Z,Z,Z,Z,Z,Z,Z,Z,Z,Z,Z,Z,Z,Z,Z,Z,Z,Z,Z,Z,Z,Z,Z,Z] (by kernel_rfl) rfl rfl ⟨hx0, hx1, hx2, hx3, hx3, hx4, hx5, hy0, hy1, hy2, hy3, hy3, hy4, hy5⟩ (fun hHeld => ?_)
        refine pu 0 17 ?_
        refine pu 1 18 ?_
        refine pu 2 19 ?_
        refine pu 3 20 ?_
        refine pu 5 22 ?_
        refine pu 6 23 ?_
        refine pu 7 24 ?_
        refine pu 8 25 ?_
        refine ta 4 21 hHeld ?_
        refine ta 9 26 hHeld ?_
        refine pu 10 27 ?_
        refine pu 11 28 ?_
        refine pu 12 29 ?_
        refine pu 13 30 ?_
        refine pu 14 31 ?_
        refine pu 15 32 ?_
        refine pu 17 34 ?_
        refine pu 18 35 ?_
        refine pu 19 36 ?_
        refine pu 20 37 ?_
        refine ta 16 33 hHeld ?_
        refine ta 21 38 hHeld ?_
        refine pu 22 39 ?_
        refine pu 23 40 ?_
        refine pu 24 41 ?_
        refine pu 25 42 ?_
        refine pu 26 43 ?_
        refine pu 27 44 ?_
        refine pu 28 45 ?_
        refine pu 30 47 ?_
        refine pu 31 48 ?_
        refine pu 32 49 ?_
        refine pu 33 50 ?_
        refine ta 29 46 hHeld ?_
        refine ta 34 51 hHeld ?_
        refine one_ (i := 35) (N := some 52) #[J,J,J,J,J,J,J,J,J,J,J,J,J,J,J,J,J,J,J,J,J,J,J,J,J,J,J,J,J,J,J,J,J,J,J,J,Z,Z,Z,Z,Z,Z,Z,Z,Z,Z,Z,Z,Z,Z,Z,Z] rfl rfl (by kernel_rfl) (by decide) (fun K hK => ?_)
        refine goes_ Tryz.func65 (by kernel_rfl) rfl #[.slice A1 L.length c1, .slice B1 L'.length d1] (by rfl) rfl rfl (by simp only [List.map_toArray, List.map_cons, List.map_nil]; rfl) ?_
        with_reducible refine (CL.out _ (below_drew (Below.refl _ _))).mono ?_
        rintro e w1 ⟨rfl, hb1⟩
        refine ⟨_, rfl, ?_⟩
        rw [HQ.out]
        refine hK.out _ _ ⟨(cell_below hb1 hx0), (cell_below hb1 hx1), (cell_below hb1 hx2), (cell_below hb1 hx3), (cell_below hb1 hx3), (cell_below hb1 hx4), (cell_below hb1 hx5), (cell_below hb1 hy0), (cell_below hb1 hy1), (cell_below hb1 hy2), (cell_below hb1 hy3), (cell_below hb1 hy3), (cell_below hb1 hy4), (cell_below hb1 hy5)⟩ (fun hHeld => ?_)
        clear hK K
        refine nm 52 ?_
        refine pu 36 53 ?_
        refine pu 37 54 ?_
        refine pu 38 55 ?_
        refine pu 39 56 ?_
        refine pu 40 57 ?_
        refine pu 41 58 ?_
        refine pu 42 59 ?_
        refine pu 44 61 ?_
        refine pu 45 62 ?_
        refine pu 46 63 ?_
        refine pu 47 64 ?_
        refine ta 43 60 hHeld ?_
        refine ta 48 65 hHeld ?_
        refine one_ (i := 49) (N := some 66) #[J,J,J,J,J,J,J,J,J,J,J,J,J,J,J,J,J,J,J,J,J,J,J,J,J,J,J,J,J,J,J,J,J,J,J,J,J,J,J,J,J,J,J,J,J,J,J,J,J,J,Z,Z] rfl rfl (by kernel_rfl) (by decide) (fun K hK => ?_)
        refine goes_ Tryz.func65 (by kernel_rfl) rfl #[.slice A2 R.length c2, .slice B2 R'.length d2] (by rfl) rfl rfl (by simp only [List.map_toArray, List.map_cons, List.map_nil]; rfl) ?_
        with_reducible refine (CR.out _ (below_step (below_drew (Below.refl _ _)) hb1)).mono ?_
        rintro e w2 ⟨rfl, hb2⟩
        refine ⟨_, rfl, ?_⟩
        refine hK.out _ _ ⟨(cell_below hb2 (cell_below hb1 hx0)), (cell_below hb2 (cell_below hb1 hx1)), (cell_below hb2 (cell_below hb1 hx2)), (cell_below hb2 (cell_below hb1 hx3)), (cell_below hb2 (cell_below hb1 hx3)), (cell_below hb2 (cell_below hb1 hx4)), (cell_below hb2 (cell_below hb1 hx5)), (cell_below hb2 (cell_below hb1 hy0)), (cell_below hb2 (cell_below hb1 hy1)), (cell_below hb2 (cell_below hb1 hy2)), (cell_below hb2 (cell_below hb1 hy3)), (cell_below hb2 (cell_below hb1 hy3)), (cell_below hb2 (cell_below hb1 hy4)), (cell_below hb2 (cell_below hb1 hy5))⟩ (fun hHeld => ?_)
        clear hK K
        refine nm 66 ?_
        refine pu 50 67 ?_
        refine pu 51 68 ?_
        refine done_ (by kernel_rfl) ?_
        rw [HQR.out]
        have HB2 := Lib.hid (below_step (below_step (below_drew hbl.out) hb1) hb2)
        go_wp2
        go_ret
        exact ⟨ret_bool (by rw [eq_comm, decide_eq_false_iff_not]; exact HN2.out), HB2.out⟩
      ·have HQ : Hid (decide (L = L') = false) := decide_eq_false hL
       have HN2 := Lib.hid (HN.out (fun h => hL (by injection h with h1 h2; injection h2)))
       clear hL HT HN
       go_wp2_with fail
       refine start_ (n := 52) (S := fun w' => w'.cell? (ad.add (k * 6)) = some (.int .i64 a1) ∧ w'.cell? ⟨(ad.add (k * 6)).block, (ad.add (k * 6)).off + 1, none⟩ = some (.int .i64 a2) ∧ w'.cell? ⟨(ad.add (k * 6)).block, (ad.add (k * 6)).off + 2, none⟩ = some (.int .i64 a3) ∧ w'.cell? ⟨(ad.add (k * 6)).block, (ad.add (k * 6)).off + 3, none⟩ = some (.int .i64 a4) ∧ w'.cell? ⟨(ad.add (k * 6)).block, (ad.add (k * 6)).off + 2 + 1, none⟩ = some (.int .i64 a4) ∧ w'.cell? ⟨(ad.add (k * 6)).block, (ad.add (k * 6)).off + 4, none⟩ = some (.slice A1 L.length c1) ∧ w'.cell? ⟨(ad.add (k * 6)).block, (ad.add (k * 6)).off + 5, none⟩ = some (.slice A2 R.length c2) ∧ w'.cell? (bd.add (k * 6)) = some (.int .i64 a1) ∧ w'.cell? ⟨(bd.add (k * 6)).block, (bd.add (k * 6)).off + 1, none⟩ = some (.int .i64 a2) ∧ w'.cell? ⟨(bd.add (k * 6)).block, (bd.add (k * 6)).off + 2, none⟩ = some (.int .i64 a3) ∧ w'.cell? ⟨(bd.add (k * 6)).block, (bd.add (k * 6)).off + 3, none⟩ = some (.int .i64 a4) ∧ w'.cell? ⟨(bd.add (k * 6)).block, (bd.add (k * 6)).off + 2 + 1, none⟩ = some (.int .i64 a4) ∧ w'.cell? ⟨(bd.add (k * 6)).block, (bd.add (k * 6)).off + 4, none⟩ = some (.slice B1 L'.length d1) ∧ w'.cell? ⟨(bd.add (k * 6)).block, (bd.add (k * 6)).off + 5, none⟩ = some (.slice B2 R'.length d2)) (ds := []) #[Z,Z,Z,Z,Z,Z,Z,Z,Z,Z,Z,Z,Z,Z,Z,Z,Z,Z,Z,Z,Z,Z,Z,Z,Z,Z,Z,Z,Z,Z,Z,Z,Z,Z,Z,Z,Z,Z,Z,Z,Z,Z,Z,Z,Z,Z,Z,Z,Z,Z,Z,Z] (by kernel_rfl) rfl rfl ⟨hx0, hx1, hx2, hx3, hx3, hx4, hx5, hy0, hy1, hy2, hy3, hy3, hy4, hy5⟩ (fun hHeld => ?_)
       refine pu 0 17 ?_
       refine pu 1 18 ?_
       refine pu 2 19 ?_
       refine pu 3 20 ?_
       refine pu 5 22 ?_
       refine pu 6 23 ?_
       refine pu 7 24 ?_
       refine pu 8 25 ?_
       refine ta 4 21 hHeld ?_
       refine ta 9 26 hHeld ?_
       refine pu 10 27 ?_
       refine pu 11 28 ?_
       refine pu 12 29 ?_
       refine pu 13 30 ?_
       refine pu 14 31 ?_
       refine pu 15 32 ?_
       refine pu 17 34 ?_
       refine pu 18 35 ?_
       refine pu 19 36 ?_
       refine pu 20 37 ?_
       refine ta 16 33 hHeld ?_
       refine ta 21 38 hHeld ?_
       refine pu 22 39 ?_
       refine pu 23 40 ?_
       refine pu 24 41 ?_
       refine pu 25 42 ?_
       refine pu 26 43 ?_
       refine pu 27 44 ?_
       refine pu 28 45 ?_
       refine pu 30 47 ?_
       refine pu 31 48 ?_
       refine pu 32 49 ?_
       refine pu 33 50 ?_
       refine ta 29 46 hHeld ?_
       refine ta 34 51 hHeld ?_
       refine one_ (i := 35) (N := some 52) #[J,J,J,J,J,J,J,J,J,J,J,J,J,J,J,J,J,J,J,J,J,J,J,J,J,J,J,J,J,J,J,J,J,J,J,J,Z,Z,Z,Z,Z,Z,Z,Z,Z,Z,Z,Z,Z,Z,Z,Z] rfl rfl (by kernel_rfl) (by decide) (fun K hK => ?_)
       refine goes_ Tryz.func65 (by kernel_rfl) rfl #[.slice A1 L.length c1, .slice B1 L'.length d1] (by rfl) rfl rfl (by simp only [List.map_toArray, List.map_cons, List.map_nil]; rfl) ?_
       with_reducible refine (CL.out _ (below_drew (Below.refl _ _))).mono ?_
       rintro e w1 ⟨rfl, hb1⟩
       refine ⟨_, rfl, ?_⟩
       rw [HQ.out]
       refine hK.out _ _ ⟨(cell_below hb1 hx0), (cell_below hb1 hx1), (cell_below hb1 hx2), (cell_below hb1 hx3), (cell_below hb1 hx3), (cell_below hb1 hx4), (cell_below hb1 hx5), (cell_below hb1 hy0), (cell_below hb1 hy1), (cell_below hb1 hy2), (cell_below hb1 hy3), (cell_below hb1 hy3), (cell_below hb1 hy4), (cell_below hb1 hy5)⟩ (fun hHeld => ?_)
       clear hK K
       refine nm 52 ?_
       refine pu 36 53 ?_
       refine pu 37 54 ?_
       refine pu 38 55 ?_
       refine pn 39 56 ?_
       refine pn 40 57 ?_
       refine pn 41 58 ?_
       refine pn 42 59 ?_
       refine pn 43 60 ?_
       refine pn 44 61 ?_
       refine pn 45 62 ?_
       refine pn 46 63 ?_
       refine pn 47 64 ?_
       refine pn 48 65 ?_
       refine pn 49 66 ?_
       refine pn 50 67 ?_
       refine pu 51 68 ?_
       refine done_ (by kernel_rfl) ?_
       have HB2 := Lib.hid (below_step (below_drew hbl.out) hb1)
       go_wp2
       go_ret
       exact ⟨ret_bool (by rw [eq_comm, decide_eq_false_iff_not]; exact HN2.out), HB2.out⟩
     ·have qb : (decide (a3 = b3) && decide (a4 = b4)) = false := by simpa using hq
      have qa : (decide (a1 = a1) && decide (a2 = a2)) = true := by simp
      have HN2 := Lib.hid (HN.out (fun h => hq (by injection h with h1 h2; injection h1)))
      clear hq HT HN
      go_wp2_with fail
      go_quiet (fail)
      go_wp2
      go_ret
      exact ⟨ret_bool (by rw [eq_comm, decide_eq_false_iff_not]; exact HN2.out), below_drewN hbl.out _⟩
    ·have qa : (decide (a1 = b1) && decide (a2 = b2)) = false := by simpa using hp
     have HN2 := Lib.hid (HN.out (fun h => hp (by injection h with h1 h2; injection h1)))
     clear hp HT HN
     go_wp2_with fail
     go_quiet (fail)
     go_wp2
     go_ret
     exact ⟨ret_bool (by rw [eq_comm, decide_eq_false_iff_not]; exact HN2.out), below_drewN hbl.out _⟩
   ·go_wp2
    go_ret
    refine ⟨ret_bool ?_, hbl.out⟩
    have := hall.out
    rw [List.take_of_length_le (by omega), List.take_of_length_le (by have := HL.out; omega)] at this
    simp [this]
 ·have HL := Lib.hid hl
  have hlb : ((a.length : Int) != (b.length : Int)) = true := by simp; omega
  have hlb2 : (a.length == b.length) = false := by simpa using hl
  clear hl
  go_enter Tryz.func37, Tryz.ntmps37
  go_wp2
  go_ret
  exact ⟨ret_bool (by rw [eq_comm, decide_eq_false_iff_not]; exact fun h => HL.out (by rw [h])), Below.refl _ _⟩
end
section
open Go.RowKit Go.Proofs.YtaeflnbjeaoapaaGreatW.PrintLast

def areaR (l : List Int) (i : Nat) : Bool := decide (0 ≤ l.getD i 0) && (decide (l.getD i 0 < 20000) && (decide (i = 0) || decide (l.getD (i - 1) 0 < l.getD i 0)))
theorem areas_defR (l : List Int) : areasB l = (List.range l.length).all (areaR l) := rfl
theorem ref24_rising {ok : Nat → Prop} (l : List Int) (A : Option Addr) (n c : Nat) (w : World) (hr : Row Ty.i64 ok w A l) (hn : n = l.length) :
  Calls Tryz.prog 32 #[.slice A n c] w fun e w' => e = .returned (.bool (areasB l)) ∧ Below w.heap.size w w' := by
 subst hn
 have HR := Lib.hid hr
 have hmx := hr.len
 clear hr
 obtain ⟨z, hz⟩ : ∃ z, z = areasB l := ⟨_, rfl⟩
 have HZ : Hid (z = (List.range l.length).all (areaR l)) := hz.trans (areas_defR l)
 rw [← hz]
 clear hz
 go_enter Tryz.func32, Tryz.ntmps32
 go_wp2
 go_loopw [3] (fun i wr => ∃ k : Nat, k ≤ l.length ∧ i = .int .i64 k ∧ Hid (Below w.heap.size w wr) ∧ Hid (∀ j, j < k → areaR l j = true)) (fun i _ => l.length - (intOf i).toNat)
 case atStart => exact ⟨0, Nat.zero_le _, rfl, Below.refl _ _, fun j h => by omega⟩
 case round =>
  obtain ⟨k, hk, rfl, HB, HN⟩ := hrel
  by_cases hlt : k < l.length
  ·obtain ⟨ad, rfl, hx0⟩ := (HR.out.below HB.out).int_at k hlt
   have HBad : Hid (areaR l k = false → z = false) := fun h => by
    rw [HZ.out, List.all_eq_false]
    exact ⟨k, List.mem_range.2 hlt, by rw [h]; decide⟩
   have HA : Hid (areaR l k = (decide (0 ≤ inD l k) && (decide (inD l k < 20000) && (decide (k = 0) || decide (inD l (k - 1) < inD l k))))) := rfl
   by_cases h1 : inD l k < 0
   ·have q1 : decide (inD l k < 0) = true := decide_eq_true h1
    have HR1 := HBad.out (by rw [HA.out, decide_eq_false (by omega)]; rfl)
    have HF := Lib.hid HR1
    clear h1 HR1
    generalize inD l k = x at *
    go_wp2_with fail
    go_quiet (fail)
    go_wp2
    go_ret
    exact ⟨ret_bool HF.out.symm, below_drewN HB.out _⟩
   ·have q1 : decide (inD l k < 0) = false := decide_eq_false h1
    by_cases h2 : 20000 ≤ inD l k
    ·have q2 : decide (20000 ≤ inD l k) = true := decide_eq_true h2
     have HF := Lib.hid (HBad.out (by rw [HA.out, decide_eq_false (p := inD l k < 20000) (by omega)]; simp))
     clear h1 h2
     generalize inD l k = x at *
     go_wp2_with fail
     go_quiet (fail)
     go_wp2
     go_ret
     exact ⟨ret_bool HF.out.symm, below_drewN HB.out _⟩
    ·have q2 : decide (20000 ≤ inD l k) = false := decide_eq_false h2
     by_cases h3 : k = 0
     ·have HG : Hid (areaR l k = true) := by show _ = _; rw [HA.out, decide_eq_true (by omega), decide_eq_true (p := inD l k < 20000) (by omega), decide_eq_true h3]; rfl
      have q3 : decide ((0 : Int) < (k : Int)) = false := decide_eq_false (by omega)
      have q3' : decide (0 < k) = false := decide_eq_false (by omega)
      have hk0 : ¬ 0 < k := by omega
      clear h1 h2 h3
      generalize inD l k = x at *
      go_wp2_with fail
      go_quiet (fail)
      go_wp2
      go_roundw
      case rel => exact ⟨k + 1, by omega, by go_num, below_drewN HB.out _, fun j hj => if e : j = k then by rw [e]; exact HG.out else HN.out j (by omega)⟩
      case measure => simp [intOf]; omega
     ·have hkp : 0 < k := by omega
      obtain ⟨ad', e, hy0⟩ := (HR.out.below HB.out).int_at (k - 1) (by omega)
      cases e
      have q3 : decide ((0 : Int) < (k : Int)) = true := decide_eq_true (by omega)
      have q3' : decide (0 < k) = true := decide_eq_true hkp
      have hw : IntKind.i64.wrap ((k : Int) - 1) = (k : Int) - 1 := IntWalk.i64_in _ (by omega)
      have hb1 : (0 : Int) ≤ (k : Int) - 1 := by omega
      have hb2 : (k : Int) - 1 < (l.length : Int) := by omega
      have hk3 : (k : Int) < (l.length : Int) := by omega
      have HA2 : Hid (areaR l k = decide (inD l (k - 1) < inD l k)) := by
       show _ = _
       rw [HA.out, decide_eq_true (p := 0 ≤ inD l k) (by omega), decide_eq_true (p := inD l k < 20000) (by omega), decide_eq_false h3]
       simp
      clear h1 h2 h3 HA
      by_cases h4 : inD l k ≤ inD l (k - 1)
      ·have q4 : decide (inD l k ≤ inD l (k - 1)) = true := decide_eq_true h4
       have HF := Lib.hid (HBad.out (HA2.out.trans (decide_eq_false (by omega))))
       clear h4 HA2 HBad
       generalize inD l k = x at *
       generalize inD l (k - 1) = y at *
       go_wp2_with fail
       go_quiet (fail)
       go_wp2
       go_ret
       exact ⟨ret_bool HF.out.symm, below_drewN HB.out _⟩
      ·have q4 : decide (inD l k ≤ inD l (k - 1)) = false := decide_eq_false h4
       have HG := Lib.hid (HA2.out.trans (decide_eq_true (by omega)))
       clear h4 HA2 HBad
       generalize inD l k = x at *
       generalize inD l (k - 1) = y at *
       go_wp2_with fail
       go_quiet (fail)
       go_wp2
       go_roundw
       case rel => exact ⟨k + 1, by omega, by go_num, below_drewN HB.out _, fun i hi => if e : i = k then by rw [e]; exact HG.out else HN.out i (by omega)⟩
       case measure => simp [intOf]; omega
  ·obtain rfl : k = l.length := by omega
   have HF : Hid (z = true) := HZ.out.trans (List.all_eq_true.2 (fun j hj => HN.out j (List.mem_range.1 hj)))
   go_wp2
   go_ret
   exact ⟨ret_bool HF.out.symm, HB.out⟩
end
end Go.Proofs.YtaeflnbjeaoapaaGreat
