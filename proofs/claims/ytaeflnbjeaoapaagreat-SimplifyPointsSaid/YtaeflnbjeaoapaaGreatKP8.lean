/- Contract of simplify.removable. Words of this session's own: a store of an element into an own row, clear of an own row's tail; contracts of slices.IndexFunc, DeleteFunc and Clone at edges. Words of this session's own: rows shifted in place; contract of slices.Insert at edges, where there is room. Contract of simplify.without and of the two function values in it. -/
import Derived.Test.YtaeflnbjeaoapaaGreatKPW
import Derived.Test.YtaeflnbjeaoapaaGreatKP5
import Derived.Test.YtaeflnbjeaoapaaGreatKP7
import Derived.Test.YtaeflnbjeaoapaaGreatKP4
import Derived.Laws.CopyRow
import Derived.Shelf.Spec.SlicesInsert
import Derived.Test.YtaeflnbjeaoapaaGreatKP1
import Derived.RegionTactic
namespace Go.Proofs.YtaeflnbjeaoapaaGreat
set_option linter.unusedVariables false
set_option linter.unusedSimpArgs false
section
open Go.RowKit Go.Proofs.YtaeflnbjeaoapaaGreatW.PrintLast

attribute [local go_sem high] eqPt eqSg
theorem remov_none {m : Msh} {p : Pt} (h : atZ m p = none) : removZ m p = none := by unfold removZ; rw [h]
theorem remov_bad {m : Msh} {p : Pt} {c : Cor} (h : atZ m p = some c) (hb : c.u = c.w ∨ c.smooth = false) : removZ m p = none := by unfold removZ; rw [h]; exact if_pos hb
theorem remov_hit {m : Msh} {p : Pt} {c : Cor} (h : atZ m p = some c) (hb : ¬ (c.u = c.w ∨ c.smooth = false)) (ha : m.any (fun e => !endE p e && blocksZ c e) = true) : removZ m p = none := by unfold removZ; rw [h]; simp only [if_neg hb, ha, if_true]
theorem remov_ok {m : Msh} {p : Pt} {c : Cor} (h : atZ m p = some c) (hb : ¬ (c.u = c.w ∨ c.smooth = false)) (ha : m.any (fun e => !endE p e && blocksZ c e) = false) : removZ m p = some c := by unfold removZ; rw [h]; simp [if_neg hb, ha]
set_option maxRecDepth 100000 in
set_option maxHeartbeats 4000000 in
theorem simplify_removable {ok : Nat → Prop} (m : Msh) (A : Option Addr) (n c : Nat) (p1 p2 : Int) (w : World) (hr : Row Ty.edge ok w A m) (hn : n = m.length) (hlen : m.length ≤ 1000000) :
  Calls Tryz.prog 18 #[.slice A n c, .agg #[.int .i64 p1, .int .i64 p2]] w fun e w' => AtR (fun k => ok k ∨ w.heap.size ≤ k) w' e (removZ m (p1, p2)) ∧ Below w.heap.size w w' := by
 subst hn
 have HR := Lib.hid hr.bnd
 have hmx := hr.len
 clear hr
 obtain ⟨W0, hW0⟩ : ∃ W0, W0 = (w.alloc (.cells #[.int .i64 p1, .int .i64 p2] 28)).alloc (.cells #[.int .i64 0, .int .i64 0, .int .i64 0, .int .i64 0, .int .i64 0, .int .i64 0, .int .i64 0, .slice none 0 0, .slice none 0 0, .bool false] 41) := ⟨_, rfl⟩
 have hP : W0.heap[w.heap.size]? = some (.cells #[.int .i64 p1, .int .i64 p2] 28 (0, 0)) := by rw [hW0]; exact blk_alloc (heap_alloc_new _ _) _
 have hZ : W0.heap[w.heap.size + 1]? = some (.cells #[.int .i64 0, .int .i64 0, .int .i64 0, .int .i64 0, .int .i64 0, .int .i64 0, .int .i64 0, .slice none 0 0, .slice none 0 0, .bool false] 41 (0, 0)) := by
  rw [hW0]; have := heap_alloc_new (w.alloc (.cells #[.int .i64 p1, .int .i64 p2] 28)) (.cells #[.int .i64 0, .int .i64 0, .int .i64 0, .int .i64 0, .int .i64 0, .int .i64 0, .int .i64 0, .slice none 0 0, .slice none 0 0, .bool false] 41); simpa using this
 have B0 : Below w.heap.size w W0 := by rw [hW0]; exact bq
 have xp0 := blk_cell hP 0 rfl
 have xp1 := blk_cell hP 1 rfl
 have HR0 := HR.out.below B0
 have hz0 := lt_of_block hZ
 go_enter Tryz.func18, Tryz.ntmps18
 go_wp2_with fail
 rw [← hW0]
 clear hW0
 go_wp2_with fail
 refine (simplify_at m A m.length c p1 p2 W0 HR0 rfl hlen).mono ?_
 rintro e w1 ⟨hA, hb1⟩
 have hsz1 := hb1.size
 have HR1 := Lib.hid (HR0.below hb1)
 clear HR0 xp0 xp1
 cases ha : atZ m (p1, p2) with
 | none =>
  rw [ha] at hA
  obtain rfl : e = _ := hA
  have HA := Lib.hid (remov_none ha)
  have BW : Hid (Below w.heap.size w (w1.alloc (.cells #[.int .i64 0, .int .i64 0, .int .i64 0, .int .i64 0, .int .i64 0, .int .i64 0, .int .i64 0, .slice none 0 0, .slice none 0 0, .bool false] 41))) := Lib.hid (below_alloc (below_step B0 hb1) _)
  have HZ := Lib.hid (blk_alloc (blk_below hZ hb1) (.cells #[.int .i64 0, .int .i64 0, .int .i64 0, .int .i64 0, .int .i64 0, .int .i64 0, .int .i64 0, .slice none 0 0, .slice none 0 0, .bool false] 41))
  clear ha
  clear hP hZ HR HR1 B0 hb1
  have zc0 := blk_cell HZ.out 0 rfl
  have zc1 := blk_cell HZ.out 1 rfl
  have zc2 := blk_cell HZ.out 2 rfl
  have zc3 := blk_cell HZ.out 3 rfl
  have zc4 := blk_cell HZ.out 4 rfl
  have zc5 := blk_cell HZ.out 5 rfl
  have zc6 := blk_cell HZ.out 6 rfl
  have zc7 := blk_cell HZ.out 7 rfl
  have zc8 := blk_cell HZ.out 8 rfl
  have zc9 := blk_cell HZ.out 9 rfl
  have zf0 := blk_free HZ.out 0
  have zf1 := blk_free HZ.out 1
  have zf2 := blk_free HZ.out 2
  have zf3 := blk_free HZ.out 3
  have zf4 := blk_free HZ.out 4
  have zf5 := blk_free HZ.out 5
  have zf6 := blk_free HZ.out 6
  have zf7 := blk_free HZ.out 7
  have zf8 := blk_free HZ.out 8
  have zf9 := blk_free HZ.out 9
  go_wp2
  refine bodyPost_ret (v := .tuple #[corV (0, 0) (0, 0) (0, 0) 0 none 0 0 none 0 0 false, .bool false]) ?_ rfl ⟨by rw [HA.out]; rfl, by (iterate 10 refine below_set2 (Nat.le_succ _) ?_); exact BW.out⟩
  simp [results, Tryz.results18]
  go_simp
 | some cr =>
  rw [ha] at hA
  obtain ⟨v, rfl, LA, ln, RA, rn, rfl, hll, hlr, hrl, hrr⟩ := hA
  obtain ⟨⟨u1, u2⟩, ⟨c1, c2⟩, ⟨q1, q2⟩, sz, l, r, sm⟩ := cr
  simp only at hll hlr hrl hrr
  obtain ⟨W2, hW2⟩ : ∃ W2, W2 = w1.alloc (.cells #[.int .i64 u1, .int .i64 u2, .int .i64 c1, .int .i64 c2, .int .i64 q1, .int .i64 q2, .int .i64 sz, .slice LA l.length ln, .slice RA r.length rn, .bool sm] 41) := ⟨_, rfl⟩
  have B2 : Below w1.heap.size w1 W2 := by rw [hW2]; exact bq
  have HK : Hid (W2.heap[w1.heap.size]? = some (.cells #[.int .i64 u1, .int .i64 u2, .int .i64 c1, .int .i64 c2, .int .i64 q1, .int .i64 q2, .int .i64 sz, .slice LA l.length ln, .slice RA r.length rn, .bool sm] 41 (0, 0))) := Lib.hid (by rw [hW2]; exact heap_alloc_new _ _)
  have BW : Hid (Below w.heap.size w W2) := Lib.hid (below_step (below_step B0 hb1) B2)
  have HZ := Lib.hid (blk_below (blk_below hZ hb1) B2)
  have HP := Lib.hid (blk_below (blk_below hP hb1) B2)
  have HR2 := Lib.hid (HR1.out.below B2)
  have HLR := Lib.hid (hlr.below B2)
  have HRR := Lib.hid (hrr.below B2)
  have hkz := lt_of_block HK.out
  clear hlr hrr hP hZ B0 hb1 HR1 HR
  by_cases hu : u1 = q1 ∧ u2 = q2
  ·have HA := Lib.hid (remov_bad ha (.inl (by show ((u1, u2) : Pt) = (q1, q2); rw [hu.1, hu.2])))
   obtain ⟨rfl, rfl⟩ := hu
   clear ha B2 HR2 HLR HRR 
   subst hW2
   have zc0 := blk_cell HZ.out 0 rfl
   have zc1 := blk_cell HZ.out 1 rfl
   have zc2 := blk_cell HZ.out 2 rfl
   have zc3 := blk_cell HZ.out 3 rfl
   have zc4 := blk_cell HZ.out 4 rfl
   have zc5 := blk_cell HZ.out 5 rfl
   have zc6 := blk_cell HZ.out 6 rfl
   have zc7 := blk_cell HZ.out 7 rfl
   have zc8 := blk_cell HZ.out 8 rfl
   have zc9 := blk_cell HZ.out 9 rfl
   have zf0 := blk_free HZ.out 0
   have zf1 := blk_free HZ.out 1
   have zf2 := blk_free HZ.out 2
   have zf3 := blk_free HZ.out 3
   have zf4 := blk_free HZ.out 4
   have zf5 := blk_free HZ.out 5
   have zf6 := blk_free HZ.out 6
   have zf7 := blk_free HZ.out 7
   have zf8 := blk_free HZ.out 8
   have zf9 := blk_free HZ.out 9
   go_wp2
   refine bodyPost_ret (v := .tuple #[corV (0, 0) (0, 0) (0, 0) 0 none 0 0 none 0 0 false, .bool false]) ?_ rfl ⟨by rw [HA.out]; rfl, by (iterate 10 refine below_set2 (Nat.le_succ _) ?_); exact BW.out⟩
   simp [results, Tryz.results18]
   go_simp
  ·have hu1 : (decide (u1 = q1) && decide (u2 = q2)) = false := by simpa using hu
   cases sm
   ·have HA := Lib.hid (remov_bad ha (.inr rfl))
    clear hu
    clear ha B2 HR2 HLR HRR 
    subst hW2
    have zc0 := blk_cell HZ.out 0 rfl
    have zc1 := blk_cell HZ.out 1 rfl
    have zc2 := blk_cell HZ.out 2 rfl
    have zc3 := blk_cell HZ.out 3 rfl
    have zc4 := blk_cell HZ.out 4 rfl
    have zc5 := blk_cell HZ.out 5 rfl
    have zc6 := blk_cell HZ.out 6 rfl
    have zc7 := blk_cell HZ.out 7 rfl
    have zc8 := blk_cell HZ.out 8 rfl
    have zc9 := blk_cell HZ.out 9 rfl
    have zf0 := blk_free HZ.out 0
    have zf1 := blk_free HZ.out 1
    have zf2 := blk_free HZ.out 2
    have zf3 := blk_free HZ.out 3
    have zf4 := blk_free HZ.out 4
    have zf5 := blk_free HZ.out 5
    have zf6 := blk_free HZ.out 6
    have zf7 := blk_free HZ.out 7
    have zf8 := blk_free HZ.out 8
    have zf9 := blk_free HZ.out 9
    go_wp2
    refine bodyPost_ret (v := .tuple #[corV (0, 0) (0, 0) (0, 0) 0 none 0 0 none 0 0 false, .bool false]) ?_ rfl ⟨by rw [HA.out]; rfl, by (iterate 10 refine below_set2 (Nat.le_succ _) ?_); exact BW.out⟩
    simp [results, Tryz.results18]
    go_simp
   ·have HB : Hid (¬ (((u1, u2) : Pt) = (q1, q2) ∨ true = false)) := Lib.hid (by simpa using hu)
    clear hu
    have HH := Lib.hid (remov_hit ha HB.out)
    have HO := Lib.hid (remov_ok ha HB.out)
    clear ha HB
    go_wp2_with fail
    rw [← hW2]
    clear hW2
    generalize hff : (fun e => !endE (p1, p2) e && blocksZ ⟨(u1, u2), (c1, c2), (q1, q2), sz, l, r, true⟩ e) = ff at *
    have HF := Lib.hid (fun e => congrFun hff e)
    clear hff
    go_loopw [33] (fun i wr => ∃ k : Nat, k ≤ m.length ∧ i = .int .i64 k ∧ Hid (Below W2.heap.size W2 wr) ∧ Hid ((m.take k).any ff = false)) (fun i _ => m.length - (intOf i).toNat)
    case atStart => exact ⟨0, Nat.zero_le _, rfl, Below.refl _ _, by simp [Hid]⟩
    case round =>
     obtain ⟨k, hk, rfl, HBr, hall⟩ := hrel
     have HK := Lib.hid (blk_below HK.out HBr.out)
     have HZ := Lib.hid (blk_below HZ.out HBr.out)
     have HP := Lib.hid (blk_below HP.out HBr.out)
     have BW := Lib.hid (below_step BW.out HBr.out)
     have hszr := HBr.out.size
     have hpz := lt_of_block HP.out
     have hkr := lt_of_block HK.out
     have hzr := lt_of_block HZ.out
     have kc0 := blk_cell HK.out 0 rfl
     have kc1 := blk_cell HK.out 1 rfl
     have kc2 := blk_cell HK.out 2 rfl
     have kc3 := blk_cell HK.out 3 rfl
     have kc4 := blk_cell HK.out 4 rfl
     have kc5 := blk_cell HK.out 5 rfl
     have kc6 := blk_cell HK.out 6 rfl
     have kc7 := blk_cell HK.out 7 rfl
     have kc8 := blk_cell HK.out 8 rfl
     have kc9 := blk_cell HK.out 9 rfl
     have xp0 := blk_cell HP.out 0 rfl
     have xp1 := blk_cell HP.out 1 rfl
     by_cases hlt : k < m.length
     ·obtain ⟨ad, A1, d1, A2, d2, rfl, hx0, hx1, hx2, hx3, hx4, hx5, hc1, hr1, hc2, hr2⟩ := (HR2.out.below HBr.out).edge_at k hlt
      have HSN : Hid ((m.take (k + 1)).any ff = ((m.take k).any ff || ff (egD m k))) := Lib.hid (by rw [take_snoc m k (((0, 0), (0, 0)), ([], [])) hlt, List.any_append]; simp [egD])
      have HIN : Hid (egD m k ∈ m) := Lib.hid (by rw [egD_eq hlt]; exact List.getElem_mem _)
      have HFX := Lib.hid (HF.out (egD m k))
      clear hr1 hr2 hc1 hc2
      generalize egD m k = e at *
      obtain ⟨⟨⟨a1, a2⟩, ⟨b1, b2⟩⟩, L, R⟩ := e
      simp only at hx0 hx1 hx2 hx3 hx4 hx5
      by_cases h1 : a1 = p1 ∧ a2 = p2
      ·obtain ⟨rfl, rfl⟩ := h1
       have HFx : Hid (ff (((a1, a2), (b1, b2)), (L, R)) = false) := Lib.hid (HFX.out.symm.trans (by simp [endE]))
       clear HH HO HFX HK HZ HP kc0 kc1 kc2 kc3 kc4 kc5 kc6 kc7 kc8 kc9
       go_wp2
       go_roundw
       case rel => exact ⟨k + 1, by omega, by go_num, (by repeat (first | exact Below.refl _ _ | apply below_alloc | apply below_drewN | apply below_drew | (refine below_set2 ?_ ?_; (first | (simp; done) | (simp; omega))) | (refine below_step ?_ HBr.out))), Lib.hid (by rw [HSN.out, hall.out, HFx.out]; rfl)⟩
       case measure => simp [intOf]; omega
      ·have g1 : (decide (a1 = p1) && decide (a2 = p2)) = false := by simpa using h1
       by_cases h2 : b1 = p1 ∧ b2 = p2
       ·obtain ⟨rfl, rfl⟩ := h2
        have HFx : Hid (ff (((a1, a2), (b1, b2)), (L, R)) = false) := Lib.hid (HFX.out.symm.trans (by simp [endE]))
        clear h1 HH HO HFX HK HZ HP kc0 kc1 kc2 kc3 kc4 kc5 kc6 kc7 kc8 kc9
        go_wp2
        go_roundw
        case rel => exact ⟨k + 1, by omega, by go_num, (by repeat (first | exact Below.refl _ _ | apply below_alloc | apply below_drewN | apply below_drew | (refine below_set2 ?_ ?_; (first | (simp; done) | (simp; omega))) | (refine below_step ?_ HBr.out))), Lib.hid (by rw [HSN.out, hall.out, HFx.out]; rfl)⟩
        case measure => simp [intOf]; omega
       ·have g2 : (decide (b1 = p1) && decide (b2 = p2)) = false := by simpa using h2
        have HFB : Hid (ff (((a1, a2), (b1, b2)), (L, R)) = blocksZ ⟨(u1, u2), (c1, c2), (q1, q2), sz, l, r, true⟩ (((a1, a2), (b1, b2)), (L, R))) := Lib.hid (HFX.out.symm.trans (by simp [endE, h1, h2]))
        clear h1 h2 HFX
        have CB := Lib.hid (fun W => corner_blocks u1 u2 c1 c2 q1 q2 sz l r true true LA RA l.length ln r.length rn a1 a2 b1 b2 L R A1 A2 L.length d1 R.length d2 W)
        generalize blocksZ ⟨(u1, u2), (c1, c2), (q1, q2), sz, l, r, true⟩ (((a1, a2), (b1, b2)), (L, R)) = bz at *
        cases bz
        ·have HFx := HFB
         clear HH HO
         go_wp2_with fail
         refine (CB.out _).mono ?_
         rintro e w4 ⟨rfl, hb4⟩
         clear HK HZ HP kc0 kc1 kc2 kc3 kc4 kc5 kc6 kc7 kc8 kc9 hx0 hx1 hx2 hx3 hx4 hx5
         go_wp2
         go_roundw
         case rel => exact ⟨k + 1, by omega, by go_num, (by repeat (first | exact Below.refl _ _ | apply below_alloc | apply below_drewN | apply below_drew | (refine below_set2 ?_ ?_; (first | (simp; done) | (simp; omega))) | (refine below_step ?_ hb4) | (refine below_step ?_ HBr.out))), Lib.hid (by rw [HSN.out, hall.out, HFx.out]; rfl)⟩
         case measure => simp [intOf]; omega
        ·have HA := Lib.hid (HH.out (List.any_eq_true.2 ⟨_, HIN.out, HFB.out⟩))
         clear HH HO
         go_wp2_with fail
         refine (CB.out _).mono ?_
         rintro e w4 ⟨rfl, hb4⟩
         have B4 : Below wr.heap.size wr w4 := (by repeat (first | exact Below.refl _ _ | apply below_alloc | apply below_drewN | apply below_drew | (refine below_set2 ?_ ?_; (first | (simp; done) | (simp; omega))) | (refine below_step ?_ hb4)))
         have HZ := Lib.hid (blk_below HZ.out B4)
         have BW := Lib.hid (below_step BW.out B4)
         clear HK HP kc0 kc1 kc2 kc3 kc4 kc5 kc6 kc7 kc8 kc9 hx0 hx1 hx2 hx3 hx4 hx5 hb4
         have zc0 := blk_cell HZ.out 0 rfl
         have zc1 := blk_cell HZ.out 1 rfl
         have zc2 := blk_cell HZ.out 2 rfl
         have zc3 := blk_cell HZ.out 3 rfl
         have zc4 := blk_cell HZ.out 4 rfl
         have zc5 := blk_cell HZ.out 5 rfl
         have zc6 := blk_cell HZ.out 6 rfl
         have zc7 := blk_cell HZ.out 7 rfl
         have zc8 := blk_cell HZ.out 8 rfl
         have zc9 := blk_cell HZ.out 9 rfl
         have zf0 := blk_free HZ.out 0
         have zf1 := blk_free HZ.out 1
         have zf2 := blk_free HZ.out 2
         have zf3 := blk_free HZ.out 3
         have zf4 := blk_free HZ.out 4
         have zf5 := blk_free HZ.out 5
         have zf6 := blk_free HZ.out 6
         have zf7 := blk_free HZ.out 7
         have zf8 := blk_free HZ.out 8
         have zf9 := blk_free HZ.out 9
         go_wp2
         refine bodyPost_ret (v := .tuple #[corV (0, 0) (0, 0) (0, 0) 0 none 0 0 none 0 0 false, .bool false]) ?_ rfl ⟨by rw [HA.out]; rfl, by (iterate 10 refine below_set2 (Nat.le_succ _) ?_); exact BW.out⟩
         simp [results, Tryz.results18]
         go_simp
     ·obtain rfl : k = m.length := by omega
      have HA := Lib.hid (HO.out (by have := hall.out; rwa [List.take_length] at this))
      clear HH HO
      have zc0 := blk_cell HZ.out 0 rfl
      have zc1 := blk_cell HZ.out 1 rfl
      have zc2 := blk_cell HZ.out 2 rfl
      have zc3 := blk_cell HZ.out 3 rfl
      have zc4 := blk_cell HZ.out 4 rfl
      have zc5 := blk_cell HZ.out 5 rfl
      have zc6 := blk_cell HZ.out 6 rfl
      have zc7 := blk_cell HZ.out 7 rfl
      have zc8 := blk_cell HZ.out 8 rfl
      have zc9 := blk_cell HZ.out 9 rfl
      have zf0 := blk_free HZ.out 0
      have zf1 := blk_free HZ.out 1
      have zf2 := blk_free HZ.out 2
      have zf3 := blk_free HZ.out 3
      have zf4 := blk_free HZ.out 4
      have zf5 := blk_free HZ.out 5
      have zf6 := blk_free HZ.out 6
      have zf7 := blk_free HZ.out 7
      have zf8 := blk_free HZ.out 8
      have zf9 := blk_free HZ.out 9
      go_wp2
      obtain ⟨WF, hWF⟩ : ∃ WF, WF = ((((((((((wr.setCell ⟨w.heap.size + 1, 0, none⟩ (.int .i64 u1)).setCell ⟨w.heap.size + 1, 1, none⟩ (.int .i64 u2)).setCell ⟨w.heap.size + 1, 2, none⟩ (.int .i64 c1)).setCell ⟨w.heap.size + 1, 3, none⟩ (.int .i64 c2)).setCell ⟨w.heap.size + 1, 4, none⟩ (.int .i64 q1)).setCell ⟨w.heap.size + 1, 5, none⟩ (.int .i64 q2)).setCell ⟨w.heap.size + 1, 6, none⟩ (.int .i64 sz)).setCell ⟨w.heap.size + 1, 7, none⟩ (.slice LA l.length ln)).setCell ⟨w.heap.size + 1, 8, none⟩ (.slice RA r.length rn)).setCell ⟨w.heap.size + 1, 9, none⟩ (.bool true)) := ⟨_, rfl⟩
      have KF : KeptS (fun k => k = w.heap.size + 1) wr WF := by rw [hWF]; exact (kept_set rfl (kept_set rfl (kept_set rfl (kept_set rfl (kept_set rfl (kept_set rfl (kept_set rfl (kept_set rfl (kept_set rfl (kept_set rfl (kept_refl _ _)))))))))))
      have hF := (blk_set (i := 9) (blk_set (i := 8) (blk_set (i := 7) (blk_set (i := 6) (blk_set (i := 5) (blk_set (i := 4) (blk_set (i := 3) (blk_set (i := 2) (blk_set (i := 1) (blk_set (i := 0) HZ.out (.int .i64 u1)) (.int .i64 u2)) (.int .i64 c1)) (.int .i64 c2)) (.int .i64 q1)) (.int .i64 q2)) (.int .i64 sz)) (.slice LA l.length ln)) (.slice RA r.length rn)) (.bool true))
      have HYF : Hid (Row Ty.i64 (fun k => ok k ∨ w.heap.size ≤ k) WF LA l) := ((HLR.out.below HBr.out).step (fun k hk hlt => KF.block k hlt (fun e : k = w.heap.size + 1 => by omega))).mono (fun k hk => hk.elim (fun h => .inl h.1) (fun h => .inr (by omega)))
      have HZF : Hid (Row Ty.i64 (fun k => ok k ∨ w.heap.size ≤ k) WF RA r) := ((HRR.out.below HBr.out).step (fun k hk hlt => KF.block k hlt (fun e : k = w.heap.size + 1 => by omega))).mono (fun k hk => hk.elim (fun h => .inl h.1) (fun h => .inr (by omega)))
      have BF : Hid (Below w.heap.size w WF) := below_kept BW.out KF (fun b hb => by omega)
      simp only [List.setIfInBounds_toArray, List.set_cons_zero, List.set_cons_succ] at hF
      rw [← hWF] at hF ⊢
      clear hWF KF zc0 zf0 zc1 zf1 zc2 zf2 zc3 zf3 zc4 zf4 zc5 zf5 zc6 zf6 zc7 zf7 zc8 zf8 zc9 zf9
      have rc0 := blk_cell hF 0 rfl
      have rc1 := blk_cell hF 1 rfl
      have rc2 := blk_cell hF 2 rfl
      have rc3 := blk_cell hF 3 rfl
      have rc4 := blk_cell hF 4 rfl
      have rc5 := blk_cell hF 5 rfl
      have rc6 := blk_cell hF 6 rfl
      have rc7 := blk_cell hF 7 rfl
      have rc8 := blk_cell hF 8 rfl
      have rc9 := blk_cell hF 9 rfl
      go_wp2
      refine bodyPost_ret (v := .tuple #[corV (u1, u2) (c1, c2) (q1, q2) sz LA l.length ln RA r.length rn true, .bool true]) ?_ rfl ⟨?_, BF.out⟩
      ·simp [results, Tryz.results18]
       go_simp
      ·rw [HA.out]
       exact ⟨_, rfl, LA, ln, RA, rn, rfl, hll, HYF.out, hrl, HZF.out⟩
end
section
open Go.RowKit Go.Proofs.YtaeflnbjeaoapaaGreatW.PrintLast

/-- The place of the first element that a test accepts, or -1. -/
def idxP {α : Type} (xs : List α) (p : α → Bool) : Int := if xs.findIdx p < xs.length then (xs.findIdx p : Int) else -1
theorem idxP_hit {α : Type} {xs : List α} {p : α → Bool} {k : Nat} (d : α) (hk : k < xs.length) (h0 : ∀ j, j < k → p (xs.getD j d) = false) (h1 : p (xs.getD k d) = true) : idxP xs p = (k : Int) := by
 have e : xs.findIdx p = k := by
  rw [List.findIdx_eq hk]
  refine ⟨by simpa [hk] using h1, fun j hj => ?_⟩
  have := h0 j hj
  simpa [show j < xs.length by omega] using this
 rw [idxP, e, if_pos hk]
theorem idxP_none {α : Type} {xs : List α} {p : α → Bool} (d : α) (h0 : ∀ j, j < xs.length → p (xs.getD j d) = false) : idxP xs p = -1 := by
 have e : xs.findIdx p = xs.length := by
  rw [List.findIdx_eq_length]
  intro x hx
  obtain ⟨j, hj, rfl⟩ := List.mem_iff_getElem.1 hx
  simpa [hj] using h0 j hj
 rw [idxP, e, if_neg (Nat.lt_irrefl _)]
theorem all_succ {p : Nat → Bool} {k : Nat} (h : ∀ j, j < k → p j = false) (hk : p k = false) : ∀ j, j < k + 1 → p j = false := fun j hj => by
 by_cases e : j = k
 ·rw [e]; exact hk
 ·exact h j (by omega)
theorem idxP_cases {α : Type} (xs : List α) (p : α → Bool) (d : α) : (idxP xs p = -1 ∧ ∀ j, j < xs.length → p (xs.getD j d) = false) ∨ ∃ k : Nat, idxP xs p = (k : Int) ∧ k < xs.length ∧ p (xs.getD k d) = true ∧ ∀ j, j < k → p (xs.getD j d) = false := by
 unfold idxP
 split
 ·rename_i h
  refine .inr ⟨_, rfl, h, ?_, fun j hj => ?_⟩
  ·have := List.findIdx_getElem (w := h)
   simpa [h] using this
  ·have := List.not_of_lt_findIdx hj
   simpa [show j < xs.length by omega] using this
 ·rename_i h
  refine .inl ⟨rfl, fun j hj => ?_⟩
  have := List.not_of_lt_findIdx (xs := xs) (p := p) (i := j) (by omega)
  simpa [hj] using this
theorem filter_keep {α : Type} {xs ys : List α} {p : α → Bool} {i j : Nat} {d : α} (h1 : ys.length = xs.length) (h2 : ys.take i = (xs.take j).filter (fun x => !p x)) (hi : i < j) (hj : j < xs.length) (hp : p (xs.getD j d) = false) : (ys.set i (xs.getD j d)).take (i + 1) = (xs.take (j + 1)).filter (fun x => !p x) := by
 rw [take_snoc xs j d hj, List.filter_append, ← h2, List.take_succ_eq_append_getElem (by rw [List.length_set]; omega)]
 have e1 : (ys.set i (xs.getD j d)).take i = ys.take i := by rw [List.take_set, List.set_eq_of_length_le (by rw [List.length_take]; omega)]
 have e2 : [xs.getD j d].filter (fun x => !p x) = [xs.getD j d] := by rw [List.filter_cons_of_pos (by rw [hp]; rfl)]; rfl
 rw [e1, e2, List.getElem_set_self]
theorem filter_skip {α : Type} {xs : List α} {p : α → Bool} {j : Nat} {d : α} (hj : j < xs.length) (hp : p (xs.getD j d) = true) : (xs.take (j + 1)).filter (fun x => !p x) = (xs.take j).filter (fun x => !p x) := by
 have e2 : [xs.getD j d].filter (fun x => !p x) = [] := by rw [List.filter_cons_of_neg (by rw [hp]; simp)]; rfl
 rw [take_snoc xs j d hj, List.filter_append, e2, List.append_nil]
theorem filter_all {α : Type} {xs : List α} {p : α → Bool} {j : Nat} {d : α} (hj : j ≤ xs.length) (h : ∀ m, m < j → p (xs.getD m d) = false) : (xs.take j).filter (fun x => !p x) = xs.take j := by
 rw [List.filter_eq_self]
 intro x hx
 obtain ⟨m, hm, rfl⟩ := List.getElem_of_mem hx
 have hm' : m < j := by rw [List.length_take] at hm; omega
 have := h m hm'
 simp [show m < xs.length by omega] at this
 simp [this]
def EntersP (K : Nat) : Prop := ∀ (args : Array Value) (w : World), (callFunc K args).run Tryz.prog w = .ok (.enter K args) w
theorem enters_num {K : Nat} {fn : Func} {c : Code} (hf : Tryz.prog.funcs[K]? = some fn) (hname : (fn.name == "runtime.NumGoroutine") = false) (hb : fn.body = some c) : EntersP K := by
 intro args w
 have h1 : fn.name ≠ "runtime.NumGoroutine" := by simpa using hname
 simp [callFunc, hf, h1, hb]
/-- A function value that answers p at every edge, in every world that has turned in blocks of S alone. -/
def PredE (K : Nat) (cap : Array Value) (S : Nat → Prop) (w : World) (p : Edg → Bool) : Prop :=
 ∀ W : World, KeptS S w W → ∀ (x : Edg) (A B : Option Addr) (n c m d : Nat), Calls Tryz.prog K (#[.agg #[.int .i64 x.1.1.1, .int .i64 x.1.1.2, .int .i64 x.1.2.1, .int .i64 x.1.2.2, .slice A n c, .slice B m d]] ++ cap) W fun e w' => e = .returned (.bool (p x)) ∧ Below W.heap.size W w'
theorem PredE.below {K : Nat} {cap : Array Value} {S : Nat → Prop} {w w' : World} {p : Edg → Bool} (h : PredE K cap S w p) (hb : KeptS S w w') : PredE K cap S w' p := fun W hk => h W (kept_step hb hk)
theorem IndexFunc_edge {ok : Nat → Prop} {S : Nat → Prop} (xs : Msh) (A : Option Addr) (n c : Nat) (w : World) (K : Nat) (cap : Array Value) (p : Edg → Bool) (hr : Row Ty.edge ok w A xs) (hn : n = xs.length) (hp : PredE K cap S w p) (hK : EntersP K) :
  Calls Tryz.prog 71 #[.slice A n c, .func (.func K) #[] cap] w fun e w' => e = .returned (.int .i64 (idxP xs p)) ∧ Below w.heap.size w w' := by
 subst hn
 have hm := hr.len
 have HP := Lib.hid hp
 have HR := Lib.hid hr
 clear hp hr
 unfold EntersP at hK
 go_enter Tryz.func71, Tryz.ntmps71
 go_wp2
 go_loopw [8] (fun i wr => ∃ k : Nat, k ≤ xs.length ∧ i = .int .i64 k ∧ Below w.heap.size w wr ∧ Hid (∀ j, j < k → p (egD xs j) = false)) (fun i _ => xs.length - (intOf i).toNat)
 case atStart => exact ⟨0, Nat.zero_le _, rfl, Below.refl _ _, fun j hj => absurd hj (Nat.not_lt_zero _)⟩
 case round =>
  obtain ⟨k, hk, rfl, hb, hall⟩ := hrel
  by_cases hlt : k < xs.length
  ·obtain ⟨ad, A1, c1, A2, c2, rfl, hx0, hx1, hx2, hx3, hx4, hx5, _, hr1, _, hr2⟩ := (HR.out.below hb).edge_at k hlt
   have hz := hb.size
   have HQ := Lib.hid (fun W (hW : Below wr.heap.size wr W) => HP.out W (kept_of_below (below_step hb hW)) (egD xs k) A1 A2 (egD xs k).2.1.length c1 (egD xs k).2.2.length c2)
   clear hr1 hr2
   cases hv : p (egD xs k)
   ·have HV := Lib.hid hv
    go_wp2_with fail
    (refine (HQ.out _ (Below.refl _ _)).mono ?_; rintro e w1 ⟨rfl, hb1⟩)
    rw [HV.out]
    go_wp2
    go_roundw
    case rel => exact ⟨k + 1, by omega, by go_num, (by repeat (first | exact Below.refl _ _ | apply below_alloc | apply below_drewN | apply below_drew | (refine below_set2 ?_ ?_; (first | (simp; done) | (simp; omega))) | (refine below_step ?_ hb1) | (refine below_step ?_ hb))), all_succ hall.out HV.out⟩
    case measure => simp [intOf]; omega
   ·have HV := Lib.hid hv
    go_wp2_with fail
    (refine (HQ.out _ (Below.refl _ _)).mono ?_; rintro e w1 ⟨rfl, hb1⟩)
    rw [HV.out]
    go_wp2
    go_ret
    exact ⟨ret_int (idxP_hit (((0, 0), (0, 0)), ([], [])) hlt hall.out HV.out).symm, (by repeat (first | exact Below.refl _ _ | apply below_alloc | apply below_drewN | apply below_drew | (refine below_set2 ?_ ?_; (first | (simp; done) | (simp; omega))) | (refine below_step ?_ hb1) | (refine below_step ?_ hb)))⟩
  ·obtain rfl : k = xs.length := by omega
   go_wp2
   go_ret
   exact ⟨ret_int (idxP_none (((0, 0), (0, 0)), ([], [])) hall.out).symm, hb⟩
theorem OwnR.edge_at {e : TypeId} {base g n c : Nat} {M : Nat → Prop} {w : World} {xs : Msh} (h : OwnR Ty.edge e base M w (.slice (some ⟨g, 0, none⟩) n c) xs) (k : Nat) (hk : k < xs.length) :
  ∃ A1 c1 A2 c2, w.cell? ⟨g, k * 6, none⟩ = some (.int .i64 (egD xs k).1.1.1) ∧ w.cell? ⟨g, k * 6 + 1, none⟩ = some (.int .i64 (egD xs k).1.1.2) ∧ w.cell? ⟨g, k * 6 + 2, none⟩ = some (.int .i64 (egD xs k).1.2.1) ∧ w.cell? ⟨g, k * 6 + 3, none⟩ = some (.int .i64 (egD xs k).1.2.2) ∧
   w.cell? ⟨g, k * 6 + 4, none⟩ = some (.slice A1 (egD xs k).2.1.length c1) ∧ w.cell? ⟨g, k * 6 + 5, none⟩ = some (.slice A2 (egD xs k).2.2.length c2) ∧
   (egD xs k).2.1.length ≤ c1 ∧ Row Ty.i64 (fun b => ¬ M b) w A1 (egD xs k).2.1 ∧ (egD xs k).2.2.length ≤ c2 ∧ Row Ty.i64 (fun b => ¬ M b) w A2 (egD xs k).2.2 := by
 obtain ⟨h0, inner, ho, hr⟩ := h
 obtain ⟨cs, ⟨d1, d2, rfl, h1, d3, d4, rfl, ⟨A1, c1, rfl, hl1, hr1⟩, A2, c2, rfl, hl2, hr2⟩, hc⟩ := hr.get k xs[k] (by simp [hk])
 rw [egD_eq hk]
 obtain rfl : d1 = _ := h1
 have cell : ∀ (j : Nat) (u : Value), ([Value.int .i64 xs[k].1.1.1, .int .i64 xs[k].1.1.2, .int .i64 xs[k].1.2.1, .int .i64 xs[k].1.2.2] ++ ([.slice A1 xs[k].2.1.length c1] ++ [.slice A2 xs[k].2.2.length c2]))[j]? = some u → w.cell? ⟨g, k * 6 + j, none⟩ = some u := fun j u hu => by
  have := ho.cells (g := g) rfl _ u (hc j u hu)
  rw [add_at, Nat.zero_add] at this
  exact this
 exact ⟨A1, c1, A2, c2, cell 0 _ rfl, cell 1 _ rfl, cell 2 _ rfl, cell 3 _ rfl, cell 4 _ rfl, cell 5 _ rfl, hl1, hr1, hl2, hr2⟩
theorem egD_of {xs ys : Msh} {j : Nat} (h : ys[j]? = xs[j]?) : egD ys j = egD xs j := by simp only [egD, List.getD_eq_getElem?_getD, h]
set_option maxRecDepth 100000 in
set_option maxHeartbeats 4000000 in
theorem DeleteFunc_edge (xs : Msh) (g c base : Nat) (w : World) (K : Nat) (cap : Array Value) (p : Edg → Bool) (ho : Own1 Ty.edge 31 base w (.slice (some ⟨g, 0, none⟩) xs.length c) xs) (hp : PredE K cap (fun b => b = g) w p) (hK : EntersP K) :
  Calls Tryz.prog 68 #[.slice (some ⟨g, 0, none⟩) xs.length c, .func (.func K) #[] cap] w fun e w' => ∃ v', e = .returned v' ∧ v' = .slice (some ⟨g, 0, none⟩) (xs.filter (fun x => !p x)).length c ∧ Own1 Ty.edge 31 base w' v' (xs.filter (fun x => !p x)) ∧ KeptS (fun b => b = g) w w' := by
 obtain ⟨A, c', hv, hlc, hr⟩ := ho.reads
 injection hv with hv hv2 hv3
 subst hv hv3
 have HO := Lib.hid ho
 have HP := Lib.hid hp
 have HK := Lib.hid hK
 have hmx := hr.len
 clear ho hp hv2
 unfold EntersP at hK
 go_enter Tryz.func68, Tryz.ntmps68
 go_wp2_with fail
 refine (IndexFunc_edge xs _ _ c w K cap p hr rfl HP.out HK.out).mono ?_
 rintro e w1 ⟨rfl, hb1⟩
 clear hr
 rcases idxP_cases xs p (((0, 0), (0, 0)), ([], [])) with ⟨hi, hall⟩ | ⟨k0, hi, hk0, ht, hall⟩
 ·rw [hi]
  have HE : Hid (xs.filter (fun x => !p x) = xs) := by
   show _ = _
   rw [List.filter_eq_self]
   intro x hx
   obtain ⟨j, hj, rfl⟩ := List.getElem_of_mem hx
   have := hall j hj
   simp [hj] at this
   simp [this]
  clear hi hall
  go_wp2
  go_ret
  exact ⟨_, rfl, by rw [HE.out]; rfl, by rw [HE.out]; exact Own1.below HO.out hb1, kept_of_below hb1⟩
 ·rw [hi]
  have HA : Hid (∀ j, j < k0 → p (egD xs j) = false) := hall
  have HT : Hid (p (egD xs k0) = true) := ht
  have HO1 := Lib.hid (Own1.below HO.out hb1)
  have HBw : Hid (KeptS (fun b => b = g) w w1) := kept_of_below hb1
  have hne : ((k0 : Int) == -1) = false := by simp
  clear hi hall ht hb1
  go_wp2
  go_loopw [5, 6] (fun i j wr => ∃ (i' j' : Nat) (ys : Msh), i = .int .i64 i' ∧ j = .int .i64 j' ∧ i' < j' ∧ j' ≤ xs.length ∧ ys.length = xs.length ∧ Hid (KeptS (fun b => b = g) w wr) ∧ Hid (Own1 Ty.edge 31 base wr (.slice (some ⟨g, 0, none⟩) xs.length c) ys) ∧
   Hid (ys.take i' = (xs.take j').filter (fun x => !p x)) ∧ Hid (∀ m, j' ≤ m → ys[m]? = xs[m]?)) (fun _ j _ => xs.length - (intOf j).toNat)
  case atStart => exact ⟨k0, k0 + 1, xs, rfl, by go_num, by omega, by omega, rfl, HBw, HO1, by show _ = _; rw [filter_skip hk0 HT.out, filter_all (by omega) HA.out], fun m _ => rfl⟩
  case round =>
   obtain ⟨i, j, ys, rfl, rfl, hij, hjn, hyl, HB, HOy, HI, HJ⟩ := hrel
   by_cases hlt : j < xs.length
   ·obtain ⟨A1, c1, A2, c2, hx0, hx1, hx2, hx3, hx4, hx5, hl1, hr1, hl2, hr2⟩ := OwnR.edge_at HOy.out j (by omega)
    rw [egD_of (HJ.out j (Nat.le_refl _))] at hx0 hx1 hx2 hx3 hx4 hx5 hl1 hr1 hl2 hr2
    have HFK : Hid ((!p (egD xs j)) = true → i < j → ys.length = xs.length → (ys.set i (egD xs j)).take (i + 1) = (xs.take (j + 1)).filter (fun x => !p x)) := fun hpf hij hyl => filter_keep hyl HI.out hij hlt (by show p (egD xs j) = false; revert hpf; cases p (egD xs j) <;> simp)
    have HSK : Hid (p (egD xs j) = true → (xs.take (j + 1)).filter (fun x => !p x) = (xs.take j).filter (fun x => !p x)) := fun hpt => filter_skip hlt hpt
    generalize egD xs j = e at *
    obtain ⟨⟨⟨a1, a2⟩, ⟨b1, b2⟩⟩, L, R⟩ := e
    simp only at hx0 hx1 hx2 hx3 hx4 hx5 hl1 hr1 hl2 hr2
    have HQ := Lib.hid (fun W (hW : Below wr.heap.size wr W) => HP.out W (kept_step HB.out (kept_of_below hW)) (((a1, a2), (b1, b2)), (L, R)) A1 A2 L.length c1 R.length c2)
    have R1 := Lib.hid hr1
    have R2 := Lib.hid hr2
    have hgl : g < wr.heap.size := by have := World.block_lt_of_cell? wr _ hx0; exact this
    clear hr1 hr2 HO1 HBw
    go_wp2_with fail
    refine (HQ.out _ (below_alloc (Below.refl _ _) _)).mono ?_
    rintro e w2 ⟨rfl, hb2⟩
    have BV : Below wr.heap.size wr w2 := (by repeat (first | exact Below.refl _ _ | apply below_alloc | apply below_drewN | apply below_drew | (refine below_set2 ?_ ?_; (first | (simp; done) | (simp; omega))) | (refine below_step ?_ hb2)))
    have hbk := (hb2.block wr.heap.size (by simp)).trans (heap_alloc_new wr _)
    have hv0 := blk_cell hbk 0 rfl
    have hv1 := blk_cell hbk 1 rfl
    have hv2 := blk_cell hbk 2 rfl
    have hv3 := blk_cell hbk 3 rfl
    have hv4 := blk_cell hbk 4 rfl
    have hv5 := blk_cell hbk 5 rfl
    have HB2 := Lib.hid (kept_below HB.out BV)
    have HO2 := Lib.hid (Own1.below HOy.out BV)
    have RY := Lib.hid (edgeR (s := ((a1, a2), (b1, b2))) hl1 (R1.out.below BV) hl2 (R2.out.below BV))
    clear hb2 BV hbk HB HOy hx0 hx1 hx2 hx3 hx4 hx5 R1 R2 HO HQ
    cases hpv : p (((a1, a2), (b1, b2)), (L, R))
    ·have HV : Hid (_ = _) := hpv
     go_wp2_with (refine wpList_storeT (T := Ty.edge) (y := (((a1, a2), (b1, b2)), (L, R))) (i := i) rfl (.tmp 33) (.tmp 32) 31 rfl (by kernel_rfl) rfl rfl HO2.out (by omega) rfl RY.out ?_; intro w3 HO3 HK3 hs3)
     have HB3 := Lib.hid (kept_step HB2.out HK3)
     have HO3' := Lib.hid HO3
     clear HO3 HK3 hs3
     go_wp2
     go_roundw
     case rel => exact ⟨i + 1, j + 1, ys.set i (((a1, a2), (b1, b2)), (L, R)), by go_num, by go_num, by omega, by omega, by rw [List.length_set]; exact hyl, HB3, HO3', HFK.out (by rw [HV.out]; rfl) hij hyl, fun m hm => by rw [List.getElem?_set_ne (by omega)]; exact HJ.out m (by omega)⟩
     case measure => simp [intOf]; omega
    ·have HV : Hid (_ = _) := hpv
     go_wp2
     go_roundw
     case rel => exact ⟨i, j + 1, ys, rfl, by go_num, by omega, by omega, hyl, HB2, HO2, by show _ = _; rw [HI.out]; exact (HSK.out HV.out).symm, fun m hm => HJ.out m (by omega)⟩
     case measure => simp [intOf]; omega
   ·obtain rfl : j = xs.length := by omega
    go_wp2_with (refine wpList_clearT (T := Ty.edge) (i := i) rfl (.tmp 38) 22 rfl Tryz.underlying22 (z := .agg #[.int .i64 0, .int .i64 0, .int .i64 0, .int .i64 0, .slice none 0 0, .slice none 0 0]) (fun w => by kernel_rfl) rfl (by decide) rfl HOy.out rfl (by omega) (by omega) ?_; intro w3 HO3 HK3 hs3)
    have HB3 := Lib.hid (kept_step HB.out HK3)
    have HO3' := Lib.hid HO3
    clear HO3 HK3 hs3
    go_wp2
    go_ret
    have e2 : ys.take i = xs.filter (fun x => !p x) := by rw [HI.out, List.take_length]
    have e3 : i = (xs.filter (fun x => !p x)).length := by rw [← e2, List.length_take]; omega
    rw [e2] at HO3'
    exact ⟨_, rfl, by rw [← e3]; rfl, HO3'.out, HB3.out⟩
theorem Clone_edge {ok : Nat → Prop} (rs : Msh) (A : Option Addr) (n c : Nat) (w : World) (hr : Row Ty.edge ok w A rs) (hn : n = rs.length) (hlen : rs.length ≤ 1000000) :
  Calls Tryz.prog 69 #[.slice A n c] w fun e w' => ∃ v, e = .returned v ∧ Own1 Ty.edge 31 w.heap.size w' v rs ∧ Below w.heap.size w w' := by
 subst hn
 have hr0 : Row Ty.edge (fun k => k < w.heap.size) w A rs := hr.bnd.mono (fun k hk => hk.2)
 clear hr
 have heq : ∀ (w : World) (a : Option Addr) (n c n' c' : Nat), (binOp .eql 22 (.slice a n c) (.slice none n' c')).run Tryz.prog w = .ok (.bool a.isNone) w := fun w a n c n' c' => Lib.run_eql_slice_nil w _ _ a n c n' c' Tryz.underlying22
 go_enter Tryz.func69, Tryz.ntmps69
 rcases A with _ | ad
 ·have hx : rs = [] := by
   rcases Nat.eq_zero_or_pos rs.length with hy | hy
   ·exact List.eq_nil_of_length_eq_zero hy
   ·obtain ⟨ad, e, _⟩ := hr0.2 hy
    cases e
  subst hx
  go_wp2
  go_ret
  exact ⟨_, rfl, OwnR.nil _ _ _ _ _, Below.refl _ _⟩
 ·have H0 : OwnR Ty.edge 31 w.heap.size (fun k => k = w.heap.size) (w.alloc (.cells #[] 31)) (.slice (some ⟨w.heap.size, 0, none⟩) 0 0) [] :=
   ⟨fun k hk => by simp [Value.ownBlock] at hk; exact hk.symm, [], by have := World.ownsRow_made (base := w.heap.size) (size := 6) (e := 31) w #[] 0 (Nat.le_refl _) (by decide) rfl; simpa [show Ty.edge.sz = 6 from rfl] using this, rfl⟩
  have R0 : Row Ty.edge (fun k => ¬ k = w.heap.size) (w.alloc (.cells #[] 31)) (some ad) rs := (hr0.alloc _).mono (fun k hk e => by omega)
  have h1000 : (([] : Msh).length + rs.length) * 80 ≤ 140737488355328 := by simp; omega
  clear hr0
  go_wp2_with (first | (at_builtin; refine app_row Ty.edge (W := w.alloc (.cells #[] 31)) w.heap.size rfl _ _ 22 31 _ 80 rfl Tryz.underlying22 infoEg rfl (by decide) _ [] rs (some ad) _ c _ rfl rfl rfl R0 H0 (by simp) h1000 ?_; intro v1 w1 HO1 hg1 hat1))
  have hb1 : Below w.heap.size w w1 := below_grown (below_alloc (Below.refl _ _) _) hg1 (fun b e => by cases e; exact Nat.le_refl _)
  have HO2 := Lib.hid (Own1.of HO1)
  clear HO1 hg1 hat1
  go_ret
  exact ⟨_, rfl, HO2.out, hb1⟩
end
section
open Go.RowKit Go.Proofs.YtaeflnbjeaoapaaGreatW.PrintLast

section
variable {α : Type} {T : Ty α} {ok : Nat → Prop} {w : World}
theorem Reps.drop : ∀ {xs : List α} {cs : List Value} (i : Nat), Reps T ok w xs cs → Reps T ok w (xs.drop i) (cs.drop (i * T.sz))
 | xs, cs, 0, h => by simpa using h
 | [], cs, i + 1, h => by rw [show cs = [] from h]; simp; exact rfl
 | x :: xs, cs, i + 1, ⟨c0, d, e, hc, hd⟩ => by
  subst e
  have hl := T.len hc
  rw [show (i + 1) * T.sz = c0.length + i * T.sz by rw [Nat.add_mul]; omega, List.drop_length_add_append]
  exact Reps.drop i hd
variable {P : Program} {e : TypeId} {base g n c : Nat} {M : Nat → Prop} {W : World} {xs : List α}
/-- copy(s[i+1:], s[i:n+1]) in an own row that has room for one more. -/
theorem OwnR.shift {t t' : TypeId} (HO : OwnR T e base M W (.slice (some ⟨g, 0, none⟩) n c) xs) {i : Nat} (hi : i < xs.length) (hroom : xs.length + 1 ≤ c) (hu : P.underlying t = some (.slice e)) (hsz : (P.info? e).map (·.size) = some T.sz) {q q' m m' : Nat} (hq : q = (i + 1) * T.sz) (hq' : q' = i * T.sz) (hm : m = xs.length - i) (hm' : m' = xs.length + 1 - i) :
  ∃ w', (∀ ty dc sc, (Builtin.copy_ #[t, t'] ty #[.slice (some ⟨g, q, none⟩) m dc, .slice (some ⟨g, q', none⟩) m' sc]).run P W = .ok (goInt m) w') ∧ OwnR T e base M w' (.slice (some ⟨g, 0, none⟩) (xs.length + 1) c) (xs.take (i + 1) ++ xs.drop i) ∧ KeptS (fun k => k = g) W w' := by
 subst hq hq' hm hm'
 obtain ⟨h0, inner, ho, hr⟩ := HO
 have hg : M g := h0 g rfl
 obtain ⟨hlen, ho⟩ := ho
 rcases ho with ⟨h, _⟩ | ⟨g', cap, cur, hv, hb, hh, h1, h2, h3, h4⟩
 ·cases h
 injection hv with hv hvn hvc; injection hv with hv; injection hv with hv
 subst hv hvc hvn
 obtain ⟨k, hk⟩ : ∃ k, xs.length - i = k + 1 := ⟨xs.length - i - 1, by omega⟩
 have hcs := Reps.drop i hr
 have hcl : (inner.drop (i * T.sz)).length = (k + 1) * T.sz := by rw [hcs.len, List.length_drop, hk]
 have hsum : i * T.sz + (k + 1) * T.sz = xs.length * T.sz := by rw [← Nat.add_mul]; congr 1; omega
 have hsum1 : (i + 1) * T.sz = i * T.sz + T.sz := by rw [Nat.add_mul, Nat.one_mul]
 have hsum2 : (xs.length + 1) * T.sz = xs.length * T.sz + T.sz := by rw [Nat.add_mul, Nat.one_mul]
 have hfit2 : (xs.length + 1) * T.sz ≤ c * T.sz := Nat.mul_le_mul_right _ hroom
 have hkpos : T.sz ≤ (k + 1) * T.sz := Nat.le_mul_of_pos_left _ (by omega)
 have hcu : cur.toList.length = c * T.sz := by rw [Array.length_toList, h3]
 obtain ⟨cs, hcse⟩ : ∃ cs, cs = inner.drop (i * T.sz) := ⟨_, rfl⟩
 rw [← hcse] at hcs hcl
 have hload := run_loadCells_list (P := P) W ⟨g, i * T.sz, none⟩ cs (fun j v hj => by
  rw [add_at]
  simp only [World.cell?, hh]
  have hj2 := (List.getElem?_eq_some_iff.1 hj).1
  rw [hcse, List.getElem?_drop, ← h4, List.getElem?_take] at hj
  split at hj
  ·simpa using hj
  ·cases hj)
 rw [hcl] at hload
 have hst := run_storeCells_at P g ((i + 1) * T.sz) e cs 0 cur W hh (by rw [hcl]; omega) hcs.one
 simp only [Nat.add_zero] at hst
 obtain ⟨W', hW'⟩ : ∃ W', W' = W.setRow g (cur.toList.take ((i + 1) * T.sz) ++ cs ++ cur.toList.drop ((i + 1) * T.sz + cs.length)).toArray := ⟨_, rfl⟩
 rw [← hW'] at hst
 have hkp : KeptS (fun k => k = g) W W' := by rw [hW']; exact ⟨rfl, rfl, rfl, by simp, fun k _ hk => setRow_other W g k _ hk⟩
 have step : ∀ {x : α} {d : List Value}, T.R (fun k => ¬ M k) W x d → T.R (fun k => ¬ M k) W' x d := fun hx => T.step hx (fun k hk' hlt => hkp.block k hlt (fun e => hk' (e ▸ hg)))
 refine ⟨W', fun ty dc sc => ?_, ⟨h0, inner.take ((i + 1) * T.sz) ++ cs, ⟨?_, .inr ⟨g, c, _, ?_, hb, by rw [hW']; exact setRow_heap W g cur _ e (0, 0) hh, ?_, h2, ?_, ?_⟩⟩, ((hr.take (i + 1)).imp (fun _ _ hx => step hx)).append (hcs.imp (fun _ _ hx => step hx))⟩, hkp⟩
 ·obtain ⟨i0, hi0, hz⟩ := Option.map_eq_some_iff.1 hsz
  have hmin : Nat.min (k + 1) (xs.length + 1 - i) = k + 1 := Nat.min_eq_left (by omega)
  have hmin2 : min (k + 1) (xs.length + 1 - i) = k + 1 := hmin
  have hmin3 : Nat.min (xs.length + 1 - i) (k + 1) = k + 1 := Nat.min_eq_right (by omega)
  rw [hk]
  have hfc : (Builtin.firstCells T.sz (k + 1) (.slice (some ⟨g, i * T.sz, none⟩) (xs.length + 1 - i) sc)).run P W = .ok cs.toArray W := by simpa [Builtin.firstCells] using hload
  simp [Builtin.copy_, run_underlying hu, Builtin.lenOf, sizeOf, typeInfo, hi0, hz, hmin, hmin2, hmin3, hfc, hst]
 ·rw [List.length_append, List.length_take, hlen, Nat.min_eq_left (by omega), hcl, List.length_append, List.length_take, List.length_drop, Nat.min_eq_left (by omega), show i + 1 + (xs.length - i) = xs.length + 1 by omega]; omega
 ·rw [List.length_append, List.length_take, List.length_drop, Nat.min_eq_left (by omega), show i + 1 + (xs.length - i) = xs.length + 1 by omega]
 ·rw [List.length_append, List.length_take, List.length_drop, Nat.min_eq_left (by omega)]; omega
 ·rw [List.size_toArray, List.length_append, List.length_append, List.length_take, List.length_drop, hcl, hcu, Nat.min_eq_left (by omega)]; omega
 ·rw [List.toList_toArray, show (xs.take (i + 1) ++ xs.drop i).length * T.sz = (cur.toList.take ((i + 1) * T.sz) ++ cs).length by rw [List.length_append, List.length_take, List.length_drop, Nat.min_eq_left (by omega), List.length_append, List.length_take, hcu, hcl, Nat.min_eq_left (by omega), show i + 1 + (xs.length - i) = xs.length + 1 by omega]; omega, List.take_left, ← h4, List.take_take, Nat.min_eq_left (by omega)]
/-- copy(s[i:], v) of one element into an own row. -/
theorem OwnR.copy1 {t t' : TypeId} {y : α} {vb m : Nat} (HO : OwnR T e base M W (.slice (some ⟨g, 0, none⟩) n c) xs) {i : Nat} (hi : i < xs.length) (hu : P.underlying t = some (.slice e)) (hsz : (P.info? e).map (·.size) = some T.sz) {q : Nat} (hq : q = i * T.sz) (hm : m = xs.length - i) (hy : Row T (fun k => ¬ M k) W (some ⟨vb, 0, none⟩) [y]) :
  ∃ w', (∀ ty dc sc, (Builtin.copy_ #[t, t'] ty #[.slice (some ⟨g, q, none⟩) m dc, .slice (some ⟨vb, 0, none⟩) 1 sc]).run P W = .ok (goInt 1) w') ∧ OwnR T e base M w' (.slice (some ⟨g, 0, none⟩) n c) (xs.set i y) ∧ KeptS (fun k => k = g) W w' := by
 subst hm
 obtain ⟨cs, hr, hc⟩ := hy.reps
 obtain ⟨c0, d, e0, hcr, hd⟩ := hr
 obtain rfl : d = [] := hd
 rw [List.append_nil] at e0
 subst e0
 obtain ⟨w', hrun, r1, r2, r3⟩ := HO.put (P := P) hi hq hcr
 refine ⟨w', fun ty dc sc => ?_, r1, r2⟩
 obtain ⟨i0, hi0, hz⟩ := Option.map_eq_some_iff.1 hsz
 obtain ⟨k, hk⟩ : ∃ k, xs.length - i = k + 1 := ⟨xs.length - i - 1, by omega⟩
 have hload := run_loadCells_list (P := P) W ⟨vb, 0, none⟩ cs hc
 rw [T.len hcr] at hload
 have hmin : Nat.min (k + 1) 1 = 1 := Nat.min_eq_right (by omega)
 have hmin2 : min (k + 1) 1 = 1 := hmin
 have hmin3 : Nat.min 1 (k + 1) = 1 := Nat.min_eq_left (by omega)
 have hfc : (Builtin.firstCells T.sz 1 (.slice (some ⟨vb, 0, none⟩) 1 sc)).run P W = .ok cs.toArray W := by simpa [Builtin.firstCells] using hload
 rw [hk]
 simp [Builtin.copy_, run_underlying hu, Builtin.lenOf, sizeOf, typeInfo, hi0, hz, hmin, hmin2, hmin3, hfc, hrun]
end
theorem set_ins {α : Type} (xs : List α) (i : Nat) (y : α) (hi : i < xs.length) : (xs.take (i + 1) ++ xs.drop i).set i y = xs.take i ++ y :: xs.drop i := by
 rw [List.take_succ_eq_append_getElem hi, List.append_assoc, List.set_append_right _ _ (by rw [List.length_take]; omega), List.length_take, Nat.min_eq_left (by omega), Nat.sub_self]
 rfl
theorem OwnR.blk {α : Type} {T : Ty α} {e : TypeId} {base g n c : Nat} {M : Nat → Prop} {w : World} {xs : List α} (h : OwnR T e base M w (.slice (some ⟨g, 0, none⟩) n c) xs) : base ≤ g ∧ c ≤ maxLen ∧ ∃ cur, w.heap[g]? = some (.cells cur e (0, 0)) ∧ cur.size = c * T.sz := by
 obtain ⟨h0, inner, ho, hr⟩ := h
 rcases ho.2 with ⟨h, _⟩ | ⟨g', cap, cur, hv, hb, hh, h1, h2, h3, h4⟩
 ·cases h
 ·injection hv with hv hvn hvc; injection hv with hv; injection hv with hv
  subst hv hvc hvn
  exact ⟨hb, h2, cur, hh, h3⟩
set_option maxRecDepth 100000 in
set_option maxHeartbeats 4000000 in
theorem Insert_edge (xs : Msh) (g c base vb i : Nat) (y : Edg) (w : World) (hi : i ≤ xs.length) (hroom : xs.length + 1 ≤ c) (hlen : xs.length ≤ 1000000) (ho : Own1 Ty.edge 31 base w (.slice (some ⟨g, 0, none⟩) xs.length c) xs) (hy : Row Ty.edge (fun k => ¬ k = g) w (some ⟨vb, 0, none⟩) [y]) (hvb : vb ≠ g) {cs : Array Value} (hcs : w.heap[vb]? = some (.cells cs 31 (0, 0))) (hc6 : cs.size = 6) :
  Calls Tryz.prog 73 #[.slice (some ⟨g, 0, none⟩) xs.length c, .int .i64 i, .slice (some ⟨vb, 0, none⟩) 1 1] w fun e w' => ∃ v', e = .returned v' ∧ Own1 Ty.edge 31 base w' v' (xs.take i ++ y :: xs.drop i) ∧ KeptS (fun b => b = g) w w' := by
 obtain ⟨hbg, hcm, cur, hcur, hcz⟩ := OwnR.blk ho
 have hgl := lt_of_block hcur
 have hc63 : c ≤ 9223372036854775807 := hcm
 have HY : Hid (Row Ty.edge (fun k => ¬ (Value.slice (some ⟨g, 0, none⟩) xs.length c).ownBlock = some k) w (some ⟨vb, 0, none⟩) [y]) := hy.mono (fun k hk e => hk (by simpa [Value.ownBlock, eq_comm] using e))
 have HO := Lib.hid ho
 clear ho hy
 rcases Nat.lt_or_ge i xs.length with hlt | hge
 ·have hov : ∀ lb cb, (callFunc 101 #[.slice (some ⟨vb, 0, none⟩) 1 1, .slice (some ⟨g, (i + 1) * 6, none⟩) lb cb]).run Tryz.prog w = .ok (.value (.bool false)) w := fun lb cb => by
   rw [run_callFunc_extern Tryz.func101 (by kernel_rfl) (by kernel_rfl) (by kernel_rfl) (e := Extern.SlicesOverlaps.overlaps #[22, 22] #[4]) (by kernel_rfl),
    Lib.run_overlaps_apart w 22 4 31 Tryz.underlying22 6 (fun w => by kernel_rfl) ⟨vb, 0, none⟩ ⟨g, (i + 1) * 6, none⟩ 1 1 lb cb hvb 31 31 6 (c * 6) (by simp [World.shape?, hcs, hc6]) (by simp [World.shape?, hcur, hcz]; rfl) (by omega) (by simp [World.frozen?, hcs]) (by simp [World.frozen?, hcs])]
   rfl
  obtain ⟨w1, hcp1, HO1, HK1⟩ := OwnR.shift (P := Tryz.prog) (t := 22) (t' := 22) (OwnR.drew HO.out) hlt hroom Tryz.underlying22 (by kernel_rfl) (q := (i + 1) * 6) (q' := i * 6) (m := xs.length - i) (m' := xs.length + 1 - i) rfl rfl rfl rfl
  have hl1 : (xs.take (i + 1) ++ xs.drop i).length = xs.length + 1 := by rw [List.length_append, List.length_take, List.length_drop]; omega
  have HY1 := ((HY.out).below (below_drew (Below.refl _ _))).step (fun k hk hlt => HK1.block k hlt (fun e => hk (by rw [e]; rfl)))
  obtain ⟨w2, hcp2, HO2, HK2⟩ := OwnR.copy1 (P := Tryz.prog) (t := 22) (t' := 22) HO1 (i := i) (by rw [hl1]; omega) Tryz.underlying22 (by kernel_rfl) (q := i * 6) (m := xs.length + 1 - i) rfl (by rw [hl1]) HY1
  rw [set_ins xs i y hlt] at HO2
  have hin : (i == xs.length) = false := by simp; omega
  have hin2 : ((i : Int) == (xs.length : Int)) = false := by simp; omega
  have hw1 : IntKind.i64.wrap ((i : Int) + 1) = (i : Int) + 1 := IntWalk.i64_in _ (by omega)
  have hw2 : IntKind.i64.wrap ((xs.length : Int) + 1) = (xs.length : Int) + 1 := IntWalk.i64_in _ (by omega)
  have hgt : decide ((xs.length : Int) + 1 > (c : Int)) = false := decide_eq_false (by omega)
  have hgt2 : decide ((c : Int) < (xs.length : Int) + 1) = false := decide_eq_false (by omega)
  have mixed : Tryz.prog.follows Departure.mixedOrders = true := by kernel_rfl
  have hb1 : (0 : Int) ≤ (i : Int) + 1 := by omega
  have hb2 : ¬ (c = i + 1) := by omega
  have hb3 : (i : Int) ≤ (xs.length : Int) + 1 := by omega
  have hb4 : ¬ (c = i) := by omega
  have htn : ((i : Int) + 1).toNat = i + 1 := by omega
  have htn2 : ((xs.length : Int) + 1).toNat = xs.length + 1 := by omega
  have hC1 := Lib.hid hcp1
  have hC2 := Lib.hid hcp2
  have HF := Lib.hid HO2
  have HKK := Lib.hid (kept_step (kept_of_below (below_drew (Below.refl _ _)) : KeptS (fun k => k = g) w w.drew) (kept_step HK1 HK2))
  clear hcp1 hcp2 HO1 HO2 HK1 HK2 HY1 HO HY hcs hcur
  go_enter Tryz.func73, Tryz.ntmps73
  go_wp2_with (simp only [hov])
  go_region_law_o (refine step_copy_runI rfl _ _ 22 22 rfl (.slice (some ⟨g, (i + 1) * 6, none⟩) (xs.length - i) (c - (i + 1))) (.slice (some ⟨g, i * 6, none⟩) (xs.length + 1 - i) (c - i)) (by simp [Act.eval, Act.put]) (by simp [Act.eval, Act.put]) (hC1.out _ _ _) ?_)
  go_wp2_with (refine wpList_copy_runI _ rfl _ _ 22 22 rfl (.slice (some ⟨g, i * 6, none⟩) (xs.length + 1 - i) (c - i)) (.slice (some ⟨vb, 0, none⟩) 1 1) rfl rfl (hC2.out _ _ _) ?_)
  go_ret
  exact ⟨_, rfl, Own1.of HF.out, HKK.out⟩
 ·obtain rfl : i = xs.length := by omega
  clear hi hge
  have h1000 : (xs.length + 1) * 80 ≤ 140737488355328 := by omega
  have hbw : base ≤ w.heap.size := by omega
  go_enter Tryz.func73, Tryz.ntmps73
  go_wp2_with (at_builtin; refine app_row Ty.edge (W := w) base rfl _ _ 22 31 _ 80 rfl Tryz.underlying22 infoEg rfl (by decide) _ xs [y] (some ⟨vb, 0, none⟩) _ 1 _ rfl rfl rfl HY.out HO.out hbw h1000 ?_; intro v1 w1 HO1 hg1 hat1)
  have HO2 := Lib.hid (Own1.of HO1)
  have HK := Lib.hid (kept_grown (S := fun b => b = g) hg1 (fun b e => (Option.some.inj (show some g = some b from e)).symm))
  clear HO1 hg1 hat1
  go_ret
  exact ⟨_, rfl, by rw [List.take_length, List.drop_length]; exact HO2.out, HK.out⟩
end
section
open Go.RowKit Go.Proofs.YtaeflnbjeaoapaaGreatW.PrintLast

attribute [local go_sem high] eqPt eqSg
theorem without_del (g : Nat) (p : Pt) (x : Edg) (A B : Option Addr) (n c m d : Nat) (w : World) (h2 : w.cell? ⟨g, 2, none⟩ = some (.int .i64 p.1)) (h3 : w.cell? ⟨g, 3, none⟩ = some (.int .i64 p.2)) :
  Calls Tryz.prog 70 #[.agg #[.int .i64 x.1.1.1, .int .i64 x.1.1.2, .int .i64 x.1.2.1, .int .i64 x.1.2.2, .slice A n c, .slice B m d], .pointer (some ⟨g, 0, none⟩)] w fun e w' => e = .returned (.bool (endE p x)) ∧ Below w.heap.size w w' := by
 obtain ⟨p1, p2⟩ := p
 obtain ⟨⟨⟨a1, a2⟩, b1, b2⟩, L, R⟩ := x
 have hg := World.block_lt_of_cell? w _ h2
 simp only at hg h2 h3 ⊢
 by_cases q1 : a1 = p1 ∧ a2 = p2
 ·obtain ⟨rfl, rfl⟩ := q1
  go_enter Tryz.func70, Tryz.ntmps70
  go_wp2
  go_ret
  exact ⟨ret_bool (by simp [endE]), bq⟩
 ·have e1 : (decide (a1 = p1) && decide (a2 = p2)) = false := by simpa using q1
  by_cases q2 : b1 = p1 ∧ b2 = p2
  ·obtain ⟨rfl, rfl⟩ := q2
   clear q1
   go_enter Tryz.func70, Tryz.ntmps70
   go_wp2
   go_ret
   exact ⟨ret_bool (by simp [endE]), bq⟩
  ·have e2 : (decide (b1 = p1) && decide (b2 = p2)) = false := by simpa using q2
   have HH : Hid (endE (p1, p2) (((a1, a2), (b1, b2)), (L, R)) = false) := by show _ = false; simp [endE]; exact ⟨fun x y => q1 ⟨x, y⟩, fun x y => q2 ⟨x, y⟩⟩
   clear q1 q2
   go_enter Tryz.func70, Tryz.ntmps70
   go_wp2
   go_ret
   exact ⟨ret_bool HH.out.symm, bq⟩
theorem without_idx (g : Nat) (s : Sg) (x : Edg) (A B : Option Addr) (n c m d : Nat) (w : World) (h0 : w.cell? ⟨g, 0, none⟩ = some (.int .i64 s.1.1)) (h1 : w.cell? ⟨g, 1, none⟩ = some (.int .i64 s.1.2)) (h2 : w.cell? ⟨g, 2, none⟩ = some (.int .i64 s.2.1)) (h3 : w.cell? ⟨g, 3, none⟩ = some (.int .i64 s.2.2)) :
  Calls Tryz.prog 72 #[.agg #[.int .i64 x.1.1.1, .int .i64 x.1.1.2, .int .i64 x.1.2.1, .int .i64 x.1.2.2, .slice A n c, .slice B m d], .pointer (some ⟨g, 0, none⟩)] w fun e w' => e = .returned (.bool (lessS s x.1)) ∧ Below w.heap.size w w' := by
 obtain ⟨⟨s1, s2⟩, s3, s4⟩ := s
 obtain ⟨⟨⟨a1, a2⟩, b1, b2⟩, L, R⟩ := x
 have hg := World.block_lt_of_cell? w _ h0
 have SL := Lib.hid (fun W => seg_Less ((s1, s2), (s3, s4)) ((a1, a2), (b1, b2)) W)
 simp only at hg h0 h1 h2 h3 ⊢
 generalize lessS ((s1, s2), (s3, s4)) ((a1, a2), (b1, b2)) = b at *
 go_enter Tryz.func72, Tryz.ntmps72
 go_wp2_with fail
 refine (SL.out _).mono ?_
 rintro e w1 ⟨rfl, hb1⟩
 have hb2 := hb1.below
 go_wp2
 go_ret
 exact ⟨rfl, (by repeat (first | exact Below.refl _ _ | apply below_alloc | apply below_drewN | apply below_drew | (refine below_set2 ?_ ?_; (first | (simp; done) | (simp; omega))) | (refine below_step ?_ hb2)))⟩
theorem idx_spot {m : Msh} {s : Sg} : (idxP m (fun x => lessS s x.1) = -1 ∧ spotZ m s = m.length) ∨ (idxP m (fun x => lessS s x.1) = (spotZ m s : Int) ∧ spotZ m s < m.length) := by
 unfold idxP spotZ
 split
 ·rename_i h; exact .inr ⟨rfl, h⟩
 ·rename_i h; exact .inl ⟨rfl, Nat.le_antisymm List.findIdx_le_length (Nat.le_of_not_lt h)⟩
theorem Row.edge1 {ok : Nat → Prop} {w : World} {g : Nat} {t : TypeId} {s : Sg} {L R : List Int} {A B : Option Addr} {c d : Nat} (h : w.heap[g]? = some (.cells #[.int .i64 s.1.1, .int .i64 s.1.2, .int .i64 s.2.1, .int .i64 s.2.2, .slice A L.length c, .slice B R.length d] t (0, 0))) (hg : ok g) (hc : L.length ≤ c) (hA : Row Ty.i64 ok w A L) (hd : R.length ≤ d) (hB : Row Ty.i64 ok w B R) :
  Row Ty.edge ok w (some ⟨g, 0, none⟩) [(s, (L, R))] :=
 Row.of_reps (by simp) hg (Reps.single (edgeR hc hA hd hB)) (fun j u hu => by
  match j, hu with
  | 0, hu => cases hu; exact blk_cell h 0 rfl
  | 1, hu => cases hu; exact blk_cell h 1 rfl
  | 2, hu => cases hu; exact blk_cell h 2 rfl
  | 3, hu => cases hu; exact blk_cell h 3 rfl
  | 4, hu => cases hu; exact blk_cell h 4 rfl
  | 5, hu => cases hu; exact blk_cell h 5 rfl
  | j + 6, hu => simp at hu)
set_option maxRecDepth 100000 in
set_option maxHeartbeats 4000000 in
theorem simplify_without {ok ok2 : Nat → Prop} (m : Msh) (A : Option Addr) (n c : Nat) (u1 u2 p1 p2 q1 q2 sz : Int) (l r : List Int) (sm : Bool) (LA RA : Option Addr) (ln rn : Nat) (w : World) (hr : Row Ty.edge ok w A m) (hn : n = m.length) (hlen : m.length ≤ 1000000)
  (hll : l.length ≤ ln) (hL : Row Ty.i64 ok2 w LA l) (hrl : r.length ≤ rn) (hR : Row Ty.i64 ok2 w RA r) (hcut : (restZ m (p1, p2)).length + 1 ≤ m.length) :
  Calls Tryz.prog 42 #[.slice A n c, corV (u1, u2) (p1, p2) (q1, q2) sz LA l.length ln RA r.length rn sm] w fun e w' =>
   ∃ A' c', e = .returned (.slice A' (withoutZ m ⟨(u1, u2), (p1, p2), (q1, q2), sz, l, r, sm⟩).length c') ∧ Row Ty.edge (fun _ => True) w' A' (withoutZ m ⟨(u1, u2), (p1, p2), (q1, q2), sz, l, r, sm⟩) ∧ Below w.heap.size w w' := by
 subst hn
 have HR := Lib.hid hr.bnd'
 have HL := Lib.hid hL.bnd'
 have HRr := Lib.hid hR.bnd'
 have hmx := hr.len
 have HCUT := Lib.hid hcut
 clear hr hL hR hcut
 obtain ⟨W0, hW0⟩ : ∃ W0, W0 = w.alloc (.cells #[.int .i64 u1, .int .i64 u2, .int .i64 p1, .int .i64 p2, .int .i64 q1, .int .i64 q2, .int .i64 sz, .slice LA l.length ln, .slice RA r.length rn, .bool sm] 41) := ⟨_, rfl⟩
 have B0 : Below w.heap.size w W0 := by rw [hW0]; exact bq
 have hC : W0.heap[w.heap.size]? = some (.cells #[.int .i64 u1, .int .i64 u2, .int .i64 p1, .int .i64 p2, .int .i64 q1, .int .i64 q2, .int .i64 sz, .slice LA l.length ln, .slice RA r.length rn, .bool sm] 41 (0, 0)) := by rw [hW0]; exact heap_alloc_new _ _
 have hW0s := lt_of_block hC
 go_enter Tryz.func42, Tryz.ntmps42
 go_wp2_with fail
 rw [← hW0]
 clear hW0
 have HWO : Hid (withoutZ m ⟨(u1, u2), (p1, p2), (q1, q2), sz, l, r, sm⟩ = (restZ m (p1, p2)).take (spotZ (restZ m (p1, p2)) (ofB (u1, u2) (q1, q2))) ++ (ofB (u1, u2) (q1, q2), if (ofB (u1, u2) (q1, q2)).1 = (u1, u2) then (l, r) else (r, l)) :: (restZ m (p1, p2)).drop (spotZ (restZ m (p1, p2)) (ofB (u1, u2) (q1, q2)))) := rfl
 have rc0 := blk_cell hC 0 rfl
 have rc1 := blk_cell hC 1 rfl
 have rc2 := blk_cell hC 2 rfl
 have rc3 := blk_cell hC 3 rfl
 have rc4 := blk_cell hC 4 rfl
 have rc5 := blk_cell hC 5 rfl
 have rc6 := blk_cell hC 6 rfl
 have rc7 := blk_cell hC 7 rfl
 have rc8 := blk_cell hC 8 rfl
 have rc9 := blk_cell hC 9 rfl
 go_wp2_with fail
 refine (seg_Of u1 u2 q1 q2 _).mono ?_
 rintro e w1 ⟨rfl, hb1⟩
 generalize ofB (u1, u2) (q1, q2) = oz at *
 obtain ⟨⟨o1, o2⟩, o3, o4⟩ := oz
 simp only at HWO
 clear rc0 rc1 rc2 rc3 rc4 rc5 rc6 rc7 rc8 rc9
 have hC1 := blk_below hC hb1
 have rc0 := blk_cell hC1 0 rfl
 have rc1 := blk_cell hC1 1 rfl
 have rc2 := blk_cell hC1 2 rfl
 have rc3 := blk_cell hC1 3 rfl
 have rc4 := blk_cell hC1 4 rfl
 have rc5 := blk_cell hC1 5 rfl
 have rc6 := blk_cell hC1 6 rfl
 have rc7 := blk_cell hC1 7 rfl
 have rc8 := blk_cell hC1 8 rfl
 have rc9 := blk_cell hC1 9 rfl
 have B1 : Below w.heap.size w w1 := below_step B0 hb1
 clear hC hb1 B0
 have hs1 := lt_of_block hC1
 by_cases h : o1 = u1 ∧ o2 = u2
 ·obtain ⟨rfl, rfl⟩ := h
  have HWO2 := Lib.hid (HWO.out.trans (by rw [if_pos rfl]))
  clear HWO
  have hne : (!(decide (o1 = o1) && decide (o2 = o2))) = false := by simp
  go_wp2_with fail
  obtain ⟨WB, hWB⟩ : ∃ WB, WB = (w1.alloc (.cells #[.int .i64 o1, .int .i64 o2, .int .i64 o3, .int .i64 o4] 48)).alloc (.cells #[.int .i64 o1, .int .i64 o2, .int .i64 o3, .int .i64 o4, .slice LA l.length ln, .slice RA r.length rn] 31) := ⟨_, rfl⟩
  rw [← hWB]
  have BB : Below w.heap.size w WB := by rw [hWB]; exact (by repeat (first | exact Below.refl _ _ | apply below_alloc | apply below_drewN | apply below_drew | (refine below_set2 ?_ ?_; (first | (simp; done) | (simp; omega))) | (refine below_step ?_ B1)))
  have HCb : WB.heap[w.heap.size]? = some (.cells #[.int .i64 o1, .int .i64 o2, .int .i64 p1, .int .i64 p2, .int .i64 q1, .int .i64 q2, .int .i64 sz, .slice LA l.length ln, .slice RA r.length rn, .bool sm] 41 (0, 0)) := by rw [hWB]; exact blk_alloc (blk_alloc hC1 _) _
  have HSb : WB.heap[w1.heap.size]? = some (.cells #[.int .i64 o1, .int .i64 o2, .int .i64 o3, .int .i64 o4] 48 (0, 0)) := by rw [hWB]; exact blk_alloc (heap_alloc_new _ _) _
  have HEb : WB.heap[w1.heap.size + 1]? = some (.cells #[.int .i64 o1, .int .i64 o2, .int .i64 o3, .int .i64 o4, .slice LA l.length ln, .slice RA r.length rn] 31 (0, 0)) := by rw [hWB]; have := heap_alloc_new (w1.alloc (.cells #[.int .i64 o1, .int .i64 o2, .int .i64 o3, .int .i64 o4] 48)) (.cells #[.int .i64 o1, .int .i64 o2, .int .i64 o3, .int .i64 o4, .slice LA l.length ln, .slice RA r.length rn] 31); simpa using this
  clear hWB rc0 rc1 rc2 rc3 rc4 rc5 rc6 rc7 rc8 rc9 hC1 B1
  have HRB := HR.out.below BB
  have hszB := BB.size
  refine (Clone_edge m A m.length c WB HRB rfl hlen).mono ?_
  rintro e w5 ⟨v, rfl, HOv, hb5⟩
  obtain ⟨g, c', rfl, hlc⟩ := HOv.form (by have := HCUT.out; omega)
  obtain ⟨hbg, _, cur, hcur, hcz⟩ := OwnR.blk HOv
  have hgl := lt_of_block hcur
  clear hcz
  have HC5 := blk_below HCb hb5
  have HS5 := blk_below HSb hb5
  have HE5 := blk_below HEb hb5
  have B5 : Below w.heap.size w w5 := below_step BB hb5
  have hz5 := hb5.size
  have hsB := lt_of_block HSb
  have heB := lt_of_block HEb
  have hcB := lt_of_block HCb
  have P1 : Hid (PredE 70 #[.pointer (some ⟨w.heap.size, 0, none⟩)] (fun b => b = g) w5 (endE (p1, p2))) := Lib.hid (fun W hk x A B n c m d => without_del w.heap.size (p1, p2) x A B n c m d W (hk.cell (blk_cell HC5 2 rfl) (by show ¬ w.heap.size = g; omega)) (hk.cell (blk_cell HC5 3 rfl) (by show ¬ w.heap.size = g; omega)))
  have P2 : Hid (PredE 72 #[.pointer (some ⟨w1.heap.size, 0, none⟩)] (fun b => b = g) w5 (fun x => lessS ((o1, o2), (o3, o4)) x.1)) := Lib.hid (fun W hk x A B n c m d => without_idx w1.heap.size ((o1, o2), (o3, o4)) x A B n c m d W (hk.cell (blk_cell HS5 0 rfl) (by show ¬ w1.heap.size = g; omega)) (hk.cell (blk_cell HS5 1 rfl) (by show ¬ w1.heap.size = g; omega)) (hk.cell (blk_cell HS5 2 rfl) (by show ¬ w1.heap.size = g; omega)) (hk.cell (blk_cell HS5 3 rfl) (by show ¬ w1.heap.size = g; omega)))
  have HOv := Lib.hid HOv
  clear HCb HSb HEb hb5 HC5 HS5 hcur cur
  go_wp2_with fail
  refine (DeleteFunc_edge m g c' WB.heap.size w5 70 _ (endE (p1, p2)) HOv.out P1.out (enters_num Tryz.func70 (by kernel_rfl) rfl)).mono ?_
  rintro e w7 ⟨v, rfl, rfl, HO7, HK7⟩
  have HRZ : Hid (m.filter (fun x => !endE (p1, p2) x) = restZ m (p1, p2)) := rfl
  rw [HRZ.out] at HO7 ⊢
  have hcut := HCUT.out
  generalize restZ m (p1, p2) = rz at *
  have P2b := Lib.hid (P2.out.below HK7)
  have HE7 := (HK7.block _ (lt_of_block HE5) (by omega)).trans HE5
  have hz7 := HK7.size
  have hR7 := (HO7.reads)
  obtain ⟨A7, c7, hv7, _, hr7⟩ := hR7
  injection hv7 with hv7 _ hc7
  subst hv7 hc7
  have HO7 := Lib.hid HO7
  have HR7 := Lib.hid hr7
  clear hr7 P1 P2 HOv HRZ HE5
  go_wp2_with fail
  refine (IndexFunc_edge rz _ rz.length c' w7 72 _ (fun x => lessS ((o1, o2), (o3, o4)) x.1) HR7.out rfl P2b.out (enters_num Tryz.func72 (by kernel_rfl) rfl)).mono ?_
  rintro e w8 ⟨rfl, hb8⟩
  have HE8 := blk_below HE7 hb8
  have HO8 := Lib.hid (Own1.below HO7.out hb8)
  have K8 : Hid (KeptS (fun b => b = g) w5 w8) := Lib.hid (kept_below HK7 hb8)
  have hz8 := hb8.size
  have e80 := blk_cell HE8 0 rfl
  have e81 := blk_cell HE8 1 rfl
  have e82 := blk_cell HE8 2 rfl
  have e83 := blk_cell HE8 3 rfl
  have e84 := blk_cell HE8 4 rfl
  have e85 := blk_cell HE8 5 rfl
  have hl8 := lt_of_block HE8
  clear P2b HE7 HO7 HR7 HK7 hb8
  have B8 : Hid (Below w.heap.size w w8) := Lib.hid (below_kept B5 K8.out (fun b hb => by omega))
  rcases idx_spot (m := rz) (s := ((o1, o2), (o3, o4))) with ⟨hi, hs⟩ | ⟨hi, hs⟩
  ·rw [hi]
   rw [hs] at HWO2
   clear hi hs
   have hneg : decide ((-1 : Int) < 0) = true := by decide
   go_wp2_with fail
   have HZ : (w8.alloc (.cells #[.int .i64 o1, .int .i64 o2, .int .i64 o3, .int .i64 o4, .slice LA l.length ln, .slice RA r.length rn] 31)).heap[w8.heap.size]? = some (.cells #[.int .i64 o1, .int .i64 o2, .int .i64 o3, .int .i64 o4, .slice LA l.length ln, .slice RA r.length rn] 31 (0, 0)) := heap_alloc_new _ _
   have hBz : Below w8.heap.size w8 (w8.alloc (.cells #[.int .i64 o1, .int .i64 o2, .int .i64 o3, .int .i64 o4, .slice LA l.length ln, .slice RA r.length rn] 31)) := bq
   have RY : Row Ty.edge (fun k => ¬ k = g) (w8.alloc (.cells #[.int .i64 o1, .int .i64 o2, .int .i64 o3, .int .i64 o4, .slice LA l.length ln, .slice RA r.length rn] 31)) (some ⟨w8.heap.size, 0, none⟩) [(((o1, o2), (o3, o4)), (l, r))] := Row.edge1 HZ (by omega) hll ((HL.out.below (below_step B8.out hBz)).mono (fun k hk e => by omega)) hrl ((HRr.out.below (below_step B8.out hBz)).mono (fun k hk e => by omega))
   refine (Insert_edge rz g c' WB.heap.size w8.heap.size rz.length (((o1, o2), (o3, o4)), (l, r)) _ (Nat.le_refl _) (by omega) (by omega) (Own1.below HO8.out hBz) RY (by omega) HZ rfl).mono ?_
   rintro e w9 ⟨v9, rfl, HO9, HK9⟩
   rw [← HWO2.out] at HO9
   have B9 : Below w.heap.size w w9 := below_kept (below_step B8.out hBz) HK9 (fun b hb => by omega)
   obtain ⟨A9, c9, rfl, _, hr9⟩ := HO9.reads
   have HR9 := Lib.hid hr9
   clear hr9 HO9 HK9
   go_wp2
   go_ret
   exact ⟨A9, c9, rfl, HR9.out.mono (fun _ _ => trivial), B9⟩
  ·rw [hi]
   generalize spotZ rz ((o1, o2), (o3, o4)) = sp at *
   clear hi
   have hneg : decide ((sp : Int) < 0) = false := decide_eq_false (by omega)
   go_wp2_with fail
   have HZ : (w8.alloc (.cells #[.int .i64 o1, .int .i64 o2, .int .i64 o3, .int .i64 o4, .slice LA l.length ln, .slice RA r.length rn] 31)).heap[w8.heap.size]? = some (.cells #[.int .i64 o1, .int .i64 o2, .int .i64 o3, .int .i64 o4, .slice LA l.length ln, .slice RA r.length rn] 31 (0, 0)) := heap_alloc_new _ _
   have hBz : Below w8.heap.size w8 (w8.alloc (.cells #[.int .i64 o1, .int .i64 o2, .int .i64 o3, .int .i64 o4, .slice LA l.length ln, .slice RA r.length rn] 31)) := bq
   have RY : Row Ty.edge (fun k => ¬ k = g) (w8.alloc (.cells #[.int .i64 o1, .int .i64 o2, .int .i64 o3, .int .i64 o4, .slice LA l.length ln, .slice RA r.length rn] 31)) (some ⟨w8.heap.size, 0, none⟩) [(((o1, o2), (o3, o4)), (l, r))] := Row.edge1 HZ (by omega) hll ((HL.out.below (below_step B8.out hBz)).mono (fun k hk e => by omega)) hrl ((HRr.out.below (below_step B8.out hBz)).mono (fun k hk e => by omega))
   refine (Insert_edge rz g c' WB.heap.size w8.heap.size sp (((o1, o2), (o3, o4)), (l, r)) _ (by omega) (by omega) (by omega) (Own1.below HO8.out hBz) RY (by omega) HZ rfl).mono ?_
   rintro e w9 ⟨v9, rfl, HO9, HK9⟩
   rw [← HWO2.out] at HO9
   have B9 : Below w.heap.size w w9 := below_kept (below_step B8.out hBz) HK9 (fun b hb => by omega)
   obtain ⟨A9, c9, rfl, _, hr9⟩ := HO9.reads
   have HR9 := Lib.hid hr9
   clear hr9 HO9 HK9
   go_wp2
   go_ret
   exact ⟨A9, c9, rfl, HR9.out.mono (fun _ _ => trivial), B9⟩
 ·have HWO2 := Lib.hid (HWO.out.trans (by rw [if_neg (by simpa using h)]))
  clear HWO
  have hne : (decide (o1 = u1) && decide (o2 = u2)) = false := by simpa using h
  clear h
  go_wp2_with fail
  obtain ⟨WA, hWA⟩ : ∃ WA, WA = (w1.alloc (.cells #[.int .i64 o1, .int .i64 o2, .int .i64 o3, .int .i64 o4] 48)).alloc (.cells #[.int .i64 o1, .int .i64 o2, .int .i64 o3, .int .i64 o4, .slice LA l.length ln, .slice RA r.length rn] 31) := ⟨_, rfl⟩
  rw [← hWA]
  have BB : Below w.heap.size w WA := by rw [hWA]; exact (by repeat (first | exact Below.refl _ _ | apply below_alloc | apply below_drewN | apply below_drew | (refine below_set2 ?_ ?_; (first | (simp; done) | (simp; omega))) | (refine below_step ?_ B1)))
  have HCb : WA.heap[w.heap.size]? = some (.cells #[.int .i64 u1, .int .i64 u2, .int .i64 p1, .int .i64 p2, .int .i64 q1, .int .i64 q2, .int .i64 sz, .slice LA l.length ln, .slice RA r.length rn, .bool sm] 41 (0, 0)) := by rw [hWA]; exact blk_alloc (blk_alloc hC1 _) _
  have HSb : WA.heap[w1.heap.size]? = some (.cells #[.int .i64 o1, .int .i64 o2, .int .i64 o3, .int .i64 o4] 48 (0, 0)) := by rw [hWA]; exact blk_alloc (heap_alloc_new _ _) _
  have HEb : WA.heap[w1.heap.size + 1]? = some (.cells #[.int .i64 o1, .int .i64 o2, .int .i64 o3, .int .i64 o4, .slice LA l.length ln, .slice RA r.length rn] 31 (0, 0)) := by rw [hWA]; have := heap_alloc_new (w1.alloc (.cells #[.int .i64 o1, .int .i64 o2, .int .i64 o3, .int .i64 o4] 48)) (.cells #[.int .i64 o1, .int .i64 o2, .int .i64 o3, .int .i64 o4, .slice LA l.length ln, .slice RA r.length rn] 31); simpa using this
  clear hWA rc0 rc1 rc2 rc3 rc4 rc5 rc6 rc7 rc8 rc9 hC1
  have rc0 := blk_cell HCb 0 rfl
  have rc1 := blk_cell HCb 1 rfl
  have rc2 := blk_cell HCb 2 rfl
  have rc3 := blk_cell HCb 3 rfl
  have rc4 := blk_cell HCb 4 rfl
  have rc5 := blk_cell HCb 5 rfl
  have rc6 := blk_cell HCb 6 rfl
  have rc7 := blk_cell HCb 7 rfl
  have rc8 := blk_cell HCb 8 rfl
  have rc9 := blk_cell HCb 9 rfl
  have hx0 := blk_cell HEb 0 rfl
  have hx1 := blk_cell HEb 1 rfl
  have hx2 := blk_cell HEb 2 rfl
  have hx3 := blk_cell HEb 3 rfl
  have hx4 := blk_cell HEb 4 rfl
  have hx5 := blk_cell HEb 5 rfl
  have hf4 := blk_free HEb 4
  have hf5 := blk_free HEb 5
  have hlE := lt_of_block HEb
  have hlC := lt_of_block HCb
  go_region
  obtain ⟨WB, hWB⟩ : ∃ WB, WB = ((WA.setCell ⟨w1.heap.size + 1, 4, none⟩ (.slice RA r.length rn)).setCell ⟨w1.heap.size + 1, 5, none⟩ (.slice LA l.length ln)).drew := ⟨_, rfl⟩
  rw [← hWB]
  have BBn : Below w.heap.size w WB := by rw [hWB]; exact below_drew (below_set2 (by simp; omega) (below_set2 (by simp; omega) BB))
  have KB : KeptS (fun k => k = w1.heap.size + 1) WA WB := by rw [hWB]; exact kept_drew (kept_set rfl (kept_set rfl (kept_refl _ _)))
  have HEbn : WB.heap[w1.heap.size + 1]? = some (.cells #[.int .i64 o1, .int .i64 o2, .int .i64 o3, .int .i64 o4, .slice RA r.length rn, .slice LA l.length ln] 31 (0, 0)) := by rw [hWB]; exact blk_set (i := 5) (blk_set (i := 4) HEb _) _
  have HCbn := (KB.block _ hlC (by omega)).trans HCb
  have HSbn := (KB.block _ (lt_of_block HSb) (by omega)).trans HSb
  clear hWB KB HEb HCb HSb BB rc0 rc1 rc2 rc3 rc4 rc5 rc6 rc7 rc8 rc9 hx0 hx1 hx2 hx3 hx4 hx5 hf4 hf5 hlE hlC
  have BB := BBn
  have HCb := HCbn
  have HSb := HSbn
  have HEb := HEbn
  clear BBn HCbn HSbn HEbn
  go_wp2_with fail
  have HRB := HR.out.below BB
  have hszB := BB.size
  refine (Clone_edge m A m.length c WB HRB rfl hlen).mono ?_
  rintro e w5 ⟨v, rfl, HOv, hb5⟩
  obtain ⟨g, c', rfl, hlc⟩ := HOv.form (by have := HCUT.out; omega)
  obtain ⟨hbg, _, cur, hcur, hcz⟩ := OwnR.blk HOv
  have hgl := lt_of_block hcur
  clear hcz
  have HC5 := blk_below HCb hb5
  have HS5 := blk_below HSb hb5
  have HE5 := blk_below HEb hb5
  have B5 : Below w.heap.size w w5 := below_step BB hb5
  have hz5 := hb5.size
  have hsB := lt_of_block HSb
  have heB := lt_of_block HEb
  have hcB := lt_of_block HCb
  have P1 : Hid (PredE 70 #[.pointer (some ⟨w.heap.size, 0, none⟩)] (fun b => b = g) w5 (endE (p1, p2))) := Lib.hid (fun W hk x A B n c m d => without_del w.heap.size (p1, p2) x A B n c m d W (hk.cell (blk_cell HC5 2 rfl) (by show ¬ w.heap.size = g; omega)) (hk.cell (blk_cell HC5 3 rfl) (by show ¬ w.heap.size = g; omega)))
  have P2 : Hid (PredE 72 #[.pointer (some ⟨w1.heap.size, 0, none⟩)] (fun b => b = g) w5 (fun x => lessS ((o1, o2), (o3, o4)) x.1)) := Lib.hid (fun W hk x A B n c m d => without_idx w1.heap.size ((o1, o2), (o3, o4)) x A B n c m d W (hk.cell (blk_cell HS5 0 rfl) (by show ¬ w1.heap.size = g; omega)) (hk.cell (blk_cell HS5 1 rfl) (by show ¬ w1.heap.size = g; omega)) (hk.cell (blk_cell HS5 2 rfl) (by show ¬ w1.heap.size = g; omega)) (hk.cell (blk_cell HS5 3 rfl) (by show ¬ w1.heap.size = g; omega)))
  have HOv := Lib.hid HOv
  clear HCb HSb HEb hb5 HC5 HS5 hcur cur
  go_wp2_with fail
  refine (DeleteFunc_edge m g c' WB.heap.size w5 70 _ (endE (p1, p2)) HOv.out P1.out (enters_num Tryz.func70 (by kernel_rfl) rfl)).mono ?_
  rintro e w7 ⟨v, rfl, rfl, HO7, HK7⟩
  have HRZ : Hid (m.filter (fun x => !endE (p1, p2) x) = restZ m (p1, p2)) := rfl
  rw [HRZ.out] at HO7 ⊢
  have hcut := HCUT.out
  generalize restZ m (p1, p2) = rz at *
  have P2b := Lib.hid (P2.out.below HK7)
  have HE7 := (HK7.block _ (lt_of_block HE5) (by omega)).trans HE5
  have hz7 := HK7.size
  have hR7 := (HO7.reads)
  obtain ⟨A7, c7, hv7, _, hr7⟩ := hR7
  injection hv7 with hv7 _ hc7
  subst hv7 hc7
  have HO7 := Lib.hid HO7
  have HR7 := Lib.hid hr7
  clear hr7 P1 P2 HOv HRZ HE5
  go_wp2_with fail
  refine (IndexFunc_edge rz _ rz.length c' w7 72 _ (fun x => lessS ((o1, o2), (o3, o4)) x.1) HR7.out rfl P2b.out (enters_num Tryz.func72 (by kernel_rfl) rfl)).mono ?_
  rintro e w8 ⟨rfl, hb8⟩
  have HE8 := blk_below HE7 hb8
  have HO8 := Lib.hid (Own1.below HO7.out hb8)
  have K8 : Hid (KeptS (fun b => b = g) w5 w8) := Lib.hid (kept_below HK7 hb8)
  have hz8 := hb8.size
  have e80 := blk_cell HE8 0 rfl
  have e81 := blk_cell HE8 1 rfl
  have e82 := blk_cell HE8 2 rfl
  have e83 := blk_cell HE8 3 rfl
  have e84 := blk_cell HE8 4 rfl
  have e85 := blk_cell HE8 5 rfl
  have hl8 := lt_of_block HE8
  clear P2b HE7 HO7 HR7 HK7 hb8
  have B8 : Hid (Below w.heap.size w w8) := Lib.hid (below_kept B5 K8.out (fun b hb => by omega))
  rcases idx_spot (m := rz) (s := ((o1, o2), (o3, o4))) with ⟨hi, hs⟩ | ⟨hi, hs⟩
  ·rw [hi]
   rw [hs] at HWO2
   clear hi hs
   have hneg : decide ((-1 : Int) < 0) = true := by decide
   go_wp2_with fail
   have HZ : (w8.alloc (.cells #[.int .i64 o1, .int .i64 o2, .int .i64 o3, .int .i64 o4, .slice RA r.length rn, .slice LA l.length ln] 31)).heap[w8.heap.size]? = some (.cells #[.int .i64 o1, .int .i64 o2, .int .i64 o3, .int .i64 o4, .slice RA r.length rn, .slice LA l.length ln] 31 (0, 0)) := heap_alloc_new _ _
   have hBz : Below w8.heap.size w8 (w8.alloc (.cells #[.int .i64 o1, .int .i64 o2, .int .i64 o3, .int .i64 o4, .slice RA r.length rn, .slice LA l.length ln] 31)) := bq
   have RY : Row Ty.edge (fun k => ¬ k = g) (w8.alloc (.cells #[.int .i64 o1, .int .i64 o2, .int .i64 o3, .int .i64 o4, .slice RA r.length rn, .slice LA l.length ln] 31)) (some ⟨w8.heap.size, 0, none⟩) [(((o1, o2), (o3, o4)), (r, l))] := Row.edge1 HZ (by omega) hrl ((HRr.out.below (below_step B8.out hBz)).mono (fun k hk e => by omega)) hll ((HL.out.below (below_step B8.out hBz)).mono (fun k hk e => by omega))
   refine (Insert_edge rz g c' WB.heap.size w8.heap.size rz.length (((o1, o2), (o3, o4)), (r, l)) _ (Nat.le_refl _) (by omega) (by omega) (Own1.below HO8.out hBz) RY (by omega) HZ rfl).mono ?_
   rintro e w9 ⟨v9, rfl, HO9, HK9⟩
   rw [← HWO2.out] at HO9
   have B9 : Below w.heap.size w w9 := below_kept (below_step B8.out hBz) HK9 (fun b hb => by omega)
   obtain ⟨A9, c9, rfl, _, hr9⟩ := HO9.reads
   have HR9 := Lib.hid hr9
   clear hr9 HO9 HK9
   go_wp2
   go_ret
   exact ⟨A9, c9, rfl, HR9.out.mono (fun _ _ => trivial), B9⟩
  ·rw [hi]
   generalize spotZ rz ((o1, o2), (o3, o4)) = sp at *
   clear hi
   have hneg : decide ((sp : Int) < 0) = false := decide_eq_false (by omega)
   go_wp2_with fail
   have HZ : (w8.alloc (.cells #[.int .i64 o1, .int .i64 o2, .int .i64 o3, .int .i64 o4, .slice RA r.length rn, .slice LA l.length ln] 31)).heap[w8.heap.size]? = some (.cells #[.int .i64 o1, .int .i64 o2, .int .i64 o3, .int .i64 o4, .slice RA r.length rn, .slice LA l.length ln] 31 (0, 0)) := heap_alloc_new _ _
   have hBz : Below w8.heap.size w8 (w8.alloc (.cells #[.int .i64 o1, .int .i64 o2, .int .i64 o3, .int .i64 o4, .slice RA r.length rn, .slice LA l.length ln] 31)) := bq
   have RY : Row Ty.edge (fun k => ¬ k = g) (w8.alloc (.cells #[.int .i64 o1, .int .i64 o2, .int .i64 o3, .int .i64 o4, .slice RA r.length rn, .slice LA l.length ln] 31)) (some ⟨w8.heap.size, 0, none⟩) [(((o1, o2), (o3, o4)), (r, l))] := Row.edge1 HZ (by omega) hrl ((HRr.out.below (below_step B8.out hBz)).mono (fun k hk e => by omega)) hll ((HL.out.below (below_step B8.out hBz)).mono (fun k hk e => by omega))
   refine (Insert_edge rz g c' WB.heap.size w8.heap.size sp (((o1, o2), (o3, o4)), (r, l)) _ (by omega) (by omega) (by omega) (Own1.below HO8.out hBz) RY (by omega) HZ rfl).mono ?_
   rintro e w9 ⟨v9, rfl, HO9, HK9⟩
   rw [← HWO2.out] at HO9
   have B9 : Below w.heap.size w w9 := below_kept (below_step B8.out hBz) HK9 (fun b hb => by omega)
   obtain ⟨A9, c9, rfl, _, hr9⟩ := HO9.reads
   have HR9 := Lib.hid hr9
   clear hr9 HO9 HK9
   go_wp2
   go_ret
   exact ⟨A9, c9, rfl, HR9.out.mono (fun _ _ => trivial), B9⟩
end
end Go.Proofs.YtaeflnbjeaoapaaGreat
