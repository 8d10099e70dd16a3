/- Contract of noding.Split. Contracts of noding.Crossings (its length) and noding.Clean. Contract of trace.Check. -/
import Derived.Test.YtaeflnbjeaoapaaGreatKPW
import Derived.Test.YtaeflnbjeaoapaaGreatKP4
import Derived.Test.YtaeflnbjeaoapaaGreatKP6
import Derived.Test.YtaeflnbjeaoapaaGreatKP11
namespace Go.Proofs.YtaeflnbjeaoapaaGreat
set_option linter.unusedVariables false
set_option linter.unusedSimpArgs false
section
open Go.RowKit Go.Proofs.YtaeflnbjeaoapaaGreatW.PrintLast

theorem ends2_snoc (u : Sgs) (k : Nat) (h : k < u.length) : ends2 (u.take (k + 1)) = ends2 (u.take k) ++ [(sgD u k).1, (sgD u k).2] := by
 unfold ends2
 rw [take_snoc u k ((0, 0), (0, 0)) h, List.flatMap_append]; rfl
theorem ends2_len (u : Sgs) : (ends2 u).length = 2 * u.length := by
 unfold ends2
 induction u with
 | nil => rfl
 | cons x xs ih => rw [List.flatMap_cons, List.length_append, ih]; simp; omega
def cutSt (es : Pts) (s : Sg) (acc : Sgs) (j : Nat) : Sgs × Pt := (es.take j).foldl (cutsF s) (acc, s.1)
theorem cutSt_snoc (es : Pts) (s : Sg) (acc : Sgs) (j : Nat) (h : j < es.length) : cutSt es s acc (j + 1) = cutsF s (cutSt es s acc j) (ptD es j) := by
 unfold cutSt
 rw [take_snoc es j (0, 0) h, List.foldl_append]; rfl
theorem cutSt_in {es : Pts} {s : Sg} {acc : Sgs} {j : Nat} (h : j < es.length) (hw : withinB (ptD es j) s.1 s.2 = true) : cutSt es s acc (j + 1) = ((cutSt es s acc j).1 ++ [((cutSt es s acc j).2, ptD es j)], ptD es j) := by
 rw [cutSt_snoc es s acc j h]; unfold cutsF; rw [if_pos hw]
theorem cutSt_out {es : Pts} {s : Sg} {acc : Sgs} {j : Nat} (h : j < es.length) (hw : withinB (ptD es j) s.1 s.2 = false) : cutSt es s acc (j + 1) = cutSt es s acc j := by
 rw [cutSt_snoc es s acc j h]; unfold cutsF; rw [if_neg (by rw [hw]; decide)]
theorem cutSt_len (es : Pts) (s : Sg) (acc : Sgs) : ∀ j, (cutSt es s acc j).1.length ≤ acc.length + j
 | 0 => by simp [cutSt]
 | j + 1 => by
  have ih := cutSt_len es s acc j
  by_cases h : j < es.length
  ·rw [cutSt_snoc es s acc j h]; unfold cutsF
   split <;> simp <;> omega
  ·have : cutSt es s acc (j + 1) = cutSt es s acc j := by unfold cutSt; rw [List.take_of_length_le (by omega), List.take_of_length_le (by omega)]
   rw [this]; omega
def partsZ (es : Pts) (l : Sgs) : Sgs := l.foldl (fun acc s => cutsZ es s acc) []
theorem cutsZ_eq (es : Pts) (s : Sg) (acc : Sgs) : cutsZ es s acc = (cutSt es s acc es.length).1 ++ [((cutSt es s acc es.length).2, s.2)] := by
 unfold cutsZ cutSt; rw [List.take_length]
theorem parts_snoc (es : Pts) (l : Sgs) (k : Nat) (h : k < l.length) : partsZ es (l.take (k + 1)) = cutsZ es (sgD l k) (partsZ es (l.take k)) := by
 unfold partsZ
 rw [take_snoc l k ((0, 0), (0, 0)) h, List.foldl_append]; rfl
theorem parts_len (es : Pts) (l : Sgs) : ∀ k, (partsZ es (l.take k)).length ≤ k * (es.length + 1)
 | 0 => by simp [partsZ]
 | k + 1 => by
  have ih := parts_len es l k
  rw [Nat.add_mul, Nat.one_mul]
  by_cases h : k < l.length
  ·rw [parts_snoc es l k h, cutsZ_eq, List.length_append]
   have := cutSt_len es (sgD l k) (partsZ es (l.take k)) es.length
   simp; omega
  ·rw [List.take_of_length_le (by omega), ← List.take_of_length_le (show l.length ≤ k by omega)]; omega
theorem split_eq (l : Sgs) : splitZ l = sortZ (partsZ (endsZ l) (canonZ l)) := rfl
theorem parts_le {a b n : Nat} (h1 : a ≤ 900) (h2 : b ≤ 1800) (h3 : n ≤ a * (b + 1)) : n ≤ 1620900 := Nat.le_trans h3 (Nat.mul_le_mul h1 (show b + 1 ≤ 1801 by omega))
theorem ends_len (l : Sgs) : (endsZ l).length ≤ 2 * l.length := by
 unfold endsZ
 have h1 := compact_len (sortG lessB (ends2 (uniqZ l)))
 have h2 := sortG_len (less := lessB) (ends2 (uniqZ l))
 have h3 := ends2_len (uniqZ l)
 have h4 := uniq_len l
 omega
set_option maxHeartbeats 2000000 in
theorem noding_Split {ok : Nat → Prop} (l : Sgs) (A : Option Addr) (n c : Nat) (w : World) (hr : Row Ty.sg ok w A l) (hn : n = l.length) (hlen : l.length ≤ 900) :
  Calls Tryz.prog 45 #[.slice A n c] w fun e w' => ∃ v, e = .returned v ∧ Own1 Ty.sg 48 w.heap.size w' v (splitZ l) ∧ Below w.heap.size w w' := by
 subst hn
 have HR := Lib.hid hr
 clear hr
 have hel := ends_len l
 have hul := uniq_len l
 have hcl := canon_le l
 have CU := Lib.hid (fun W h => noding_Unique (ok := ok) l A l.length c W h rfl (by omega))
 have CC := Lib.hid (fun W h => noding_canon (ok := ok) l A l.length c W h rfl (by omega))
 have HSP := Lib.hid (split_eq l)
 have HES : Hid (endsZ l = compactZ (sortG lessB (ends2 (uniqZ l)))) := rfl
 generalize splitZ l = res at *
 generalize endsZ l = es at *
 generalize uniqZ l = u at *
 generalize canonZ l = cl at *
 go_enter Tryz.func45, Tryz.ntmps45
 go_wp2_with fail
 refine Calls.mono (CU.out _ HR.out) ?_
 rintro e w1 ⟨v, rfl, ho, hb1⟩
 obtain ⟨A1, c1, rfl, hl1, hr1⟩ := ho.reads
 have HU := Lib.hid hr1
 have HB1 := Lib.hid hb1
 clear ho hr1 hb1
 go_wp2
 go_loopw [3, 15] (fun v i wr => ∃ k : Nat, k ≤ u.length ∧ i = .int .i64 k ∧ Hid (Below w1.heap.size w1 wr) ∧ Hid (Own1 Ty.pt 28 w1.heap.size wr v (ends2 (u.take k)))) (fun _ i _ => u.length - (intOf i).toNat)
 case atStart => exact ⟨0, Nat.zero_le _, rfl, Below.refl _ _, OwnR.nil _ _ _ _ _⟩
 case round =>
  obtain ⟨k, hk, rfl, HB, HO⟩ := hrel
  by_cases hlt : k < u.length
  ·have HUr := Lib.hid (HU.out.below HB.out)
   obtain ⟨ad, rfl, hx0, hx1, hx2, hx3⟩ := HUr.out.sg_at k hlt
   have HS := Lib.hid (ends2_snoc u k hlt)
   have HL : Hid (((ends2 (u.take k)).length + 2) * 16 ≤ 140737488355328) := by
    show _ ≤ _
    rw [ends2_len, List.length_take]; omega
   have hsz := HB.out.size
   obtain ⟨s, hs⟩ : ∃ s, s = sgD u k := ⟨_, rfl⟩
   rw [← hs] at hx0 hx1 hx2 hx3 HS
   clear hs HUr
   have HRL : Hid (∀ (W : World) (M : Nat → Prop), ¬ M W.heap.size → Row Ty.pt (fun k => ¬ M k) (W.alloc (.cells #[.int .i64 s.1.1, .int .i64 s.1.2, .int .i64 s.2.1, .int .i64 s.2.2] 28)) (some ⟨W.heap.size, 0, none⟩) [s.1, s.2]) := fun W M hM => Row.pt_lit W [s.1, s.2] _ _ hM (by simp)
   go_wp2_with (at_builtin; refine app_row Ty.pt (W := (wr.alloc (.cells #[.int .i64 s.1.1, .int .i64 s.1.2, .int .i64 s.2.1, .int .i64 s.2.2] 48)).alloc (.cells #[.int .i64 s.1.1, .int .i64 s.1.2, .int .i64 s.2.1, .int .i64 s.2.2] 28)) w1.heap.size rfl _ _ 25 28 _ 16 rfl Tryz.underlying25 infoPt rfl (by decide) _ (ends2 (u.take k)) [s.1, s.2] _ 2 2 _ rfl (by simp; rfl) rfl (HRL.out _ _ (fun hm => absurd (OwnR.lt HO.out _ hm).2 (by first | (simp; done) | (simp; omega)))) (Own1.below HO.out bq) (by simp; omega) HL.out ?_; intro v1 w4 HO1 hg1 hat1)
   have BZ : Hid (Below w1.heap.size w1 w4) := below_own (by repeat (first | exact Below.refl _ _ | apply below_alloc | apply below_drewN | apply below_drew | (refine below_set2 ?_ ?_; (first | (simp; done) | (simp; omega))) | (refine below_step ?_ HB.out))) (World.grownBy.trans (World.grownBy_alloc _ _ _) (World.grownBy.trans (World.grownBy_alloc _ _ _) hg1)) (fun b e => (OwnR.lt HO.out b e).1)
   have HO4 := Lib.hid (Own1.of HO1)
   clear HO1 hg1 hat1
   go_wp2
   go_roundw
   case rel => exact ⟨k + 1, by omega, by go_num, BZ, by rw [HS.out]; exact HO4.out⟩
   case measure => simp [intOf]; omega
  ·obtain rfl : k = u.length := by omega
   rw [List.take_length] at HO
   have hE2 := Nat.le_of_eq (ends2_len u)
   obtain ⟨A2, c2, rfl, hl2, hr2⟩ := HO.out.reads
   clear hr2
   go_wp2_with fail
   refine (SortFunc_pt A2 _ c2 (by omega) HO.out).mono ?_
   rintro e w2 ⟨rfl, ho2, hk2⟩
   have HO2 := Lib.hid ho2
   have HB2 : Hid (Below w1.heap.size w1 w2) := below_kept HB.out hk2 (fun b e => (OwnR.lt HO.out b e).1)
   clear ho2 hk2
   go_wp2_with fail
   refine (Compact_pt _ _ _ w2 HO2.out).mono ?_
   rintro e w3 ⟨v3, rfl, ho3, hk3⟩
   have HB3 : Hid (Below w1.heap.size w1 w3) := below_kept HB2.out hk3 (fun b e => (OwnR.lt HO2.out b e).1)
   rw [← HES.out] at ho3
   obtain ⟨A3, c3, rfl, hl3, hr3⟩ := ho3.reads
   have HE := Lib.hid hr3
   have HBw3 : Hid (Below w.heap.size w w3) := below_step HB1.out HB3.out
   clear ho3 hk3 hr3 HO HO2 HB2 HB HB3 HU HES
   go_wp2_with fail
   refine Calls.mono (CC.out _ (HR.out.below HBw3.out)) ?_
   rintro e w5 ⟨v5, rfl, ho5, hb5⟩
   obtain ⟨A5, c5, rfl, hl5, hr5⟩ := ho5.reads
   have HC := Lib.hid hr5
   have HE5 := Lib.hid (HE.out.below hb5)
   have HB5 : Hid (Below w.heap.size w w5) := below_step HBw3.out hb5
   clear ho5 hr5 hb5 HE HBw3 HB1 CU CC HR
   go_wp2
   go_loopw [6, 34] (fun v i wr => ∃ k : Nat, k ≤ cl.length ∧ i = .int .i64 k ∧ Hid (Below w5.heap.size w5 wr) ∧ Hid (Own1 Ty.sg 48 w5.heap.size wr v (partsZ es (cl.take k)))) (fun _ i _ => cl.length - (intOf i).toNat)
   case atStart => exact ⟨0, Nat.zero_le _, rfl, Below.refl _ _, OwnR.nil _ _ _ _ _⟩
   case round =>
    obtain ⟨k, hk, rfl, HB, HO⟩ := hrel
    by_cases hlt : k < cl.length
    ·have HCr := Lib.hid (HC.out.below HB.out)
     obtain ⟨ad, rfl, hx0, hx1, hx2, hx3⟩ := HCr.out.sg_at k hlt
     have HS := Lib.hid ((parts_snoc es cl k hlt).trans (cutsZ_eq _ _ _))
     have hpl := parts_len es cl k
     have hpb := parts_le (n := (partsZ es (cl.take k)).length) (a := cl.length) (b := es.length) (by omega) (by omega) (Nat.le_trans hpl (Nat.mul_le_mul_right _ hk))
     obtain ⟨s, hs⟩ : ∃ s, s = sgD cl k := ⟨_, rfl⟩
     rw [← hs] at hx0 hx1 hx2 hx3 HS
     generalize partsZ es (cl.take k) = acc at *
     have hcl2 := cutSt_len es s acc
     have HCL := Lib.hid hcl2
     clear hs HCr hcl2 hpl
     obtain ⟨wo, rfl⟩ : ∃ wo : World, wo = wr := ⟨_, rfl⟩
     have HAo : ((wo.alloc (.cells #[.int .i64 s.1.1, .int .i64 s.1.2, .int .i64 s.2.1, .int .i64 s.2.2] 48)).alloc (.cells #[.int .i64 s.1.1, .int .i64 s.1.2] 28)).heap[wo.heap.size]? = some (.cells #[.int .i64 s.1.1, .int .i64 s.1.2, .int .i64 s.2.1, .int .i64 s.2.2] 48 (0, 0)) := (two_alloc wo _ _).1
     have HFo : ((wo.alloc (.cells #[.int .i64 s.1.1, .int .i64 s.1.2, .int .i64 s.2.1, .int .i64 s.2.2] 48)).alloc (.cells #[.int .i64 s.1.1, .int .i64 s.1.2] 28)).heap[wo.heap.size + 1]? = some (.cells #[.int .i64 s.1.1, .int .i64 s.1.2] 28 (0, 0)) := (two_alloc wo _ _).2
     go_wp2
     have hzo : w5.heap.size ≤ wo.heap.size := HB.out.size
     have hvb0 : ∀ b, u6.ownBlock = some b → b ≠ wo.heap.size ∧ b ≠ wo.heap.size + 1 := fun b e => by have := (OwnR.lt HO.out b e).2; omega
     go_loopw [6, 42] (fun v i wi => ∃ j : Nat, j ≤ es.length ∧ i = .int .i64 j ∧ wi.heap[wo.heap.size]? = some (.cells #[.int .i64 s.1.1, .int .i64 s.1.2, .int .i64 s.2.1, .int .i64 s.2.2] 48 (0, 0)) ∧ wi.heap[wo.heap.size + 1]? = some (.cells #[.int .i64 (cutSt es s acc j).2.1, .int .i64 (cutSt es s acc j).2.2] 28 (0, 0)) ∧
      Hid (Below w5.heap.size w5 wi) ∧ Hid (Own1 Ty.sg 48 w5.heap.size wi v (cutSt es s acc j).1) ∧ Hid (∀ b, v.ownBlock = some b → b ≠ wo.heap.size ∧ b ≠ wo.heap.size + 1)) (fun _ i _ => es.length - (intOf i).toNat)
     case atStart => exact ⟨0, Nat.zero_le _, rfl, HAo, HFo, (by repeat (first | exact Below.refl _ _ | apply below_alloc | apply below_drewN | apply below_drew | (refine below_set2 ?_ ?_; (first | (simp; done) | (simp; omega))) | (refine below_step ?_ HB.out))), Own1.below HO.out bq, hvb0⟩
     case round =>
      obtain ⟨j, hj, rfl, HA, HF, HBi, HOi, HVB⟩ := hrel
      clear HAo HFo HO HB hvb0 hx0 hx1 hx2 hx3
      have hszi := lt_of_block HF
      have hszj : wo.heap.size < wr.heap.size := by omega
      have hs0 := blk_cell HA 0 rfl
      have hs1 := blk_cell HA 1 rfl
      have hs2 := blk_cell HA 2 rfl
      have hs3 := blk_cell HA 3 rfl
      have hf0 := blk_cell HF 0 rfl
      have hf1 := blk_cell HF 1 rfl
      by_cases hjt : j < es.length
      ·have HEr := Lib.hid (HE5.out.below HBi.out)
       obtain ⟨bd, rfl, hp0, hp1⟩ := HEr.out.pt_at j hjt
       have HLi : Hid (((cutSt es s acc j).1.length + 1) * 32 ≤ 140737488355328) := by
        have := HCL.out j
        show _ ≤ _
        omega
       have HIN := Lib.hid (fun h => cutSt_in (es := es) (s := s) (acc := acc) hjt h)
       have HOUT := Lib.hid (fun h => cutSt_out (es := es) (s := s) (acc := acc) hjt h)
       generalize cutSt es s acc j = st at *
       generalize ptD es j = q at *
       have HA1 := blk_alloc HA (.cells #[.int .i64 q.1, .int .i64 q.2] 28)
       have HF1 := blk_alloc HF (.cells #[.int .i64 q.1, .int .i64 q.2] 28)
       have HQ1 := heap_alloc_new wr (.cells #[.int .i64 q.1, .int .i64 q.2] 28)
       clear HEr
       cases hw : withinB q s.1 s.2
       ·have HW := Lib.hid hw
        clear hw
        go_wp2_with fail
        refine (seg_Within _ _ _ _).mono ?_
        rintro e w6 ⟨rfl, hb6⟩
        rw [HW.out]
        have HA6 := blk_below HA1 hb6
        have HF6 := blk_below HF1 hb6
        clear hs0 hs1 hs2 hs3 hf0 hf1 hp0 hp1 HA1 HF1 HQ1
        go_wp2
        go_roundw
        case rel => exact ⟨j + 1, by omega, by go_num, HA6, by rw [HOUT.out HW.out]; exact HF6, (by repeat (first | exact Below.refl _ _ | apply below_alloc | apply below_drewN | apply below_drew | (refine below_set2 ?_ ?_; (first | (simp; done) | (simp; omega))) | (refine below_step ?_ hb6) | (refine below_step ?_ HBi.out))), by rw [HOUT.out HW.out]; exact Own1.below HOi.out (by repeat (first | exact Below.refl _ _ | apply below_alloc | apply below_drewN | apply below_drew | (refine below_set2 ?_ ?_; (first | (simp; done) | (simp; omega))) | (refine below_step ?_ hb6))), HVB⟩
        case measure => simp [intOf]; omega
       ·have HW := Lib.hid hw
        clear hw
        go_wp2_with fail
        refine (seg_Within _ _ _ _).mono ?_
        rintro e w6 ⟨rfl, hb6⟩
        rw [HW.out]
        have HA6 := blk_below HA1 hb6
        have HF6 := blk_below HF1 hb6
        have HQ6 := blk_below HQ1 hb6
        have HB6 : Hid (Below w5.heap.size w5 w6) := (by repeat (first | exact Below.refl _ _ | apply below_alloc | apply below_drewN | apply below_drew | (refine below_set2 ?_ ?_; (first | (simp; done) | (simp; omega))) | (refine below_step ?_ hb6) | (refine below_step ?_ HBi.out)))
        have HVW : Hid (∀ b, u6.ownBlock = some b → b < wr.heap.size) := fun b e => (OwnR.lt HOi.out b e).2
        have HO6 : Hid (Own1 Ty.sg 48 w5.heap.size w6 _ st.1) := Own1.below HOi.out (by repeat (first | exact Below.refl _ _ | apply below_alloc | apply below_drewN | apply below_drew | (refine below_set2 ?_ ?_; (first | (simp; done) | (simp; omega))) | (refine below_step ?_ hb6)))
        have hz6 := lt_of_block HQ6
        have hs6 := HB6.out.size
        clear hs0 hs1 hs2 hs3 hf0 hf1 hp0 hp1 HA1 HF1 HQ1 HA HF HOi hb6
        have hf0 := blk_cell HF6 0 rfl
        have hf1 := blk_cell HF6 1 rfl
        have hq0 := blk_cell HQ6 0 rfl
        have hq1 := blk_cell HQ6 1 rfl
        go_wp2_with (at_builtin; refine app_one Ty.sg (W := w6) w5.heap.size rfl _ _ 46 48 _ 32 rfl Tryz.underlying46 infoSg rfl (by decide) u6 st.1 (st.2, q) _ _ rfl rfl rfl rfl HO6.out (by omega) HLi.out ?_; intro v1 w7 HO1 hg1 hat1; have hq7 := (hg1.block _ hz6 (fun e => absurd (HVW.out _ e.symm) (Nat.lt_irrefl _))).trans HQ6; have hc7 := blk_cell hq7 0 rfl; have hc8 := blk_cell hq7 1 rfl; have hf7 := (hg1.block _ (lt_of_block HF6) (fun e => (HVB.out _ e.symm).2 rfl)).trans HF6; have hfr0 := blk_free hf7 0; have hfr1 := blk_free hf7 1; have hd0 := blk_cell hf7 0 rfl; have hd1 := blk_cell hf7 1 rfl)
        have HA7 := (hg1.block _ (lt_of_block HA6) (fun e => (HVB.out _ e.symm).1 rfl)).trans HA6
        have HO7 := Lib.hid (Own1.of HO1)
        have HB7 : Hid (Below w5.heap.size w5 w7) := below_own HB6.out hg1 (fun b e => (OwnR.lt HO6.out b e).1)
        have HVB7 : Hid (∀ b, v1.ownBlock = some b → b ≠ wo.heap.size ∧ b ≠ wo.heap.size + 1) := fun b e => by
         rcases hat1 with h | ⟨b', h, hle⟩
         ·exact HVB.out b (h ▸ e)
         ·have : b' = b := by rw [h] at e; exact Option.some.inj e
          omega
        clear HO1 hg1 hat1 HF6 HQ6 HA6 hq7 hf0 hf1 hq0 hq1 HB6 HO6
        have hne : ¬ wo.heap.size = wo.heap.size + 1 := by omega
        go_wp2
        go_roundw
        case rel => exact ⟨j + 1, by omega, by go_num, blk_far (blk_far HA7 hne _) hne _, by rw [HIN.out HW.out]; exact blk_set (blk_set hf7 _) _, below_set2 (by show _ ≤ wo.heap.size + 1; omega) (below_set2 (by show _ ≤ wo.heap.size + 1; omega) HB7.out), by rw [HIN.out HW.out]; exact HO7.out.flat_kept (S := fun b => b = wo.heap.size + 1) sg_flat (kept_set rfl (kept_set rfl (kept_refl _ _))) (fun b e => (HVB7.out b e).2), HVB7⟩
        case measure => simp [intOf]; omega
      ·obtain rfl : j = es.length := by omega
       have HLi : Hid (((cutSt es s acc es.length).1.length + 1) * 32 ≤ 140737488355328) := by
        have := HCL.out es.length
        show _ ≤ _
        omega
       have HS2 : Hid (partsZ es (cl.take (k + 1)) = (cutSt es s acc es.length).1 ++ [((cutSt es s acc es.length).2, s.2)]) := HS.out
       generalize cutSt es s acc es.length = st at *
       have hs9 := HBi.out.size
       go_wp2_with (at_builtin; refine app_one Ty.sg (W := wr) w5.heap.size rfl _ _ 46 48 _ 32 rfl Tryz.underlying46 infoSg rfl (by decide) u6 st.1 (st.2, s.2) _ _ rfl rfl rfl rfl HOi.out (by omega) HLi.out ?_; intro v1 w7 HO1 hg1 hat1)
       have HO7 := Lib.hid (Own1.of HO1)
       have HB7 : Hid (Below w5.heap.size w5 w7) := below_own HBi.out hg1 (fun b e => (OwnR.lt HOi.out b e).1)
       clear HO1 hg1 hat1
       go_wp2
       go_roundw
       case rel => exact ⟨k + 1, by omega, by go_num, HB7, by rw [HS2.out]; exact HO7.out⟩
       case measure => simp [intOf]; omega
    ·obtain rfl : k = cl.length := by omega
     have hpl := parts_len es cl cl.length
     rw [List.take_length] at HO hpl
     have hpb := parts_le (n := (partsZ es cl).length) (a := cl.length) (b := es.length) (by omega) (by omega) hpl
     obtain ⟨A7, c7, rfl, hl7, hr7⟩ := HO.out.reads
     have HR7 := Lib.hid hr7
     clear hr7 hpl
     go_wp2_with fail
     refine (noding_Sort (partsZ es cl) A7 _ c7 _ HR7.out rfl (by omega)).mono ?_
     rintro e w8 ⟨v8, rfl, ho8, hb8⟩
     have HO8 := Lib.hid ho8
     have HBz : Hid (Below w.heap.size w w8) := below_step (below_step HB5.out HB.out) hb8
     have hle := (below_step HB5.out HB.out).size
     rw [← HSP.out] at HO8
     clear ho8 hb8
     go_wp2
     go_ret
     exact ⟨_, rfl, Own1.base HO8.out hle, HBz.out⟩
end
section
open Go.RowKit Go.Proofs.YtaeflnbjeaoapaaGreatW.PrintLast

abbrev Ty.sg2 : Ty (Sg × Sg) := Ty.flat 8 (by decide) (fun x => [.int .i64 x.1.1.1, .int .i64 x.1.1.2, .int .i64 x.1.2.1, .int .i64 x.1.2.2, .int .i64 x.2.1.1, .int .i64 x.2.1.2, .int .i64 x.2.2.1, .int .i64 x.2.2.2]) (fun _ => rfl) (fun x u hu => by simp at hu; rcases hu with rfl | rfl | rfl | rfl | rfl | rfl | rfl | rfl <;> rfl)
theorem infoSg2 : (Tryz.prog.info? 100).map (fun i => (i.zero, i.size, i.bytes)) = some (some (.agg #[.int .i64 0, .int .i64 0, .int .i64 0, .int .i64 0, .int .i64 0, .int .i64 0, .int .i64 0, .int .i64 0]), 8, 64) := by kernel_rfl
def crossTo (u : Sgs) (i : Nat) : List (Sg × Sg) := (List.range i).flatMap fun i => ((u.drop (i + 1)).filter (badB (sgD u i))).map fun t => (sgD u i, t)
def crossIn (u : Sgs) (i j : Nat) : List (Sg × Sg) := crossTo u i ++ (((u.drop (i + 1)).take j).filter (badB (sgD u i))).map fun t => (sgD u i, t)
theorem crossTo_succ (u : Sgs) (i : Nat) : crossTo u (i + 1) = crossIn u i (u.drop (i + 1)).length := by
 unfold crossTo crossIn
 rw [List.range_succ, List.flatMap_append, List.take_length]
 simp [crossTo]
theorem crossIn_zero (u : Sgs) (i : Nat) : crossIn u i 0 = crossTo u i := by simp [crossIn]
theorem crossIn_succ (u : Sgs) (i j : Nat) (h : i + 1 + j < u.length) : crossIn u i (j + 1) = crossIn u i j ++ (if badB (sgD u i) (sgD u (i + 1 + j)) = true then [(sgD u i, sgD u (i + 1 + j))] else []) := by
 unfold crossIn
 rw [take_snoc (u.drop (i + 1)) j ((0, 0), (0, 0)) (by rw [List.length_drop]; omega), List.filter_append, List.map_append, List.append_assoc]
 have e : (u.drop (i + 1)).getD j ((0, 0), (0, 0)) = sgD u (i + 1 + j) := by simp [sgD, List.getD_eq_getElem?_getD]
 rw [e]
 congr 2
 by_cases hb : badB (sgD u i) (sgD u (i + 1 + j)) = true
 ·rw [if_pos hb, List.filter_cons_of_pos hb]; rfl
 ·rw [if_neg hb, List.filter_cons_of_neg hb]; rfl
theorem crossIn_len (u : Sgs) (i : Nat) : ∀ j, (crossIn u i j).length ≤ (crossTo u i).length + j
 | 0 => by rw [crossIn_zero]; omega
 | j + 1 => by
  unfold crossIn
  rw [List.length_append, List.length_map]
  have h1 := List.length_filter_le (badB (sgD u i)) ((u.drop (i + 1)).take (j + 1))
  rw [List.length_take] at h1
  omega
theorem crossTo_len (u : Sgs) : ∀ i, (crossTo u i).length ≤ i * u.length
 | 0 => by simp [crossTo]
 | i + 1 => by
  have ih := crossTo_len u i
  rw [crossTo_succ, Nat.add_mul, Nat.one_mul]
  have := crossIn_len u i (u.drop (i + 1)).length
  rw [List.length_drop] at this ⊢
  omega
theorem cross_le {a n m : Nat} (h1 : a ≤ 600) (h2 : n ≤ a * m) (h3 : m ≤ 600) : n ≤ 360000 := Nat.le_trans h2 (Nat.mul_le_mul h1 h3)
set_option maxHeartbeats 2000000 in
theorem noding_Crossings {ok : Nat → Prop} (l : Sgs) (A : Option Addr) (n c : Nat) (w : World) (hr : Row Ty.sg ok w A l) (hn : n = l.length) (hlen : l.length ≤ 600) :
  Calls Tryz.prog 47 #[.slice A n c] w fun e w' => ∃ B d, e = .returned (.slice B (crossZs (uniqZ l)).length d) ∧ Below w.heap.size w w' := by
 subst hn
 have HR := Lib.hid hr
 clear hr
 have hul := uniq_len l
 have CU := Lib.hid (fun W h => noding_Unique (ok := ok) l A l.length c W h rfl (by omega))
 have HZ : Hid (crossZs (uniqZ l) = crossTo (uniqZ l) (uniqZ l).length) := rfl
 generalize uniqZ l = u at *
 go_enter Tryz.func47, Tryz.ntmps47
 go_wp2_with fail
 refine Calls.mono (CU.out _ HR.out) ?_
 rintro e w1 ⟨v, rfl, ho, hb1⟩
 have HU := Lib.hid ho
 have HB1 := Lib.hid hb1
 rcases Nat.eq_zero_or_pos u.length with h0 | h0
 ·obtain ⟨A1, c1, rfl, _⟩ := ho.reads
  obtain rfl : u = [] := List.eq_nil_of_length_eq_zero h0
  clear ho hb1 CU
  go_wp2
  go_loopw [4, 14] (fun v i wr => v = .slice none 0 0 ∧ i = .int .i64 0 ∧ Hid (Below w.heap.size w wr)) (fun _ i _ => 0)
  case atStart => exact ⟨rfl, rfl, HB1.out⟩
  case round =>
   obtain ⟨rfl, rfl, HB⟩ := hrel
   go_wp2
   go_ret
   exact ⟨none, 0, by rw [HZ.out]; rfl, HB.out⟩
 obtain ⟨g, c1, rfl, hl1⟩ := HU.out.form h0
 have hgl := (OwnR.lt HU.out g rfl).2
 clear ho hb1 CU
 go_wp2
 go_loopw [4, 14] (fun v i wr => ∃ k : Nat, k ≤ u.length ∧ i = .int .i64 k ∧ Hid (Below w1.heap.size w1 wr) ∧ Hid (Own1 Ty.sg2 100 w1.heap.size wr v (crossTo u k))) (fun _ i _ => u.length - (intOf i).toNat)
 case atStart => exact ⟨0, Nat.zero_le _, rfl, Below.refl _ _, OwnR.nil _ _ _ _ _⟩
 case round =>
  obtain ⟨k, hk, rfl, HB, HO⟩ := hrel
  by_cases hlt : k < u.length
  ·have HUo := Lib.hid (Own1.below HU.out HB.out)
   obtain ⟨hx0, hx1, hx2, hx3⟩ := OwnR.sg_at HUo.out k hlt
   have hcl := crossTo_len u k
   have hcb := cross_le (n := (crossTo u k).length) (a := u.length) (by omega) (Nat.le_trans hcl (Nat.mul_le_mul_right _ hk)) (by omega)
   have HIL := Lib.hid (crossIn_len u k)
   obtain ⟨wo, rfl⟩ : ∃ wo : World, wo = wr := ⟨_, rfl⟩
   have hgo := HB.out.size
   have HAo := heap_alloc_new wo (.cells #[.int .i64 (sgD u k).1.1, .int .i64 (sgD u k).1.2, .int .i64 (sgD u k).2.1, .int .i64 (sgD u k).2.2] 48)
   have eb : k + 1 ≤ u.length := by omega
   have ec : u.length ≤ c1 := hl1
   clear HUo hcl
   by_cases hlast : k + 1 = u.length
   ·have HLS : Hid (crossTo u (k + 1) = crossTo u k) := by
     show _ = _
     rw [crossTo_succ, show (u.drop (k + 1)).length = 0 by rw [List.length_drop]; omega, crossIn_zero]
    have hlb : u.length ≤ k + 1 := by omega
    clear HAo hlast
    by_cases hcc : c1 = k + 1
    ·skip
     go_wp2
     go_loopw [4, 24] (fun v i wi => i = .int .i64 0 ∧ Hid (Below w1.heap.size w1 wi) ∧ Hid (Own1 Ty.sg2 100 w1.heap.size wi v (crossTo u k))) (fun _ i _ => 0)
     case atStart => exact ⟨rfl, (by repeat (first | exact Below.refl _ _ | apply below_alloc | apply below_drewN | apply below_drew | (refine below_set2 ?_ ?_; (first | (simp; done) | (simp; omega))) | (refine below_step ?_ HB.out))), Own1.below HO.out bq⟩
     case round =>
      obtain ⟨rfl, HBi, HOi⟩ := hrel
      clear HO HB
      go_wp2
      go_roundw
      case rel => exact ⟨k + 1, by omega, by go_num, HBi, by rw [HLS.out]; exact HOi.out⟩
      case measure => simp [intOf]; omega
    ·skip
     go_wp2
     go_loopw [4, 24] (fun v i wi => i = .int .i64 0 ∧ Hid (Below w1.heap.size w1 wi) ∧ Hid (Own1 Ty.sg2 100 w1.heap.size wi v (crossTo u k))) (fun _ i _ => 0)
     case atStart => exact ⟨rfl, (by repeat (first | exact Below.refl _ _ | apply below_alloc | apply below_drewN | apply below_drew | (refine below_set2 ?_ ?_; (first | (simp; done) | (simp; omega))) | (refine below_step ?_ HB.out))), Own1.below HO.out bq⟩
     case round =>
      obtain ⟨rfl, HBi, HOi⟩ := hrel
      clear HO HB
      go_wp2
      go_roundw
      case rel => exact ⟨k + 1, by omega, by go_num, HBi, by rw [HLS.out]; exact HOi.out⟩
      case measure => simp [intOf]; omega
   have hcc : ¬ c1 = k + 1 := by omega
   go_wp2
   have hvb0 : ∀ b, u4.ownBlock = some b → b ≠ wo.heap.size := fun b e => by have := (OwnR.lt HO.out b e).2; omega
   go_loopw [4, 24] (fun v i wi => ∃ j : Nat, k + 1 + j ≤ u.length ∧ i = .int .i64 j ∧ wi.heap[wo.heap.size]? = some (.cells #[.int .i64 (sgD u k).1.1, .int .i64 (sgD u k).1.2, .int .i64 (sgD u k).2.1, .int .i64 (sgD u k).2.2] 48 (0, 0)) ∧
    Hid (Below w1.heap.size w1 wi) ∧ Hid (Own1 Ty.sg2 100 w1.heap.size wi v (crossIn u k j)) ∧ Hid (∀ b, v.ownBlock = some b → b ≠ wo.heap.size)) (fun _ i _ => u.length - (intOf i).toNat)
   case atStart => exact ⟨0, by omega, rfl, HAo, (by repeat (first | exact Below.refl _ _ | apply below_alloc | apply below_drewN | apply below_drew | (refine below_set2 ?_ ?_; (first | (simp; done) | (simp; omega))) | (refine below_step ?_ HB.out))), by rw [crossIn_zero]; exact Own1.below HO.out bq, hvb0⟩
   case round =>
    obtain ⟨j, hj, rfl, HA, HBi, HOi, HVB⟩ := hrel
    clear HAo HO HB hvb0 hx0 hx1 hx2 hx3
    have hszi := lt_of_block HA
    by_cases hjt : k + 1 + j < u.length
    ·have HUo := Lib.hid (Own1.below HU.out HBi.out)
     obtain ⟨hy0, hy1, hy2, hy3⟩ := OwnR.sg_at HUo.out (k + 1 + j) hjt
     have ea : (k + 1) * 4 + j * 4 = (k + 1 + j) * 4 := by omega
     have hj2 : j < u.length - (k + 1) := by omega
     have hs0 := blk_cell HA 0 rfl
     have hs1 := blk_cell HA 1 rfl
     have hs2 := blk_cell HA 2 rfl
     have hs3 := blk_cell HA 3 rfl
     have HSC := Lib.hid (crossIn_succ u k j hjt)
     have HL : Hid (((crossIn u k j).length + 1) * 64 ≤ 140737488355328) := by
      have := HIL.out j
      show _ ≤ _
      omega
     have hgw := HBi.out.size
     obtain ⟨s, hs⟩ : ∃ s, s = sgD u k := ⟨_, rfl⟩
     obtain ⟨t, ht⟩ : ∃ t, t = sgD u (k + 1 + j) := ⟨_, rfl⟩
     rw [← hs] at HSC HA hs0 hs1 hs2 hs3
     rw [← ht] at hy0 hy1 hy2 hy3 HSC
     have HT1 := heap_alloc_new wr (.cells #[.int .i64 t.1.1, .int .i64 t.1.2, .int .i64 t.2.1, .int .i64 t.2.2] 48)
     have HA1 := blk_alloc HA (.cells #[.int .i64 t.1.1, .int .i64 t.1.2, .int .i64 t.2.1, .int .i64 t.2.2] 48)
     obtain ⟨r, hr⟩ : ∃ r, r = relZ s t := ⟨_, rfl⟩
     have CR : Hid (∀ W, Calls Tryz.prog 76 #[sgA s, sgA t] W fun e w' => e = .returned (.int .i64 r) ∧ Below W.heap.size W w') := by rw [hr]; exact fun W => seg_Relate _ _ _ _ _ _ _ _ W
     have HBD : Hid (badB s t = (decide (r = 2) || decide (r = 3))) := by rw [hr]; rfl
     have HSs := Lib.hid hs
     clear hr HUo hs ht
     by_cases hbd : badB s t = true
     ·have HS2 : Hid (crossIn u k (j + 1) = crossIn u k j ++ [(s, t)]) := HSC.out.trans (by rw [if_pos hbd])
      generalize crossIn u k j = cj at *
      by_cases h2 : r = 2
      ·have q2 : (r == 2) = true := by simp [h2]
       clear h2 hbd
       go_wp2_with fail
       refine Calls.mono (CR.out _) ?_
       rintro e w6 ⟨rfl, hb6⟩
       have HA6 := blk_below HA1 hb6
       have HT6 := blk_below HT1 hb6
       have HB6 : Hid (Below w1.heap.size w1 w6) := (by repeat (first | exact Below.refl _ _ | apply below_alloc | apply below_drewN | apply below_drew | (refine below_set2 ?_ ?_; (first | (simp; done) | (simp; omega))) | (refine below_step ?_ hb6) | (refine below_step ?_ HBi.out)))
       have HO6 : Hid (Own1 Ty.sg2 100 w1.heap.size w6 u4 cj) := Own1.below HOi.out (by repeat (first | exact Below.refl _ _ | apply below_alloc | apply below_drewN | apply below_drew | (refine below_set2 ?_ ?_; (first | (simp; done) | (simp; omega))) | (refine below_step ?_ hb6)))
       have hs6 := HB6.out.size
       clear hs0 hs1 hs2 hs3 hy0 hy1 hy2 hy3 HA1 HT1 hb6
       have hs0 := blk_cell HA6 0 rfl
       have hs1 := blk_cell HA6 1 rfl
       have hs2 := blk_cell HA6 2 rfl
       have hs3 := blk_cell HA6 3 rfl
       have ht0 := blk_cell HT6 0 rfl
       have ht1 := blk_cell HT6 1 rfl
       have ht2 := blk_cell HT6 2 rfl
       have ht3 := blk_cell HT6 3 rfl
       go_wp2_with (at_builtin; refine app_one Ty.sg2 (W := w6) w1.heap.size rfl _ _ 74 100 _ 64 rfl Tryz.underlying74 infoSg2 rfl (by decide) u4 cj (s, t) _ _ rfl rfl rfl rfl HO6.out (by omega) HL.out ?_; intro v1 w7 HO1 hg1 hat1)
       have HA7 := (hg1.block _ (lt_of_block HA6) (fun e => HVB.out _ e.symm rfl)).trans HA6
       have HO7 := Lib.hid (Own1.of HO1)
       have HB7 : Hid (Below w1.heap.size w1 w7) := below_own HB6.out hg1 (fun b e => (OwnR.lt HO6.out b e).1)
       have HVB7 : Hid (∀ b, v1.ownBlock = some b → b ≠ wo.heap.size) := fun b e => by
        have := lt_of_block HA6
        rcases hat1 with h | ⟨b', h, hle⟩
        ·exact HVB.out b (h ▸ e)
        ·have : b' = b := by rw [h] at e; exact Option.some.inj e
         omega
       clear HO1 hg1 hat1
       go_wp2
       go_roundw
       case rel => exact ⟨j + 1, by omega, by go_num, by rw [← HSs.out]; exact HA7, HB7, by rw [HS2.out]; exact HO7.out, HVB7⟩
       case measure => simp [intOf]; omega
      ·have q2 : (r == 2) = false := by simp [h2]
       have h3 : r = 3 := by rw [HBD.out] at hbd; simpa [h2] using hbd
       have q3 : (r == 3) = true := by simp [h3]
       clear h2 h3 hbd
       go_wp2_with fail
       refine Calls.mono (CR.out _) ?_
       rintro e w6 ⟨rfl, hb6⟩
       have HA6 := blk_below HA1 hb6
       have HT6 := blk_below HT1 hb6
       have HB6 : Hid (Below w1.heap.size w1 w6) := (by repeat (first | exact Below.refl _ _ | apply below_alloc | apply below_drewN | apply below_drew | (refine below_set2 ?_ ?_; (first | (simp; done) | (simp; omega))) | (refine below_step ?_ hb6) | (refine below_step ?_ HBi.out)))
       have HO6 : Hid (Own1 Ty.sg2 100 w1.heap.size w6 u4 cj) := Own1.below HOi.out (by repeat (first | exact Below.refl _ _ | apply below_alloc | apply below_drewN | apply below_drew | (refine below_set2 ?_ ?_; (first | (simp; done) | (simp; omega))) | (refine below_step ?_ hb6)))
       have hs6 := HB6.out.size
       clear hs0 hs1 hs2 hs3 hy0 hy1 hy2 hy3 HA1 HT1 hb6
       have hs0 := blk_cell HA6 0 rfl
       have hs1 := blk_cell HA6 1 rfl
       have hs2 := blk_cell HA6 2 rfl
       have hs3 := blk_cell HA6 3 rfl
       have ht0 := blk_cell HT6 0 rfl
       have ht1 := blk_cell HT6 1 rfl
       have ht2 := blk_cell HT6 2 rfl
       have ht3 := blk_cell HT6 3 rfl
       go_wp2_with (at_builtin; refine app_one Ty.sg2 (W := w6) w1.heap.size rfl _ _ 74 100 _ 64 rfl Tryz.underlying74 infoSg2 rfl (by decide) u4 cj (s, t) _ _ rfl rfl rfl rfl HO6.out (by omega) HL.out ?_; intro v1 w7 HO1 hg1 hat1)
       have HA7 := (hg1.block _ (lt_of_block HA6) (fun e => HVB.out _ e.symm rfl)).trans HA6
       have HO7 := Lib.hid (Own1.of HO1)
       have HB7 : Hid (Below w1.heap.size w1 w7) := below_own HB6.out hg1 (fun b e => (OwnR.lt HO6.out b e).1)
       have HVB7 : Hid (∀ b, v1.ownBlock = some b → b ≠ wo.heap.size) := fun b e => by
        have := lt_of_block HA6
        rcases hat1 with h | ⟨b', h, hle⟩
        ·exact HVB.out b (h ▸ e)
        ·have : b' = b := by rw [h] at e; exact Option.some.inj e
         omega
       clear HO1 hg1 hat1
       go_wp2
       go_roundw
       case rel => exact ⟨j + 1, by omega, by go_num, by rw [← HSs.out]; exact HA7, HB7, by rw [HS2.out]; exact HO7.out, HVB7⟩
       case measure => simp [intOf]; omega
     ·have HS2 : Hid (crossIn u k (j + 1) = crossIn u k j) := HSC.out.trans (by rw [if_neg hbd, List.append_nil])
      have h2 : ¬ r = 2 := fun h => hbd (by rw [HBD.out, h]; rfl)
      have h3 : ¬ r = 3 := fun h => hbd (by rw [HBD.out, h]; rfl)
      have q2 : (r == 2) = false := by simp [h2]
      have q3 : (r == 3) = false := by simp [h3]
      clear h2 h3 hbd
      go_wp2_with fail
      refine Calls.mono (CR.out _) ?_
      rintro e w6 ⟨rfl, hb6⟩
      have HA6 := blk_below HA1 hb6
      clear hs0 hs1 hs2 hs3 hy0 hy1 hy2 hy3 HA1 HT1
      go_wp2
      go_roundw
      case rel => exact ⟨j + 1, by omega, by go_num, by rw [← HSs.out]; exact HA6, (by repeat (first | exact Below.refl _ _ | apply below_alloc | apply below_drewN | apply below_drew | (refine below_set2 ?_ ?_; (first | (simp; done) | (simp; omega))) | (refine below_step ?_ hb6) | (refine below_step ?_ HBi.out))), by rw [HS2.out]; exact Own1.below HOi.out (by repeat (first | exact Below.refl _ _ | apply below_alloc | apply below_drewN | apply below_drew | (refine below_set2 ?_ ?_; (first | (simp; done) | (simp; omega))) | (refine below_step ?_ hb6))), HVB⟩
      case measure => simp [intOf]; omega
    ·have hje : k + 1 + j = u.length := by omega
     have HLS : Hid (crossTo u (k + 1) = crossIn u k j) := by show _ = _; rw [crossTo_succ, show (u.drop (k + 1)).length = j by rw [List.length_drop]; omega]
     have hjl : u.length - (k + 1) ≤ j := by omega
     clear hje
     go_wp2
     go_roundw
     case rel => exact ⟨k + 1, by omega, by go_num, HBi, by rw [HLS.out]; exact HOi.out⟩
     case measure => simp [intOf]; omega
  ·obtain rfl : k = u.length := by omega
   obtain ⟨Az, cz, rfl, _, _⟩ := HO.out.reads
   have hBz : Hid (Below w.heap.size w wr) := below_step HB1.out HB.out
   have HZ2 : Hid ((crossTo u u.length).length = (crossZs u).length) := by rw [HZ.out]; rfl
   go_wp2
   go_ret
   exact ⟨Az, cz, (by show Ending.returned (.slice Az (crossTo u u.length).length cz) = _; rw [HZ2.out]), hBz.out⟩
theorem cleanZ_ne {l : Sgs} (h : ¬ splitZ l = sortZ l) : cleanZ l = false := by unfold cleanZ; rw [decide_eq_false h]; rfl
theorem cleanZ_eq {l : Sgs} (h : splitZ l = sortZ l) : cleanZ l = ((crossZs (uniqZ l)).length == 0) := by
 unfold cleanZ
 rw [decide_eq_true h, Bool.true_and, Bool.eq_iff_iff]
 simp
theorem len_zero (n : Nat) : ((n : Int) == 0) = (n == 0) := by rw [Bool.eq_iff_iff]; simp
theorem noding_Clean {ok : Nat → Prop} (l : Sgs) (A : Option Addr) (n c : Nat) (w : World) (hr : Row Ty.sg ok w A l) (hn : n = l.length) (hlen : l.length ≤ 600) :
  Calls Tryz.prog 23 #[.slice A n c] w fun e w' => e = .returned (.bool (cleanZ l)) ∧ Below w.heap.size w w' := by
 subst hn
 have HR := Lib.hid hr
 clear hr
 have C1 := Lib.hid (fun W h => noding_Split (ok := ok) l A l.length c W h rfl (by omega))
 have C2 := Lib.hid (fun W h => noding_Sort (ok := ok) l A l.length c W h rfl (by omega))
 have C3 := Lib.hid (fun W h => noding_Crossings (ok := ok) l A l.length c W h rfl hlen)
 have HC1 := Lib.hid (cleanZ_ne (l := l))
 have HC2 := Lib.hid (cleanZ_eq (l := l))
 generalize cleanZ l = r at *
 generalize splitZ l = a at *
 generalize sortZ l = b at *
 generalize (crossZs (uniqZ l)).length = m at *
 go_enter Tryz.func23, Tryz.ntmps23
 go_wp2_with fail
 refine Calls.mono (C1.out _ HR.out) ?_
 rintro e w1 ⟨v1, rfl, ho1, hb1⟩
 obtain ⟨A1, c1, rfl, hl1, hr1⟩ := ho1.reads
 have H1 := Lib.hid hr1
 have HB1 := Lib.hid hb1
 clear ho1 hr1 hb1
 go_wp2_with fail
 refine Calls.mono (C2.out _ (HR.out.below HB1.out)) ?_
 rintro e w2 ⟨v2, rfl, ho2, hb2⟩
 obtain ⟨A2, c2, rfl, hl2, hr2⟩ := ho2.reads
 have H2 := Lib.hid hr2
 have HB2 := Lib.hid (below_step HB1.out hb2)
 have H1' := Lib.hid (H1.out.below hb2)
 clear ho2 hr2 hb2 HB1 H1
 by_cases he : a = b
 ·have HE : Hid (r = (m == 0)) := HC2.out he
  have he2 : decide (a = b) = true := decide_eq_true he
  have HQ := Lib.hid he2
  clear he HC1 HC2 he2
  go_wp2_with fail
  refine (Equal_sg a b A1 A2 _ _ c1 c2 _ H1'.out H2.out rfl rfl).mono ?_
  rintro e w3 ⟨rfl, hb3⟩
  rw [HQ.out]
  have HB3 := Lib.hid (below_step HB2.out hb3)
  clear hb3 HB2
  go_wp2_with fail
  refine Calls.mono (C3.out _ (HR.out.below HB3.out)) ?_
  rintro e w4 ⟨B, d, rfl, hb4⟩
  go_wp2
  go_ret
  exact ⟨ret_bool (by rw [HE.out, len_zero]), below_step HB3.out hb4⟩
 ·have HE : Hid (r = false) := HC1.out he
  have he2 : decide (a = b) = false := decide_eq_false he
  have HQ := Lib.hid he2
  clear he HC1 HC2 he2
  go_wp2_with fail
  refine (Equal_sg a b A1 A2 _ _ c1 c2 _ H1'.out H2.out rfl rfl).mono ?_
  rintro e w3 ⟨rfl, hb3⟩
  rw [HQ.out]
  go_wp2
  go_ret
  exact ⟨ret_bool HE.out.symm, (by repeat (first | exact Below.refl _ _ | apply below_alloc | apply below_drewN | apply below_drew | (refine below_set2 ?_ ?_; (first | (simp; done) | (simp; omega))) | (refine below_step ?_ hb3) | (refine below_step ?_ HB2.out)))⟩
end
section
open Go.RowKit Go.Proofs.YtaeflnbjeaoapaaGreatW.PrintLast

theorem odd_eq (n : Nat) : ((n : Int) % 2 == 1) = decide (n % 2 = 1) := by
 rw [Bool.eq_iff_iff]; simp; omega
/-- Block b is a map that counts how often each point is in a list. -/
def EM (w : World) (b : Nat) (l : Pts) : Prop := ∃ vs : List (Pt × Value), OwnMap ptV w b vs ∧ ∀ p, mapGet vs p = if p ∈ l then some (.int .i64 (l.count p : Nat)) else none
theorem EM.made (w : World) : EM (w.alloc (.map #[] 0)) w.heap.size [] := ⟨[], OwnMap.made w ptV, fun p => by simp [mapGet]⟩
theorem EM.below {w w' : World} {b : Nat} {l : Pts} (h : EM w b l) (hb : Below w.heap.size w w') : EM w' b l := by
 obtain ⟨vs, h1, h2⟩ := h
 exact ⟨vs, h1.below hb, h2⟩
theorem mapIx_lt_iff {κ : Type} [DecidableEq κ] {vs : List (κ × Value)} {k : κ} : mapIx vs k < vs.length ↔ mapGet vs k ≠ none := by
 unfold mapGet
 constructor
 ·intro h; rw [List.getElem?_eq_getElem h]; simp
 ·intro h; apply Classical.byContradiction; intro hn; exact h (by rw [List.getElem?_eq_none (by omega)]; rfl)
theorem mapIx_le {κ : Type} [DecidableEq κ] {vs : List (κ × Value)} {k : κ} : mapIx vs k ≤ vs.length := by
 have := List.idxOf_le_length (a := k) (l := vs.map Prod.fst)
 rwa [List.length_map] at this
theorem mapIx_of {κ : Type} [DecidableEq κ] {vs : List (κ × Value)} {k : κ} {i : Nat} (hn : (vs.map Prod.fst).Nodup) (hi : i < vs.length) (hk : (vs[i]'hi).1 = k) : mapIx vs k = i := by
 have := List.Nodup.idxOf_getElem hn i (by rw [List.length_map]; exact hi)
 rw [List.getElem_map, hk] at this
 exact this
theorem mapGet_set {κ : Type} [DecidableEq κ] {vs : List (κ × Value)} {k : κ} (hi : mapIx vs k < vs.length) (v : Value) (j : κ) : mapGet (vs.set (mapIx vs k) (k, v)) j = if j = k then some v else mapGet vs j := by
 have hk : (vs.set (mapIx vs k) (k, v)).map Prod.fst = vs.map Prod.fst := by
  rw [List.map_set]
  apply List.ext_getElem?
  intro m
  rw [List.getElem?_set]
  split
  ·rename_i hj; subst hj
   rw [if_pos (by rw [List.length_map]; exact hi), List.getElem?_map, List.getElem?_eq_getElem hi]
   simp [mapIx_lt hi]
  ·rfl
 have hx : mapIx (vs.set (mapIx vs k) (k, v)) j = mapIx vs j := by rw [mapIx, hk]; rfl
 rw [mapGet, hx, List.getElem?_set]
 by_cases hj : j = k
 ·subst hj; rw [if_pos rfl, if_pos rfl, if_pos hi]; rfl
 ·rw [if_neg hj]
  split
  ·rename_i e
   have h1 := mapIx_lt hi
   have h2 : mapIx vs j < vs.length := by omega
   have h3 := mapIx_lt h2
   exact absurd (by simp only [← e] at h3; rw [← h3, h1]) hj
  ·rfl
theorem mapGet_snoc {κ : Type} [DecidableEq κ] {vs : List (κ × Value)} {k : κ} (hi : ¬ mapIx vs k < vs.length) (v : Value) (j : κ) : mapGet (vs ++ [(k, v)]) j = if j = k then some v else mapGet vs j := by
 have hnk : k ∉ vs.map Prod.fst := fun hm => hi (by have := List.idxOf_lt_length_of_mem hm; rwa [List.length_map] at this)
 by_cases hj : j = k
 ·subst hj
  rw [if_pos rfl, mapGet, mapIx, List.map_append, List.idxOf_append, if_neg hnk]
  simp
 ·rw [if_neg hj]
  unfold mapGet mapIx
  rw [List.map_append, List.idxOf_append]
  by_cases hm : j ∈ vs.map Prod.fst
  ·rw [if_pos hm, List.getElem?_append_left (by have := List.idxOf_lt_length_of_mem hm; rwa [List.length_map] at this)]
  ·rw [if_neg hm]
   have e1 : List.idxOf j (vs.map Prod.fst) = vs.length := by rw [List.idxOf_eq_length hm, List.length_map]
   rw [e1]
   have e2 : List.idxOf j (List.map Prod.fst [(k, v)]) = 1 := by
    simp [List.idxOf_cons, show (k == j) = false by simpa using fun e : k = j => hj e.symm]
   rw [e2]
   simp
   omega
/-- ends[p]++ -/
theorem EM.inc {w : World} {b : Nat} {l : Pts} (h : EM w b l) (p : Pt) :
  (∀ c : Bool, c = false → (Instr.lookup 101 (.map (some b)) (ptV p) c).run Tryz.prog w = .ok (.int .i64 (l.count p : Nat)) w) ∧
  ∃ w2 s, (Instr.mapEntry 101 (.map (some b)) (ptV p)).run Tryz.prog w = .ok (.tuple #[.int .i64 (l.count p : Nat), .int .i64 (s : Nat)]) w2 ∧
  (∀ c : Bool, c = false → (Instr.lookup 101 (.map (some b)) (ptV p) c).run Tryz.prog w2 = .ok (.int .i64 (l.count p : Nat)) w2) ∧ KeptS (fun i => i = b) w w2 ∧
  ∃ w3, (Instr.entryStore 101 (.map (some b)) (.int .i64 (s : Nat)) (.int .i64 ((l.count p : Nat) + 1 : Int))).run Tryz.prog w2 = .ok () w3 ∧ EM w3 b (l ++ [p]) ∧ KeptS (fun i => i = b) w w3 ∧ w3.heap.size = w.heap.size := by
 obtain ⟨vs, hM, hv⟩ := h
 have hget : (mapGet vs p).getD (.int .i64 0) = .int .i64 (l.count p : Nat) := by
  rw [hv p]
  by_cases hp : p ∈ l
  ·rw [if_pos hp]; rfl
  ·rw [if_neg hp, List.count_eq_zero_of_not_mem hp]; rfl
 refine ⟨fun c hc => ?_, ?_⟩
 ·subst hc
  have := hM.lookup (P := Tryz.prog) (t := 101) (kt := 28) (et := 3) keyPt (by kernel_rfl) (z := .int .i64 0) (by kernel_rfl) p false
  rw [this, hget]; rfl
 obtain ⟨w2, s, hrun, hS, hK, hsz⟩ := hM.entry keyPt (t := 101) (kt := 28) (et := 3) (by kernel_rfl) (z := .int .i64 0) (fun w => by kernel_rfl) p
 rw [hget] at hrun
 have hlk2 : (mapGet (if mapIx vs p < vs.length then vs else vs ++ [(p, Value.int .i64 0)]) p).getD (.int .i64 0) = .int .i64 (l.count p : Nat) := by
  by_cases hi : mapIx vs p < vs.length
  ·rw [if_pos hi]; exact hget
  ·rw [if_neg hi, mapGet_snoc hi, if_pos rfl, ← hget]
   have : mapGet vs p = none := Classical.byContradiction (fun h => hi (mapIx_lt_iff.2 h))
   rw [this]; rfl
 refine ⟨w2, s, hrun, fun c hc => ?_, hK, ?_⟩
 ·subst hc
  have := hS.own.lookup (P := Tryz.prog) (t := 101) (kt := 28) (et := 3) keyPt (by kernel_rfl) (z := .int .i64 0) (by kernel_rfl) p false
  rw [this, hlk2]; rfl
 by_cases hi : mapIx vs p < vs.length
 ·rw [if_pos hi] at hS
  obtain ⟨w3, hrun3, hM3, hK3, hs3⟩ := hS.put (P := Tryz.prog) (t := 101) hi (.int .i64 ((l.count p : Nat) + 1 : Int))
  rw [mapIx_lt hi] at hM3
  refine ⟨w3, hrun3, ⟨_, hM3, fun j => ?_⟩, kept_step hK hK3, by omega⟩
  rw [mapGet_set hi, hv j]
  by_cases hj : j = p
  ·subst hj
   rw [if_pos rfl, if_pos (by simp), List.count_append]
   simp
  ·rw [if_neg hj, List.count_append]
   simp [hj, show ¬ p = j from fun e => hj e.symm]
 ·rw [if_neg hi] at hS
  have hix : mapIx vs p = vs.length := by
   have h1 : ¬ mapIx vs p < vs.length := hi
   have : mapIx vs p ≤ vs.length := mapIx_le
   omega
  have hi2 : mapIx vs p < (vs ++ [(p, Value.int .i64 0)]).length := by rw [List.length_append]; simp; omega
  have hpl : p ∉ l := fun hp => hi (mapIx_lt_iff.2 (by rw [hv p, if_pos hp]; simp))
  obtain ⟨w3, hrun3, hM3, hK3, hs3⟩ := hS.put (P := Tryz.prog) (t := 101) hi2 (.int .i64 ((l.count p : Nat) + 1 : Int))
  have e1 : ((vs ++ [(p, Value.int .i64 0)])[mapIx vs p]'hi2).1 = p := by
   rw [List.getElem_append_right (by omega)]; simp
  have e2 : (vs ++ [(p, Value.int .i64 0)]).set (mapIx vs p) (p, Value.int .i64 ((l.count p : Nat) + 1 : Int)) = vs ++ [(p, Value.int .i64 ((l.count p : Nat) + 1 : Int))] := by
   rw [List.set_append_right _ _ (by omega), hix]; simp
  rw [e1, e2] at hM3
  refine ⟨w3, hrun3, ⟨_, hM3, fun j => ?_⟩, kept_step hK hK3, by omega⟩
  rw [mapGet_snoc hi, hv j]
  by_cases hj : j = p
  ·subst hj
   rw [if_pos rfl, if_pos (by simp), List.count_append]
   simp
  ·rw [if_neg hj, List.count_append]
   simp [hj, show ¬ p = j from fun e => hj e.symm]
/-- What a loop over the map meets. -/
theorem EM.entries {w : World} {b : Nat} {l : Pts} (h : EM w b l) : ∃ vs : List (Pt × Value), OwnMap ptV w b vs ∧ (∀ (i : Nat) (hi : i < vs.length), (vs[i]'hi).1 ∈ l ∧ (vs[i]'hi).2 = .int .i64 (l.count (vs[i]'hi).1 : Nat)) ∧ ∀ p ∈ l, ∃ (i : Nat) (hi : i < vs.length), (vs[i]'hi).1 = p := by
 obtain ⟨vs, hM, hv⟩ := h
 refine ⟨vs, hM, fun i hi => ?_, fun p hp => ?_⟩
 ·obtain ⟨_, _, _, _, _, hn, _⟩ := hM
  have hx := mapIx_of hn hi rfl
  have := hv (vs[i]'hi).1
  rw [mapGet, hx, List.getElem?_eq_getElem hi] at this
  by_cases hm : (vs[i]'hi).1 ∈ l
  ·rw [if_pos hm] at this
   exact ⟨hm, by simpa using this⟩
  ·rw [if_neg hm] at this; cases this
 ·have hi : mapIx vs p < vs.length := mapIx_lt_iff.2 (by rw [hv p, if_pos hp]; simp)
  exact ⟨_, hi, mapIx_lt hi⟩
theorem nodup_full : ∀ {ds : List Nat} {n : Nat}, ds.Nodup → (∀ i ∈ ds, i < n) → ds.length = n → ∀ i, i < n → i ∈ ds := by
 intro ds n hn hb hl i hi
 apply Classical.byContradiction
 intro hni
 have := nodup_sub (l := i :: ds) (m := List.range n) (List.nodup_cons.2 ⟨hni, hn⟩) (fun x hx => by
  rcases List.mem_cons.1 hx with rfl | hx
  ·exact List.mem_range.2 hi
  ·exact List.mem_range.2 (hb x hx))
 rw [List.length_cons, List.length_range] at this
 omega
theorem checkU_cross {u : Sgs} (h : ¬ u = []) (h2 : cleanZ u = false) : checkU u = 13 := by unfold checkU; rw [if_neg h, if_pos h2]
theorem checkU_open {u : Sgs} (h : ¬ u = []) (h2 : cleanZ u = true) (h3 : ∃ p ∈ ends2 u, (ends2 u).count p % 2 = 1) : checkU u = 14 := by
 unfold checkU
 obtain ⟨p, hp, hq⟩ := h3
 rw [if_neg h, if_neg (by rw [h2]; decide), if_pos (List.any_eq_true.2 ⟨p, hp, decide_eq_true hq⟩)]
theorem checkU_ok {u : Sgs} (h : ¬ u = []) (h2 : cleanZ u = true) (h3 : ∀ p ∈ ends2 u, ¬ (ends2 u).count p % 2 = 1) : checkU u = 0 := by
 unfold checkU
 rw [if_neg h, if_neg (by rw [h2]; decide), if_neg (by rw [List.any_eq_true]; rintro ⟨p, hp, hq⟩; exact h3 p hp (of_decide_eq_true hq))]
set_option maxRecDepth 100000 in
set_option maxHeartbeats 2000000 in
theorem trace_Check {ok : Nat → Prop} (l : Sgs) (A : Option Addr) (n c : Nat) (w : World) (hr : Row Ty.sg ok w A l) (hn : n = l.length) (hlen : l.length ≤ 600) :
  Calls Tryz.prog 49 #[.slice A n c] w fun e w' => e = .returned (.int .i64 (checkZ l)) ∧ Below w.heap.size w w' := by
 subst hn
 have mk : ∀ W : World, (Instr.makeMap 101 none).run Tryz.prog W = .ok (.map (some W.heap.size)) (W.alloc (.map #[] 0)) := fun W => run_makeMap _ W
 have HR := Lib.hid hr
 clear hr
 have hul := uniq_len l
 have CU := Lib.hid (fun W h => noding_Unique (ok := ok) l A l.length c W h rfl (by omega))
 obtain ⟨r, hr⟩ : ∃ r, r = checkZ l := ⟨_, rfl⟩
 rw [← hr]
 have HE : Hid (r = checkU (uniqZ l)) := hr
 clear hr
 generalize uniqZ l = u at *
 go_enter Tryz.func49, Tryz.ntmps49
 go_wp2_with fail
 refine Calls.mono (CU.out _ HR.out) ?_
 rintro e w1 ⟨v, rfl, ho, hb1⟩
 obtain ⟨A1, c1, rfl, hl1, hr1⟩ := ho.reads
 have HU := Lib.hid hr1
 have HB1 := Lib.hid hb1
 clear ho hr1 hb1 CU
 by_cases hu : u = []
 ·subst hu
  have HR15 : Hid (r = 15) := HE.out
  clear HE
  go_wp2
  go_ret
  exact ⟨ret_int HR15.out.symm, (by repeat (first | exact Below.refl _ _ | apply below_alloc | apply below_drewN | apply below_drew | (refine below_set2 ?_ ?_; (first | (simp; done) | (simp; omega))) | (refine below_step ?_ HB1.out)))⟩
 have HN := Lib.hid hu
 have hpos : 0 < u.length := List.length_pos_iff.2 hu
 have hq : ((u.length : Int) == 0) = false := by simp; omega
 have hq2 : (u.length == 0) = false := by simp; omega
 clear hu
 cases hc : cleanZ u
 ·have HC := Lib.hid hc
  have HR13 : Hid (r = 13) := HE.out.trans (checkU_cross HN.out hc)
  clear hc HE
  go_wp2_with fail
  refine (noding_Clean u A1 _ c1 _ HU.out rfl (by omega)).mono ?_
  rintro e w2 ⟨rfl, hb2⟩
  rw [HC.out]
  go_wp2
  go_ret
  exact ⟨ret_int HR13.out.symm, (by repeat (first | exact Below.refl _ _ | apply below_alloc | apply below_drewN | apply below_drew | (refine below_set2 ?_ ?_; (first | (simp; done) | (simp; omega))) | (refine below_step ?_ hb2) | (refine below_step ?_ HB1.out)))⟩
 ·have HC := Lib.hid hc
  clear hc
  go_wp2_with fail
  refine (noding_Clean u A1 _ c1 _ HU.out rfl (by omega)).mono ?_
  rintro e w2 ⟨rfl, hb2⟩
  rw [HC.out]
  have HU2 := Lib.hid (HU.out.below hb2)
  have HB2 := Lib.hid (below_step HB1.out hb2)
  clear hb2 HB1 HU
  go_wp2
  go_loopw [20] (fun i wr => ∃ k : Nat, k ≤ u.length ∧ i = .int .i64 k ∧ Hid (Below w2.heap.size w2 wr) ∧ Hid (EM wr w2.heap.size (ends2 (u.take k)))) (fun i _ => u.length - (intOf i).toNat)
  case atStart => exact ⟨0, Nat.zero_le _, rfl, below_alloc (Below.refl _ _) _, EM.made w2⟩
  case round =>
   obtain ⟨k, hk, rfl, HB, HEm⟩ := hrel
   by_cases hlt : k < u.length
   ·have HUr := Lib.hid (HU2.out.below HB.out)
    obtain ⟨ad, rfl, hx0, hx1, hx2, hx3⟩ := HUr.out.sg_at k hlt
    have HS := Lib.hid (ends2_snoc u k hlt)
    have hel := ends2_len (u.take k)
    rw [List.length_take] at hel
    obtain ⟨s, hs⟩ : ∃ s, s = sgD u k := ⟨_, rfl⟩
    rw [← hs] at hx0 hx1 hx2 hx3 HS
    have hc1 : (ends2 (u.take k)).count s.1 ≤ (ends2 (u.take k)).length := List.count_le_length
    have hc2 : (ends2 (u.take k) ++ [s.1]).count s.2 ≤ (ends2 (u.take k)).length + 1 := by have := List.count_le_length (a := s.2) (l := ends2 (u.take k) ++ [s.1]); simpa using this
    have hc3 : (ends2 (u.take k)).count s.1 ≤ 1200 := by omega
    have hc4 : (ends2 (u.take k) ++ [s.1]).count s.2 ≤ 1201 := by omega
    clear hs HUr hel hc1 hc2
    go_wp2_with fail
    obtain ⟨W0, hW0⟩ : ∃ W0, W0 = wr.alloc (.cells #[.int .i64 s.1.1, .int .i64 s.1.2, .int .i64 s.2.1, .int .i64 s.2.2] 48) := ⟨_, rfl⟩
    have HA : W0.heap[wr.heap.size]? = some (.cells #[.int .i64 s.1.1, .int .i64 s.1.2, .int .i64 s.2.1, .int .i64 s.2.2] 48 (0, 0)) := by rw [hW0]; exact heap_alloc_new _ _
    have BW0 : Below wr.heap.size wr W0.drew := by rw [hW0]; exact below_drew (below_alloc (Below.refl _ _) _)
    have hzw := HB.out.size
    have hzb : w2.heap.size < wr.heap.size := by obtain ⟨vs, hM, _⟩ := HEm.out; exact hM.lt
    have hlW := lt_of_block HA
    have hneb : ¬ wr.heap.size = w2.heap.size := by omega
    rw [← hW0]
    clear hW0
    obtain ⟨hlk1, wa1, st1, he1, hlk1b, hka1, w4, hs1, HE4, hk4, hz4⟩ := (HEm.out.below BW0).inc s.1
    generalize (ends2 (u.take k)).count s.1 = cn1 at *
    have wq1 := wr_in (x := ((cn1 : Nat) : Int) + 1) (by omega) (by omega)
    refine start_ (n := 8) (S := fun w' => w'.cell? ⟨wr.heap.size, 0, none⟩ = some (.int .i64 s.1.1) ∧ w'.cell? ⟨wr.heap.size, 1, none⟩ = some (.int .i64 s.1.2) ∧ (Instr.lookup 101 (.map (some w2.heap.size)) (.agg #[.int .i64 s.1.1, .int .i64 s.1.2]) false).run Tryz.prog w' = .ok (.int .i64 ((cn1 : Nat) : Int)) w') (ds := [7]) #[Z,Z,Z,Z,Z,Z,Z,Z] (by kernel_rfl) rfl rfl ⟨blk_cell HA 0 rfl, blk_cell HA 1 rfl, hlk1 false rfl⟩ (fun hHeld => ?_)
    refine pu 0 24 ?_
    refine pu 1 25 ?_
    refine ta 2 26 hHeld ?_
    refine ta 3 27 hHeld ?_
    refine pu 4 28 ?_
    refine one_ (i := 5) (N := some 29) #[J,J,J,J,J,J,Z,Z] rfl rfl (by kernel_rfl) (by decide) (fun K hK => ?_)
    refine value_ (w1 := ?_) (v := ?_) (by rfl) rfl ?_ ?_
    rotate_left 2
    ·go_simp
     constructor
     ·rfl
     ·rfl
    refine hK.out _ _ ⟨blk_cell ((hka1.block _ hlW hneb).trans HA) 0 rfl, blk_cell ((hka1.block _ hlW hneb).trans HA) 1 rfl, hlk1b false rfl⟩ (fun hHeld => ?_)
    clear hK K
    refine nm 29 ?_
    refine pu 6 30 ?_
    refine last_ (i := 7) (N := none) #[J,J,J,J,J,J,J,J] rfl rfl (by kernel_rfl) (by decide) (fun K hK => ?_)
    refine skip_ (w1 := ?_) (by rfl) rfl ?_ ?_
    rotate_left
    ·go_simp
     rfl
    refine hK.out _ _ ?_
    clear hK K
    refine done_ (by kernel_rfl) ?_
    clear hlk1 he1 hs1
    have HA4 : w4.heap[wr.heap.size]? = some (.cells #[.int .i64 s.1.1, .int .i64 s.1.2, .int .i64 s.2.1, .int .i64 s.2.2] 48 (0, 0)) := (hk4.block _ hlW hneb).trans HA
    go_wp2_with fail
    obtain ⟨hlk2, wa2, st2, he2, hlk2b, hka2, w6, hs2, HE6, hk6, hz6⟩ := (HE4.below (below_drew (Below.refl _ _))).inc s.2
    generalize (ends2 (u.take k) ++ [s.1]).count s.2 = cn2 at *
    have wq2 := wr_in (x := ((cn2 : Nat) : Int) + 1) (by omega) (by omega)
    refine start_ (n := 8) (S := fun w' => w'.cell? ⟨wr.heap.size, 2, none⟩ = some (.int .i64 s.2.1) ∧ w'.cell? ⟨wr.heap.size, 3, none⟩ = some (.int .i64 s.2.2) ∧ (Instr.lookup 101 (.map (some w2.heap.size)) (.agg #[.int .i64 s.2.1, .int .i64 s.2.2]) false).run Tryz.prog w' = .ok (.int .i64 ((cn2 : Nat) : Int)) w') (ds := [7]) #[Z,Z,Z,Z,Z,Z,Z,Z] (by kernel_rfl) rfl rfl ⟨blk_cell HA4 2 rfl, blk_cell HA4 3 rfl, hlk2 false rfl⟩ (fun hHeld => ?_)
    refine pu 0 31 ?_
    refine pu 1 32 ?_
    refine ta 2 33 hHeld ?_
    refine ta 3 34 hHeld ?_
    refine pu 4 35 ?_
    refine one_ (i := 5) (N := some 36) #[J,J,J,J,J,J,Z,Z] rfl rfl (by kernel_rfl) (by decide) (fun K hK => ?_)
    refine value_ (w1 := ?_) (v := ?_) (by rfl) rfl ?_ ?_
    rotate_left 2
    ·go_simp
     constructor
     ·rfl
     ·rfl
    refine hK.out _ _ ⟨blk_cell ((hka2.block _ (lt_of_block HA4) hneb).trans HA4) 2 rfl, blk_cell ((hka2.block _ (lt_of_block HA4) hneb).trans HA4) 3 rfl, hlk2b false rfl⟩ (fun hHeld => ?_)
    clear hK K
    refine nm 36 ?_
    refine pu 6 37 ?_
    refine last_ (i := 7) (N := none) #[J,J,J,J,J,J,J,J] rfl rfl (by kernel_rfl) (by decide) (fun K hK => ?_)
    refine skip_ (w1 := ?_) (by rfl) rfl ?_ ?_
    rotate_left
    ·go_simp
     rfl
    refine hK.out _ _ ?_
    clear hK K
    refine done_ (by kernel_rfl) ?_
    clear hlk2 he2 hs2
    have HE7 : Hid (EM w6 w2.heap.size (ends2 (u.take (k + 1)))) := by show EM _ _ _; rw [HS.out]; have := HE6; rwa [List.append_assoc] at this
    have HB7 : Hid (Below w2.heap.size w2 w6) := below_kept (below_drew (below_kept (below_step HB.out BW0) hk4 (fun b hb => by omega))) hk6 (fun b hb => by omega)
    clear HE4 HE6 hk4 hk6 HA HA4 BW0 hx0 hx1 hx2 hx3 HEm HB
    go_wp2
    go_roundw
    case rel => exact ⟨k + 1, by omega, by go_num, HB7, HE7⟩
    case measure => simp [intOf]; omega
   ·obtain rfl : k = u.length := by omega
    rw [List.take_length] at HEm
    obtain ⟨vs, hM, hen, hall⟩ := HEm.out.entries
    have HEN := Lib.hid hen
    have HAL := Lib.hid hall
    obtain ⟨w5, hrun, hR, hb5, hs5⟩ := hM.range (P := Tryz.prog) (t := 101) (kt := 28) (et := 3) (by kernel_rfl)
    have HR0 := Lib.hid hR
    have HB5 : Hid (Below w.heap.size w w5) := below_step (below_step HB2.out HB.out) hb5
    have hbl := hM.lt
    have hwz := (below_step HB2.out HB.out).size
    clear hR hen hall hM hb5 HB HEm
    obtain ⟨r0, hre⟩ : ∃ r0, r0 = wr.heap.size := ⟨_, rfl⟩
    have hrz : w.heap.size ≤ r0 := by omega
    rw [← hre] at HR0 hrun
    clear hre hs5 hbl hwz
    go_wp2
    clear hrun
    go_loopg [8] vs.length (fun gg v wq => ∃ ds : List Nat, vs.length - ds.length ≤ gg ∧ Hid (RngM ptV wq w2.heap.size r0 vs ds) ∧ Hid (KeptS (fun i => i = r0) w5 wq) ∧ Hid (∀ i ∈ ds, ∀ hi : i < vs.length, ¬ (ends2 u).count (vs[i]'hi).1 % 2 = 1))
    case atStart => exact ⟨[], by simp, HR0.out, kept_refl _ _, fun i hi => by cases hi⟩
    case round =>
     obtain ⟨ds, hgg, HRG, HKq, HEV⟩ := hrel
     have HBq : Hid (Below w.heap.size w wr) := below_kept HB5.out HKq.out (fun b hb => by omega)
     rcases HRG.out.next (P := Tryz.prog) 0 with ⟨hdl, hrun⟩ | ⟨i, hi, w6, hni, hrun, hR6, hK6, hs6, hent⟩
     ·have HR0' : Hid (r = 0) := HE.out.trans (checkU_ok HN.out HC.out (fun p hp => by
       obtain ⟨i, hi, rfl⟩ := HAL.out p hp
       obtain ⟨_, _, _, _, _, _, _, _, _, _, _, _, hnd, hb⟩ := HRG.out
       exact HEV.out i (nodup_full hnd hb hdl i hi) hi))
      clear hdl hgg
      go_wp2
      go_ret
      exact ⟨ret_int HR0'.out.symm, HBq.out⟩
     ·obtain ⟨hin, hval⟩ := HEN.out i hi
      rw [hval] at hrun hent
      by_cases hodd : (ends2 u).count (vs[i]'hi).1 % 2 = 1
      ·have HR14 : Hid (r = 14) := HE.out.trans (checkU_open HN.out HC.out ⟨_, hin, hodd⟩)
       have hq3 : (((ends2 u).count (vs[i]'hi).1 : Int) % 2 == 1) = true := (odd_eq _).trans (decide_eq_true hodd)
       have HB6 : Hid (Below w.heap.size w w6) := below_kept HBq.out hK6 (fun b hb => by omega)
       clear hodd hval hgg hK6 hs6
       go_wp2
       go_ret
       exact ⟨ret_int HR14.out.symm, HB6.out⟩
      ·have HEV2 : Hid (∀ j ∈ ds ++ [i], ∀ hj : j < vs.length, ¬ (ends2 u).count (vs[j]'hj).1 % 2 = 1) := fun j hj hjl => by
        rcases List.mem_append.1 hj with h | h
        ·exact HEV.out j h hjl
        ·obtain rfl := List.mem_singleton.1 h; exact hodd
       have hq3 : (((ends2 u).count (vs[i]'hi).1 : Int) % 2 == 1) = false := (odd_eq _).trans (decide_eq_false hodd)
       have HR6 := Lib.hid hR6
       have HK6 := Lib.hid (kept_step HKq.out hK6)
       have hdlt : ds.length + 1 ≤ vs.length := by
        obtain ⟨_, _, _, _, _, _, _, _, _, _, _, _, hnd, hb⟩ := hR6
        have := nodup_sub (m := List.range vs.length) hnd (fun x hx => List.mem_range.2 (hb x hx))
        rw [List.length_append, List.length_range] at this
        simpa using this
       clear hodd hval hK6 hs6 hR6
       go_wp2
       go_roundg (vs.length - (ds.length + 1))
       case measure => omega
       case rel => exact ⟨ds ++ [i], by rw [List.length_append]; simp, HR6, HK6, HEV2⟩
end
end Go.Proofs.YtaeflnbjeaoapaaGreat
