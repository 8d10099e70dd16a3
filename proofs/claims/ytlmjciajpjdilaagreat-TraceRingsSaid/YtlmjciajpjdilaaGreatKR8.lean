/- Contract of noding.Split. Contracts of noding.Crossings (its length) and noding.Clean. Contract of poly.Canon. Words of this session's own: maps that a call has made, read as lists of entries. No program is in sight. -/
import Derived.Test.YtlmjciajpjdilaaGreatKR7
import Derived.Test.YtlmjciajpjdilaaGreatKR4
import Derived.Test.YtlmjciajpjdilaaGreatKR1
import Derived.MapKept
namespace Go.Proofs.YtlmjciajpjdilaaGreat
set_option linter.unusedVariables false
set_option linter.unusedSimpArgs false
section
open Go.RowKit Go.Proofs.YtlmjciajpjdilaaGreatW.PrintLast

theorem ends2_snoc (u : Sgs) (k : Nat) (h : k < u.length) : ends2 (u.take (k + 1)) = ends2 (u.take k) ++ [(sgD u k).1, (sgD u k).2] := by
 unfold ends2
 rw [take_snoc u k ((0, 0), (0, 0)) h, List.flatMap_append]; rfl
theorem ends2_len (u : Sgs) : (ends2 u).length = 2 * u.length := by
 unfold ends2
 induction u with
 | nil => rfl
 | cons x xs ih => rw [List.flatMap_cons, List.length_append, ih]; simp; omega
def cutSt (es : Pts) (s : Sg) (acc : Sgs) (j : Nat) : Sgs × Pt := (es.take j).foldl (cutsF s) (acc, s.1)
theorem cutSt_snoc (es : Pts) (s : Sg) (acc : Sgs) (j : Nat) (h : j < es.length) : cutSt es s acc (j + 1) = cutsF s (cutSt es s acc j) (ptD es j) := by
 unfold cutSt
 rw [take_snoc es j (0, 0) h, List.foldl_append]; rfl
theorem cutSt_in {es : Pts} {s : Sg} {acc : Sgs} {j : Nat} (h : j < es.length) (hw : withinB (ptD es j) s.1 s.2 = true) : cutSt es s acc (j + 1) = ((cutSt es s acc j).1 ++ [((cutSt es s acc j).2, ptD es j)], ptD es j) := by
 rw [cutSt_snoc es s acc j h]; unfold cutsF; rw [if_pos hw]
theorem cutSt_out {es : Pts} {s : Sg} {acc : Sgs} {j : Nat} (h : j < es.length) (hw : withinB (ptD es j) s.1 s.2 = false) : cutSt es s acc (j + 1) = cutSt es s acc j := by
 rw [cutSt_snoc es s acc j h]; unfold cutsF; rw [if_neg (by rw [hw]; decide)]
theorem cutSt_len (es : Pts) (s : Sg) (acc : Sgs) : ∀ j, (cutSt es s acc j).1.length ≤ acc.length + j
 | 0 => by simp [cutSt]
 | j + 1 => by
  have ih := cutSt_len es s acc j
  by_cases h : j < es.length
  ·rw [cutSt_snoc es s acc j h]; unfold cutsF
   split <;> simp <;> omega
  ·have : cutSt es s acc (j + 1) = cutSt es s acc j := by unfold cutSt; rw [List.take_of_length_le (by omega), List.take_of_length_le (by omega)]
   rw [this]; omega
def partsZ (es : Pts) (l : Sgs) : Sgs := l.foldl (fun acc s => cutsZ es s acc) []
theorem cutsZ_eq (es : Pts) (s : Sg) (acc : Sgs) : cutsZ es s acc = (cutSt es s acc es.length).1 ++ [((cutSt es s acc es.length).2, s.2)] := by
 unfold cutsZ cutSt; rw [List.take_length]
theorem parts_snoc (es : Pts) (l : Sgs) (k : Nat) (h : k < l.length) : partsZ es (l.take (k + 1)) = cutsZ es (sgD l k) (partsZ es (l.take k)) := by
 unfold partsZ
 rw [take_snoc l k ((0, 0), (0, 0)) h, List.foldl_append]; rfl
theorem parts_len (es : Pts) (l : Sgs) : ∀ k, (partsZ es (l.take k)).length ≤ k * (es.length + 1)
 | 0 => by simp [partsZ]
 | k + 1 => by
  have ih := parts_len es l k
  rw [Nat.add_mul, Nat.one_mul]
  by_cases h : k < l.length
  ·rw [parts_snoc es l k h, cutsZ_eq, List.length_append]
   have := cutSt_len es (sgD l k) (partsZ es (l.take k)) es.length
   simp; omega
  ·rw [List.take_of_length_le (by omega), ← List.take_of_length_le (show l.length ≤ k by omega)]; omega
theorem split_eq (l : Sgs) : splitZ l = sortZ (partsZ (endsZ l) (canonZ l)) := rfl
theorem parts_le {a b n : Nat} (h1 : a ≤ 600) (h2 : b ≤ 1200) (h3 : n ≤ a * (b + 1)) : n ≤ 720600 := Nat.le_trans h3 (Nat.mul_le_mul h1 (show b + 1 ≤ 1201 by omega))
theorem ends_len (l : Sgs) : (endsZ l).length ≤ 2 * l.length := by
 unfold endsZ
 have h1 := compact_len (sortG lessB (ends2 (uniqZ l)))
 have h2 := sortG_len (less := lessB) (ends2 (uniqZ l))
 have h3 := ends2_len (uniqZ l)
 have h4 := uniq_len l
 omega
set_option maxHeartbeats 2000000 in
theorem noding_Split {ok : Nat → Prop} (l : Sgs) (A : Option Addr) (n c : Nat) (w : World) (hr : Row Ty.sg ok w A l) (hn : n = l.length) (hlen : l.length ≤ 600) :
  Calls Tryz.prog 77 #[.slice A n c] w fun e w' => ∃ v, e = .returned v ∧ Own1 Ty.sg 32 w.heap.size w' v (splitZ l) ∧ Below w.heap.size w w' := by
 subst hn
 have HR := Lib.hid hr
 clear hr
 have hel := ends_len l
 have hul := uniq_len l
 have hcl := canon_le l
 have CU := Lib.hid (fun W h => noding_Unique (ok := ok) l A l.length c W h rfl (by omega))
 have CC := Lib.hid (fun W h => noding_canon (ok := ok) l A l.length c W h rfl (by omega))
 have HSP := Lib.hid (split_eq l)
 have HES : Hid (endsZ l = compactZ (sortG lessB (ends2 (uniqZ l)))) := rfl
 generalize splitZ l = res at *
 generalize endsZ l = es at *
 generalize uniqZ l = u at *
 generalize canonZ l = cl at *
 go_enter Tryz.func77, Tryz.ntmps77
 go_wp2_with fail
 refine Calls.mono (CU.out _ HR.out) ?_
 rintro e w1 ⟨v, rfl, ho, hb1⟩
 obtain ⟨A1, c1, rfl, hl1, hr1⟩ := ho.reads
 have HU := Lib.hid hr1
 have HB1 := Lib.hid hb1
 clear ho hr1 hb1
 go_wp2
 go_loopw [3, 15] (fun v i wr => ∃ k : Nat, k ≤ u.length ∧ i = .int .i64 k ∧ Hid (Below w1.heap.size w1 wr) ∧ Hid (Own1 Ty.pt 24 w1.heap.size wr v (ends2 (u.take k)))) (fun _ i _ => u.length - (intOf i).toNat)
 case atStart => exact ⟨0, Nat.zero_le _, rfl, Below.refl _ _, OwnR.nil _ _ _ _ _⟩
 case round =>
  obtain ⟨k, hk, rfl, HB, HO⟩ := hrel
  by_cases hlt : k < u.length
  ·have HUr := Lib.hid (HU.out.below HB.out)
   obtain ⟨ad, rfl, hx0, hx1, hx2, hx3⟩ := HUr.out.sg_at k hlt
   have HS := Lib.hid (ends2_snoc u k hlt)
   have HL : Hid (((ends2 (u.take k)).length + 2) * 16 ≤ 140737488355328) := by
    show _ ≤ _
    rw [ends2_len, List.length_take]; omega
   have hsz := HB.out.size
   obtain ⟨s, hs⟩ : ∃ s, s = sgD u k := ⟨_, rfl⟩
   rw [← hs] at hx0 hx1 hx2 hx3 HS
   clear hs HUr
   have HRL : Hid (∀ (W : World) (M : Nat → Prop), ¬ M W.heap.size → Row Ty.pt (fun k => ¬ M k) (W.alloc (.cells #[.int .i64 s.1.1, .int .i64 s.1.2, .int .i64 s.2.1, .int .i64 s.2.2] 24)) (some ⟨W.heap.size, 0, none⟩) [s.1, s.2]) := fun W M hM => Row.pt_lit W [s.1, s.2] _ _ hM (by simp)
   go_wp2_with (at_builtin; refine app_row Ty.pt (W := (wr.alloc (.cells #[.int .i64 s.1.1, .int .i64 s.1.2, .int .i64 s.2.1, .int .i64 s.2.2] 32)).alloc (.cells #[.int .i64 s.1.1, .int .i64 s.1.2, .int .i64 s.2.1, .int .i64 s.2.2] 24)) w1.heap.size rfl _ _ 41 24 _ 16 rfl Tryz.underlying41 infoPt rfl (by decide) _ (ends2 (u.take k)) [s.1, s.2] _ 2 2 _ rfl (by simp; rfl) rfl (HRL.out _ _ (fun hm => absurd (OwnR.lt HO.out _ hm).2 (by first | (simp; done) | (simp; omega)))) (Own1.below HO.out bq) (by simp; omega) HL.out ?_; intro v1 w4 HO1 hg1 hat1)
   have BZ : Hid (Below w1.heap.size w1 w4) := below_own (by repeat (first | exact Below.refl _ _ | apply below_alloc | apply below_drewN | apply below_drew | (refine below_set2 ?_ ?_; (first | (simp; done) | (simp; omega))) | (refine below_step ?_ HB.out))) (World.grownBy.trans (World.grownBy_alloc _ _ _) (World.grownBy.trans (World.grownBy_alloc _ _ _) hg1)) (fun b e => (OwnR.lt HO.out b e).1)
   have HO4 := Lib.hid (Own1.of HO1)
   clear HO1 hg1 hat1
   go_wp2
   go_roundw
   case rel => exact ⟨k + 1, by omega, by go_num, BZ, by rw [HS.out]; exact HO4.out⟩
   case measure => simp [intOf]; omega
  ·obtain rfl : k = u.length := by omega
   rw [List.take_length] at HO
   have hE2 := Nat.le_of_eq (ends2_len u)
   obtain ⟨A2, c2, rfl, hl2, hr2⟩ := HO.out.reads
   clear hr2
   go_wp2_with fail
   refine (SortFunc_pt A2 _ c2 (by omega) HO.out).mono ?_
   rintro e w2 ⟨rfl, ho2, hk2⟩
   have HO2 := Lib.hid ho2
   have HB2 : Hid (Below w1.heap.size w1 w2) := below_kept HB.out hk2 (fun b e => (OwnR.lt HO.out b e).1)
   clear ho2 hk2
   go_wp2_with fail
   refine (Compact_pt _ _ _ w2 HO2.out).mono ?_
   rintro e w3 ⟨v3, rfl, ho3, hk3⟩
   have HB3 : Hid (Below w1.heap.size w1 w3) := below_kept HB2.out hk3 (fun b e => (OwnR.lt HO2.out b e).1)
   rw [← HES.out] at ho3
   obtain ⟨A3, c3, rfl, hl3, hr3⟩ := ho3.reads
   have HE := Lib.hid hr3
   have HBw3 : Hid (Below w.heap.size w w3) := below_step HB1.out HB3.out
   clear ho3 hk3 hr3 HO HO2 HB2 HB HB3 HU HES
   go_wp2_with fail
   refine Calls.mono (CC.out _ (HR.out.below HBw3.out)) ?_
   rintro e w5 ⟨v5, rfl, ho5, hb5⟩
   obtain ⟨A5, c5, rfl, hl5, hr5⟩ := ho5.reads
   have HC := Lib.hid hr5
   have HE5 := Lib.hid (HE.out.below hb5)
   have HB5 : Hid (Below w.heap.size w w5) := below_step HBw3.out hb5
   clear ho5 hr5 hb5 HE HBw3 HB1 CU CC HR
   go_wp2
   go_loopw [6, 34] (fun v i wr => ∃ k : Nat, k ≤ cl.length ∧ i = .int .i64 k ∧ Hid (Below w5.heap.size w5 wr) ∧ Hid (Own1 Ty.sg 32 w5.heap.size wr v (partsZ es (cl.take k)))) (fun _ i _ => cl.length - (intOf i).toNat)
   case atStart => exact ⟨0, Nat.zero_le _, rfl, Below.refl _ _, OwnR.nil _ _ _ _ _⟩
   case round =>
    obtain ⟨k, hk, rfl, HB, HO⟩ := hrel
    by_cases hlt : k < cl.length
    ·have HCr := Lib.hid (HC.out.below HB.out)
     obtain ⟨ad, rfl, hx0, hx1, hx2, hx3⟩ := HCr.out.sg_at k hlt
     have HS := Lib.hid ((parts_snoc es cl k hlt).trans (cutsZ_eq _ _ _))
     have hpl := parts_len es cl k
     have hpb := parts_le (n := (partsZ es (cl.take k)).length) (a := cl.length) (b := es.length) (by omega) (by omega) (Nat.le_trans hpl (Nat.mul_le_mul_right _ hk))
     obtain ⟨s, hs⟩ : ∃ s, s = sgD cl k := ⟨_, rfl⟩
     rw [← hs] at hx0 hx1 hx2 hx3 HS
     generalize partsZ es (cl.take k) = acc at *
     have hcl2 := cutSt_len es s acc
     have HCL := Lib.hid hcl2
     clear hs HCr hcl2 hpl
     obtain ⟨wo, rfl⟩ : ∃ wo : World, wo = wr := ⟨_, rfl⟩
     have HAo : ((wo.alloc (.cells #[.int .i64 s.1.1, .int .i64 s.1.2, .int .i64 s.2.1, .int .i64 s.2.2] 32)).alloc (.cells #[.int .i64 s.1.1, .int .i64 s.1.2] 24)).heap[wo.heap.size]? = some (.cells #[.int .i64 s.1.1, .int .i64 s.1.2, .int .i64 s.2.1, .int .i64 s.2.2] 32 (0, 0)) := (two_alloc wo _ _).1
     have HFo : ((wo.alloc (.cells #[.int .i64 s.1.1, .int .i64 s.1.2, .int .i64 s.2.1, .int .i64 s.2.2] 32)).alloc (.cells #[.int .i64 s.1.1, .int .i64 s.1.2] 24)).heap[wo.heap.size + 1]? = some (.cells #[.int .i64 s.1.1, .int .i64 s.1.2] 24 (0, 0)) := (two_alloc wo _ _).2
     go_wp2
     have hzo : w5.heap.size ≤ wo.heap.size := HB.out.size
     have hvb0 : ∀ b, u6.ownBlock = some b → b ≠ wo.heap.size ∧ b ≠ wo.heap.size + 1 := fun b e => by have := (OwnR.lt HO.out b e).2; omega
     go_loopw [6, 42] (fun v i wi => ∃ j : Nat, j ≤ es.length ∧ i = .int .i64 j ∧ wi.heap[wo.heap.size]? = some (.cells #[.int .i64 s.1.1, .int .i64 s.1.2, .int .i64 s.2.1, .int .i64 s.2.2] 32 (0, 0)) ∧ wi.heap[wo.heap.size + 1]? = some (.cells #[.int .i64 (cutSt es s acc j).2.1, .int .i64 (cutSt es s acc j).2.2] 24 (0, 0)) ∧
      Hid (Below w5.heap.size w5 wi) ∧ Hid (Own1 Ty.sg 32 w5.heap.size wi v (cutSt es s acc j).1) ∧ Hid (∀ b, v.ownBlock = some b → b ≠ wo.heap.size ∧ b ≠ wo.heap.size + 1)) (fun _ i _ => es.length - (intOf i).toNat)
     case atStart => exact ⟨0, Nat.zero_le _, rfl, HAo, HFo, (by repeat (first | exact Below.refl _ _ | apply below_alloc | apply below_drewN | apply below_drew | (refine below_set2 ?_ ?_; (first | (simp; done) | (simp; omega))) | (refine below_step ?_ HB.out))), Own1.below HO.out bq, hvb0⟩
     case round =>
      obtain ⟨j, hj, rfl, HA, HF, HBi, HOi, HVB⟩ := hrel
      clear HAo HFo HO HB hvb0 hx0 hx1 hx2 hx3
      have hszi := lt_of_block HF
      have hszj : wo.heap.size < wr.heap.size := by omega
      have hs0 := blk_cell HA 0 rfl
      have hs1 := blk_cell HA 1 rfl
      have hs2 := blk_cell HA 2 rfl
      have hs3 := blk_cell HA 3 rfl
      have hf0 := blk_cell HF 0 rfl
      have hf1 := blk_cell HF 1 rfl
      by_cases hjt : j < es.length
      ·have HEr := Lib.hid (HE5.out.below HBi.out)
       obtain ⟨bd, rfl, hp0, hp1⟩ := HEr.out.pt_at j hjt
       have HLi : Hid (((cutSt es s acc j).1.length + 1) * 32 ≤ 140737488355328) := by
        have := HCL.out j
        show _ ≤ _
        omega
       have HIN := Lib.hid (fun h => cutSt_in (es := es) (s := s) (acc := acc) hjt h)
       have HOUT := Lib.hid (fun h => cutSt_out (es := es) (s := s) (acc := acc) hjt h)
       generalize cutSt es s acc j = st at *
       generalize ptD es j = q at *
       have HA1 := blk_alloc HA (.cells #[.int .i64 q.1, .int .i64 q.2] 24)
       have HF1 := blk_alloc HF (.cells #[.int .i64 q.1, .int .i64 q.2] 24)
       have HQ1 := heap_alloc_new wr (.cells #[.int .i64 q.1, .int .i64 q.2] 24)
       clear HEr
       cases hw : withinB q s.1 s.2
       ·have HW := Lib.hid hw
        clear hw
        go_wp2_with fail
        refine (seg_Within _ _ _ _).mono ?_
        rintro e w6 ⟨rfl, hb6⟩
        rw [HW.out]
        have HA6 := blk_below HA1 hb6
        have HF6 := blk_below HF1 hb6
        clear hs0 hs1 hs2 hs3 hf0 hf1 hp0 hp1 HA1 HF1 HQ1
        go_wp2
        go_roundw
        case rel => exact ⟨j + 1, by omega, by go_num, HA6, by rw [HOUT.out HW.out]; exact HF6, (by repeat (first | exact Below.refl _ _ | apply below_alloc | apply below_drewN | apply below_drew | (refine below_set2 ?_ ?_; (first | (simp; done) | (simp; omega))) | (refine below_step ?_ hb6) | (refine below_step ?_ HBi.out))), by rw [HOUT.out HW.out]; exact Own1.below HOi.out (by repeat (first | exact Below.refl _ _ | apply below_alloc | apply below_drewN | apply below_drew | (refine below_set2 ?_ ?_; (first | (simp; done) | (simp; omega))) | (refine below_step ?_ hb6))), HVB⟩
        case measure => simp [intOf]; omega
       ·have HW := Lib.hid hw
        clear hw
        go_wp2_with fail
        refine (seg_Within _ _ _ _).mono ?_
        rintro e w6 ⟨rfl, hb6⟩
        rw [HW.out]
        have HA6 := blk_below HA1 hb6
        have HF6 := blk_below HF1 hb6
        have HQ6 := blk_below HQ1 hb6
        have HB6 : Hid (Below w5.heap.size w5 w6) := (by repeat (first | exact Below.refl _ _ | apply below_alloc | apply below_drewN | apply below_drew | (refine below_set2 ?_ ?_; (first | (simp; done) | (simp; omega))) | (refine below_step ?_ hb6) | (refine below_step ?_ HBi.out)))
        have HVW : Hid (∀ b, u6.ownBlock = some b → b < wr.heap.size) := fun b e => (OwnR.lt HOi.out b e).2
        have HO6 : Hid (Own1 Ty.sg 32 w5.heap.size w6 _ st.1) := Own1.below HOi.out (by repeat (first | exact Below.refl _ _ | apply below_alloc | apply below_drewN | apply below_drew | (refine below_set2 ?_ ?_; (first | (simp; done) | (simp; omega))) | (refine below_step ?_ hb6)))
        have hz6 := lt_of_block HQ6
        have hs6 := HB6.out.size
        clear hs0 hs1 hs2 hs3 hf0 hf1 hp0 hp1 HA1 HF1 HQ1 HA HF HOi hb6
        have hf0 := blk_cell HF6 0 rfl
        have hf1 := blk_cell HF6 1 rfl
        have hq0 := blk_cell HQ6 0 rfl
        have hq1 := blk_cell HQ6 1 rfl
        go_wp2_with (at_builtin; refine app_one Ty.sg (W := w6) w5.heap.size rfl _ _ 22 32 _ 32 rfl Tryz.underlying22 infoSg rfl (by decide) u6 st.1 (st.2, q) _ _ rfl rfl rfl rfl HO6.out (by omega) HLi.out ?_; intro v1 w7 HO1 hg1 hat1; have hq7 := (hg1.block _ hz6 (fun e => absurd (HVW.out _ e.symm) (Nat.lt_irrefl _))).trans HQ6; have hc7 := blk_cell hq7 0 rfl; have hc8 := blk_cell hq7 1 rfl; have hf7 := (hg1.block _ (lt_of_block HF6) (fun e => (HVB.out _ e.symm).2 rfl)).trans HF6; have hfr0 := blk_free hf7 0; have hfr1 := blk_free hf7 1; have hd0 := blk_cell hf7 0 rfl; have hd1 := blk_cell hf7 1 rfl)
        have HA7 := (hg1.block _ (lt_of_block HA6) (fun e => (HVB.out _ e.symm).1 rfl)).trans HA6
        have HO7 := Lib.hid (Own1.of HO1)
        have HB7 : Hid (Below w5.heap.size w5 w7) := below_own HB6.out hg1 (fun b e => (OwnR.lt HO6.out b e).1)
        have HVB7 : Hid (∀ b, v1.ownBlock = some b → b ≠ wo.heap.size ∧ b ≠ wo.heap.size + 1) := fun b e => by
         rcases hat1 with h | ⟨b', h, hle⟩
         ·exact HVB.out b (h ▸ e)
         ·have : b' = b := by rw [h] at e; exact Option.some.inj e
          omega
        clear HO1 hg1 hat1 HF6 HQ6 HA6 hq7 hf0 hf1 hq0 hq1 HB6 HO6
        have hne : ¬ wo.heap.size = wo.heap.size + 1 := by omega
        go_wp2
        go_roundw
        case rel => exact ⟨j + 1, by omega, by go_num, blk_far (blk_far HA7 hne _) hne _, by rw [HIN.out HW.out]; exact blk_set (blk_set hf7 _) _, below_set2 (by show _ ≤ wo.heap.size + 1; omega) (below_set2 (by show _ ≤ wo.heap.size + 1; omega) HB7.out), by rw [HIN.out HW.out]; exact HO7.out.flat_kept (S := fun b => b = wo.heap.size + 1) sg_flat (kept_set rfl (kept_set rfl (kept_refl _ _))) (fun b e => (HVB7.out b e).2), HVB7⟩
        case measure => simp [intOf]; omega
      ·obtain rfl : j = es.length := by omega
       have HLi : Hid (((cutSt es s acc es.length).1.length + 1) * 32 ≤ 140737488355328) := by
        have := HCL.out es.length
        show _ ≤ _
        omega
       have HS2 : Hid (partsZ es (cl.take (k + 1)) = (cutSt es s acc es.length).1 ++ [((cutSt es s acc es.length).2, s.2)]) := HS.out
       generalize cutSt es s acc es.length = st at *
       have hs9 := HBi.out.size
       go_wp2_with (at_builtin; refine app_one Ty.sg (W := wr) w5.heap.size rfl _ _ 22 32 _ 32 rfl Tryz.underlying22 infoSg rfl (by decide) u6 st.1 (st.2, s.2) _ _ rfl rfl rfl rfl HOi.out (by omega) HLi.out ?_; intro v1 w7 HO1 hg1 hat1)
       have HO7 := Lib.hid (Own1.of HO1)
       have HB7 : Hid (Below w5.heap.size w5 w7) := below_own HBi.out hg1 (fun b e => (OwnR.lt HOi.out b e).1)
       clear HO1 hg1 hat1
       go_wp2
       go_roundw
       case rel => exact ⟨k + 1, by omega, by go_num, HB7, by rw [HS2.out]; exact HO7.out⟩
       case measure => simp [intOf]; omega
    ·obtain rfl : k = cl.length := by omega
     have hpl := parts_len es cl cl.length
     rw [List.take_length] at HO hpl
     have hpb := parts_le (n := (partsZ es cl).length) (a := cl.length) (b := es.length) (by omega) (by omega) hpl
     obtain ⟨A7, c7, rfl, hl7, hr7⟩ := HO.out.reads
     have HR7 := Lib.hid hr7
     clear hr7 hpl
     go_wp2_with fail
     refine (noding_Sort (partsZ es cl) A7 _ c7 _ HR7.out rfl (by omega)).mono ?_
     rintro e w8 ⟨v8, rfl, ho8, hb8⟩
     have HO8 := Lib.hid ho8
     have HBz : Hid (Below w.heap.size w w8) := below_step (below_step HB5.out HB.out) hb8
     have hle := (below_step HB5.out HB.out).size
     rw [← HSP.out] at HO8
     clear ho8 hb8
     go_wp2
     go_ret
     exact ⟨_, rfl, Own1.base HO8.out hle, HBz.out⟩
end
section
open Go.RowKit Go.Proofs.YtlmjciajpjdilaaGreatW.PrintLast

abbrev Ty.sg2 : Ty (Sg × Sg) := Ty.flat 8 (by decide) (fun x => [.int .i64 x.1.1.1, .int .i64 x.1.1.2, .int .i64 x.1.2.1, .int .i64 x.1.2.2, .int .i64 x.2.1.1, .int .i64 x.2.1.2, .int .i64 x.2.2.1, .int .i64 x.2.2.2]) (fun _ => rfl) (fun x u hu => by simp at hu; rcases hu with rfl | rfl | rfl | rfl | rfl | rfl | rfl | rfl <;> rfl)
theorem infoSg2 : (Tryz.prog.info? 97).map (fun i => (i.zero, i.size, i.bytes)) = some (some (.agg #[.int .i64 0, .int .i64 0, .int .i64 0, .int .i64 0, .int .i64 0, .int .i64 0, .int .i64 0, .int .i64 0]), 8, 64) := by kernel_rfl
def crossTo (u : Sgs) (i : Nat) : List (Sg × Sg) := (List.range i).flatMap fun i => ((u.drop (i + 1)).filter (badB (sgD u i))).map fun t => (sgD u i, t)
def crossIn (u : Sgs) (i j : Nat) : List (Sg × Sg) := crossTo u i ++ (((u.drop (i + 1)).take j).filter (badB (sgD u i))).map fun t => (sgD u i, t)
theorem crossTo_succ (u : Sgs) (i : Nat) : crossTo u (i + 1) = crossIn u i (u.drop (i + 1)).length := by
 unfold crossTo crossIn
 rw [List.range_succ, List.flatMap_append, List.take_length]
 simp [crossTo]
theorem crossIn_zero (u : Sgs) (i : Nat) : crossIn u i 0 = crossTo u i := by simp [crossIn]
theorem crossIn_succ (u : Sgs) (i j : Nat) (h : i + 1 + j < u.length) : crossIn u i (j + 1) = crossIn u i j ++ (if badB (sgD u i) (sgD u (i + 1 + j)) = true then [(sgD u i, sgD u (i + 1 + j))] else []) := by
 unfold crossIn
 rw [take_snoc (u.drop (i + 1)) j ((0, 0), (0, 0)) (by rw [List.length_drop]; omega), List.filter_append, List.map_append, List.append_assoc]
 have e : (u.drop (i + 1)).getD j ((0, 0), (0, 0)) = sgD u (i + 1 + j) := by simp [sgD, List.getD_eq_getElem?_getD]
 rw [e]
 congr 2
 by_cases hb : badB (sgD u i) (sgD u (i + 1 + j)) = true
 ·rw [if_pos hb, List.filter_cons_of_pos hb]; rfl
 ·rw [if_neg hb, List.filter_cons_of_neg hb]; rfl
theorem crossIn_len (u : Sgs) (i : Nat) : ∀ j, (crossIn u i j).length ≤ (crossTo u i).length + j
 | 0 => by rw [crossIn_zero]; omega
 | j + 1 => by
  unfold crossIn
  rw [List.length_append, List.length_map]
  have h1 := List.length_filter_le (badB (sgD u i)) ((u.drop (i + 1)).take (j + 1))
  rw [List.length_take] at h1
  omega
theorem crossTo_len (u : Sgs) : ∀ i, (crossTo u i).length ≤ i * u.length
 | 0 => by simp [crossTo]
 | i + 1 => by
  have ih := crossTo_len u i
  rw [crossTo_succ, Nat.add_mul, Nat.one_mul]
  have := crossIn_len u i (u.drop (i + 1)).length
  rw [List.length_drop] at this ⊢
  omega
theorem cross_le {a n m : Nat} (h1 : a ≤ 600) (h2 : n ≤ a * m) (h3 : m ≤ 600) : n ≤ 360000 := Nat.le_trans h2 (Nat.mul_le_mul h1 h3)
set_option maxHeartbeats 2000000 in
theorem noding_Crossings {ok : Nat → Prop} (l : Sgs) (A : Option Addr) (n c : Nat) (w : World) (hr : Row Ty.sg ok w A l) (hn : n = l.length) (hlen : l.length ≤ 600) :
  Calls Tryz.prog 78 #[.slice A n c] w fun e w' => ∃ B d, e = .returned (.slice B (crossZs (uniqZ l)).length d) ∧ Below w.heap.size w w' := by
 subst hn
 have HR := Lib.hid hr
 clear hr
 have hul := uniq_len l
 have CU := Lib.hid (fun W h => noding_Unique (ok := ok) l A l.length c W h rfl (by omega))
 have HZ : Hid (crossZs (uniqZ l) = crossTo (uniqZ l) (uniqZ l).length) := rfl
 generalize uniqZ l = u at *
 go_enter Tryz.func78, Tryz.ntmps78
 go_wp2_with fail
 refine Calls.mono (CU.out _ HR.out) ?_
 rintro e w1 ⟨v, rfl, ho, hb1⟩
 have HU := Lib.hid ho
 have HB1 := Lib.hid hb1
 rcases Nat.eq_zero_or_pos u.length with h0 | h0
 ·obtain ⟨A1, c1, rfl, _⟩ := ho.reads
  obtain rfl : u = [] := List.eq_nil_of_length_eq_zero h0
  clear ho hb1 CU
  go_wp2
  go_loopw [4, 14] (fun v i wr => v = .slice none 0 0 ∧ i = .int .i64 0 ∧ Hid (Below w.heap.size w wr)) (fun _ i _ => 0)
  case atStart => exact ⟨rfl, rfl, HB1.out⟩
  case round =>
   obtain ⟨rfl, rfl, HB⟩ := hrel
   go_wp2
   go_ret
   exact ⟨none, 0, by rw [HZ.out]; rfl, HB.out⟩
 obtain ⟨g, c1, rfl, hl1⟩ := HU.out.form h0
 have hgl := (OwnR.lt HU.out g rfl).2
 clear ho hb1 CU
 go_wp2
 go_loopw [4, 14] (fun v i wr => ∃ k : Nat, k ≤ u.length ∧ i = .int .i64 k ∧ Hid (Below w1.heap.size w1 wr) ∧ Hid (Own1 Ty.sg2 97 w1.heap.size wr v (crossTo u k))) (fun _ i _ => u.length - (intOf i).toNat)
 case atStart => exact ⟨0, Nat.zero_le _, rfl, Below.refl _ _, OwnR.nil _ _ _ _ _⟩
 case round =>
  obtain ⟨k, hk, rfl, HB, HO⟩ := hrel
  by_cases hlt : k < u.length
  ·have HUo := Lib.hid (Own1.below HU.out HB.out)
   obtain ⟨hx0, hx1, hx2, hx3⟩ := OwnR.sg_at HUo.out k hlt
   have hcl := crossTo_len u k
   have hcb := cross_le (n := (crossTo u k).length) (a := u.length) (by omega) (Nat.le_trans hcl (Nat.mul_le_mul_right _ hk)) (by omega)
   have HIL := Lib.hid (crossIn_len u k)
   obtain ⟨wo, rfl⟩ : ∃ wo : World, wo = wr := ⟨_, rfl⟩
   have hgo := HB.out.size
   have HAo := heap_alloc_new wo (.cells #[.int .i64 (sgD u k).1.1, .int .i64 (sgD u k).1.2, .int .i64 (sgD u k).2.1, .int .i64 (sgD u k).2.2] 32)
   have eb : k + 1 ≤ u.length := by omega
   have ec : u.length ≤ c1 := hl1
   clear HUo hcl
   by_cases hlast : k + 1 = u.length
   ·have HLS : Hid (crossTo u (k + 1) = crossTo u k) := by
     show _ = _
     rw [crossTo_succ, show (u.drop (k + 1)).length = 0 by rw [List.length_drop]; omega, crossIn_zero]
    have hlb : u.length ≤ k + 1 := by omega
    clear HAo hlast
    by_cases hcc : c1 = k + 1
    ·skip
     go_wp2
     go_loopw [4, 24] (fun v i wi => i = .int .i64 0 ∧ Hid (Below w1.heap.size w1 wi) ∧ Hid (Own1 Ty.sg2 97 w1.heap.size wi v (crossTo u k))) (fun _ i _ => 0)
     case atStart => exact ⟨rfl, (by repeat (first | exact Below.refl _ _ | apply below_alloc | apply below_drewN | apply below_drew | (refine below_set2 ?_ ?_; (first | (simp; done) | (simp; omega))) | (refine below_step ?_ HB.out))), Own1.below HO.out bq⟩
     case round =>
      obtain ⟨rfl, HBi, HOi⟩ := hrel
      clear HO HB
      go_wp2
      go_roundw
      case rel => exact ⟨k + 1, by omega, by go_num, HBi, by rw [HLS.out]; exact HOi.out⟩
      case measure => simp [intOf]; omega
    ·skip
     go_wp2
     go_loopw [4, 24] (fun v i wi => i = .int .i64 0 ∧ Hid (Below w1.heap.size w1 wi) ∧ Hid (Own1 Ty.sg2 97 w1.heap.size wi v (crossTo u k))) (fun _ i _ => 0)
     case atStart => exact ⟨rfl, (by repeat (first | exact Below.refl _ _ | apply below_alloc | apply below_drewN | apply below_drew | (refine below_set2 ?_ ?_; (first | (simp; done) | (simp; omega))) | (refine below_step ?_ HB.out))), Own1.below HO.out bq⟩
     case round =>
      obtain ⟨rfl, HBi, HOi⟩ := hrel
      clear HO HB
      go_wp2
      go_roundw
      case rel => exact ⟨k + 1, by omega, by go_num, HBi, by rw [HLS.out]; exact HOi.out⟩
      case measure => simp [intOf]; omega
   have hcc : ¬ c1 = k + 1 := by omega
   go_wp2
   have hvb0 : ∀ b, u4.ownBlock = some b → b ≠ wo.heap.size := fun b e => by have := (OwnR.lt HO.out b e).2; omega
   go_loopw [4, 24] (fun v i wi => ∃ j : Nat, k + 1 + j ≤ u.length ∧ i = .int .i64 j ∧ wi.heap[wo.heap.size]? = some (.cells #[.int .i64 (sgD u k).1.1, .int .i64 (sgD u k).1.2, .int .i64 (sgD u k).2.1, .int .i64 (sgD u k).2.2] 32 (0, 0)) ∧
    Hid (Below w1.heap.size w1 wi) ∧ Hid (Own1 Ty.sg2 97 w1.heap.size wi v (crossIn u k j)) ∧ Hid (∀ b, v.ownBlock = some b → b ≠ wo.heap.size)) (fun _ i _ => u.length - (intOf i).toNat)
   case atStart => exact ⟨0, by omega, rfl, HAo, (by repeat (first | exact Below.refl _ _ | apply below_alloc | apply below_drewN | apply below_drew | (refine below_set2 ?_ ?_; (first | (simp; done) | (simp; omega))) | (refine below_step ?_ HB.out))), by rw [crossIn_zero]; exact Own1.below HO.out bq, hvb0⟩
   case round =>
    obtain ⟨j, hj, rfl, HA, HBi, HOi, HVB⟩ := hrel
    clear HAo HO HB hvb0 hx0 hx1 hx2 hx3
    have hszi := lt_of_block HA
    by_cases hjt : k + 1 + j < u.length
    ·have HUo := Lib.hid (Own1.below HU.out HBi.out)
     obtain ⟨hy0, hy1, hy2, hy3⟩ := OwnR.sg_at HUo.out (k + 1 + j) hjt
     have ea : (k + 1) * 4 + j * 4 = (k + 1 + j) * 4 := by omega
     have hj2 : j < u.length - (k + 1) := by omega
     have hs0 := blk_cell HA 0 rfl
     have hs1 := blk_cell HA 1 rfl
     have hs2 := blk_cell HA 2 rfl
     have hs3 := blk_cell HA 3 rfl
     have HSC := Lib.hid (crossIn_succ u k j hjt)
     have HL : Hid (((crossIn u k j).length + 1) * 64 ≤ 140737488355328) := by
      have := HIL.out j
      show _ ≤ _
      omega
     have hgw := HBi.out.size
     obtain ⟨s, hs⟩ : ∃ s, s = sgD u k := ⟨_, rfl⟩
     obtain ⟨t, ht⟩ : ∃ t, t = sgD u (k + 1 + j) := ⟨_, rfl⟩
     rw [← hs] at HSC HA hs0 hs1 hs2 hs3
     rw [← ht] at hy0 hy1 hy2 hy3 HSC
     have HT1 := heap_alloc_new wr (.cells #[.int .i64 t.1.1, .int .i64 t.1.2, .int .i64 t.2.1, .int .i64 t.2.2] 32)
     have HA1 := blk_alloc HA (.cells #[.int .i64 t.1.1, .int .i64 t.1.2, .int .i64 t.2.1, .int .i64 t.2.2] 32)
     obtain ⟨r, hr⟩ : ∃ r, r = relZ s t := ⟨_, rfl⟩
     have CR : Hid (∀ W, Calls Tryz.prog 111 #[sgA s, sgA t] W fun e w' => e = .returned (.int .i64 r) ∧ Below W.heap.size W w') := by rw [hr]; exact fun W => seg_Relate _ _ _ _ _ _ _ _ W
     have HBD : Hid (badB s t = (decide (r = 2) || decide (r = 3))) := by rw [hr]; rfl
     have HSs := Lib.hid hs
     clear hr HUo hs ht
     by_cases hbd : badB s t = true
     ·have HS2 : Hid (crossIn u k (j + 1) = crossIn u k j ++ [(s, t)]) := HSC.out.trans (by rw [if_pos hbd])
      generalize crossIn u k j = cj at *
      by_cases h2 : r = 2
      ·have q2 : (r == 2) = true := by simp [h2]
       clear h2 hbd
       go_wp2_with fail
       refine Calls.mono (CR.out _) ?_
       rintro e w6 ⟨rfl, hb6⟩
       have HA6 := blk_below HA1 hb6
       have HT6 := blk_below HT1 hb6
       have HB6 : Hid (Below w1.heap.size w1 w6) := (by repeat (first | exact Below.refl _ _ | apply below_alloc | apply below_drewN | apply below_drew | (refine below_set2 ?_ ?_; (first | (simp; done) | (simp; omega))) | (refine below_step ?_ hb6) | (refine below_step ?_ HBi.out)))
       have HO6 : Hid (Own1 Ty.sg2 97 w1.heap.size w6 u4 cj) := Own1.below HOi.out (by repeat (first | exact Below.refl _ _ | apply below_alloc | apply below_drewN | apply below_drew | (refine below_set2 ?_ ?_; (first | (simp; done) | (simp; omega))) | (refine below_step ?_ hb6)))
       have hs6 := HB6.out.size
       clear hs0 hs1 hs2 hs3 hy0 hy1 hy2 hy3 HA1 HT1 hb6
       have hs0 := blk_cell HA6 0 rfl
       have hs1 := blk_cell HA6 1 rfl
       have hs2 := blk_cell HA6 2 rfl
       have hs3 := blk_cell HA6 3 rfl
       have ht0 := blk_cell HT6 0 rfl
       have ht1 := blk_cell HT6 1 rfl
       have ht2 := blk_cell HT6 2 rfl
       have ht3 := blk_cell HT6 3 rfl
       go_wp2_with (at_builtin; refine app_one Ty.sg2 (W := w6) w1.heap.size rfl _ _ 78 97 _ 64 rfl Tryz.underlying78 infoSg2 rfl (by decide) u4 cj (s, t) _ _ rfl rfl rfl rfl HO6.out (by omega) HL.out ?_; intro v1 w7 HO1 hg1 hat1)
       have HA7 := (hg1.block _ (lt_of_block HA6) (fun e => HVB.out _ e.symm rfl)).trans HA6
       have HO7 := Lib.hid (Own1.of HO1)
       have HB7 : Hid (Below w1.heap.size w1 w7) := below_own HB6.out hg1 (fun b e => (OwnR.lt HO6.out b e).1)
       have HVB7 : Hid (∀ b, v1.ownBlock = some b → b ≠ wo.heap.size) := fun b e => by
        have := lt_of_block HA6
        rcases hat1 with h | ⟨b', h, hle⟩
        ·exact HVB.out b (h ▸ e)
        ·have : b' = b := by rw [h] at e; exact Option.some.inj e
         omega
       clear HO1 hg1 hat1
       go_wp2
       go_roundw
       case rel => exact ⟨j + 1, by omega, by go_num, by rw [← HSs.out]; exact HA7, HB7, by rw [HS2.out]; exact HO7.out, HVB7⟩
       case measure => simp [intOf]; omega
      ·have q2 : (r == 2) = false := by simp [h2]
       have h3 : r = 3 := by rw [HBD.out] at hbd; simpa [h2] using hbd
       have q3 : (r == 3) = true := by simp [h3]
       clear h2 h3 hbd
       go_wp2_with fail
       refine Calls.mono (CR.out _) ?_
       rintro e w6 ⟨rfl, hb6⟩
       have HA6 := blk_below HA1 hb6
       have HT6 := blk_below HT1 hb6
       have HB6 : Hid (Below w1.heap.size w1 w6) := (by repeat (first | exact Below.refl _ _ | apply below_alloc | apply below_drewN | apply below_drew | (refine below_set2 ?_ ?_; (first | (simp; done) | (simp; omega))) | (refine below_step ?_ hb6) | (refine below_step ?_ HBi.out)))
       have HO6 : Hid (Own1 Ty.sg2 97 w1.heap.size w6 u4 cj) := Own1.below HOi.out (by repeat (first | exact Below.refl _ _ | apply below_alloc | apply below_drewN | apply below_drew | (refine below_set2 ?_ ?_; (first | (simp; done) | (simp; omega))) | (refine below_step ?_ hb6)))
       have hs6 := HB6.out.size
       clear hs0 hs1 hs2 hs3 hy0 hy1 hy2 hy3 HA1 HT1 hb6
       have hs0 := blk_cell HA6 0 rfl
       have hs1 := blk_cell HA6 1 rfl
       have hs2 := blk_cell HA6 2 rfl
       have hs3 := blk_cell HA6 3 rfl
       have ht0 := blk_cell HT6 0 rfl
       have ht1 := blk_cell HT6 1 rfl
       have ht2 := blk_cell HT6 2 rfl
       have ht3 := blk_cell HT6 3 rfl
       go_wp2_with (at_builtin; refine app_one Ty.sg2 (W := w6) w1.heap.size rfl _ _ 78 97 _ 64 rfl Tryz.underlying78 infoSg2 rfl (by decide) u4 cj (s, t) _ _ rfl rfl rfl rfl HO6.out (by omega) HL.out ?_; intro v1 w7 HO1 hg1 hat1)
       have HA7 := (hg1.block _ (lt_of_block HA6) (fun e => HVB.out _ e.symm rfl)).trans HA6
       have HO7 := Lib.hid (Own1.of HO1)
       have HB7 : Hid (Below w1.heap.size w1 w7) := below_own HB6.out hg1 (fun b e => (OwnR.lt HO6.out b e).1)
       have HVB7 : Hid (∀ b, v1.ownBlock = some b → b ≠ wo.heap.size) := fun b e => by
        have := lt_of_block HA6
        rcases hat1 with h | ⟨b', h, hle⟩
        ·exact HVB.out b (h ▸ e)
        ·have : b' = b := by rw [h] at e; exact Option.some.inj e
         omega
       clear HO1 hg1 hat1
       go_wp2
       go_roundw
       case rel => exact ⟨j + 1, by omega, by go_num, by rw [← HSs.out]; exact HA7, HB7, by rw [HS2.out]; exact HO7.out, HVB7⟩
       case measure => simp [intOf]; omega
     ·have HS2 : Hid (crossIn u k (j + 1) = crossIn u k j) := HSC.out.trans (by rw [if_neg hbd, List.append_nil])
      have h2 : ¬ r = 2 := fun h => hbd (by rw [HBD.out, h]; rfl)
      have h3 : ¬ r = 3 := fun h => hbd (by rw [HBD.out, h]; rfl)
      have q2 : (r == 2) = false := by simp [h2]
      have q3 : (r == 3) = false := by simp [h3]
      clear h2 h3 hbd
      go_wp2_with fail
      refine Calls.mono (CR.out _) ?_
      rintro e w6 ⟨rfl, hb6⟩
      have HA6 := blk_below HA1 hb6
      clear hs0 hs1 hs2 hs3 hy0 hy1 hy2 hy3 HA1 HT1
      go_wp2
      go_roundw
      case rel => exact ⟨j + 1, by omega, by go_num, by rw [← HSs.out]; exact HA6, (by repeat (first | exact Below.refl _ _ | apply below_alloc | apply below_drewN | apply below_drew | (refine below_set2 ?_ ?_; (first | (simp; done) | (simp; omega))) | (refine below_step ?_ hb6) | (refine below_step ?_ HBi.out))), by rw [HS2.out]; exact Own1.below HOi.out (by repeat (first | exact Below.refl _ _ | apply below_alloc | apply below_drewN | apply below_drew | (refine below_set2 ?_ ?_; (first | (simp; done) | (simp; omega))) | (refine below_step ?_ hb6))), HVB⟩
      case measure => simp [intOf]; omega
    ·have hje : k + 1 + j = u.length := by omega
     have HLS : Hid (crossTo u (k + 1) = crossIn u k j) := by show _ = _; rw [crossTo_succ, show (u.drop (k + 1)).length = j by rw [List.length_drop]; omega]
     have hjl : u.length - (k + 1) ≤ j := by omega
     clear hje
     go_wp2
     go_roundw
     case rel => exact ⟨k + 1, by omega, by go_num, HBi, by rw [HLS.out]; exact HOi.out⟩
     case measure => simp [intOf]; omega
  ·obtain rfl : k = u.length := by omega
   obtain ⟨Az, cz, rfl, _, _⟩ := HO.out.reads
   have hBz : Hid (Below w.heap.size w wr) := below_step HB1.out HB.out
   have HZ2 : Hid ((crossTo u u.length).length = (crossZs u).length) := by rw [HZ.out]; rfl
   go_wp2
   go_ret
   exact ⟨Az, cz, (by show Ending.returned (.slice Az (crossTo u u.length).length cz) = _; rw [HZ2.out]), hBz.out⟩
theorem cleanZ_ne {l : Sgs} (h : ¬ splitZ l = sortZ l) : cleanZ l = false := by unfold cleanZ; rw [decide_eq_false h]; rfl
theorem cleanZ_eq {l : Sgs} (h : splitZ l = sortZ l) : cleanZ l = ((crossZs (uniqZ l)).length == 0) := by
 unfold cleanZ
 rw [decide_eq_true h, Bool.true_and, Bool.eq_iff_iff]
 simp
theorem len_zero (n : Nat) : ((n : Int) == 0) = (n == 0) := by rw [Bool.eq_iff_iff]; simp
theorem noding_Clean {ok : Nat → Prop} (l : Sgs) (A : Option Addr) (n c : Nat) (w : World) (hr : Row Ty.sg ok w A l) (hn : n = l.length) (hlen : l.length ≤ 600) :
  Calls Tryz.prog 35 #[.slice A n c] w fun e w' => e = .returned (.bool (cleanZ l)) ∧ Below w.heap.size w w' := by
 subst hn
 have HR := Lib.hid hr
 clear hr
 have C1 := Lib.hid (fun W h => noding_Split (ok := ok) l A l.length c W h rfl hlen)
 have C2 := Lib.hid (fun W h => noding_Sort (ok := ok) l A l.length c W h rfl (by omega))
 have C3 := Lib.hid (fun W h => noding_Crossings (ok := ok) l A l.length c W h rfl hlen)
 have HC1 := Lib.hid (cleanZ_ne (l := l))
 have HC2 := Lib.hid (cleanZ_eq (l := l))
 generalize cleanZ l = r at *
 generalize splitZ l = a at *
 generalize sortZ l = b at *
 generalize (crossZs (uniqZ l)).length = m at *
 go_enter Tryz.func35, Tryz.ntmps35
 go_wp2_with fail
 refine Calls.mono (C1.out _ HR.out) ?_
 rintro e w1 ⟨v1, rfl, ho1, hb1⟩
 obtain ⟨A1, c1, rfl, hl1, hr1⟩ := ho1.reads
 have H1 := Lib.hid hr1
 have HB1 := Lib.hid hb1
 clear ho1 hr1 hb1
 go_wp2_with fail
 refine Calls.mono (C2.out _ (HR.out.below HB1.out)) ?_
 rintro e w2 ⟨v2, rfl, ho2, hb2⟩
 obtain ⟨A2, c2, rfl, hl2, hr2⟩ := ho2.reads
 have H2 := Lib.hid hr2
 have HB2 := Lib.hid (below_step HB1.out hb2)
 have H1' := Lib.hid (H1.out.below hb2)
 clear ho2 hr2 hb2 HB1 H1
 by_cases he : a = b
 ·have HE : Hid (r = (m == 0)) := HC2.out he
  have he2 : decide (a = b) = true := decide_eq_true he
  have HQ := Lib.hid he2
  clear he HC1 HC2 he2
  go_wp2_with fail
  refine (Equal_sg a b A1 A2 _ _ c1 c2 _ H1'.out H2.out rfl rfl).mono ?_
  rintro e w3 ⟨rfl, hb3⟩
  rw [HQ.out]
  have HB3 := Lib.hid (below_step HB2.out hb3)
  clear hb3 HB2
  go_wp2_with fail
  refine Calls.mono (C3.out _ (HR.out.below HB3.out)) ?_
  rintro e w4 ⟨B, d, rfl, hb4⟩
  go_wp2
  go_ret
  exact ⟨ret_bool (by rw [HE.out, len_zero]), below_step HB3.out hb4⟩
 ·have HE : Hid (r = false) := HC1.out he
  have he2 : decide (a = b) = false := decide_eq_false he
  have HQ := Lib.hid he2
  clear he HC1 HC2 he2
  go_wp2_with fail
  refine (Equal_sg a b A1 A2 _ _ c1 c2 _ H1'.out H2.out rfl rfl).mono ?_
  rintro e w3 ⟨rfl, hb3⟩
  rw [HQ.out]
  go_wp2
  go_ret
  exact ⟨ret_bool HE.out.symm, (by repeat (first | exact Below.refl _ _ | apply below_alloc | apply below_drewN | apply below_drew | (refine below_set2 ?_ ?_; (first | (simp; done) | (simp; omega))) | (refine below_step ?_ hb3) | (refine below_step ?_ HB2.out)))⟩
end
section
open Go.RowKit Go.Proofs.YtlmjciajpjdilaaGreatW.PrintLast

theorem Row.drop {α : Type} {T : Ty α} {ok : Nat → Prop} {w : World} {ad : Addr} {xs : List α} (h : Row T ok w (some ad) xs) (m : Nat) : Row T ok w (some (ad.add (m * T.sz))) (xs.drop m) := by
 refine ⟨by rw [List.length_drop]; have := h.1; omega, fun hn => ?_⟩
 rw [List.length_drop] at hn
 obtain ⟨ad', e, hok, hc⟩ := h.2 (by omega)
 injection e with e
 subst e
 refine ⟨_, rfl, by rw [add_block]; exact hok, fun i x hx => ?_⟩
 rw [List.getElem?_drop] at hx
 obtain ⟨cs, hR, hcs⟩ := hc (m + i) x hx
 refine ⟨cs, hR, fun j u hu => ?_⟩
 have := hcs j u hu
 rw [add_add]
 rwa [show m * T.sz + (i * T.sz + j) = (m + i) * T.sz + j by rw [Nat.add_mul]; omega]
theorem Row.take' {α : Type} {T : Ty α} {ok : Nat → Prop} {w : World} {A : Option Addr} {xs : List α} (h : Row T ok w A xs) (m : Nat) : Row T ok w A (xs.take m) := by
 refine ⟨by rw [List.length_take]; have := h.1; omega, fun hn => ?_⟩
 rw [List.length_take] at hn
 obtain ⟨ad, e, hok, hc⟩ := h.2 (by omega)
 refine ⟨ad, e, hok, fun i x hx => ?_⟩
 rw [List.getElem?_take] at hx
 split at hx
 ·exact hc i x hx
 ·cases hx
theorem minIx_snoc (r : Pts) (k : Nat) : minIx r (k + 1) = if lessB (ptD r k) (ptD r (minIx r k)) = true then k else minIx r k := by
 unfold minIx
 rw [List.range_succ, List.foldl_append]; rfl
theorem minIx_lt (r : Pts) : ∀ k, minIx r k ≤ k - 1
 | 0 => by simp [minIx]
 | k + 1 => by
  have := minIx_lt r k
  rw [minIx_snoc]
  split <;> omega
set_option maxRecDepth 100000 in
set_option maxHeartbeats 1000000 in
theorem poly_Canon {ok : Nat → Prop} (r : Pts) (A : Option Addr) (n c : Nat) (w : World) (hr : Row Ty.pt ok w A r) (hn : n = r.length) (hc : r.length ≤ c) (hpos : 0 < r.length) (hlen : r.length ≤ 1000000) :
  Calls Tryz.prog 87 #[.slice A n c] w fun e w' => ∃ v, e = .returned v ∧ Own1 Ty.pt 24 w.heap.size w' v (canonR r) ∧ Below w.heap.size w w' := by
 subst hn
 obtain ⟨ad, rfl, _⟩ := hr.2 hpos
 have HR := Lib.hid (hr.bnd.mono (ok' := fun k => k < w.heap.size) (fun k hk => hk.2))
 clear hr
 have HC : Hid (canonR r = r.drop (minIx r r.length) ++ r.take (minIx r r.length)) := rfl
 generalize canonR r = res at *
 go_enter Tryz.func87, Tryz.ntmps87
 go_wp2
 go_loopw [3, 8] (fun f i wr => ∃ k : Nat, k ≤ r.length ∧ i = .int .i64 k ∧ f = .int .i64 (minIx r k : Nat) ∧ Hid (Below w.heap.size w wr)) (fun _ i _ => r.length - (intOf i).toNat)
 case atStart => exact ⟨0, Nat.zero_le _, rfl, rfl, Below.refl _ _⟩
 case round =>
  obtain ⟨k, hk, rfl, rfl, HB⟩ := hrel
  by_cases hlt : k < r.length
  ·have HRk := Lib.hid (HR.out.below HB.out)
   have hml := minIx_lt r k
   have hm2 : minIx r k < r.length := by omega
   obtain ⟨ad', e, hx0, hx1⟩ := HRk.out.pt_at k hlt
   cases e
   obtain ⟨ad', e, hy0, hy1⟩ := HRk.out.pt_at (minIx r k) hm2
   cases e
   have HS := Lib.hid (minIx_snoc r k)
   generalize minIx r k = m at *
   clear HRk
   go_wp2_with fail
   obtain ⟨W0, hW0⟩ : ∃ W0, W0 = wr.alloc (.cells #[.int .i64 (ptD r k).1, .int .i64 (ptD r k).2] 24) := ⟨_, rfl⟩
   have HP : W0.heap[wr.heap.size]? = some (.cells #[.int .i64 (ptD r k).1, .int .i64 (ptD r k).2] 24 (0, 0)) := by rw [hW0]; exact heap_alloc_new _ _
   have BW0 : Below wr.heap.size wr W0 := by rw [hW0]; exact below_alloc (Below.refl _ _) _
   have zy0 := cell_below BW0 hy0
   have zy1 := cell_below BW0 hy1
   rw [← hW0]
   clear hW0 hx0 hx1 hy0 hy1
   have hlm : m < r.length := hm2
   cases hl : lessB ((ptD r k).1, (ptD r k).2) ((ptD r m).1, (ptD r m).2)
   ·have HL := Lib.hid hl
    have HS2 : Hid (minIx r (k + 1) = m) := HS.out.trans (if_neg (by rw [show lessB (ptD r k) (ptD r m) = false from hl]; decide))
    clear hl
    refine start_ (n := 6) (S := fun w' => w'.cell? ⟨wr.heap.size, 0, none⟩ = some (.int .i64 (ptD r k).1) ∧ w'.cell? ⟨wr.heap.size, 1, none⟩ = some (.int .i64 (ptD r k).2) ∧ w'.cell? (ad.add (m * 2)) = some (.int .i64 (ptD r m).1) ∧ w'.cell? ⟨(ad.add (m * 2)).block, (ad.add (m * 2)).off + 1, none⟩ = some (.int .i64 (ptD r m).2)) (ds := []) #[Z,Z,Z,Z,Z,Z] (by kernel_rfl) rfl rfl ⟨blk_cell HP 0 rfl, blk_cell HP 1 rfl, zy0, zy1⟩ (fun hHeld => ?_)
    refine pure_ (i := 1) (N := some 14) (v := ?_) (a' := ?_) #[Z,J,Z,Z,Z,Z] rfl rfl (by kernel_rfl) (fun _ _ _ h => h) (Or.inl ⟨by rfl, ?_⟩) ?_ ?_
    rotate_left
    ·intro w'; go_simp; with_reducible rfl
    rotate_left
    ·simp only [Act.put, sA, sB, sC, i64_w, i32_w]; rfl
    refine pure_ (i := 2) (N := some 15) (v := ?_) (a' := ?_) #[Z,J,J,Z,Z,Z] rfl rfl (by kernel_rfl) (fun _ _ _ h => h) (Or.inl ⟨by rfl, ?_⟩) ?_ ?_
    rotate_left
    ·intro w'; go_simp; with_reducible rfl
    rotate_left
    ·simp only [Act.put, sA, sB, sC, i64_w, i32_w]; rfl
    refine pure_ (i := 3) (N := some 16) (v := ?_) (a' := ?_) #[Z,J,J,J,Z,Z] rfl rfl (by kernel_rfl) (fun _ _ _ h => h) (Or.inl ⟨by rfl, ?_⟩) ?_ ?_
    rotate_left
    ·intro w'; go_simp; with_reducible rfl
    rotate_left
    ·simp only [Act.put, sA, sB, sC, i64_w, i32_w]; rfl
    refine take_ (i := 0) (N := some 13) (v := ?_) (a' := ?_) #[J,J,J,J,Z,Z] rfl rfl (by kernel_rfl) (fun _ _ _ h => h) (Or.inl ⟨by rfl, ?_⟩) hHeld ?_ ?_
    rotate_left
    ·rintro w' ⟨s0, s1, s2, s3⟩; go_simp; with_reducible rfl
    rotate_left
    ·simp only [Act.put, sA, sB, sC, i64_w, i32_w]; rfl
    refine take_ (i := 4) (N := some 17) (v := ?_) (a' := ?_) #[J,J,J,J,J,Z] rfl rfl (by kernel_rfl) (fun _ _ _ h => h) (Or.inl ⟨by rfl, ?_⟩) hHeld ?_ ?_
    rotate_left
    ·rintro w' ⟨s0, s1, s2, s3⟩; go_simp; with_reducible rfl
    rotate_left
    ·simp only [Act.put, sA, sB, sC, i64_w, i32_w]; rfl
    refine one_ (i := 5) (N := some 18) #[J,J,J,J,J,J] rfl rfl (by kernel_rfl) (by decide) (fun K hK => ?_)
    refine goes_ Tryz.func92 (by kernel_rfl) rfl #[.agg #[.int .i64 (ptD r k).1, .int .i64 (ptD r k).2], .agg #[.int .i64 (ptD r m).1, .int .i64 (ptD r m).2]] (by rfl) rfl rfl (by simp only [List.map_toArray, List.map_cons, List.map_nil]; rfl) ?_
    with_reducible refine (grid_Less _ _ _ _ _).mono ?_
    rintro e w2 ⟨rfl, hb2⟩
    refine ⟨_, rfl, ?_⟩
    refine hK.out _ _ ⟨blk_cell (blk_below (W := W0.drew) HP hb2) 0 rfl, blk_cell (blk_below (W := W0.drew) HP hb2) 1 rfl, cell_below (w := W0.drew) hb2 zy0, cell_below (w := W0.drew) hb2 zy1⟩ (fun hHeld => ?_)
    clear hK K
    refine norm_ (a' := ?_) ?_ ?_
    rotate_left
    ·show Act.put _ (some 18) _ = _
     simp only [Act.put, sA, sB, sC, i64_w, i32_w]; rfl
    refine done_ (by kernel_rfl) ?_
    rw [HL.out]
    have HB1 : Hid (Below w.heap.size w w2) := below_step (below_drew (below_step HB.out BW0)) hb2
    clear hHeld zy0 zy1 HP BW0 hb2 HB
    go_wp2
    go_roundw
    case rel => exact ⟨k + 1, by omega, by go_num, by rw [HS2.out], HB1⟩
    case measure => simp [intOf]; omega
   ·have HL := Lib.hid hl
    have HS2 : Hid (minIx r (k + 1) = k) := HS.out.trans (if_pos hl)
    clear hl
    refine start_ (n := 6) (S := fun w' => w'.cell? ⟨wr.heap.size, 0, none⟩ = some (.int .i64 (ptD r k).1) ∧ w'.cell? ⟨wr.heap.size, 1, none⟩ = some (.int .i64 (ptD r k).2) ∧ w'.cell? (ad.add (m * 2)) = some (.int .i64 (ptD r m).1) ∧ w'.cell? ⟨(ad.add (m * 2)).block, (ad.add (m * 2)).off + 1, none⟩ = some (.int .i64 (ptD r m).2)) (ds := []) #[Z,Z,Z,Z,Z,Z] (by kernel_rfl) rfl rfl ⟨blk_cell HP 0 rfl, blk_cell HP 1 rfl, zy0, zy1⟩ (fun hHeld => ?_)
    refine pure_ (i := 1) (N := some 14) (v := ?_) (a' := ?_) #[Z,J,Z,Z,Z,Z] rfl rfl (by kernel_rfl) (fun _ _ _ h => h) (Or.inl ⟨by rfl, ?_⟩) ?_ ?_
    rotate_left
    ·intro w'; go_simp; with_reducible rfl
    rotate_left
    ·simp only [Act.put, sA, sB, sC, i64_w, i32_w]; rfl
    refine pure_ (i := 2) (N := some 15) (v := ?_) (a' := ?_) #[Z,J,J,Z,Z,Z] rfl rfl (by kernel_rfl) (fun _ _ _ h => h) (Or.inl ⟨by rfl, ?_⟩) ?_ ?_
    rotate_left
    ·intro w'; go_simp; with_reducible rfl
    rotate_left
    ·simp only [Act.put, sA, sB, sC, i64_w, i32_w]; rfl
    refine pure_ (i := 3) (N := some 16) (v := ?_) (a' := ?_) #[Z,J,J,J,Z,Z] rfl rfl (by kernel_rfl) (fun _ _ _ h => h) (Or.inl ⟨by rfl, ?_⟩) ?_ ?_
    rotate_left
    ·intro w'; go_simp; with_reducible rfl
    rotate_left
    ·simp only [Act.put, sA, sB, sC, i64_w, i32_w]; rfl
    refine take_ (i := 0) (N := some 13) (v := ?_) (a' := ?_) #[J,J,J,J,Z,Z] rfl rfl (by kernel_rfl) (fun _ _ _ h => h) (Or.inl ⟨by rfl, ?_⟩) hHeld ?_ ?_
    rotate_left
    ·rintro w' ⟨s0, s1, s2, s3⟩; go_simp; with_reducible rfl
    rotate_left
    ·simp only [Act.put, sA, sB, sC, i64_w, i32_w]; rfl
    refine take_ (i := 4) (N := some 17) (v := ?_) (a' := ?_) #[J,J,J,J,J,Z] rfl rfl (by kernel_rfl) (fun _ _ _ h => h) (Or.inl ⟨by rfl, ?_⟩) hHeld ?_ ?_
    rotate_left
    ·rintro w' ⟨s0, s1, s2, s3⟩; go_simp; with_reducible rfl
    rotate_left
    ·simp only [Act.put, sA, sB, sC, i64_w, i32_w]; rfl
    refine one_ (i := 5) (N := some 18) #[J,J,J,J,J,J] rfl rfl (by kernel_rfl) (by decide) (fun K hK => ?_)
    refine goes_ Tryz.func92 (by kernel_rfl) rfl #[.agg #[.int .i64 (ptD r k).1, .int .i64 (ptD r k).2], .agg #[.int .i64 (ptD r m).1, .int .i64 (ptD r m).2]] (by rfl) rfl rfl (by simp only [List.map_toArray, List.map_cons, List.map_nil]; rfl) ?_
    with_reducible refine (grid_Less _ _ _ _ _).mono ?_
    rintro e w2 ⟨rfl, hb2⟩
    refine ⟨_, rfl, ?_⟩
    refine hK.out _ _ ⟨blk_cell (blk_below (W := W0.drew) HP hb2) 0 rfl, blk_cell (blk_below (W := W0.drew) HP hb2) 1 rfl, cell_below (w := W0.drew) hb2 zy0, cell_below (w := W0.drew) hb2 zy1⟩ (fun hHeld => ?_)
    clear hK K
    refine norm_ (a' := ?_) ?_ ?_
    rotate_left
    ·show Act.put _ (some 18) _ = _
     simp only [Act.put, sA, sB, sC, i64_w, i32_w]; rfl
    refine done_ (by kernel_rfl) ?_
    rw [HL.out]
    have HB1 : Hid (Below w.heap.size w w2) := below_step (below_drew (below_step HB.out BW0)) hb2
    clear hHeld zy0 zy1 HP BW0 hb2 HB
    go_wp2
    go_roundw
    case rel => exact ⟨k + 1, by omega, by go_num, by rw [HS2.out], HB1⟩
    case measure => simp [intOf]; omega
  ·obtain rfl : k = r.length := by omega
   have hml := minIx_lt r r.length
   have hm2 : minIx r r.length < r.length := by omega
   have HRW := Lib.hid (HR.out.below HB.out)
   have hwz := HB.out.size
   generalize minIx r r.length = m at *
   have hcm : ¬ c = m := by omega
   have hml2 : m ≤ r.length := by omega
   have hmc : m ≤ c := by omega
   have hdl : (r.drop m).length = r.length - m := List.length_drop ..
   have hdl2 := Lib.hid hdl
   clear hdl
   go_wp2_with fail
   refine start_ (n := 9) (S := fun w' => True) (ds := []) #[Z,Z,Z,Z,Z,Z,Z,Z,Z] (by kernel_rfl) rfl rfl trivial (fun hHeld => ?_)
   refine pure_ (i := 0) (N := some 21) (v := ?_) (a' := ?_) #[J,Z,Z,Z,Z,Z,Z,Z,Z] rfl rfl (by kernel_rfl) (fun _ _ _ h => h) (Or.inl ⟨by rfl, ?_⟩) ?_ ?_
   rotate_left
   ·intro w'; go_simp; with_reducible rfl
   rotate_left
   ·simp only [Act.put, sA, sB, sC, i64_w, i32_w]; rfl
   refine pure_ (i := 1) (N := some 22) (v := ?_) (a' := ?_) #[J,J,Z,Z,Z,Z,Z,Z,Z] rfl rfl (by kernel_rfl) (fun _ _ _ h => h) (Or.inl ⟨by rfl, ?_⟩) ?_ ?_
   rotate_left
   ·intro w'; go_simp; with_reducible rfl
   rotate_left
   ·simp only [Act.put, sA, sB, sC, i64_w, i32_w]; rfl
   refine pure_ (i := 2) (N := some 23) (v := ?_) (a' := ?_) #[J,J,J,Z,Z,Z,Z,Z,Z] rfl rfl (by kernel_rfl) (fun _ _ _ h => h) (Or.inl ⟨by rfl, ?_⟩) ?_ ?_
   rotate_left
   ·intro w'; go_simp; with_reducible rfl
   rotate_left
   ·simp only [Act.put, sA, sB, sC, i64_w, i32_w]; rfl
   refine pure_ (i := 4) (N := some 25) (v := ?_) (a' := ?_) #[J,J,J,Z,J,Z,Z,Z,Z] rfl rfl (by kernel_rfl) (fun _ _ _ h => h) (Or.inl ⟨by rfl, ?_⟩) ?_ ?_
   rotate_left
   ·intro w'; go_simp; with_reducible rfl
   rotate_left
   ·simp only [Act.put, sA, sB, sC, i64_w, i32_w]; rfl
   refine pure_ (i := 5) (N := some 26) (v := ?_) (a' := ?_) #[J,J,J,Z,J,J,Z,Z,Z] rfl rfl (by kernel_rfl) (fun _ _ _ h => h) (Or.inl ⟨by rfl, ?_⟩) ?_ ?_
   rotate_left
   ·intro w'; go_simp; with_reducible rfl
   rotate_left
   ·simp only [Act.put, sA, sB, sC, i64_w, i32_w]; rfl
   refine pure_ (i := 6) (N := some 27) (v := ?_) (a' := ?_) #[J,J,J,Z,J,J,J,Z,Z] rfl rfl (by kernel_rfl) (fun _ _ _ h => h) (Or.inl ⟨by rfl, ?_⟩) ?_ ?_
   rotate_left
   ·intro w'; go_simp; with_reducible rfl
   rotate_left
   ·simp only [Act.put, sA, sB, sC, i64_w, i32_w]; rfl
   refine one_ (i := 3) (N := some 24) #[J,J,J,J,J,J,J,Z,Z] rfl rfl (by kernel_rfl) (by decide) (fun K hK => ?_)
   refine goes_ Tryz.func88 (by kernel_rfl) rfl #[.slice (some (ad.add (m * 2))) (r.length - m) (c - m)] (by rfl) rfl rfl (by simp only [List.map_toArray, List.map_cons, List.map_nil]; rfl) ?_
   with_reducible refine (Clone_pt (r.drop m) (some (ad.add (m * 2))) _ (c - m) _ ((HRW.out.below (below_drew (Below.refl _ _))).drop m) hdl2.out.symm (by rw [hdl2.out]; omega)).mono ?_
   rintro e w2 ⟨v2, rfl, HO2, hb2⟩
   refine ⟨_, rfl, ?_⟩
   have hw2 : wr.heap.size ≤ w2.heap.size := hb2.size
   have hrow : Row Ty.pt (fun k => ¬ v2.ownBlock = some k) w2 (some ad) (r.take m) := (((HRW.out.below (below_drew (Below.refl _ _))).below hb2).take' m).mono (fun k hk e => by have : wr.heap.size ≤ k := (OwnR.lt HO2 k e).1; omega)
   refine hK.out _ _ trivial (fun hHeld => ?_)
   clear hK K
   refine norm_ (a' := ?_) ?_ ?_
   rotate_left
   ·show Act.put _ (some 24) _ = _
    simp only [Act.put, sA, sB, sC, i64_w, i32_w]; rfl
   refine one_ (i := 7) (N := some 28) #[J,J,J,J,J,J,J,J,Z] rfl rfl (by kernel_rfl) (by decide) (fun K hK => ?_)
   refine step_row Ty.pt (W := w2) wr.heap.size rfl (.tmp 24) (.tmp 27) 41 24 _ 16 rfl Tryz.underlying41 infoPt rfl (by decide) v2 (r.drop m) (r.take m) (some ad) m c _ rfl rfl (by rw [List.length_take]; omega) hrow HO2 hw2 (by rw [hdl2.out]; omega) ?_
   intro v3 w3 HO3 hg3 hat3
   refine hK.out _ _ trivial (fun hHeld => ?_)
   clear hK K
   refine norm_ (a' := ?_) ?_ ?_
   rotate_left
   ·show Act.put _ (some 28) _ = _
    simp only [Act.put, sA, sB, sC, i64_w, i32_w]; rfl
   refine pure_ (i := 8) (N := some 2) (v := ?_) (a' := ?_) #[J,J,J,J,J,J,J,J,J] rfl rfl (by kernel_rfl) (fun _ _ _ h => h) (Or.inl ⟨by rfl, ?_⟩) ?_ ?_
   rotate_left
   ·intro w'; go_simp; with_reducible rfl
   rotate_left
   ·simp only [Act.put, sA, sB, sC, i64_w, i32_w]; rfl
   refine done_ (by kernel_rfl) ?_
   have HO4 : Hid (Own1 Ty.pt 24 w.heap.size w3 v3 res) := by show Own1 _ _ _ _ _ _; rw [HC.out]; exact Own1.base (Own1.of HO3) hwz
   have HB4 : Hid (Below w.heap.size w w3) := below_own (below_step (below_drew HB.out) hb2) hg3 (fun b e => by have : wr.heap.size ≤ b := (OwnR.lt HO2 b e).1; omega)
   go_wp2
   go_ret
   exact ⟨_, rfl, HO4.out, HB4.out⟩
end
section
open Go.RowKit
set_option linter.unusedSectionVars false

section
variable {κ : Type} [DecidableEq κ]
def mapIx (vs : List (κ × Value)) (k : κ) : Nat := (vs.map Prod.fst).idxOf k
/-- The value at a key. -/
def mapGet (vs : List (κ × Value)) (k : κ) : Option Value := (vs[mapIx vs k]?).map Prod.snd
/-- The entries behind m[k] = v. -/
def mapPut (vs : List (κ × Value)) (k : κ) (v : Value) : List (κ × Value) := if mapIx vs k < vs.length then vs.set (mapIx vs k) (k, v) else vs ++ [(k, v)]
/-- What a kind of keys must do. -/
structure KeyOk (P : Program) (kt : TypeId) (enc : κ → Value) : Prop where
 check : ∀ (b : Bool) (k : κ) (w : World), (Instr.checkKey b 10000 kt (enc k)).run P w = .ok () w
 find : ∀ (k : κ) (es : List MapEntry) (ks : List κ) (w : World), es.map (·.key) = ks.map enc → (Instr.findKey kt (enc k) es).run P w = .ok ((es[ks.idxOf k]?).map fun e => (ks.idxOf k, e.val)) w
 same : ∀ k : κ, Instr.sameBits 10000 (enc k) (enc k) = true
/-- Block b is a map whose entries are vs. -/
def OwnMap (enc : κ → Value) (w : World) (b : Nat) (vs : List (κ × Value)) : Prop :=
 ∃ es clock, w.heap[b]? = some (.map es clock) ∧ es.toList.map (·.key) = (vs.map Prod.fst).map enc ∧ es.toList.map (·.val) = vs.map Prod.snd ∧ (vs.map Prod.fst).Nodup ∧ (es.toList.map (·.born)).Nodup ∧ ∀ e ∈ es.toList, e.born < clock
theorem mapIx_lt {vs : List (κ × Value)} {k : κ} (h : mapIx vs k < vs.length) : (vs[mapIx vs k]'h).1 = k := by
 have h' : (vs.map Prod.fst).idxOf k < (vs.map Prod.fst).length := by rw [List.length_map]; exact h
 have := List.getElem_idxOf h'
 rw [List.getElem_map] at this
 exact this
variable {P : Program} {kt et t : TypeId} {enc : κ → Value} {w w' : World} {b : Nat} {vs : List (κ × Value)}
theorem OwnMap.made (w : World) (enc : κ → Value) : OwnMap enc (w.alloc (.map #[] 0)) w.heap.size [] := ⟨#[], 0, heap_alloc_new w _, rfl, rfl, List.nodup_nil, List.nodup_nil, fun e he => by simp at he⟩
theorem OwnMap.lt (h : OwnMap enc w b vs) : b < w.heap.size := by
 obtain ⟨es, clock, hb, _⟩ := h
 exact (Array.getElem?_eq_some_iff.1 hb).1
theorem OwnMap.kept {S : Nat → Prop} (h : OwnMap enc w b vs) (k : KeptS S w w') (hs : ¬ S b) : OwnMap enc w' b vs := by
 have hl := h.lt
 obtain ⟨es, clock, hb, h'⟩ := h
 exact ⟨es, clock, (k.block b hl hs).trans hb, h'⟩
theorem OwnMap.below (h : OwnMap enc w b vs) (hb : Below w.heap.size w w') : OwnMap enc w' b vs := h.kept (S := fun _ => False) (kept_of_below hb) id
theorem OwnMap.lookup (h : OwnMap enc w b vs) (K : KeyOk P kt enc) (ht : P.underlying t = some (.map kt et)) {z : Value} (hz : (zeroValue et).run P w = .ok z w) (k : κ) (c : Bool) :
  (Instr.lookup t (.map (some b)) (enc k) c).run P w = .ok (if c then .tuple #[(mapGet vs k).getD z, .bool (mapGet vs k).isSome] else (mapGet vs k).getD z) w := by
 obtain ⟨es, clock, hb, hk, hv, _⟩ := h
 have hl : es.toList.length = vs.length := by have := congrArg List.length hv; simpa using this
 have hf := K.find k es.toList (vs.map Prod.fst) w hk
 have hg : (es.toList[(vs.map Prod.fst).idxOf k]?).map (·.val) = mapGet vs k := by
  have := congrArg (fun l => l[(vs.map Prod.fst).idxOf k]?) hv
  simpa [mapGet, mapIx] using this
 simp only [Instr.lookup, Sem.run_bind, run_underlying ht, Result.andThen_ok, MapKept.run_getObj_map hb, Sem.run_pure, K.check, hf]
 cases he : es.toList[(vs.map Prod.fst).idxOf k]? with
 | none =>
  rw [he] at hg
  simp only [Option.map_none] at hg ⊢
  rw [← hg]
  cases c <;> simp [hz]
 | some e =>
  rw [he] at hg
  simp only [Option.map_some] at hg ⊢
  rw [← hg]
  cases c <;> simp
theorem OwnMap.update (h : OwnMap enc w b vs) (K : KeyOk P kt enc) (ht : P.underlying t = some (.map kt et)) (k : κ) (v : Value) :
  ∃ w', (Instr.mapUpdate t (.map (some b)) (enc k) v).run P w = .ok () w' ∧ OwnMap enc w' b (mapPut vs k v) ∧ KeptS (fun i => i = b) w w' ∧ w'.heap.size = w.heap.size := by
 have hbl := h.lt
 obtain ⟨es, clock, hb, hk, hv, hn, hbn, hc⟩ := h
 have hl : es.toList.length = vs.length := by have := congrArg List.length hv; simpa using this
 have hf := K.find k es.toList (vs.map Prod.fst) w hk
 have keep : ∀ o : Obj, KeptS (fun i => i = b) w { w with heap := w.heap.setIfInBounds b o } := fun o =>
  ⟨rfl, rfl, rfl, by simp, fun i _ hi => by show (w.heap.setIfInBounds b o)[i]? = _; rw [Array.getElem?_setIfInBounds, if_neg (fun e => hi e.symm)]⟩
 have at_ : ∀ o : Obj, (w.heap.setIfInBounds b o)[b]? = some o := fun o => by rw [Array.getElem?_setIfInBounds, if_pos rfl, if_pos hbl]
 by_cases hi : mapIx vs k < vs.length
 ·have he : es.toList[(vs.map Prod.fst).idxOf k]? = some (es.toList[mapIx vs k]'(by rw [hl]; exact hi)) := List.getElem?_eq_getElem (by rw [hl]; exact hi)
  have hkey : (es.toList[mapIx vs k]'(by rw [hl]; exact hi)).key = enc k := by
   have h1 := congrArg (fun l => l[mapIx vs k]?) hk
   simp only [List.getElem?_map] at h1
   rw [List.getElem?_eq_getElem (by rw [hl]; exact hi), List.getElem?_eq_getElem hi] at h1
   simp only [Option.map_some, Option.some.injEq] at h1
   rw [h1, mapIx_lt hi]
  refine ⟨_, ?_, ?_, keep (.map (es.modify (mapIx vs k) (fun e => { e with key := enc k, val := v })) clock), by simp⟩
  rotate_left
  ·refine ⟨es.modify (mapIx vs k) (fun e => { e with key := enc k, val := v }), clock, at_ _, ?_, ?_, ?_, ?_, ?_⟩
   ·rw [mapPut, if_pos hi, List.map_set, List.map_set, Array.toList_modify, ← hk]
    apply List.ext_getElem?
    intro j
    simp only [List.getElem?_map, List.getElem?_modify, List.getElem?_set, List.length_map, hl]
    by_cases hj : mapIx vs k = j
    ·subst hj
     simp only [if_true, if_pos hi]
     rw [List.getElem?_eq_getElem (by rw [hl]; exact hi)]
     simp
    ·simp only [if_neg hj]
     cases es.toList[j]? <;> rfl
   ·rw [mapPut, if_pos hi, List.map_set, Array.toList_modify, ← hv]
    apply List.ext_getElem?
    intro j
    simp only [List.getElem?_map, List.getElem?_modify, List.getElem?_set, List.length_map, hl]
    by_cases hj : mapIx vs k = j
    ·subst hj
     simp only [if_true, if_pos hi]
     rw [List.getElem?_eq_getElem (by rw [hl]; exact hi)]
     simp
    ·simp only [if_neg hj]
     cases es.toList[j]? <;> rfl
   ·rw [mapPut, if_pos hi, List.map_set]
    have e : (vs.map Prod.fst).set (mapIx vs k) k = vs.map Prod.fst := by
     apply List.ext_getElem?
     intro j
     rw [List.getElem?_set]
     split
     ·rename_i hj; subst hj
      rw [if_pos (by rw [List.length_map]; exact hi), List.getElem?_map, List.getElem?_eq_getElem hi]
      simp [mapIx_lt hi]
     ·rfl
    rw [e]; exact hn
   ·have e : (es.modify (mapIx vs k) (fun e => { e with key := enc k, val := v })).toList.map (·.born) = es.toList.map (·.born) := by
     rw [Array.toList_modify]
     apply List.ext_getElem?
     intro j
     simp only [List.getElem?_map, List.getElem?_modify]
     split <;> cases es.toList[j]? <;> rfl
    rw [e]; exact hbn
   ·intro e he'
    rw [Array.toList_modify] at he'
    obtain ⟨j, hj, rfl⟩ := List.mem_iff_getElem.1 he'
    rw [List.getElem_modify]
    have hj' : j < es.toList.length := by simpa using hj
    split
    ·show (es.toList[j]'hj').born < clock
     exact hc _ (List.getElem_mem hj')
    ·exact hc _ (List.getElem_mem hj')
  ·simp only [Instr.mapUpdate, Sem.run_bind, run_underlying ht, Result.andThen_ok, MapKept.run_getObj_map hb, Sem.run_pure, K.check, hf, he, Option.map_some]
   have hes : (es[(vs.map Prod.fst).idxOf k]?.map (·.key)).getD (enc k) = enc k := by
    rw [← Array.getElem?_toList, he]
    simpa using hkey
   simp only [hes, Instr.keyThatStays, K.same, if_true, Sem.run_pure, Result.andThen_ok, MapKept.run_setObj_map _ hb, Sem.run_bind]
   rfl
 ·have he : es.toList[(vs.map Prod.fst).idxOf k]? = none := List.getElem?_eq_none (by rw [hl]; exact Nat.le_of_not_lt hi)
  have hnk : k ∉ vs.map Prod.fst := fun hm => hi (by have := List.idxOf_lt_length_of_mem hm; rwa [List.length_map] at this)
  refine ⟨_, ?_, ?_, keep (.map (es.push { key := enc k, val := v, born := clock }) (clock + 1)), by simp⟩
  rotate_left
  ·refine ⟨es.push { key := enc k, val := v, born := clock }, clock + 1, at_ _, ?_, ?_, ?_, ?_, ?_⟩
   ·rw [mapPut, if_neg hi]; simp [hk]
   ·rw [mapPut, if_neg hi]; simp [hv]
   ·rw [mapPut, if_neg hi, List.map_append, List.nodup_append]
    refine ⟨hn, by simp, fun a ha b hb' => ?_⟩
    simp only [List.map_cons, List.map_nil, List.mem_singleton] at hb'
    subst hb'
    exact fun e => hnk (e ▸ ha)
   ·rw [Array.toList_push, List.map_append, List.nodup_append]
    refine ⟨hbn, by simp, fun a ha c' hc' => ?_⟩
    simp only [List.map_cons, List.map_nil, List.mem_singleton] at hc'
    subst hc'
    obtain ⟨e, he', rfl⟩ := List.mem_map.1 ha
    have := hc e he'
    exact fun h => by omega
   ·intro e he'
    rw [Array.toList_push] at he'
    rcases List.mem_append.1 he' with h | h
    ·have := hc e h; omega
    ·rw [List.mem_singleton.1 h]; exact Nat.lt_succ_self _
  ·simp only [Instr.mapUpdate, Sem.run_bind, run_underlying ht, Result.andThen_ok, MapKept.run_getObj_map hb, Sem.run_pure, K.check, hf, he, Option.map_none, MapKept.run_setObj_map _ hb]
variable {ops : Array Oper} {rest : List Oper} {o : Oper} {a : Act} {Q : Exit → Act → World → Prop}
/-- m[k] = v, at the operation. -/
theorem wpList_putM (hg : o.guard = none) (m x v : Operand) (t : TypeId) (hop : o.op = Op.mapUpdate t m x v) (ht : P.underlying t = some (.map kt et)) (K : KeyOk P kt enc) (b : Nat) (vs : List (κ × Value)) (k : κ) (val : Value)
  (hm : a.eval m = .map (some b)) (hx : a.eval x = enc k) (hv : a.eval v = val) (HO : OwnMap enc w b vs)
  (h : ∀ w', OwnMap enc w' b (mapPut vs k val) → KeptS (fun i => i = b) w w' → w'.heap.size = w.heap.size → wpList P ops Q rest (a.put o.dst undef) w') : wpList P ops Q (o :: rest) a w := by
 refine wpList_plain hg fun K' hK' => ?_
 obtain ⟨w', hrun, r1, r2, r3⟩ := HO.update K ht k val
 unfold Oper.wp
 simp [execOp, hop, hm, hx, hv, hrun, Result.andThen]
 exact hK' _ _ (h w' r1 r2 r3)
/-- v, ok := m[k] or v := m[k], at the operation. -/
theorem wpList_getM (hg : o.guard = none) (m x : Operand) (t : TypeId) (c : Bool) (hop : o.op = Op.lookup t m x c) (ht : P.underlying t = some (.map kt et)) (K : KeyOk P kt enc) (z : Value) (hz : ∀ w, (zeroValue et).run P w = .ok z w) (b : Nat) (vs : List (κ × Value)) (k : κ)
  (hm : a.eval m = .map (some b)) (hx : a.eval x = enc k) (HO : OwnMap enc w b vs)
  (h : wpList P ops Q rest (a.put o.dst (if c then .tuple #[(mapGet vs k).getD z, .bool (mapGet vs k).isSome] else (mapGet vs k).getD z)) w) : wpList P ops Q (o :: rest) a w := by
 refine wpList_plain hg fun K' hK' => ?_
 have hrun := HO.lookup K ht (hz w) k c
 unfold Oper.wp
 simp [execOp, hop, hm, hx, hrun, Result.andThen]
 exact hK' _ _ h
end
theorem same_int (n : Nat) (q : IntKind) (k : Int) : Instr.sameBits n (.int q k) (.int q k) = true := by
 cases n <;> simp [Instr.sameBits]
theorem check_int {P : Program} {kt : TypeId} {q : IntKind} (hk : P.underlying kt = some (.int q)) (b : Bool) (n : Nat) (k : Int) (w : World) : (Instr.checkKey b (n + 1) kt (.int q k)).run P w = .ok () w := by
 simp [Instr.checkKey, run_underlying hk]
/-- Whole numbers as keys. -/
theorem keyOk_int {P : Program} {kt : TypeId} {q : IntKind} (hk : P.underlying kt = some (.int q)) : KeyOk P kt (fun x : Int => Value.int q x) where
 check := fun b k w => check_int hk b 9999 k w
 find := fun k es ks w h => by
  have key : ∀ (es : List MapEntry) (ks : List Int) (i : Nat), es.map (·.key) = ks.map (fun x => Value.int q x) → Instr.findNow (.int q) (.int q k) es i = some ((es[ks.idxOf k]?).map fun e => (i + ks.idxOf k, e.val)) := by
   intro es
   induction es with
   | nil => intro ks i h; simp [Instr.findNow]
   | cons e es ih =>
    intro ks i h
    cases ks with
    | nil => simp at h
    | cons y ys =>
     simp only [List.map_cons, List.cons.injEq] at h
     simp only [Instr.findNow, h.1, Instr.sameNow, if_true]
     by_cases hy : k = y
     ·subst hy; simp
     ·have hb : (k == y) = false := by simpa using hy
      rw [hb]
      simp only [ih ys (i + 1) h.2, List.idxOf_cons, show (y == k) = false by simpa using fun e : y = k => hy e.symm]
      simp only [cond_false, List.getElem?_cons_succ]
      congr 1
      cases es[List.idxOf k ys]? with
      | none => rfl
      | some e => simp only [Option.map_some]; congr 2; omega
  simp [Instr.findKey, run_underlying hk, key es ks 0 h]
 same := fun k => same_int 10000 q k
end
end Go.Proofs.YtlmjciajpjdilaaGreat
