/- Contract of noding.Split. -/
import Derived.Test.YtlmjciajpjdilaaTLists
import Derived.Test.YtlmjciajpjdilaaTRel2
namespace Go.Proofs.Ytlmjciajpjdilaa
open Go.RowKit Go.Proofs.YtlmjciajpjdilaaW.PrintLast
set_option linter.unusedVariables false
set_option linter.unusedSimpArgs false

theorem ends2_snoc (u : Sgs) (k : Nat) (h : k < u.length) : ends2 (u.take (k + 1)) = ends2 (u.take k) ++ [(sgD u k).1, (sgD u k).2] := by
  unfold ends2
  rw [take_snoc u k ((0, 0), (0, 0)) h, List.flatMap_append]; rfl
theorem ends2_len (u : Sgs) : (ends2 u).length = 2 * u.length := by
  unfold ends2
  induction u with
  | nil => rfl
  | cons x xs ih => rw [List.flatMap_cons, List.length_append, ih]; simp; omega
def cutSt (es : Pts) (s : Sg) (acc : Sgs) (j : Nat) : Sgs × Pt := (es.take j).foldl (cutsF s) (acc, s.1)
theorem cutSt_snoc (es : Pts) (s : Sg) (acc : Sgs) (j : Nat) (h : j < es.length) : cutSt es s acc (j + 1) = cutsF s (cutSt es s acc j) (ptD es j) := by
  unfold cutSt
  rw [take_snoc es j (0, 0) h, List.foldl_append]; rfl
theorem cutSt_in {es : Pts} {s : Sg} {acc : Sgs} {j : Nat} (h : j < es.length) (hw : withinB (ptD es j) s.1 s.2 = true) : cutSt es s acc (j + 1) = ((cutSt es s acc j).1 ++ [((cutSt es s acc j).2, ptD es j)], ptD es j) := by
  rw [cutSt_snoc es s acc j h]; unfold cutsF; rw [if_pos hw]
theorem cutSt_out {es : Pts} {s : Sg} {acc : Sgs} {j : Nat} (h : j < es.length) (hw : withinB (ptD es j) s.1 s.2 = false) : cutSt es s acc (j + 1) = cutSt es s acc j := by
  rw [cutSt_snoc es s acc j h]; unfold cutsF; rw [if_neg (by rw [hw]; decide)]
theorem cutSt_len (es : Pts) (s : Sg) (acc : Sgs) : ∀ j, (cutSt es s acc j).1.length ≤ acc.length + j
  | 0 => by simp [cutSt]
  | j + 1 => by
    have ih := cutSt_len es s acc j
    by_cases h : j < es.length
    · rw [cutSt_snoc es s acc j h]; unfold cutsF
      split <;> simp <;> omega
    · have : cutSt es s acc (j + 1) = cutSt es s acc j := by unfold cutSt; rw [List.take_of_length_le (by omega), List.take_of_length_le (by omega)]
      rw [this]; omega
def partsZ (es : Pts) (l : Sgs) : Sgs := l.foldl (fun acc s => cutsZ es s acc) []
theorem cutsZ_eq (es : Pts) (s : Sg) (acc : Sgs) : cutsZ es s acc = (cutSt es s acc es.length).1 ++ [((cutSt es s acc es.length).2, s.2)] := by
  unfold cutsZ cutSt; rw [List.take_length]
theorem parts_snoc (es : Pts) (l : Sgs) (k : Nat) (h : k < l.length) : partsZ es (l.take (k + 1)) = cutsZ es (sgD l k) (partsZ es (l.take k)) := by
  unfold partsZ
  rw [take_snoc l k ((0, 0), (0, 0)) h, List.foldl_append]; rfl
theorem parts_len (es : Pts) (l : Sgs) : ∀ k, (partsZ es (l.take k)).length ≤ k * (es.length + 1)
  | 0 => by simp [partsZ]
  | k + 1 => by
    have ih := parts_len es l k
    rw [Nat.add_mul, Nat.one_mul]
    by_cases h : k < l.length
    · rw [parts_snoc es l k h, cutsZ_eq, List.length_append]
      have := cutSt_len es (sgD l k) (partsZ es (l.take k)) es.length
      simp; omega
    · rw [List.take_of_length_le (by omega), ← List.take_of_length_le (show l.length ≤ k by omega)]; omega
theorem split_eq (l : Sgs) : splitZ l = sortZ (partsZ (endsZ l) (canonZ l)) := rfl
theorem parts_le {a b n : Nat} (h1 : a ≤ 600) (h2 : b ≤ 1200) (h3 : n ≤ a * (b + 1)) : n ≤ 720600 := Nat.le_trans h3 (Nat.mul_le_mul h1 (show b + 1 ≤ 1201 by omega))
theorem ends_len (l : Sgs) : (endsZ l).length ≤ 2 * l.length := by
  unfold endsZ
  have h1 := compact_len (sortG lessB (ends2 (uniqZ l)))
  have h2 := sortG_len (less := lessB) (ends2 (uniqZ l))
  have h3 := ends2_len (uniqZ l)
  have h4 := uniq_len l
  omega
set_option maxHeartbeats 2000000 in
theorem noding_Split {ok : Nat → Prop} (l : Sgs) (A : Option Addr) (n c : Nat) (w : World) (hr : Row Ty.sg ok w A l) (hn : n = l.length) (hlen : l.length ≤ 600) :
    Calls Try.prog 35 #[.slice A n c] w fun e w' => ∃ v, e = .returned v ∧ Own1 Ty.sg 27 w.heap.size w' v (splitZ l) ∧ Below w.heap.size w w' := by
  subst hn
  have HR := Lib.hid hr
  clear hr
  have hel := ends_len l
  have hul := uniq_len l
  have hcl := canon_le l
  have CU := Lib.hid (fun W h => noding_Unique (ok := ok) l A l.length c W h rfl (by omega))
  have CC := Lib.hid (fun W h => noding_canon (ok := ok) l A l.length c W h rfl (by omega))
  have HSP := Lib.hid (split_eq l)
  have HES : Hid (endsZ l = compactZ (sortG lessB (ends2 (uniqZ l)))) := rfl
  generalize splitZ l = res at *
  generalize endsZ l = es at *
  generalize uniqZ l = u at *
  generalize canonZ l = cl at *
  go_enter Try.func35, Try.ntmps35
  go_wp2_with fail
  refine Calls.mono (CU.out _ HR.out) ?_
  rintro e w1 ⟨v, rfl, ho, hb1⟩
  obtain ⟨A1, c1, rfl, hl1, hr1⟩ := ho.reads
  have HU := Lib.hid hr1
  have HB1 := Lib.hid hb1
  clear ho hr1 hb1
  go_wp2
  go_loopw [3, 15] (fun v i wr => ∃ k : Nat, k ≤ u.length ∧ i = .int .i64 k ∧ Hid (Below w1.heap.size w1 wr) ∧ Hid (Own1 Ty.pt 25 w1.heap.size wr v (ends2 (u.take k)))) (fun _ i _ => u.length - (intOf i).toNat)
  case atStart => exact ⟨0, Nat.zero_le _, rfl, Below.refl _ _, OwnR.nil _ _ _ _ _⟩
  case round =>
    obtain ⟨k, hk, rfl, HB, HO⟩ := hrel
    by_cases hlt : k < u.length
    · have HUr := Lib.hid (HU.out.below HB.out)
      obtain ⟨ad, rfl, hx0, hx1, hx2, hx3⟩ := HUr.out.sg_at k hlt
      have HS := Lib.hid (ends2_snoc u k hlt)
      have HL : Hid (((ends2 (u.take k)).length + 2) * 16 ≤ 140737488355328) := by
        show _ ≤ _
        rw [ends2_len, List.length_take]; omega
      have hsz := HB.out.size
      obtain ⟨s, hs⟩ : ∃ s, s = sgD u k := ⟨_, rfl⟩
      rw [← hs] at hx0 hx1 hx2 hx3 HS
      clear hs HUr
      have HRL : Hid (∀ (W : World) (M : Nat → Prop), ¬ M W.heap.size → Row Ty.pt (fun k => ¬ M k) (W.alloc (.cells #[.int .i64 s.1.1, .int .i64 s.1.2, .int .i64 s.2.1, .int .i64 s.2.2] 25)) (some ⟨W.heap.size, 0, none⟩) [s.1, s.2]) := fun W M hM => Row.pt_lit W [s.1, s.2] _ _ hM (by simp)
      go_wp2_with (at_builtin; refine app_row Ty.pt (W := (wr.alloc (.cells #[.int .i64 s.1.1, .int .i64 s.1.2, .int .i64 s.2.1, .int .i64 s.2.2] 27)).alloc (.cells #[.int .i64 s.1.1, .int .i64 s.1.2, .int .i64 s.2.1, .int .i64 s.2.2] 25)) w1.heap.size rfl _ _ 36 25 _ 16 rfl Try.underlying36 infoPt rfl (by decide) _ (ends2 (u.take k)) [s.1, s.2] _ 2 2 _ rfl (by simp; rfl) rfl (HRL.out _ _ (fun hm => absurd (OwnR.lt HO.out _ hm).2 (by first | (simp; done) | (simp; omega)))) (Own1.below HO.out (by repeat (first | exact Below.refl _ _ | apply below_alloc | apply below_drewN | apply below_drew | (refine below_set2 ?_ ?_; (first | (simp; done) | (simp; omega)))))) (by simp; omega) HL.out ?_; intro v1 w4 HO1 hg1 hat1)
      have BZ : Hid (Below w1.heap.size w1 w4) := below_own (by repeat (first | exact Below.refl _ _ | apply below_alloc | apply below_drewN | apply below_drew | (refine below_set2 ?_ ?_; (first | (simp; done) | (simp; omega))) | (refine below_step ?_ HB.out))) (World.grownBy.trans (World.grownBy_alloc _ _ _) (World.grownBy.trans (World.grownBy_alloc _ _ _) hg1)) (fun b e => (OwnR.lt HO.out b e).1)
      have HO4 := Lib.hid (Own1.of HO1)
      clear HO1 hg1 hat1
      go_wp2
      go_roundw
      case rel => exact ⟨k + 1, by omega, by go_num, BZ, by rw [HS.out]; exact HO4.out⟩
      case measure => simp [intOf]; omega
    · obtain rfl : k = u.length := by omega
      rw [List.take_length] at HO
      have hE2 := Nat.le_of_eq (ends2_len u)
      obtain ⟨A2, c2, rfl, hl2, hr2⟩ := HO.out.reads
      clear hr2
      go_wp2_with fail
      refine (SortFunc_pt A2 _ c2 (by omega) HO.out).mono ?_
      rintro e w2 ⟨rfl, ho2, hk2⟩
      have HO2 := Lib.hid ho2
      have HB2 : Hid (Below w1.heap.size w1 w2) := below_kept HB.out hk2 (fun b e => (OwnR.lt HO.out b e).1)
      clear ho2 hk2
      go_wp2_with fail
      refine (Compact_pt _ _ _ w2 HO2.out).mono ?_
      rintro e w3 ⟨v3, rfl, ho3, hk3⟩
      have HB3 : Hid (Below w1.heap.size w1 w3) := below_kept HB2.out hk3 (fun b e => (OwnR.lt HO2.out b e).1)
      rw [← HES.out] at ho3
      obtain ⟨A3, c3, rfl, hl3, hr3⟩ := ho3.reads
      have HE := Lib.hid hr3
      have HBw3 : Hid (Below w.heap.size w w3) := below_step HB1.out HB3.out
      clear ho3 hk3 hr3 HO HO2 HB2 HB HB3 HU HES
      go_wp2_with fail
      refine Calls.mono (CC.out _ (HR.out.below HBw3.out)) ?_
      rintro e w5 ⟨v5, rfl, ho5, hb5⟩
      obtain ⟨A5, c5, rfl, hl5, hr5⟩ := ho5.reads
      have HC := Lib.hid hr5
      have HE5 := Lib.hid (HE.out.below hb5)
      have HB5 : Hid (Below w.heap.size w w5) := below_step HBw3.out hb5
      clear ho5 hr5 hb5 HE HBw3 HB1 CU CC HR
      go_wp2
      go_loopw [6, 34] (fun v i wr => ∃ k : Nat, k ≤ cl.length ∧ i = .int .i64 k ∧ Hid (Below w5.heap.size w5 wr) ∧ Hid (Own1 Ty.sg 27 w5.heap.size wr v (partsZ es (cl.take k)))) (fun _ i _ => cl.length - (intOf i).toNat)
      case atStart => exact ⟨0, Nat.zero_le _, rfl, Below.refl _ _, OwnR.nil _ _ _ _ _⟩
      case round =>
        obtain ⟨k, hk, rfl, HB, HO⟩ := hrel
        by_cases hlt : k < cl.length
        · have HCr := Lib.hid (HC.out.below HB.out)
          obtain ⟨ad, rfl, hx0, hx1, hx2, hx3⟩ := HCr.out.sg_at k hlt
          have HS := Lib.hid ((parts_snoc es cl k hlt).trans (cutsZ_eq _ _ _))
          have hpl := parts_len es cl k
          have hpb := parts_le (n := (partsZ es (cl.take k)).length) (a := cl.length) (b := es.length) (by omega) (by omega) (Nat.le_trans hpl (Nat.mul_le_mul_right _ hk))
          obtain ⟨s, hs⟩ : ∃ s, s = sgD cl k := ⟨_, rfl⟩
          rw [← hs] at hx0 hx1 hx2 hx3 HS
          generalize partsZ es (cl.take k) = acc at *
          have hcl2 := cutSt_len es s acc
          have HCL := Lib.hid hcl2
          clear hs HCr hcl2 hpl
          obtain ⟨wo, rfl⟩ : ∃ wo : World, wo = wr := ⟨_, rfl⟩
          have HAo : ((wo.alloc (.cells #[.int .i64 s.1.1, .int .i64 s.1.2, .int .i64 s.2.1, .int .i64 s.2.2] 27)).alloc (.cells #[.int .i64 s.1.1, .int .i64 s.1.2] 25)).heap[wo.heap.size]? = some (.cells #[.int .i64 s.1.1, .int .i64 s.1.2, .int .i64 s.2.1, .int .i64 s.2.2] 27 (0, 0)) := (two_alloc wo _ _).1
          have HFo : ((wo.alloc (.cells #[.int .i64 s.1.1, .int .i64 s.1.2, .int .i64 s.2.1, .int .i64 s.2.2] 27)).alloc (.cells #[.int .i64 s.1.1, .int .i64 s.1.2] 25)).heap[wo.heap.size + 1]? = some (.cells #[.int .i64 s.1.1, .int .i64 s.1.2] 25 (0, 0)) := (two_alloc wo _ _).2
          go_wp2
          have hzo : w5.heap.size ≤ wo.heap.size := HB.out.size
          have hvb0 : ∀ b, u6.ownBlock = some b → b ≠ wo.heap.size ∧ b ≠ wo.heap.size + 1 := fun b e => by have := (OwnR.lt HO.out b e).2; omega
          go_loopw [6, 42] (fun v i wi => ∃ j : Nat, j ≤ es.length ∧ i = .int .i64 j ∧ wi.heap[wo.heap.size]? = some (.cells #[.int .i64 s.1.1, .int .i64 s.1.2, .int .i64 s.2.1, .int .i64 s.2.2] 27 (0, 0)) ∧ wi.heap[wo.heap.size + 1]? = some (.cells #[.int .i64 (cutSt es s acc j).2.1, .int .i64 (cutSt es s acc j).2.2] 25 (0, 0)) ∧
            Hid (Below w5.heap.size w5 wi) ∧ Hid (Own1 Ty.sg 27 w5.heap.size wi v (cutSt es s acc j).1) ∧ Hid (∀ b, v.ownBlock = some b → b ≠ wo.heap.size ∧ b ≠ wo.heap.size + 1)) (fun _ i _ => es.length - (intOf i).toNat)
          case atStart => exact ⟨0, Nat.zero_le _, rfl, HAo, HFo, (by repeat (first | exact Below.refl _ _ | apply below_alloc | apply below_drewN | apply below_drew | (refine below_set2 ?_ ?_; (first | (simp; done) | (simp; omega))) | (refine below_step ?_ HB.out))), Own1.below HO.out (by repeat (first | exact Below.refl _ _ | apply below_alloc | apply below_drewN | apply below_drew | (refine below_set2 ?_ ?_; (first | (simp; done) | (simp; omega))))), hvb0⟩
          case round =>
            obtain ⟨j, hj, rfl, HA, HF, HBi, HOi, HVB⟩ := hrel
            clear HAo HFo HO HB hvb0 hx0 hx1 hx2 hx3
            have hszi := lt_of_block HF
            have hszj : wo.heap.size < wr.heap.size := by omega
            have hs0 := blk_cell HA 0 rfl
            have hs1 := blk_cell HA 1 rfl
            have hs2 := blk_cell HA 2 rfl
            have hs3 := blk_cell HA 3 rfl
            have hf0 := blk_cell HF 0 rfl
            have hf1 := blk_cell HF 1 rfl
            by_cases hjt : j < es.length
            · have HEr := Lib.hid (HE5.out.below HBi.out)
              obtain ⟨bd, rfl, hp0, hp1⟩ := HEr.out.pt_at j hjt
              have HLi : Hid (((cutSt es s acc j).1.length + 1) * 32 ≤ 140737488355328) := by
                have := HCL.out j
                show _ ≤ _
                omega
              have HIN := Lib.hid (fun h => cutSt_in (es := es) (s := s) (acc := acc) hjt h)
              have HOUT := Lib.hid (fun h => cutSt_out (es := es) (s := s) (acc := acc) hjt h)
              generalize cutSt es s acc j = st at *
              generalize ptD es j = q at *
              have HA1 := blk_alloc HA (.cells #[.int .i64 q.1, .int .i64 q.2] 25)
              have HF1 := blk_alloc HF (.cells #[.int .i64 q.1, .int .i64 q.2] 25)
              have HQ1 := heap_alloc_new wr (.cells #[.int .i64 q.1, .int .i64 q.2] 25)
              clear HEr
              cases hw : withinB q s.1 s.2
              · have HW := Lib.hid hw
                clear hw
                go_wp2_with fail
                refine (seg_Within _ _ _ _).mono ?_
                rintro e w6 ⟨rfl, hb6⟩
                rw [HW.out]
                have HA6 := blk_below HA1 hb6
                have HF6 := blk_below HF1 hb6
                clear hs0 hs1 hs2 hs3 hf0 hf1 hp0 hp1 HA1 HF1 HQ1
                go_wp2
                go_roundw
                case rel => exact ⟨j + 1, by omega, by go_num, HA6, by rw [HOUT.out HW.out]; exact HF6, (by repeat (first | exact Below.refl _ _ | apply below_alloc | apply below_drewN | apply below_drew | (refine below_set2 ?_ ?_; (first | (simp; done) | (simp; omega))) | (refine below_step ?_ hb6) | (refine below_step ?_ HBi.out))), by rw [HOUT.out HW.out]; exact Own1.below HOi.out (by repeat (first | exact Below.refl _ _ | apply below_alloc | apply below_drewN | apply below_drew | (refine below_set2 ?_ ?_; (first | (simp; done) | (simp; omega))) | (refine below_step ?_ hb6))), HVB⟩
                case measure => simp [intOf]; omega
              · have HW := Lib.hid hw
                clear hw
                go_wp2_with fail
                refine (seg_Within _ _ _ _).mono ?_
                rintro e w6 ⟨rfl, hb6⟩
                rw [HW.out]
                have HA6 := blk_below HA1 hb6
                have HF6 := blk_below HF1 hb6
                have HQ6 := blk_below HQ1 hb6
                have HB6 : Hid (Below w5.heap.size w5 w6) := (by repeat (first | exact Below.refl _ _ | apply below_alloc | apply below_drewN | apply below_drew | (refine below_set2 ?_ ?_; (first | (simp; done) | (simp; omega))) | (refine below_step ?_ hb6) | (refine below_step ?_ HBi.out)))
                have HVW : Hid (∀ b, u6.ownBlock = some b → b < wr.heap.size) := fun b e => (OwnR.lt HOi.out b e).2
                have HO6 : Hid (Own1 Ty.sg 27 w5.heap.size w6 _ st.1) := Own1.below HOi.out (by repeat (first | exact Below.refl _ _ | apply below_alloc | apply below_drewN | apply below_drew | (refine below_set2 ?_ ?_; (first | (simp; done) | (simp; omega))) | (refine below_step ?_ hb6)))
                have hz6 := lt_of_block HQ6
                have hs6 := HB6.out.size
                clear hs0 hs1 hs2 hs3 hf0 hf1 hp0 hp1 HA1 HF1 HQ1 HA HF HOi hb6
                have hf0 := blk_cell HF6 0 rfl
                have hf1 := blk_cell HF6 1 rfl
                have hq0 := blk_cell HQ6 0 rfl
                have hq1 := blk_cell HQ6 1 rfl
                go_wp2_with (at_builtin; refine app_one Ty.sg (W := w6) w5.heap.size rfl _ _ 22 27 _ 32 rfl Try.underlying22 infoSg rfl (by decide) u6 st.1 (st.2, q) _ _ rfl rfl rfl rfl HO6.out (by omega) HLi.out ?_; intro v1 w7 HO1 hg1 hat1; have hq7 := (hg1.block _ hz6 (fun e => absurd (HVW.out _ e.symm) (Nat.lt_irrefl _))).trans HQ6; have hc7 := blk_cell hq7 0 rfl; have hc8 := blk_cell hq7 1 rfl; have hf7 := (hg1.block _ (lt_of_block HF6) (fun e => (HVB.out _ e.symm).2 rfl)).trans HF6; have hfr0 := blk_free hf7 0; have hfr1 := blk_free hf7 1; have hd0 := blk_cell hf7 0 rfl; have hd1 := blk_cell hf7 1 rfl)
                have HA7 := (hg1.block _ (lt_of_block HA6) (fun e => (HVB.out _ e.symm).1 rfl)).trans HA6
                have HO7 := Lib.hid (Own1.of HO1)
                have HB7 : Hid (Below w5.heap.size w5 w7) := below_own HB6.out hg1 (fun b e => (OwnR.lt HO6.out b e).1)
                have HVB7 : Hid (∀ b, v1.ownBlock = some b → b ≠ wo.heap.size ∧ b ≠ wo.heap.size + 1) := fun b e => by
                  rcases hat1 with h | ⟨b', h, hle⟩
                  · exact HVB.out b (h ▸ e)
                  · have : b' = b := by rw [h] at e; exact Option.some.inj e
                    omega
                clear HO1 hg1 hat1 HF6 HQ6 HA6 hq7 hf0 hf1 hq0 hq1 HB6 HO6
                have hne : ¬ wo.heap.size = wo.heap.size + 1 := by omega
                go_wp2
                go_roundw
                case rel => exact ⟨j + 1, by omega, by go_num, blk_far (blk_far HA7 hne _) hne _, by rw [HIN.out HW.out]; exact blk_set (blk_set hf7 _) _, below_set2 (by show _ ≤ wo.heap.size + 1; omega) (below_set2 (by show _ ≤ wo.heap.size + 1; omega) HB7.out), by rw [HIN.out HW.out]; exact HO7.out.flat_kept (S := fun b => b = wo.heap.size + 1) sg_flat (kept_set rfl (kept_set rfl (kept_refl _ _))) (fun b e => (HVB7.out b e).2), HVB7⟩
                case measure => simp [intOf]; omega
            · obtain rfl : j = es.length := by omega
              have HLi : Hid (((cutSt es s acc es.length).1.length + 1) * 32 ≤ 140737488355328) := by
                have := HCL.out es.length
                show _ ≤ _
                omega
              have HS2 : Hid (partsZ es (cl.take (k + 1)) = (cutSt es s acc es.length).1 ++ [((cutSt es s acc es.length).2, s.2)]) := HS.out
              generalize cutSt es s acc es.length = st at *
              have hs9 := HBi.out.size
              go_wp2_with (at_builtin; refine app_one Ty.sg (W := wr) w5.heap.size rfl _ _ 22 27 _ 32 rfl Try.underlying22 infoSg rfl (by decide) u6 st.1 (st.2, s.2) _ _ rfl rfl rfl rfl HOi.out (by omega) HLi.out ?_; intro v1 w7 HO1 hg1 hat1)
              have HO7 := Lib.hid (Own1.of HO1)
              have HB7 : Hid (Below w5.heap.size w5 w7) := below_own HBi.out hg1 (fun b e => (OwnR.lt HOi.out b e).1)
              clear HO1 hg1 hat1
              go_wp2
              go_roundw
              case rel => exact ⟨k + 1, by omega, by go_num, HB7, by rw [HS2.out]; exact HO7.out⟩
              case measure => simp [intOf]; omega
        · obtain rfl : k = cl.length := by omega
          have hpl := parts_len es cl cl.length
          rw [List.take_length] at HO hpl
          have hpb := parts_le (n := (partsZ es cl).length) (a := cl.length) (b := es.length) (by omega) (by omega) hpl
          obtain ⟨A7, c7, rfl, hl7, hr7⟩ := HO.out.reads
          have HR7 := Lib.hid hr7
          clear hr7 hpl
          go_wp2_with fail
          refine (noding_Sort (partsZ es cl) A7 _ c7 _ HR7.out rfl (by omega)).mono ?_
          rintro e w8 ⟨v8, rfl, ho8, hb8⟩
          have HO8 := Lib.hid ho8
          have HBz : Hid (Below w.heap.size w w8) := below_step (below_step HB5.out HB.out) hb8
          have hle := (below_step HB5.out HB.out).size
          rw [← HSP.out] at HO8
          clear ho8 hb8
          go_wp2
          go_ret
          exact ⟨_, rfl, Own1.base HO8.out hle, HBz.out⟩
end Go.Proofs.Ytlmjciajpjdilaa
