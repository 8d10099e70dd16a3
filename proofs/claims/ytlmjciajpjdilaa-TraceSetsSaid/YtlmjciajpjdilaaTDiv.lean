/- Contract of trace.divided. -/
import Derived.Test.YtlmjciajpjdilaaTCan2
import Derived.Test.YtlmjciajpjdilaaTLoops
namespace Go.Proofs.Ytlmjciajpjdilaa
open Go.RowKit Go.Proofs.YtlmjciajpjdilaaW.PrintLast
set_option linter.unusedVariables false
set_option linter.unusedSimpArgs false

theorem OwnR.regrow {α : Type} {T : Ty α} {e : TypeId} {base : Nat} {M M' : Nat → Prop} {W w1 : World} {v : Value} {xs : List α} {row : Option Nat} (h : OwnR T e base M W v xs) (hg : W.grownBy w1 row) (hM : ∀ b, row = some b → M b) (hv : ∀ b, v.ownBlock = some b → row ≠ some b)
    (hM' : ∀ k, M' k → M k ∨ W.heap.size ≤ k) (hv' : ∀ k, v.ownBlock = some k → M' k) : OwnR T e base M' w1 v xs := by
  have h1 : OwnR T e base (fun k => M k ∨ W.heap.size ≤ k) W v xs := h.remut (fun k hk hm => hm.elim id (fun h => by omega)) (fun k hk => .inl (h.1 k hk))
  have h2 := OwnR.kept h1 (kept_grown (S := fun k => row = some k) hg (fun b e => e)) (fun b hb => .inl (hM b hb)) (fun b e hb => hv b e hb)
  exact h2.remut (fun k _ hm => hM' k hm) hv'
theorem OwnR.cut {α : Type} {T : Ty α} {e : TypeId} {base g n c : Nat} {M : Nat → Prop} {w : World} {xs : List α} (h : OwnR T e base M w (.slice (some ⟨g, 0, none⟩) n c) xs) (m : Nat) (hm : m ≤ xs.length) : OwnR T e base M w (.slice (some ⟨g, 0, none⟩) m c) (xs.take m) := by
  obtain ⟨h0, inner, ho, hr⟩ := h
  obtain ⟨hlen, ho⟩ := ho
  rcases ho with ⟨h, _⟩ | ⟨g', cap, cur, hv, hb, hh, h1, h2, h3, h4⟩
  · cases h
  injection hv with hv hvn hvc; injection hv with hv; injection hv with hv
  subst hv hvc hvn
  have hti : (xs.take m).length = m := by rw [List.length_take]; omega
  refine ⟨h0, inner.take (m * T.sz), ⟨?_, .inr ⟨g, c, cur, by rw [hti], hb, hh, by rw [hti]; omega, h2, h3, ?_⟩⟩, hr.take m⟩
  · rw [List.length_take, hlen, hti, Nat.min_eq_left (Nat.mul_le_mul_right _ hm)]
  · rw [hti, ← h4, List.take_take, Nat.min_eq_left (Nat.mul_le_mul_right _ hm)]
def divSt (ring : Pts) (acc : Rgs) (j : Nat) : Rgs × Pts := (ring.take j).foldl cutF (acc, [])
theorem divSt_snoc (ring : Pts) (acc : Rgs) (j : Nat) (h : j < ring.length) : divSt ring acc (j + 1) = cutF (divSt ring acc j) (ptD ring j) := by
  unfold divSt
  rw [take_snoc ring j (0, 0) h, List.foldl_append]; rfl
theorem cutF_in {st : Rgs × Pts} {p : Pt} (h : p ∈ st.2) : cutF st p = (st.1 ++ [canonR (st.2.drop (st.2.idxOf p))], st.2.take (st.2.idxOf p) ++ [p]) := by unfold cutF; rw [if_pos h]
theorem cutF_out {st : Rgs × Pts} {p : Pt} (h : p ∉ st.2) : cutF st p = (st.1, st.2 ++ [p]) := by unfold cutF; rw [if_neg h]
theorem cutF_len (st : Rgs × Pts) (p : Pt) : (cutF st p).1.length ≤ st.1.length + 1 ∧ (cutF st p).2.length ≤ st.2.length + 1 ∧ 0 < (cutF st p).2.length := by
  by_cases h : p ∈ st.2
  · rw [cutF_in h]; simp; omega
  · rw [cutF_out h]; simp
theorem divSt_len (ring : Pts) (acc : Rgs) : ∀ j, j ≤ ring.length → (divSt ring acc j).1.length ≤ acc.length + j ∧ (divSt ring acc j).2.length ≤ j ∧ (0 < j → 0 < (divSt ring acc j).2.length)
  | 0, _ => by simp [divSt]
  | j + 1, h => by
    have ih := divSt_len ring acc j (by omega)
    rw [divSt_snoc ring acc j (by omega)]
    have := cutF_len (divSt ring acc j) (ptD ring j)
    exact ⟨by omega, by omega, fun _ => this.2.2⟩
theorem divR_eq (acc : Rgs) (r : Pts) : divR acc r = (divSt r acc r.length).1 ++ [canonR (divSt r acc r.length).2] := by
  unfold divR divSt; rw [List.take_length]
def divTo (rs : Rgs) (k : Nat) : Rgs := (rs.take k).foldl divR []
theorem divTo_snoc (rs : Rgs) (k : Nat) (h : k < rs.length) : divTo rs (k + 1) = divR (divTo rs k) (rgD rs k) := by
  unfold divTo
  rw [take_snoc rs k [] h, List.foldl_append]; rfl
theorem divTo_len (rs : Rgs) (hb : ∀ r ∈ rs, r.length ≤ 1000000) : ∀ k, k ≤ rs.length → (divTo rs k).length ≤ k * 1000001
  | 0, _ => by simp [divTo]
  | k + 1, h => by
    have ih := divTo_len rs hb k (by omega)
    rw [divTo_snoc rs k (by omega), divR_eq, List.length_append]
    have h1 := divSt_len (rgD rs k) (divTo rs k) (rgD rs k).length (Nat.le_refl _)
    have h2 : (rgD rs k).length ≤ 1000000 := hb _ (by simp [rgD, show k < rs.length by omega])
    rw [Nat.add_mul]; simp; omega
theorem beq_uniq {α : Type} (i1 i2 : BEq α) (h1 : @LawfulBEq α i1) (h2 : @LawfulBEq α i2) : i1 = i2 := by
  have hf : ∀ a b, @BEq.beq α i1 a b = @BEq.beq α i2 a b := fun a b => by
    rw [Bool.eq_iff_iff, @beq_iff_eq α i1 h1 a b, @beq_iff_eq α i2 h2 a b]
  cases i1; cases i2
  congr
  funext a b
  exact hf a b
theorem idxOf_inst (p : Pt) (l : Pts) : @List.idxOf Pt instBEqOfDecidableEq p l = @List.idxOf Pt instBEqProd p l := by
  rw [beq_uniq (α := Pt) instBEqOfDecidableEq instBEqProd inferInstance inferInstance]
theorem ixZ_at' {l : Pts} {p : Pt} (h : p ∈ l) : ixZ l p = (l.idxOf p : Nat) := by
  unfold ixZ
  rw [if_pos h, idxOf_inst]
set_option maxRecDepth 100000 in
set_option maxHeartbeats 4000000 in
theorem trace_divided {ok : Nat → Prop} (rs : Rgs) (A : Option Addr) (n c : Nat) (w : World) (hr : Row Ty.ring ok w A rs) (hn : n = rs.length) (hne : ∀ r ∈ rs, 0 < r.length) (hb : ∀ r ∈ rs, r.length ≤ 1000000) (hlen : rs.length ≤ 1000000) :
    Calls Try.prog 11 #[.slice A n c] w fun e w' => ∃ v, e = .returned v ∧ Own1 Ty.ring 36 w.heap.size w' v (dividedZ rs) ∧ Below w.heap.size w w' := by
  subst hn
  have HR := Lib.hid hr
  have HNE := Lib.hid hne
  have HBD := Lib.hid hb
  clear hr hne hb
  have HDZ : Hid (dividedZ rs = divTo rs rs.length) := by show _ = _; unfold divTo dividedZ; rw [List.take_length]
  generalize dividedZ rs = res at *
  go_enter Try.func11, Try.ntmps11
  go_wp2
  go_loopw [3, 12] (fun v i wr => ∃ k : Nat, k ≤ rs.length ∧ i = .int .i64 k ∧ Hid (Below w.heap.size w wr) ∧ Hid (Own1 Ty.ring 36 w.heap.size wr v (divTo rs k))) (fun _ i _ => rs.length - (intOf i).toNat)
  case atStart => exact ⟨0, Nat.zero_le _, rfl, Below.refl _ _, OwnR.nil _ _ _ _ _⟩
  case round =>
    obtain ⟨k, hk, rfl, HB, HO⟩ := hrel
    by_cases hlt : k < rs.length
    · obtain ⟨ad, A0, c0, rfl, hx00, hl0, hrow00⟩ := HR.out.ring_at k hlt
      have hx0 := cell_below HB.out hx00
      have hrow0 := hrow00.bnd.mono (ok' := fun k => k < w.heap.size) (fun k hk => hk.2)
      clear hx00 hrow00
      have HSN := Lib.hid ((divTo_snoc rs k hlt).trans (divR_eq _ _))
      have hmem : rgD rs k ∈ rs := by simp [rgD, hlt]
      have hrb := HBD.out _ hmem
      have hrp := HNE.out _ hmem
      have hdl := divTo_len rs HBD.out k hk
      obtain ⟨r, hre⟩ : ∃ r, r = rgD rs k := ⟨_, rfl⟩
      rw [← hre] at hx0 hl0 hrow0 HSN hrb hrp
      generalize divTo rs k = acc at *
      have hsl := divSt_len r acc
      have HSL := Lib.hid hsl
      have hacc : acc.length ≤ 1000001000000 := by omega
      have HRO := Lib.hid hrow0
      clear hmem hre hsl hrow0 hdl
      obtain ⟨wo, rfl⟩ : ∃ wo : World, wo = wr := ⟨_, rfl⟩
      go_wp2
      go_loopw [3, 6, 18] (fun ov pv i wi => ∃ j : Nat, j ≤ r.length ∧ i = .int .i64 j ∧ Hid (Below w.heap.size w wi) ∧ Hid (OwnR Ty.ring 36 w.heap.size (fun i => ov.ownBlock = some i ∨ pv.ownBlock = some i) wi ov (divSt r acc j).1) ∧ Hid (Own1 Ty.pt 25 w.heap.size wi pv (divSt r acc j).2)) (fun _ _ i _ => r.length - (intOf i).toNat)
      case atStart => exact ⟨0, Nat.zero_le _, rfl, HB.out, OwnR.remut HO.out (fun k _ h => h.elim id (fun h => by cases h)) (fun k h => .inl h), OwnR.nil _ _ _ _ _⟩
      case round =>
        obtain ⟨j, hj, rfl, HBi, HOi, HPi⟩ := hrel
        clear HO HB hx0
        have hsw := HBi.out.size
        by_cases hjt : j < r.length
        · have HRi := Lib.hid (HRO.out.below HBi.out)
          obtain ⟨bd, rfl, hp0, hp1⟩ := HRi.out.pt_at j hjt
          have HDS := Lib.hid (divSt_snoc r acc j hjt)
          obtain ⟨hs1, hs2, hs3⟩ := HSL.out j hj
          obtain ⟨q, hq⟩ : ∃ q, q = divSt r acc j := ⟨_, rfl⟩
          rw [← hq] at HDS hs1 hs2 HOi HPi
          clear hq hs3
          obtain ⟨out, path⟩ := q
          simp only at hs1 hs2 HOi HPi
          obtain ⟨p, hpe⟩ : ∃ p, p = ptD r j := ⟨_, rfl⟩
          rw [← hpe] at hp0 hp1 HDS
          obtain ⟨Ap, cp, rfl, hlp, hrp⟩ := HPi.out.reads
          have HPR := Lib.hid hrp
          have HX := heap_alloc_new wr (.cells #[.int .i64 p.1, .int .i64 p.2] 25)
          clear hpe hrp HRi
          have hovl : ∀ b, u3.ownBlock = some b → b < wr.heap.size := fun b e => (OwnR.lt HOi.out b e).2
          have hpvl : ∀ b, (Value.slice Ap path.length cp).ownBlock = some b → b < wr.heap.size := fun b e => (OwnR.lt HPi.out b e).2
          have HOVL := Lib.hid hovl
          have HPVL := Lib.hid hpvl
          clear hovl hpvl
          go_wp2_with fail
          refine (Index_pt path Ap _ cp p _ (HPR.out.alloc _) rfl).mono ?_
          rintro e w2 ⟨rfl, hb2⟩
          have HX2 := blk_below HX hb2
          have B2 : Hid (Below w.heap.size w w2) := (by repeat (first | exact Below.refl _ _ | apply below_alloc | apply below_drewN | apply below_drew | (refine below_set2 ?_ ?_; (first | (simp; done) | (simp; omega))) | (refine below_step ?_ hb2) | (refine below_step ?_ HBi.out)))
          have HO2 : Hid (OwnR Ty.ring 36 w.heap.size (fun i => u3.ownBlock = some i ∨ (Value.slice Ap path.length cp).ownBlock = some i) w2 u3 out) := OwnR.below HOi.out (by repeat (first | exact Below.refl _ _ | apply below_alloc | apply below_drewN | apply below_drew | (refine below_set2 ?_ ?_; (first | (simp; done) | (simp; omega))) | (refine below_step ?_ hb2)))
          have HP2 : Hid (Own1 Ty.pt 25 w.heap.size w2 (.slice Ap path.length cp) path) := Own1.below HPi.out (by repeat (first | exact Below.refl _ _ | apply below_alloc | apply below_drewN | apply below_drew | (refine below_set2 ?_ ?_; (first | (simp; done) | (simp; omega))) | (refine below_step ?_ hb2)))
          have hz2 := lt_of_block HX2
          clear HX hp0 hp1 HBi HOi HPi HPR hb2
          have hx0 := blk_cell HX2 0 rfl
          have hx1 := blk_cell HX2 1 rfl
          by_cases hm : p ∈ path
          · rw [ixZ_at' hm]
            have hml : path.idxOf p < path.length := List.idxOf_lt_length_of_mem hm
            have HDS2 : Hid (divSt r acc (j + 1) = (out ++ [canonR (path.drop (path.idxOf p))], path.take (path.idxOf p) ++ [p])) := HDS.out.trans (cutF_in hm)
            clear HDS hm
            generalize path.idxOf p = m at *
            obtain ⟨g, cx, hv, _⟩ := HP2.out.form (by omega)
            injection hv with hv _ hc'
            subst hv hc'
            obtain ⟨_, _, ev, _, hrp2⟩ := HP2.out.reads
            injection ev with ev1 _ ev3
            subst ev1 ev3
            have hrd := hrp2.drop m
            rw [add_at, Nat.zero_add] at hrd
            have HRD : Hid (Row Ty.pt (fun _ => True) w2 (some ⟨g, m * 2, none⟩) (path.drop m)) := hrd
            have hdl : Hid ((path.drop m).length = path.length - m) := List.length_drop ..
            have hcm : ¬ cp = m := by omega
            have hmc : m ≤ cp := by omega
            have hml2 : m ≤ path.length := by omega
            have hge : (0 : Int) ≤ (m : Int) := by omega
            clear hrp2 hrd
            go_wp2_with fail
            refine (Clone_pt (path.drop m) _ _ _ _ HRD.out hdl.out.symm (by rw [hdl.out]; omega)).mono ?_
            rintro e w3 ⟨v3, rfl, ho3, hb3⟩
            obtain ⟨A3, c3, rfl, hl3, hr3⟩ := ho3.reads
            have HR3 := Lib.hid hr3
            have hl3' : Hid ((path.drop m).length ≤ c3) := hl3
            clear ho3 hr3 hl3 HRD
            go_wp2_with fail
            refine (poly_Canon (path.drop m) A3 _ c3 _ HR3.out (by first | rfl | exact hdl.out.symm) hl3'.out (by rw [hdl.out]; omega) (by rw [hdl.out]; omega)).mono ?_
            rintro e w4 ⟨v4, rfl, ho4, hb4⟩
            have B4 : Hid (Below w.heap.size w w4) := (by repeat (first | exact Below.refl _ _ | apply below_alloc | apply below_drewN | apply below_drew | (refine below_set2 ?_ ?_; (first | (simp; done) | (simp; omega))) | (refine below_step ?_ hb4) | (refine below_step ?_ hb3) | (refine below_step ?_ B2.out)))
            have HO4 : Hid (OwnR Ty.ring 36 w.heap.size (fun i => u3.ownBlock = some i ∨ (Value.slice (some ⟨g, 0, none⟩) path.length cp).ownBlock = some i) w4 u3 out) := OwnR.below (OwnR.below HO2.out hb3) hb4
            have HP4 : Hid (Own1 Ty.pt 25 w.heap.size w4 (.slice (some ⟨g, 0, none⟩) path.length cp) path) := Own1.below (Own1.below HP2.out hb3) hb4
            have HX4 := blk_below (blk_below HX2 hb3) hb4
            have hz3 := hb3.size
            have hz4 := hb4.size
            obtain ⟨A4, c4, rfl, hl4, hr4⟩ := Own1.row_ok pt_flat ho4 (fun i => ¬ (u3.ownBlock = some i ∨ (Value.slice (some ⟨g, 0, none⟩) path.length cp).ownBlock = some i)) (fun b e h => by have h1 := (OwnR.lt ho4 b e).1; rcases h with h | h; (· have := HOVL.out b h; omega); (· have := HPVL.out b h; omega))
            have HR4 := Lib.hid hr4
            generalize canonR (path.drop m) = cr at *
            clear HO2 HP2 HR3 ho4 hr4 hb3 hb4 HX2 hx0 hx1 B2 hl3'
            go_wp2_with (first | (at_builtin; refine app_one Ty.ring (W := w4) w.heap.size rfl _ _ 28 36 _ 24 rfl Try.underlying28 infoRing rfl (by decide) u3 out cr [.slice A4 cr.length c4] _ rfl rfl rfl ⟨A4, c4, rfl, hl4, HR4.out⟩ HO4.out (by omega) (by omega) ?_; intro v5 w5 HO5 hg5 hat5; have hX5 := (hg5.block _ (lt_of_block HX4) (fun e => by have := HOVL.out _ e.symm; omega)).trans HX4; have hx0 := blk_cell hX5 0 rfl; have hx1 := blk_cell hX5 1 rfl; have HP5 := Own1.flat_kept pt_flat HP4.out (kept_grown (S := fun k => u3.ownBlock = some k) hg5 (fun b e => e)) (fun b e h => Own1.apart (Own1.of HO4.out) HP4.out (by decide) h e); have HPc := Lib.hid (OwnR.cut HP5 m hml2); have hz5 := hg5.size; have hlt5 : (path.take m).length ≤ path.length := (by rw [List.length_take]; omega)) | (at_builtin; refine app_one Ty.pt (W := w5) w.heap.size rfl _ _ 36 25 _ 16 rfl Try.underlying36 infoPt rfl (by decide) (.slice (some ⟨g, 0, none⟩) m cp) (path.take m) p _ _ rfl rfl rfl rfl HPc.out (by omega) (by omega) ?_; intro v6 w6 HO6 hg6 hat6))
            have HP6 : Hid (Own1 Ty.pt 25 w.heap.size w6 v6 (path.take m ++ [p])) := Own1.of HO6
            have HO6' : Hid (OwnR Ty.ring 36 w.heap.size (fun i => v5.ownBlock = some i ∨ v6.ownBlock = some i) w6 v5 (out ++ [cr])) := OwnR.regrow HO5 hg6 (fun b e => .inl (.inr e)) (fun b e h => Own1.apart (Own1.of HO5) (show Own1 Ty.pt 25 w.heap.size w5 (.slice (some ⟨g, 0, none⟩) m cp) (path.take m) from HPc.out) (by decide) e h)
              (fun k hk => hk.elim (fun h => .inl (.inr h)) (fun h => by
                rcases hat6 with h1 | ⟨b', h1, hle⟩
                · exact .inl (.inl (.inr (by rw [h1] at h; exact h)))
                · right; rw [h1] at h; have : b' = k := Option.some.inj h; omega)) (fun k hk => .inl hk)
            have B6 : Hid (Below w.heap.size w w6) := below_own (below_own B4.out hg5 (fun b e => (OwnR.lt HO4.out b e).1)) hg6 (fun b e => (OwnR.lt HP4.out b e).1)
            clear HO5 HO6 hg5 hg6 hat5 hat6 HPc HP5 hX5
            go_wp2
            go_roundw
            case rel => exact ⟨j + 1, by omega, by go_num, B6, by rw [HDS2.out]; exact HO6', by rw [HDS2.out]; exact HP6⟩
            case measure => simp [intOf]; omega
          · rw [ixZ_none hm]
            have HDS2 : Hid (divSt r acc (j + 1) = (out, path ++ [p])) := HDS.out.trans (cutF_out hm)
            clear HDS hm
            go_wp2_with (at_builtin; refine app_one Ty.pt (W := w2) w.heap.size rfl _ _ 36 25 _ 16 rfl Try.underlying36 infoPt rfl (by decide) (.slice Ap path.length cp) path p _ _ rfl rfl rfl rfl HP2.out (by omega) (by omega) ?_; intro v1 w3 HO1 hg1 hat1)
            have HP3 : Hid (Own1 Ty.pt 25 w.heap.size w3 v1 (path ++ [p])) := Own1.of HO1
            have HO3 : Hid (OwnR Ty.ring 36 w.heap.size (fun i => u3.ownBlock = some i ∨ v1.ownBlock = some i) w3 u3 out) := OwnR.regrow HO2.out hg1 (fun b e => .inr e) (fun b e h => Own1.apart (Own1.of HO2.out) HP2.out (by decide) e h)
              (fun k hk => hk.elim (fun h => .inl (.inl h)) (fun h => by
                rcases hat1 with h1 | ⟨b', h1, hle⟩
                · exact .inl (.inr (by rw [h1] at h; exact h))
                · right; rw [h1] at h; have : b' = k := Option.some.inj h; omega)) (fun k hk => .inl hk)
            have B3 : Hid (Below w.heap.size w w3) := below_own B2.out hg1 (fun b e => (OwnR.lt HP2.out b e).1)
            clear HO1 hg1 hat1
            go_wp2
            go_roundw
            case rel => exact ⟨j + 1, by omega, by go_num, B3, by rw [HDS2.out]; exact HO3, by rw [HDS2.out]; exact HP3⟩
            case measure => simp [intOf]; omega
        · obtain rfl : j = r.length := by omega
          obtain ⟨hs1, hs2, hs3⟩ := HSL.out r.length (Nat.le_refl _)
          have hs3' := hs3 hrp
          obtain ⟨q, hq⟩ : ∃ q, q = divSt r acc r.length := ⟨_, rfl⟩
          rw [← hq] at HSN hs1 hs2 HOi HPi hs3'
          clear hq hs3
          obtain ⟨out, path⟩ := q
          simp only at hs1 hs2 HOi HPi HSN hs3'
          obtain ⟨Ap, cp, rfl, hlp, hrpp⟩ := HPi.out.reads
          have HPR := Lib.hid hrpp
          have HOVL : Hid (∀ b, u3.ownBlock = some b → b < wr.heap.size) := fun b e => (OwnR.lt HOi.out b e).2
          have HPVL : Hid (∀ b, (Value.slice Ap path.length cp).ownBlock = some b → b < wr.heap.size) := fun b e => (OwnR.lt HPi.out b e).2
          clear hrpp
          go_wp2_with fail
          refine (Clone_pt path Ap _ cp _ HPR.out rfl (by omega)).mono ?_
          rintro e w3 ⟨v3, rfl, ho3, hb3⟩
          obtain ⟨A3, c3, rfl, hl3, hr3⟩ := ho3.reads
          have HR3 := Lib.hid hr3
          have hl3' : Hid (path.length ≤ c3) := hl3
          clear ho3 hr3 hl3
          go_wp2_with fail
          refine (poly_Canon path A3 _ c3 _ HR3.out rfl hl3'.out hs3' (by omega)).mono ?_
          rintro e w4 ⟨v4, rfl, ho4, hb4⟩
          have B4 : Hid (Below w.heap.size w w4) := (by repeat (first | exact Below.refl _ _ | apply below_alloc | apply below_drewN | apply below_drew | (refine below_set2 ?_ ?_; (first | (simp; done) | (simp; omega))) | (refine below_step ?_ hb4) | (refine below_step ?_ hb3) | (refine below_step ?_ HBi.out)))
          have HO4 : Hid (OwnR Ty.ring 36 w.heap.size (fun i => u3.ownBlock = some i ∨ (Value.slice Ap path.length cp).ownBlock = some i) w4 u3 out) := OwnR.below (OwnR.below HOi.out hb3) hb4
          have hz3 := hb3.size
          have hz4 := hb4.size
          obtain ⟨A4, c4, rfl, hl4, hr4⟩ := Own1.row_ok pt_flat ho4 (fun i => ¬ (u3.ownBlock = some i ∨ (Value.slice Ap path.length cp).ownBlock = some i)) (fun b e h => by have h1 := (OwnR.lt ho4 b e).1; rcases h with h | h; (· have := HOVL.out b h; omega); (· have := HPVL.out b h; omega))
          have HR4 := Lib.hid hr4
          generalize canonR path = cr at *
          clear HR3 ho4 hr4 hb3 hb4 hl3'
          go_wp2_with (at_builtin; refine app_one Ty.ring (W := w4) w.heap.size rfl _ _ 28 36 _ 24 rfl Try.underlying28 infoRing rfl (by decide) u3 out cr [.slice A4 cr.length c4] _ rfl rfl rfl ⟨A4, c4, rfl, hl4, HR4.out⟩ HO4.out (by omega) (by omega) ?_; intro v5 w5 HO5 hg5 hat5)
          have HO6 : Hid (Own1 Ty.ring 36 w.heap.size w5 v5 (out ++ [cr])) := Own1.of HO5
          have B6 : Hid (Below w.heap.size w w5) := below_own B4.out hg5 (fun b e => (OwnR.lt HO4.out b e).1)
          clear HO5 hg5 hat5
          go_wp2
          go_roundw
          case rel => exact ⟨k + 1, by omega, by go_num, B6, by rw [HSN.out]; exact HO6⟩
          case measure => simp [intOf]; omega
    · obtain rfl : k = rs.length := by omega
      have HO9 : Hid (Own1 Ty.ring 36 w.heap.size wr u3 res) := by show Own1 _ _ _ _ _ _; rw [HDZ.out]; exact HO.out
      go_wp2
      go_ret
      exact ⟨_, rfl, HO9.out, HB.out⟩
end Go.Proofs.Ytlmjciajpjdilaa
