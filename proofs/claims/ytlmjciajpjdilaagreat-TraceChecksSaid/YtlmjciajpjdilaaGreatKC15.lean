/- Contract of trace.divided. Contracts of poly.Less and of trace.Rings' comparison, with the worlds that they leave; of slices.SortFunc over rings. Contracts of trace.Rings and trace.LeftInside. -/
import Derived.Test.YtlmjciajpjdilaaGreatKC10
import Derived.Test.YtlmjciajpjdilaaGreatKC14
import Derived.Test.YtlmjciajpjdilaaGreatTLay
import Derived.Test.YtlmjciajpjdilaaGreatKC8
import Derived.Test.YtlmjciajpjdilaaGreatKC11
import Derived.Test.YtlmjciajpjdilaaGreatKC9

section
namespace Go.Proofs.YtlmjciajpjdilaaGreat
open Go.RowKit Go.Proofs.YtlmjciajpjdilaaGreatW.PrintLast
set_option linter.unusedVariables false
set_option linter.unusedSimpArgs false

theorem OwnR.regrow {α : Type} {T : Ty α} {e : TypeId} {base : Nat} {M M' : Nat → Prop} {W w1 : World} {v : Value} {xs : List α} {row : Option Nat} (h : OwnR T e base M W v xs) (hg : W.grownBy w1 row) (hM : ∀ b, row = some b → M b) (hv : ∀ b, v.ownBlock = some b → row ≠ some b)
    (hM' : ∀ k, M' k → M k ∨ W.heap.size ≤ k) (hv' : ∀ k, v.ownBlock = some k → M' k) : OwnR T e base M' w1 v xs := by
  have h1 : OwnR T e base (fun k => M k ∨ W.heap.size ≤ k) W v xs := h.remut (fun k hk hm => hm.elim id (fun h => by omega)) (fun k hk => .inl (h.1 k hk))
  have h2 := OwnR.kept h1 (kept_grown (S := fun k => row = some k) hg (fun b e => e)) (fun b hb => .inl (hM b hb)) (fun b e hb => hv b e hb)
  exact h2.remut (fun k _ hm => hM' k hm) hv'
theorem OwnR.cut {α : Type} {T : Ty α} {e : TypeId} {base g n c : Nat} {M : Nat → Prop} {w : World} {xs : List α} (h : OwnR T e base M w (.slice (some ⟨g, 0, none⟩) n c) xs) (m : Nat) (hm : m ≤ xs.length) : OwnR T e base M w (.slice (some ⟨g, 0, none⟩) m c) (xs.take m) := by
  obtain ⟨h0, inner, ho, hr⟩ := h
  obtain ⟨hlen, ho⟩ := ho
  rcases ho with ⟨h, _⟩ | ⟨g', cap, cur, hv, hb, hh, h1, h2, h3, h4⟩
  · cases h
  injection hv with hv hvn hvc; injection hv with hv; injection hv with hv
  subst hv hvc hvn
  have hti : (xs.take m).length = m := by rw [List.length_take]; omega
  refine ⟨h0, inner.take (m * T.sz), ⟨?_, .inr ⟨g, c, cur, by rw [hti], hb, hh, by rw [hti]; omega, h2, h3, ?_⟩⟩, hr.take m⟩
  · rw [List.length_take, hlen, hti, Nat.min_eq_left (Nat.mul_le_mul_right _ hm)]
  · rw [hti, ← h4, List.take_take, Nat.min_eq_left (Nat.mul_le_mul_right _ hm)]
def divSt (ring : Pts) (acc : Rgs) (j : Nat) : Rgs × Pts := (ring.take j).foldl cutF (acc, [])
theorem divSt_snoc (ring : Pts) (acc : Rgs) (j : Nat) (h : j < ring.length) : divSt ring acc (j + 1) = cutF (divSt ring acc j) (ptD ring j) := by
  unfold divSt
  rw [take_snoc ring j (0, 0) h, List.foldl_append]; rfl
theorem cutF_in {st : Rgs × Pts} {p : Pt} (h : p ∈ st.2) : cutF st p = (st.1 ++ [canonR (st.2.drop (st.2.idxOf p))], st.2.take (st.2.idxOf p) ++ [p]) := by unfold cutF; rw [if_pos h]
theorem cutF_out {st : Rgs × Pts} {p : Pt} (h : p ∉ st.2) : cutF st p = (st.1, st.2 ++ [p]) := by unfold cutF; rw [if_neg h]
theorem cutF_len (st : Rgs × Pts) (p : Pt) : (cutF st p).1.length ≤ st.1.length + 1 ∧ (cutF st p).2.length ≤ st.2.length + 1 ∧ 0 < (cutF st p).2.length := by
  by_cases h : p ∈ st.2
  · rw [cutF_in h]; simp; omega
  · rw [cutF_out h]; simp
theorem divSt_len (ring : Pts) (acc : Rgs) : ∀ j, j ≤ ring.length → (divSt ring acc j).1.length ≤ acc.length + j ∧ (divSt ring acc j).2.length ≤ j ∧ (0 < j → 0 < (divSt ring acc j).2.length)
  | 0, _ => by simp [divSt]
  | j + 1, h => by
    have ih := divSt_len ring acc j (by omega)
    rw [divSt_snoc ring acc j (by omega)]
    have := cutF_len (divSt ring acc j) (ptD ring j)
    exact ⟨by omega, by omega, fun _ => this.2.2⟩
theorem divR_eq (acc : Rgs) (r : Pts) : divR acc r = (divSt r acc r.length).1 ++ [canonR (divSt r acc r.length).2] := by
  unfold divR divSt; rw [List.take_length]
def divTo (rs : Rgs) (k : Nat) : Rgs := (rs.take k).foldl divR []
theorem divTo_snoc (rs : Rgs) (k : Nat) (h : k < rs.length) : divTo rs (k + 1) = divR (divTo rs k) (rgD rs k) := by
  unfold divTo
  rw [take_snoc rs k [] h, List.foldl_append]; rfl
theorem divTo_len (rs : Rgs) (hb : ∀ r ∈ rs, r.length ≤ 1000000) : ∀ k, k ≤ rs.length → (divTo rs k).length ≤ k * 1000001
  | 0, _ => by simp [divTo]
  | k + 1, h => by
    have ih := divTo_len rs hb k (by omega)
    rw [divTo_snoc rs k (by omega), divR_eq, List.length_append]
    have h1 := divSt_len (rgD rs k) (divTo rs k) (rgD rs k).length (Nat.le_refl _)
    have h2 : (rgD rs k).length ≤ 1000000 := hb _ (by simp [rgD, show k < rs.length by omega])
    rw [Nat.add_mul]; simp; omega
theorem beq_uniq {α : Type} (i1 i2 : BEq α) (h1 : @LawfulBEq α i1) (h2 : @LawfulBEq α i2) : i1 = i2 := by
  have hf : ∀ a b, @BEq.beq α i1 a b = @BEq.beq α i2 a b := fun a b => by
    rw [Bool.eq_iff_iff, @beq_iff_eq α i1 h1 a b, @beq_iff_eq α i2 h2 a b]
  cases i1; cases i2
  congr
  funext a b
  exact hf a b
theorem idxOf_inst (p : Pt) (l : Pts) : @List.idxOf Pt instBEqOfDecidableEq p l = @List.idxOf Pt instBEqProd p l := by
  rw [beq_uniq (α := Pt) instBEqOfDecidableEq instBEqProd inferInstance inferInstance]
theorem ixZ_at' {l : Pts} {p : Pt} (h : p ∈ l) : ixZ l p = (l.idxOf p : Nat) := by
  unfold ixZ
  rw [if_pos h, idxOf_inst]
set_option maxRecDepth 100000 in
set_option maxHeartbeats 4000000 in
theorem trace_divided {ok : Nat → Prop} (rs : Rgs) (A : Option Addr) (n c : Nat) (w : World) (hr : Row Ty.ring ok w A rs) (hn : n = rs.length) (hne : ∀ r ∈ rs, 0 < r.length) (hb : ∀ r ∈ rs, r.length ≤ 1000000) (hlen : rs.length ≤ 1000000) :
    Calls Tryz.prog 44 #[.slice A n c] w fun e w' => ∃ v, e = .returned v ∧ Own1 Ty.ring 41 w.heap.size w' v (dividedZ rs) ∧ Below w.heap.size w w' := by
  subst hn
  have HR := Lib.hid hr
  have HNE := Lib.hid hne
  have HBD := Lib.hid hb
  clear hr hne hb
  have HDZ : Hid (dividedZ rs = divTo rs rs.length) := by show _ = _; unfold divTo dividedZ; rw [List.take_length]
  generalize dividedZ rs = res at *
  go_enter Tryz.func44, Tryz.ntmps44
  go_wp2
  go_loopw [3, 12] (fun v i wr => ∃ k : Nat, k ≤ rs.length ∧ i = .int .i64 k ∧ Hid (Below w.heap.size w wr) ∧ Hid (Own1 Ty.ring 41 w.heap.size wr v (divTo rs k))) (fun _ i _ => rs.length - (intOf i).toNat)
  case atStart => exact ⟨0, Nat.zero_le _, rfl, Below.refl _ _, OwnR.nil _ _ _ _ _⟩
  case round =>
    obtain ⟨k, hk, rfl, HB, HO⟩ := hrel
    by_cases hlt : k < rs.length
    · obtain ⟨ad, A0, c0, rfl, hx00, hl0, hrow00⟩ := HR.out.ring_at k hlt
      have hx0 := cell_below HB.out hx00
      have hrow0 := hrow00.bnd.mono (ok' := fun k => k < w.heap.size) (fun k hk => hk.2)
      clear hx00 hrow00
      have HSN := Lib.hid ((divTo_snoc rs k hlt).trans (divR_eq _ _))
      have hmem : rgD rs k ∈ rs := by simp [rgD, hlt]
      have hrb := HBD.out _ hmem
      have hrp := HNE.out _ hmem
      have hdl := divTo_len rs HBD.out k hk
      obtain ⟨r, hre⟩ : ∃ r, r = rgD rs k := ⟨_, rfl⟩
      rw [← hre] at hx0 hl0 hrow0 HSN hrb hrp
      generalize divTo rs k = acc at *
      have hsl := divSt_len r acc
      have HSL := Lib.hid hsl
      have hacc : acc.length ≤ 1000001000000 := by omega
      have HRO := Lib.hid hrow0
      clear hmem hre hsl hrow0 hdl
      obtain ⟨wo, rfl⟩ : ∃ wo : World, wo = wr := ⟨_, rfl⟩
      go_wp2
      go_loopw [3, 6, 18] (fun ov pv i wi => ∃ j : Nat, j ≤ r.length ∧ i = .int .i64 j ∧ Hid (Below w.heap.size w wi) ∧ Hid (OwnR Ty.ring 41 w.heap.size (fun i => ov.ownBlock = some i ∨ pv.ownBlock = some i) wi ov (divSt r acc j).1) ∧ Hid (Own1 Ty.pt 24 w.heap.size wi pv (divSt r acc j).2)) (fun _ _ i _ => r.length - (intOf i).toNat)
      case atStart => exact ⟨0, Nat.zero_le _, rfl, HB.out, OwnR.remut HO.out (fun k _ h => h.elim id (fun h => by cases h)) (fun k h => .inl h), OwnR.nil _ _ _ _ _⟩
      case round =>
        obtain ⟨j, hj, rfl, HBi, HOi, HPi⟩ := hrel
        clear HO HB hx0
        have hsw := HBi.out.size
        by_cases hjt : j < r.length
        · have HRi := Lib.hid (HRO.out.below HBi.out)
          obtain ⟨bd, rfl, hp0, hp1⟩ := HRi.out.pt_at j hjt
          have HDS := Lib.hid (divSt_snoc r acc j hjt)
          obtain ⟨hs1, hs2, hs3⟩ := HSL.out j hj
          obtain ⟨q, hq⟩ : ∃ q, q = divSt r acc j := ⟨_, rfl⟩
          rw [← hq] at HDS hs1 hs2 HOi HPi
          clear hq hs3
          obtain ⟨out, path⟩ := q
          simp only at hs1 hs2 HOi HPi
          obtain ⟨p, hpe⟩ : ∃ p, p = ptD r j := ⟨_, rfl⟩
          rw [← hpe] at hp0 hp1 HDS
          obtain ⟨Ap, cp, rfl, hlp, hrp⟩ := HPi.out.reads
          have HPR := Lib.hid hrp
          have HX := heap_alloc_new wr (.cells #[.int .i64 p.1, .int .i64 p.2] 24)
          clear hpe hrp HRi
          have hovl : ∀ b, u3.ownBlock = some b → b < wr.heap.size := fun b e => (OwnR.lt HOi.out b e).2
          have hpvl : ∀ b, (Value.slice Ap path.length cp).ownBlock = some b → b < wr.heap.size := fun b e => (OwnR.lt HPi.out b e).2
          have HOVL := Lib.hid hovl
          have HPVL := Lib.hid hpvl
          clear hovl hpvl
          go_wp2_with fail
          refine (Index_pt path Ap _ cp p _ (HPR.out.alloc _) rfl).mono ?_
          rintro e w2 ⟨rfl, hb2⟩
          have HX2 := blk_below HX hb2
          have B2 : Hid (Below w.heap.size w w2) := (by repeat (first | exact Below.refl _ _ | apply below_alloc | apply below_drewN | apply below_drew | (refine below_set2 ?_ ?_; (first | (simp; done) | (simp; omega))) | (refine below_step ?_ hb2) | (refine below_step ?_ HBi.out)))
          have HO2 : Hid (OwnR Ty.ring 41 w.heap.size (fun i => u3.ownBlock = some i ∨ (Value.slice Ap path.length cp).ownBlock = some i) w2 u3 out) := OwnR.below HOi.out (by repeat (first | exact Below.refl _ _ | apply below_alloc | apply below_drewN | apply below_drew | (refine below_set2 ?_ ?_; (first | (simp; done) | (simp; omega))) | (refine below_step ?_ hb2)))
          have HP2 : Hid (Own1 Ty.pt 24 w.heap.size w2 (.slice Ap path.length cp) path) := Own1.below HPi.out (by repeat (first | exact Below.refl _ _ | apply below_alloc | apply below_drewN | apply below_drew | (refine below_set2 ?_ ?_; (first | (simp; done) | (simp; omega))) | (refine below_step ?_ hb2)))
          have hz2 := lt_of_block HX2
          clear HX hp0 hp1 HBi HOi HPi HPR hb2
          have hx0 := blk_cell HX2 0 rfl
          have hx1 := blk_cell HX2 1 rfl
          by_cases hm : p ∈ path
          · rw [ixZ_at' hm]
            have hml : path.idxOf p < path.length := List.idxOf_lt_length_of_mem hm
            have HDS2 : Hid (divSt r acc (j + 1) = (out ++ [canonR (path.drop (path.idxOf p))], path.take (path.idxOf p) ++ [p])) := HDS.out.trans (cutF_in hm)
            clear HDS hm
            generalize path.idxOf p = m at *
            obtain ⟨g, cx, hv, _⟩ := HP2.out.form (by omega)
            injection hv with hv _ hc'
            subst hv hc'
            obtain ⟨_, _, ev, _, hrp2⟩ := HP2.out.reads
            injection ev with ev1 _ ev3
            subst ev1 ev3
            have hrd := hrp2.drop m
            rw [add_at, Nat.zero_add] at hrd
            have HRD : Hid (Row Ty.pt (fun _ => True) w2 (some ⟨g, m * 2, none⟩) (path.drop m)) := hrd
            have hdl : Hid ((path.drop m).length = path.length - m) := List.length_drop ..
            have hcm : ¬ cp = m := by omega
            have hmc : m ≤ cp := by omega
            have hml2 : m ≤ path.length := by omega
            have hge : (0 : Int) ≤ (m : Int) := by omega
            clear hrp2 hrd
            go_wp2_with fail
            refine (Clone_pt (path.drop m) _ _ _ _ HRD.out hdl.out.symm (by rw [hdl.out]; omega)).mono ?_
            rintro e w3 ⟨v3, rfl, ho3, hb3⟩
            obtain ⟨A3, c3, rfl, hl3, hr3⟩ := ho3.reads
            have HR3 := Lib.hid hr3
            have hl3' : Hid ((path.drop m).length ≤ c3) := hl3
            clear ho3 hr3 hl3 HRD
            go_wp2_with fail
            refine (poly_Canon (path.drop m) A3 _ c3 _ HR3.out (by first | rfl | exact hdl.out.symm) hl3'.out (by rw [hdl.out]; omega) (by rw [hdl.out]; omega)).mono ?_
            rintro e w4 ⟨v4, rfl, ho4, hb4⟩
            have B4 : Hid (Below w.heap.size w w4) := (by repeat (first | exact Below.refl _ _ | apply below_alloc | apply below_drewN | apply below_drew | (refine below_set2 ?_ ?_; (first | (simp; done) | (simp; omega))) | (refine below_step ?_ hb4) | (refine below_step ?_ hb3) | (refine below_step ?_ B2.out)))
            have HO4 : Hid (OwnR Ty.ring 41 w.heap.size (fun i => u3.ownBlock = some i ∨ (Value.slice (some ⟨g, 0, none⟩) path.length cp).ownBlock = some i) w4 u3 out) := OwnR.below (OwnR.below HO2.out hb3) hb4
            have HP4 : Hid (Own1 Ty.pt 24 w.heap.size w4 (.slice (some ⟨g, 0, none⟩) path.length cp) path) := Own1.below (Own1.below HP2.out hb3) hb4
            have HX4 := blk_below (blk_below HX2 hb3) hb4
            have hz3 := hb3.size
            have hz4 := hb4.size
            obtain ⟨A4, c4, rfl, hl4, hr4⟩ := Own1.row_ok pt_flat ho4 (fun i => ¬ (u3.ownBlock = some i ∨ (Value.slice (some ⟨g, 0, none⟩) path.length cp).ownBlock = some i)) (fun b e h => by have h1 := (OwnR.lt ho4 b e).1; rcases h with h | h; (· have := HOVL.out b h; omega); (· have := HPVL.out b h; omega))
            have HR4 := Lib.hid hr4
            generalize canonR (path.drop m) = cr at *
            clear HO2 HP2 HR3 ho4 hr4 hb3 hb4 HX2 hx0 hx1 B2 hl3'
            go_wp2_with (first | (at_builtin; refine app_one Ty.ring (W := w4) w.heap.size rfl _ _ 33 41 _ 24 rfl Tryz.underlying33 infoRing rfl (by decide) u3 out cr [.slice A4 cr.length c4] _ rfl rfl rfl ⟨A4, c4, rfl, hl4, HR4.out⟩ HO4.out (by omega) (by omega) ?_; intro v5 w5 HO5 hg5 hat5; have hX5 := (hg5.block _ (lt_of_block HX4) (fun e => by have := HOVL.out _ e.symm; omega)).trans HX4; have hx0 := blk_cell hX5 0 rfl; have hx1 := blk_cell hX5 1 rfl; have HP5 := Own1.flat_kept pt_flat HP4.out (kept_grown (S := fun k => u3.ownBlock = some k) hg5 (fun b e => e)) (fun b e h => Own1.apart (Own1.of HO4.out) HP4.out (by decide) h e); have HPc := Lib.hid (OwnR.cut HP5 m hml2); have hz5 := hg5.size; have hlt5 : (path.take m).length ≤ path.length := (by rw [List.length_take]; omega)) | (at_builtin; refine app_one Ty.pt (W := w5) w.heap.size rfl _ _ 41 24 _ 16 rfl Tryz.underlying41 infoPt rfl (by decide) (.slice (some ⟨g, 0, none⟩) m cp) (path.take m) p _ _ rfl rfl rfl rfl HPc.out (by omega) (by omega) ?_; intro v6 w6 HO6 hg6 hat6))
            have HP6 : Hid (Own1 Ty.pt 24 w.heap.size w6 v6 (path.take m ++ [p])) := Own1.of HO6
            have HO6' : Hid (OwnR Ty.ring 41 w.heap.size (fun i => v5.ownBlock = some i ∨ v6.ownBlock = some i) w6 v5 (out ++ [cr])) := OwnR.regrow HO5 hg6 (fun b e => .inl (.inr e)) (fun b e h => Own1.apart (Own1.of HO5) (show Own1 Ty.pt 24 w.heap.size w5 (.slice (some ⟨g, 0, none⟩) m cp) (path.take m) from HPc.out) (by decide) e h)
              (fun k hk => hk.elim (fun h => .inl (.inr h)) (fun h => by
                rcases hat6 with h1 | ⟨b', h1, hle⟩
                · exact .inl (.inl (.inr (by rw [h1] at h; exact h)))
                · right; rw [h1] at h; have : b' = k := Option.some.inj h; omega)) (fun k hk => .inl hk)
            have B6 : Hid (Below w.heap.size w w6) := below_own (below_own B4.out hg5 (fun b e => (OwnR.lt HO4.out b e).1)) hg6 (fun b e => (OwnR.lt HP4.out b e).1)
            clear HO5 HO6 hg5 hg6 hat5 hat6 HPc HP5 hX5
            go_wp2
            go_roundw
            case rel => exact ⟨j + 1, by omega, by go_num, B6, by rw [HDS2.out]; exact HO6', by rw [HDS2.out]; exact HP6⟩
            case measure => simp [intOf]; omega
          · rw [ixZ_none hm]
            have HDS2 : Hid (divSt r acc (j + 1) = (out, path ++ [p])) := HDS.out.trans (cutF_out hm)
            clear HDS hm
            go_wp2_with (at_builtin; refine app_one Ty.pt (W := w2) w.heap.size rfl _ _ 41 24 _ 16 rfl Tryz.underlying41 infoPt rfl (by decide) (.slice Ap path.length cp) path p _ _ rfl rfl rfl rfl HP2.out (by omega) (by omega) ?_; intro v1 w3 HO1 hg1 hat1)
            have HP3 : Hid (Own1 Ty.pt 24 w.heap.size w3 v1 (path ++ [p])) := Own1.of HO1
            have HO3 : Hid (OwnR Ty.ring 41 w.heap.size (fun i => u3.ownBlock = some i ∨ v1.ownBlock = some i) w3 u3 out) := OwnR.regrow HO2.out hg1 (fun b e => .inr e) (fun b e h => Own1.apart (Own1.of HO2.out) HP2.out (by decide) e h)
              (fun k hk => hk.elim (fun h => .inl (.inl h)) (fun h => by
                rcases hat1 with h1 | ⟨b', h1, hle⟩
                · exact .inl (.inr (by rw [h1] at h; exact h))
                · right; rw [h1] at h; have : b' = k := Option.some.inj h; omega)) (fun k hk => .inl hk)
            have B3 : Hid (Below w.heap.size w w3) := below_own B2.out hg1 (fun b e => (OwnR.lt HP2.out b e).1)
            clear HO1 hg1 hat1
            go_wp2
            go_roundw
            case rel => exact ⟨j + 1, by omega, by go_num, B3, by rw [HDS2.out]; exact HO3, by rw [HDS2.out]; exact HP3⟩
            case measure => simp [intOf]; omega
        · obtain rfl : j = r.length := by omega
          obtain ⟨hs1, hs2, hs3⟩ := HSL.out r.length (Nat.le_refl _)
          have hs3' := hs3 hrp
          obtain ⟨q, hq⟩ : ∃ q, q = divSt r acc r.length := ⟨_, rfl⟩
          rw [← hq] at HSN hs1 hs2 HOi HPi hs3'
          clear hq hs3
          obtain ⟨out, path⟩ := q
          simp only at hs1 hs2 HOi HPi HSN hs3'
          obtain ⟨Ap, cp, rfl, hlp, hrpp⟩ := HPi.out.reads
          have HPR := Lib.hid hrpp
          have HOVL : Hid (∀ b, u3.ownBlock = some b → b < wr.heap.size) := fun b e => (OwnR.lt HOi.out b e).2
          have HPVL : Hid (∀ b, (Value.slice Ap path.length cp).ownBlock = some b → b < wr.heap.size) := fun b e => (OwnR.lt HPi.out b e).2
          clear hrpp
          go_wp2_with fail
          refine (Clone_pt path Ap _ cp _ HPR.out rfl (by omega)).mono ?_
          rintro e w3 ⟨v3, rfl, ho3, hb3⟩
          obtain ⟨A3, c3, rfl, hl3, hr3⟩ := ho3.reads
          have HR3 := Lib.hid hr3
          have hl3' : Hid (path.length ≤ c3) := hl3
          clear ho3 hr3 hl3
          go_wp2_with fail
          refine (poly_Canon path A3 _ c3 _ HR3.out rfl hl3'.out hs3' (by omega)).mono ?_
          rintro e w4 ⟨v4, rfl, ho4, hb4⟩
          have B4 : Hid (Below w.heap.size w w4) := (by repeat (first | exact Below.refl _ _ | apply below_alloc | apply below_drewN | apply below_drew | (refine below_set2 ?_ ?_; (first | (simp; done) | (simp; omega))) | (refine below_step ?_ hb4) | (refine below_step ?_ hb3) | (refine below_step ?_ HBi.out)))
          have HO4 : Hid (OwnR Ty.ring 41 w.heap.size (fun i => u3.ownBlock = some i ∨ (Value.slice Ap path.length cp).ownBlock = some i) w4 u3 out) := OwnR.below (OwnR.below HOi.out hb3) hb4
          have hz3 := hb3.size
          have hz4 := hb4.size
          obtain ⟨A4, c4, rfl, hl4, hr4⟩ := Own1.row_ok pt_flat ho4 (fun i => ¬ (u3.ownBlock = some i ∨ (Value.slice Ap path.length cp).ownBlock = some i)) (fun b e h => by have h1 := (OwnR.lt ho4 b e).1; rcases h with h | h; (· have := HOVL.out b h; omega); (· have := HPVL.out b h; omega))
          have HR4 := Lib.hid hr4
          generalize canonR path = cr at *
          clear HR3 ho4 hr4 hb3 hb4 hl3'
          go_wp2_with (at_builtin; refine app_one Ty.ring (W := w4) w.heap.size rfl _ _ 33 41 _ 24 rfl Tryz.underlying33 infoRing rfl (by decide) u3 out cr [.slice A4 cr.length c4] _ rfl rfl rfl ⟨A4, c4, rfl, hl4, HR4.out⟩ HO4.out (by omega) (by omega) ?_; intro v5 w5 HO5 hg5 hat5)
          have HO6 : Hid (Own1 Ty.ring 41 w.heap.size w5 v5 (out ++ [cr])) := Own1.of HO5
          have B6 : Hid (Below w.heap.size w w5) := below_own B4.out hg5 (fun b e => (OwnR.lt HO4.out b e).1)
          clear HO5 hg5 hat5
          go_wp2
          go_roundw
          case rel => exact ⟨k + 1, by omega, by go_num, B6, by rw [HSN.out]; exact HO6⟩
          case measure => simp [intOf]; omega
    · obtain rfl : k = rs.length := by omega
      have HO9 : Hid (Own1 Ty.ring 41 w.heap.size wr u3 res) := by show Own1 _ _ _ _ _ _; rw [HDZ.out]; exact HO.out
      go_wp2
      go_ret
      exact ⟨_, rfl, HO9.out, HB.out⟩
end Go.Proofs.YtlmjciajpjdilaaGreat
end

section
namespace Go.Proofs.YtlmjciajpjdilaaGreat
open Go.RowKit Go.Proofs.YtlmjciajpjdilaaGreatW.PrintLast
set_option linter.unusedVariables false
set_option linter.unusedSimpArgs false

attribute [local go_sem high] eqPt
set_option maxHeartbeats 1000000 in
set_option maxRecDepth 100000 in
theorem poly_LessG {ok ok' : Nat → Prop} (a b : Pts) (A B : Option Addr) (n m c d : Nat) (w : World) (ha : Row Ty.pt ok w A a) (hb : Row Ty.pt ok' w B b) (hn : n = a.length) (hm : m = b.length) :
    Calls Tryz.prog 49 #[.slice A n c, .slice B m d] w fun e w' => e = .returned (.bool (lessR a b)) ∧ Gw w w' := by
  subst hn hm
  have hl1 := ha.len
  have hl2 := hb.len
  go_enter Tryz.func49, Tryz.ntmps49
  go_wp2
  all_goals
    go_loopw [11] (fun i wr => ∃ k : Nat, k ≤ a.length ∧ k ≤ b.length ∧ i = .int .i64 k ∧ Hid (Gw w wr) ∧ Hid (a.take k = b.take k)) (fun i _ => a.length - (intOf i).toNat)
    case atStart => exact ⟨0, Nat.zero_le _, Nat.zero_le _, rfl, gw_refl _, by simp [Hid]⟩
    case round =>
      obtain ⟨k, hk1, hk2, rfl, hbl, hall⟩ := hrel
      by_cases hlt1 : k < a.length
      · by_cases hlt2 : k < b.length
        · obtain ⟨ad, rfl, hc1, hc2⟩ := (ha.below hbl.out.below).pt_at k hlt1
          obtain ⟨bd, rfl, hd1, hd2⟩ := (hb.below hbl.out.below).pt_at k hlt2
          by_cases hq : ptD a k = ptD b k
          · have hd := (ptB (ptD a k) (ptD b k)).trans (decide_eq_true hq)
            have HQ := Lib.hid hq
            clear hq
            go_wp2_with fail
            go_quiet (fail)
            go_wp2
            go_roundw
            case rel => exact ⟨k + 1, by omega, by omega, by go_num, by (repeat (first | exact gw_refl _ | refine gw_step ?_ hbl.out | refine gw_alloc ?_ _ | refine gw_drewN ?_ _ | refine gw_drew ?_)), take_eq_step (0, 0) hall.out hlt1 hlt2 HQ.out⟩
            case measure => simp [intOf]; omega
          · have hd := (ptB (ptD a k) (ptD b k)).trans (decide_eq_false hq)
            have hne : Hid (lessR a b = lessB ((ptD a k).1, (ptD a k).2) ((ptD b k).1, (ptD b k).2)) := lessR_step hall.out hlt1 hlt2 hq
            clear hq
            go_wp2_with fail
            go_quiet (fail)
            go_wp2_with fail
            refine start_ (n := 10) (S := fun w' => w'.cell? (ad.add (k * 2)) = some (.int .i64 (ptD a k).1) ∧ w'.cell? ⟨(ad.add (k * 2)).block, (ad.add (k * 2)).off + 1, none⟩ = some (.int .i64 (ptD a k).2) ∧ w'.cell? (bd.add (k * 2)) = some (.int .i64 (ptD b k).1) ∧ w'.cell? ⟨(bd.add (k * 2)).block, (bd.add (k * 2)).off + 1, none⟩ = some (.int .i64 (ptD b k).2)) (ds := []) #[false, false, false, false, false, false, false, false, false, false] (by kernel_rfl) rfl rfl ⟨hc1, hc2, hd1, hd2⟩ (fun hHeld => ?_)
            refine pure_ (i := 0) (N := some 23) (v := ?_) (a' := ?_) #[true, false, false, false, false, false, false, false, false, false] rfl rfl (by kernel_rfl) (fun _ _ _ h => h) (Or.inl ⟨by rfl, ?_⟩) ?_ ?_
            rotate_left
            · intro w'
              go_simp
              with_reducible rfl
            rotate_left
            · simp only [Act.put, List.setIfInBounds_toArray, List.set_cons_zero, List.set_cons_succ, i64_w, i32_w]
              rfl
            refine pure_ (i := 1) (N := some 24) (v := ?_) (a' := ?_) #[true, true, false, false, false, false, false, false, false, false] rfl rfl (by kernel_rfl) (fun _ _ _ h => h) (Or.inl ⟨by rfl, ?_⟩) ?_ ?_
            rotate_left
            · intro w'
              go_simp
              with_reducible rfl
            rotate_left
            · simp only [Act.put, List.setIfInBounds_toArray, List.set_cons_zero, List.set_cons_succ, i64_w, i32_w]
              rfl
            refine pure_ (i := 2) (N := some 25) (v := ?_) (a' := ?_) #[true, true, true, false, false, false, false, false, false, false] rfl rfl (by kernel_rfl) (fun _ _ _ h => h) (Or.inl ⟨by rfl, ?_⟩) ?_ ?_
            rotate_left
            · intro w'
              go_simp
              with_reducible rfl
            rotate_left
            · simp only [Act.put, List.setIfInBounds_toArray, List.set_cons_zero, List.set_cons_succ, i64_w, i32_w]
              rfl
            refine pure_ (i := 4) (N := some 27) (v := ?_) (a' := ?_) #[true, true, true, false, true, false, false, false, false, false] rfl rfl (by kernel_rfl) (fun _ _ _ h => h) (Or.inl ⟨by rfl, ?_⟩) ?_ ?_
            rotate_left
            · intro w'
              go_simp
              with_reducible rfl
            rotate_left
            · simp only [Act.put, List.setIfInBounds_toArray, List.set_cons_zero, List.set_cons_succ, i64_w, i32_w]
              rfl
            refine pure_ (i := 5) (N := some 28) (v := ?_) (a' := ?_) #[true, true, true, false, true, true, false, false, false, false] rfl rfl (by kernel_rfl) (fun _ _ _ h => h) (Or.inl ⟨by rfl, ?_⟩) ?_ ?_
            rotate_left
            · intro w'
              go_simp
              with_reducible rfl
            rotate_left
            · simp only [Act.put, List.setIfInBounds_toArray, List.set_cons_zero, List.set_cons_succ, i64_w, i32_w]
              rfl
            refine pure_ (i := 6) (N := some 29) (v := ?_) (a' := ?_) #[true, true, true, false, true, true, true, false, false, false] rfl rfl (by kernel_rfl) (fun _ _ _ h => h) (Or.inl ⟨by rfl, ?_⟩) ?_ ?_
            rotate_left
            · intro w'
              go_simp
              with_reducible rfl
            rotate_left
            · simp only [Act.put, List.setIfInBounds_toArray, List.set_cons_zero, List.set_cons_succ, i64_w, i32_w]
              rfl
            refine take_ (i := 3) (N := some 26) (v := ?_) (a' := ?_) #[true, true, true, true, true, true, true, false, false, false] rfl rfl (by kernel_rfl) (fun _ _ _ h => h) (Or.inl ⟨by rfl, ?_⟩) hHeld ?_ ?_
            rotate_left
            · rintro w' ⟨s0, s1, s2, s3⟩
              go_simp
              with_reducible rfl
            rotate_left
            · simp only [Act.put, List.setIfInBounds_toArray, List.set_cons_zero, List.set_cons_succ, i64_w, i32_w]
              rfl
            refine take_ (i := 7) (N := some 30) (v := ?_) (a' := ?_) #[true, true, true, true, true, true, true, true, false, false] rfl rfl (by kernel_rfl) (fun _ _ _ h => h) (Or.inl ⟨by rfl, ?_⟩) hHeld ?_ ?_
            rotate_left
            · rintro w' ⟨s0, s1, s2, s3⟩
              go_simp
              with_reducible rfl
            rotate_left
            · simp only [Act.put, List.setIfInBounds_toArray, List.set_cons_zero, List.set_cons_succ, i64_w, i32_w]
              rfl
            refine one_ (i := 8) (N := some 31) #[true, true, true, true, true, true, true, true, true, false] rfl rfl (by kernel_rfl) (by decide) (fun K hK => ?_)
            refine goes_ Tryz.func92 (by kernel_rfl) rfl #[.agg #[.int .i64 (ptD a k).1, .int .i64 (ptD a k).2], .agg #[.int .i64 (ptD b k).1, .int .i64 (ptD b k).2]] (by rfl) rfl rfl (by simp only [List.map_toArray, List.map_cons, List.map_nil]; rfl) ?_
            with_reducible refine (grid_LessG _ _ _ _ _).mono ?_
            rintro e w1 ⟨rfl, hg1⟩
            refine ⟨_, rfl, ?_⟩
            refine hK.out _ _ ⟨cell_below hg1.below hc1, cell_below hg1.below hc2, cell_below hg1.below hd1, cell_below hg1.below hd2⟩ (fun hHeld => ?_)
            clear hK K
            refine norm_ (a' := ?_) ?_ ?_
            rotate_left
            · show Act.put _ (some 31) _ = _
              simp only [Act.put, List.setIfInBounds_toArray, List.set_cons_zero, List.set_cons_succ, i64_w, i32_w]
              rfl
            refine pure_ (i := 9) (N := some 4) (v := ?_) (a' := ?_) #[true, true, true, true, true, true, true, true, true, true] rfl rfl (by kernel_rfl) (fun _ _ _ h => h) (Or.inl ⟨by rfl, ?_⟩) ?_ ?_
            rotate_left
            · intro w'
              go_simp
              with_reducible rfl
            rotate_left
            · simp only [Act.put, List.setIfInBounds_toArray, List.set_cons_zero, List.set_cons_succ, i64_w, i32_w]
              rfl
            refine done_ (by kernel_rfl) ?_
            go_wp2
            go_ret
            exact ⟨ret_bool hne.out.symm, by (repeat (first | exact gw_refl _ | refine gw_step ?_ hg1 | refine gw_step ?_ hbl.out | refine gw_alloc ?_ _ | refine gw_drewN ?_ _ | refine gw_drew ?_))⟩
        · obtain rfl : k = b.length := by omega
          have HL : Hid (lessR a b = decide (a.length < b.length)) := lessR_end (by rw [show min a.length b.length = b.length from by omega]; exact hall.out)
          go_wp2
          go_ret
          exact ⟨ret_bool (by rw [HL.out]), by (repeat (first | exact gw_refl _ | refine gw_step ?_ hbl.out | refine gw_alloc ?_ _ | refine gw_drewN ?_ _ | refine gw_drew ?_))⟩
      · obtain rfl : k = a.length := by omega
        have HL : Hid (lessR a b = decide (a.length < b.length)) := lessR_end (by rw [show min a.length b.length = a.length from by omega]; exact hall.out)
        go_wp2
        all_goals go_ret
        all_goals exact ⟨ret_bool (by rw [HL.out]), by (repeat (first | exact gw_refl _ | refine gw_step ?_ hbl.out | refine gw_alloc ?_ _ | refine gw_drewN ?_ _ | refine gw_drew ?_))⟩
theorem rings_cmp {ok ok' : Nat → Prop} (a b : Pts) (A B : Option Addr) (n m c d : Nat) (w : World) (ha : Row Ty.pt ok w A a) (hb : Row Ty.pt ok' w B b) (hn : n = a.length) (hm : m = b.length) :
    Calls Tryz.prog 48 #[.slice A n c, .slice B m d] w fun e w' => e = .returned (.int .i64 (cmpR a b)) ∧ Gw w w' := by
  subst hn hm
  have HA := Lib.hid ha
  have HB := Lib.hid hb
  have HE : Hid (cmpR a b = if lessR a b = true then -1 else if lessR b a = true then 1 else 0) := rfl
  generalize cmpR a b = r at *
  clear ha hb
  cases h1 : lessR a b
  · have H1 := Lib.hid h1
    cases h2 : lessR b a
    · have H2 := Lib.hid h2
      have HR : Hid (r = 0) := HE.out.trans (by rw [h1, h2]; rfl)
      clear h1 h2 HE
      go_enter Tryz.func48, Tryz.ntmps48
      go_wp2_with fail
      refine (poly_LessG a b A B _ _ c d _ HA.out HB.out rfl rfl).mono ?_
      rintro e w1 ⟨rfl, hg1⟩
      rw [H1.out]
      go_wp2_with fail
      refine (poly_LessG b a B A _ _ d c _ (HB.out.below hg1.below) (HA.out.below hg1.below) rfl rfl).mono ?_
      rintro e w2 ⟨rfl, hg2⟩
      rw [H2.out]
      go_wp2
      go_ret
      exact ⟨ret_int HR.out.symm, by (repeat (first | exact gw_refl _ | refine gw_step ?_ hg2 | refine gw_step ?_ hg1 | refine gw_alloc ?_ _ | refine gw_drewN ?_ _ | refine gw_drew ?_))⟩
    · have H2 := Lib.hid h2
      have HR : Hid (r = 1) := HE.out.trans (by rw [h1, h2]; rfl)
      clear h1 h2 HE
      go_enter Tryz.func48, Tryz.ntmps48
      go_wp2_with fail
      refine (poly_LessG a b A B _ _ c d _ HA.out HB.out rfl rfl).mono ?_
      rintro e w1 ⟨rfl, hg1⟩
      rw [H1.out]
      go_wp2_with fail
      refine (poly_LessG b a B A _ _ d c _ (HB.out.below hg1.below) (HA.out.below hg1.below) rfl rfl).mono ?_
      rintro e w2 ⟨rfl, hg2⟩
      rw [H2.out]
      go_wp2
      go_ret
      exact ⟨ret_int HR.out.symm, by (repeat (first | exact gw_refl _ | refine gw_step ?_ hg2 | refine gw_step ?_ hg1 | refine gw_alloc ?_ _ | refine gw_drewN ?_ _ | refine gw_drew ?_))⟩
  · have H1 := Lib.hid h1
    have HR : Hid (r = -1) := HE.out.trans (by rw [h1]; rfl)
    clear h1 HE
    go_enter Tryz.func48, Tryz.ntmps48
    go_wp2_with fail
    refine (poly_LessG a b A B _ _ c d _ HA.out HB.out rfl rfl).mono ?_
    rintro e w1 ⟨rfl, hg1⟩
    rw [H1.out]
    go_wp2
    go_ret
    exact ⟨ret_int HR.out.symm, by (repeat (first | exact gw_refl _ | refine gw_step ?_ hg1 | refine gw_alloc ?_ _ | refine gw_drewN ?_ _ | refine gw_drew ?_))⟩

/-! ### slices.SortFunc over rings -/
def RgQ (M : Nat → Prop) (w : World) (x : Value × Pts) : Prop := Ty.ring.R (fun k => ¬ M k ∧ k < w.heap.size) w x.2 [x.1]
abbrev RgV (M : Nat → Prop) (w : World) : Type := { x : Value × Pts // RgQ M w x }
instance (M : Nat → Prop) (w : World) : Inhabited (RgV M w) := ⟨⟨(.slice none 0 0, []), ⟨none, 0, rfl, Nat.le_refl _, Row.nil _ _ _ _⟩⟩⟩
theorem reps_rgs {M : Nat → Prop} {w : World} : ∀ {rs : Rgs} {cs : List Value}, Reps Ty.ring (fun k => ¬ M k) w rs cs → ∃ ps : List (RgV M w), ps.map (fun x => x.1.1) = cs ∧ ps.map (fun x => x.1.2) = rs
  | [], _, h => ⟨[], h.symm, rfl⟩
  | r :: rs, _, ⟨c, d, e, hc, hd⟩ => by
    obtain ⟨ps, h1, h2⟩ := reps_rgs hd
    obtain ⟨A, n, he, hl, hr⟩ := hc
    subst he e
    exact ⟨⟨(.slice A r.length n, r), ⟨A, n, rfl, hl, hr.bnd⟩⟩ :: ps, by simp [h1], by simp [h2]⟩
theorem rgs_reps {M : Nat → Prop} {w : World} : ∀ ps : List (RgV M w), Reps Ty.ring (fun k => ¬ M k) w (ps.map fun x => x.1.2) (ps.map fun x => x.1.1)
  | [] => rfl
  | x :: ps => ⟨[x.1.1], _, rfl, Ty.ring.mono (fun k hk => hk.1) x.2, rgs_reps ps⟩
theorem ltRV {M : Nat → Prop} {w : World} (x y : RgV M w) : Go.Proofs.ltOf (fun x y : RgV M w => cmpR x.1.2 y.1.2) x y = lessR x.1.2 y.1.2 := ltR x.1.2 y.1.2
theorem swoR {M : Nat → Prop} {w : World} : Go.Sort.SWO (Go.Proofs.ltOf (fun x y : RgV M w => cmpR x.1.2 y.1.2)) where
  irrefl := fun x => by rw [ltRV]; exact totR.irr _
  trans := fun x y z h1 h2 => by rw [ltRV] at *; exact totR.trans h1 h2
  ntrans := fun x y z h1 h2 => by rw [ltRV] at *; exact totR.ntrans h2 h1
theorem enters_r {K : Nat} {fn : Func} {c : Code} (hf : Tryz.prog.funcs[K]? = some fn) (hname : (fn.name == "runtime.NumGoroutine") = false) (hb : fn.body = some c) (args : Array Value) (w : World) : (callFunc K args).run Tryz.prog w = .ok (.enter K args) w := by
  have h1 : fn.name ≠ "runtime.NumGoroutine" := by simpa using hname
  simp [callFunc, hf, h1, hb]
theorem SortFunc_rings {base : Nat} {M : Nat → Prop} {w : World} {rs : Rgs} (A : Option Addr) (n c : Nat) (hsm : rs.length ≤ 1000000000) (HO : OwnR Ty.ring 41 base M w (.slice A n c) rs) :
    Calls Tryz.prog 47 #[.slice A n c, .func (.func 48) #[] #[]] w fun e' w' => e' = .returned (.tuple #[]) ∧ OwnR Ty.ring 41 base M w' (.slice A n c) (sortG lessR rs) ∧ KeptS (fun b => (Value.slice A n c).ownBlock = some b) w w' := by
  obtain ⟨A', c', hv', hc', hr, hg⟩ := HO.reads
  injection hv' with e1 e2 e3
  subst e1 e2 e3
  rcases Nat.eq_zero_or_pos rs.length with h0 | h0
  · obtain rfl : rs = [] := List.eq_nil_of_length_eq_zero h0
    exact (AnyF.slices_SortFunc_none (ρ := Tryz.laysRg_ren) { Tryz.laysRg with } A c _ w).mono fun e' w' ⟨he, hw⟩ => ⟨he, by rw [hw]; exact HO, by rw [hw]; exact kept_refl _ _⟩
  · obtain ⟨g, rfl, _⟩ := hg h0
    obtain ⟨inner, hi, hH, hgl⟩ := HO.cellsOf
    have hMg : M g := HO.1 g rfl
    obtain ⟨ps, hp1, hp2⟩ := reps_rgs hi
    have hln : ps.length = rs.length := by rw [← hp2, List.length_map]
    have hH' : Go.Sort.Holds (fun x : RgV M w => x.1.1) w g 0 ps.toArray := fun j hj => by
      have hj0 : j < ps.length := by simpa using hj
      have hj' : j < inner.toArray.size := by rw [← hp1]; simpa using hj
      have := hH j hj'
      refine ⟨this.1.trans (congrArg some ?_), this.2⟩
      rw [getElem!_pos inner.toArray j hj', getElem!_pos ps.toArray j hj]
      simp only [← hp1, id, List.getElem_toArray, List.getElem_map]
    have hsz : ps.toArray.size < 4611686018427387904 := by
      rw [List.size_toArray]; omega
    have hC : CmpLays1 Tryz.prog 48 #[] (fun x : RgV M w => x.1.1) (fun x y => cmpR x.1.2 y.1.2) g 0 ps.toArray.size w := fun m os dk hs x y => by
      have hmv : ∀ k, (¬ M k ∧ k < w.heap.size) → (Go.Proofs.sortWorld (fun x : RgV M w => x.1.1) w g 0 m dk os).heap[k]? = w.heap[k]? := fun k hk => by
        unfold Go.Proofs.sortWorld
        rw [Go.Sort.heap_grow_old _ _ (by simpa using hk.2)]
        show (w.heap.modify g _)[k]? = _
        have hne : g ≠ k := by rintro rfl; exact hk.1 hMg
        rw [Array.getElem?_modify, if_neg hne]
      obtain ⟨⟨xv, xr⟩, A1, c1, hx, hxl, hxr⟩ := x
      obtain ⟨⟨yv, yr⟩, A2, c2, hy, hyl, hyr⟩ := y
      replace hx : xv = .slice A1 xr.length c1 := by injection hx
      replace hy : yv = .slice A2 yr.length c2 := by injection hy
      subst hx hy
      exact (rings_cmp xr yr A1 A2 _ _ c1 c2 _ (hxr.move hmv) (hyr.move hmv) rfl rfl).mono fun e' w' ⟨he, hgw⟩ => ⟨he, hgw⟩
    have := Any.slices_SortFunc Tryz.laysRg (fun x : RgV M w => x.1.1) (fun x => by obtain ⟨⟨xv, xr⟩, A1, c1, hx, _⟩ := x; (replace hx : xv = .slice A1 xr.length c1 := by injection hx); subst hx; rfl) (fun x y => cmpR x.1.2 y.1.2) swoR 48 #[] g 0 c ps.toArray w (enters_r Tryz.func48 (by kernel_rfl) rfl) hC hH' hgl hsz
    rw [List.size_toArray, hln] at this
    refine this.mono ?_
    rintro e' w' ⟨he, d', m, os, hp, hs, hw⟩
    have hp' : d'.toList.Perm ps := by
      obtain ⟨hs1, _, hp2'⟩ := hp
      have e1 : d'.extract 0 rs.length = d' := by rw [show rs.length = d'.size by rw [hs1]; simp [hln]]; simp
      have e2 : ps.toArray.extract 0 rs.length = ps.toArray := by rw [← hln]; simp
      rw [e1, e2] at hp2'
      simpa using hp2'
    have hl := hp'.length_eq
    have hsrt : Srt lessR (d'.toList.map fun x => x.1.2) := by
      refine List.pairwise_map.2 (List.pairwise_iff_getElem.2 fun i j hi hj hij => ?_)
      have := hs i j (Nat.zero_le _) hij (by omega)
      rw [ltRV, getElem!_pos d' i (by simpa using hi), getElem!_pos d' j (by simpa using hj)] at this
      simpa using this
    have hys := sortG_eq totR ((hp'.map fun x => x.1.2).trans (by rw [hp2])) hsrt
    have := HO.resorted (ys := d'.toList.map fun x => x.1.2) (inner' := d'.toList.map fun x => x.1.1) (by rw [List.length_map]; omega) (rgs_reps _) m os (W := w') (by rw [hw]; unfold Go.Proofs.sortWorld; rw [putRow_map, show (d'.toList.map fun x : RgV M w => x.1.1).toArray = d'.map fun x => x.1.1 from by apply Array.ext' ; rw [Array.toList_map]])
    rw [hys] at this
    exact ⟨he, this.1, kept_mono this.2 (fun k _ hk => by rw [hk]; rfl)⟩
end Go.Proofs.YtlmjciajpjdilaaGreat
end

section
namespace Go.Proofs.YtlmjciajpjdilaaGreat
open Go.RowKit Go.Proofs.YtlmjciajpjdilaaGreatW.PrintLast
set_option linter.unusedVariables false
set_option linter.unusedSimpArgs false

theorem dir_V {u : Sgs} (h : segsV u) : segsV (dirZ u) := by
  intro s hs
  obtain ⟨t, ht, rfl⟩ := List.mem_map.1 hs
  have := h t ht
  by_cases hl : leftZ u t = true
  · rw [if_pos hl]; exact this
  · rw [if_neg hl, Bool.and_comm]; exact this
theorem dir_len (u : Sgs) : (dirZ u).length = u.length := List.length_map ..
theorem walk_pos (dl : Sgs) (s : Sg) : ∀ (n : Nat) (t : Sg) (ring : Pts) (rest : Sgs), 0 < n ∨ 0 < ring.length → 0 < (walkZ dl s n t ring rest).1.length
  | 0, t, ring, rest, h => h.elim (fun h => absurd h (Nat.lt_irrefl 0)) id
  | n + 1, t, ring, rest, _ => by
    by_cases hs : succZ dl t = s ∨ succZ dl t ∉ dropS rest t
    · rw [walk_stop hs]; simp
    · have h1 : ¬ succZ dl t = s := fun e => hs (.inl e)
      have h2 : succZ dl t ∈ dropS rest t := Classical.byContradiction (fun e => hs (.inr e))
      rw [walkZ_on h1 h2]
      exact walk_pos dl s n _ _ _ (.inr (by simp))
theorem loopSt_rings (dl : Sgs) : ∀ k, ∀ r ∈ (loopSt dl k).1, 0 < r.length ∧ r.length ≤ dl.length
  | 0, r, h => absurd h (List.not_mem_nil)
  | k + 1, r, h => by
    by_cases hk : k < dl.length
    · rw [loopSt_snoc dl k hk] at h
      by_cases hm : sgD dl k ∈ (loopSt dl k).2
      · rw [loopF_in hm] at h
        rcases List.mem_append.1 h with h | h
        · exact loopSt_rings dl k r h
        · rw [List.mem_singleton.1 h]
          have h1 := walk_len dl (sgD dl k) (loopSt dl k).2.length (sgD dl k) [] (loopSt dl k).2 hm (Nat.le_refl _)
          have h2 := (loopSt_len dl k).2
          have h3 := List.length_pos_of_mem hm
          exact ⟨walk_pos dl _ _ _ _ _ (.inl h3), by simp at h1; omega⟩
      · rw [loopF_out hm] at h; exact loopSt_rings dl k r h
    · have : loopSt dl (k + 1) = loopSt dl k := by unfold loopSt; rw [List.take_of_length_le (by omega), List.take_of_length_le (by omega)]
      rw [this] at h; exact loopSt_rings dl k r h
theorem loops_eq (dl : Sgs) : loopsZ dl = (loopSt dl dl.length).1 := by unfold loopsZ loopSt; rw [List.take_length]
theorem loops_ok (dl : Sgs) : (loopsZ dl).length ≤ dl.length ∧ ∀ r ∈ loopsZ dl, 0 < r.length ∧ r.length ≤ dl.length := by
  rw [loops_eq]
  exact ⟨(loopSt_len dl dl.length).1, loopSt_rings dl dl.length⟩
theorem divided_len (rs : Rgs) (hb : ∀ r ∈ rs, r.length ≤ 1000000) : (dividedZ rs).length ≤ rs.length * 1000001 := by
  have := divTo_len rs hb rs.length (Nat.le_refl _)
  unfold divTo at this
  rwa [List.take_length] at this
set_option maxHeartbeats 1000000 in
theorem trace_Rings {ok : Nat → Prop} (l : Sgs) (A : Option Addr) (n c : Nat) (w : World) (hr : Row Ty.sg ok w A l) (hn : n = l.length) (hlen : l.length ≤ 600) :
    Calls Tryz.prog 13 #[.slice A n c] w fun e w' => ∃ v, e = .returned (.tuple #[v, .int .i64 (checkZ l)]) ∧ Own1 Ty.ring 41 w.heap.size w' v (ringsZ l) ∧ Below w.heap.size w w' := by
  subst hn
  have HR := Lib.hid hr
  clear hr
  have CC := Lib.hid (fun W h => trace_Check (ok := ok) l A l.length c W h rfl hlen)
  have CU := Lib.hid (fun W h => noding_Unique (ok := ok) l A l.length c W h rfl (by omega))
  have hV := Lib.hid (dir_V (uniq_V l))
  have hL : (dirZ (uniqZ l)).length ≤ 600 := by rw [dir_len]; exact Nat.le_trans (uniq_len l) hlen
  have hLu : (uniqZ l).length ≤ 600 := Nat.le_trans (uniq_len l) hlen
  have hLO := Lib.hid (loops_ok (dirZ (uniqZ l)))
  have hL1 : (loopsZ (dirZ (uniqZ l))).length ≤ 600 := Nat.le_trans (loops_ok (dirZ (uniqZ l))).1 hL
  have hDL : (dividedZ (loopsZ (dirZ (uniqZ l)))).length ≤ 1000000000 := by
    refine Nat.le_trans (divided_len _ (fun r h => by have := ((loops_ok (dirZ (uniqZ l))).2 r h).2; omega)) ?_
    refine Nat.le_trans (Nat.mul_le_mul_right _ hL1) (by decide)
  have HZ : Hid (ringsZ l = if checkZ l = 0 then sortG lessR (dividedZ (loopsZ (dirZ (uniqZ l)))) else []) := rfl
  have hUV := Lib.hid (uniq_V l)
  have hlb : l.length ≤ 600 := hlen
  clear hlen
  generalize checkZ l = r at *
  generalize ringsZ l = z at *
  generalize uniqZ l = u at *
  by_cases h0 : r = 0
  · subst h0
    have HZ1 : Hid (z = sortG lessR (dividedZ (loopsZ (dirZ u)))) := HZ.out.trans (if_pos rfl)
    clear HZ
    go_enter Tryz.func13, Tryz.ntmps13
    go_wp2_with fail
    refine Calls.mono (CC.out _ HR.out) ?_
    rintro e w1 ⟨rfl, hb1⟩
    have HR1 := Lib.hid (HR.out.below hb1)
    have HB1 := Lib.hid hb1
    clear hb1
    go_wp2_with fail
    refine Calls.mono (CU.out _ HR1.out) ?_
    rintro e w2 ⟨v2, rfl, ho2, hb2⟩
    obtain ⟨A2, c2, rfl, hl2, hr2⟩ := ho2.reads
    have HR2 := Lib.hid hr2
    have HB2 := Lib.hid (below_step HB1.out hb2)
    clear hb2 ho2 hr2
    go_wp2_with fail
    refine Calls.mono (trace_directed u A2 _ c2 _ HR2.out rfl hUV.out (by omega)) ?_
    rintro e w3 ⟨v3, rfl, ho3, hb3⟩
    obtain ⟨A3, c3, rfl, hl3, hr3⟩ := ho3.reads
    have HR3 := Lib.hid hr3
    have HB3 := Lib.hid (below_step HB2.out hb3)
    clear hb3 ho3 hr3
    go_wp2_with fail
    refine Calls.mono (trace_loops (dirZ u) A3 _ c3 _ HR3.out rfl hV.out (by omega)) ?_
    rintro e w4 ⟨v4, rfl, ho4, hb4⟩
    obtain ⟨A4, c4, rfl, hl4, hr4⟩ := ho4.reads
    have HR4 := Lib.hid hr4
    have HB4 := Lib.hid (below_step HB3.out hb4)
    clear hb4 ho4 hr4
    go_wp2_with fail
    refine Calls.mono (trace_divided (loopsZ (dirZ u)) A4 _ c4 _ HR4.out rfl (fun r h => (hLO.out.2 r h).1) (fun r h => Nat.le_trans (hLO.out.2 r h).2 (by omega)) (by omega)) ?_
    rintro e w5 ⟨v5, rfl, ho5, hb5⟩
    have HB5 := Lib.hid (below_step HB4.out hb5)
    have HO5 := Lib.hid (ho5.base (HB4.out.size))
    obtain ⟨A5, c5, rfl, hl5, hr5⟩ := ho5.reads
    clear hb5 ho5 hr5
    go_wp2_with fail
    refine Calls.mono (SortFunc_rings A5 _ c5 hDL HO5.out) ?_
    rintro e w6 ⟨rfl, ho6, hk6⟩
    have HB6 := Lib.hid (below_kept HB5.out hk6 (fun b e => (OwnR.lt HO5.out b e).1))
    have HO6 := Lib.hid ho6
    clear ho6 hk6
    go_wp2
    go_ret2
    have := HO6.out
    refine ⟨_, rfl, ?_, HB6.out⟩
    rw [HZ1.out]
    rwa [show (dividedZ (loopsZ (dirZ u))).length = (sortG lessR (dividedZ (loopsZ (dirZ u)))).length by rw [sortG_len]] at this ⊢
  · have HZ1 : Hid (z = []) := HZ.out.trans (if_neg h0)
    have q0 : (r == 0) = false := by simp [h0]
    clear HZ
    go_enter Tryz.func13, Tryz.ntmps13
    go_wp2_with fail
    refine Calls.mono (CC.out _ HR.out) ?_
    rintro e w1 ⟨rfl, hb1⟩
    have HB1 := Lib.hid hb1
    clear hb1
    go_wp2
    go_ret2
    exact ⟨_, rfl, by rw [HZ1.out]; exact OwnR.nil _ _ _ _ _, HB1.out⟩
set_option maxHeartbeats 1000000 in
theorem trace_LeftInside {ok : Nat → Prop} (l : Sgs) (A : Option Addr) (n c : Nat) (s : Sg) (w : World) (hr : Row Ty.sg ok w A l) (hn : n = l.length) (hlen : l.length ≤ 600) :
    Calls Tryz.prog 16 #[.slice A n c, sgA s] w fun e w' => e = .returned (.bool (leftIn l s)) ∧ Below w.heap.size w w' := by
  subst hn
  have HR := Lib.hid hr
  clear hr
  have CC := Lib.hid (fun W h => trace_Check (ok := ok) l A l.length c W h rfl hlen)
  have CU := Lib.hid (fun W h => noding_Unique (ok := ok) l A l.length c W h rfl (by omega))
  have HE : Hid (leftIn l s = (decide (s ∈ uniqZ l) && (decide (checkZ l = 0) && leftZ (uniqZ l) s))) := rfl
  have hUV := Lib.hid (uniq_V l)
  generalize leftIn l s = z at *
  generalize checkZ l = r at *
  generalize uniqZ l = u at *
  obtain ⟨⟨s1, s2⟩, ⟨s3, s4⟩⟩ := s
  simp only [sgA]
  by_cases hm : ((s1, s2), (s3, s4)) ∈ u
  · have HM := Lib.hid hm
    have HD := Lib.hid (decide_eq_true hm)
    have HV := Lib.hid (hUV.out _ hm)
    clear hm
    by_cases h0 : r = 0
    · subst h0
      have HZ : Hid (z = leftZ u ((s1, s2), (s3, s4))) := HE.out.trans (by rw [HD.out]; simp)
      clear HE
      go_enter Tryz.func16, Tryz.ntmps16
      go_wp2_with fail
      refine Calls.mono (CU.out _ (HR.out.alloc _)) ?_
      rintro e w2 ⟨v2, rfl, ho2, hb2⟩
      obtain ⟨A2, c2, rfl, hl2, hr2⟩ := ho2.reads
      have HR2 := Lib.hid hr2
      clear ho2 hr2
      obtain ⟨cb2, fb2⟩ := bcell hb2
      have z2 := hb2.size
      simp at z2
      have y2 : w.heap.size < w2.heap.size := by omega
      have HB2 : Hid (Below w.heap.size w w2) := (by repeat (first | exact Below.refl _ _ | apply below_alloc | apply below_drewN | apply below_drew | (refine below_set2 ?_ ?_; (first | (simp; done) | (simp; omega))) | (refine below_step ?_ hb2)))
      have HL2 := Lib.hid ((HR.out.alloc _).below hb2)
      go_wp2_with fail
      refine Calls.mono (Contains_sg u A2 _ c2 ((s1, s2), (s3, s4)) _ HR2.out rfl) ?_
      rintro e w3 ⟨rfl, hb3⟩
      rw [HD.out]
      obtain ⟨cb3, fb3⟩ := bcell hb3
      have z3 := hb3.size
      have y3 : w.heap.size < w3.heap.size := by omega
      have HB3 := Lib.hid (below_step HB2.out hb3)
      have HR3 := Lib.hid (HR2.out.below hb3)
      have HL3 := Lib.hid (HL2.out.below hb3)
      clear hb2 hb3
      go_wp2_with fail
      refine Calls.mono (CC.out _ HL3.out) ?_
      rintro e w4 ⟨rfl, hb4⟩
      obtain ⟨cb4, fb4⟩ := bcell hb4
      have z4 := hb4.size
      have y4 : w.heap.size < w4.heap.size := by omega
      have HB4 := Lib.hid (below_step HB3.out hb4)
      have HR4 := Lib.hid (HR3.out.below hb4)
      clear hb4
      go_wp2_with fail
      refine Calls.mono (trace_left u A2 _ c2 ((s1, s2), (s3, s4)) _ HR4.out rfl hUV.out HV.out) ?_
      rintro e w5 ⟨rfl, hb5⟩
      have HB5 := Lib.hid (below_step HB4.out hb5)
      clear hb5
      go_wp2
      go_ret
      exact ⟨ret_bool HZ.out.symm, HB5.out⟩
    · have HZ : Hid (z = false) := HE.out.trans (by simp [h0])
      have q0 : (r == 0) = false := by simp [h0]
      clear HE h0
      go_enter Tryz.func16, Tryz.ntmps16
      go_wp2_with fail
      refine Calls.mono (CU.out _ (HR.out.alloc _)) ?_
      rintro e w2 ⟨v2, rfl, ho2, hb2⟩
      obtain ⟨A2, c2, rfl, hl2, hr2⟩ := ho2.reads
      have HR2 := Lib.hid hr2
      clear ho2 hr2
      obtain ⟨cb2, fb2⟩ := bcell hb2
      have z2 := hb2.size
      simp at z2
      have y2 : w.heap.size < w2.heap.size := by omega
      have HB2 : Hid (Below w.heap.size w w2) := (by repeat (first | exact Below.refl _ _ | apply below_alloc | apply below_drewN | apply below_drew | (refine below_set2 ?_ ?_; (first | (simp; done) | (simp; omega))) | (refine below_step ?_ hb2)))
      have HL2 := Lib.hid ((HR.out.alloc _).below hb2)
      go_wp2_with fail
      refine Calls.mono (Contains_sg u A2 _ c2 ((s1, s2), (s3, s4)) _ HR2.out rfl) ?_
      rintro e w3 ⟨rfl, hb3⟩
      rw [HD.out]
      have HB3 := Lib.hid (below_step HB2.out hb3)
      have HL3 := Lib.hid (HL2.out.below hb3)
      clear hb2 hb3
      go_wp2_with fail
      refine Calls.mono (CC.out _ HL3.out) ?_
      rintro e w4 ⟨rfl, hb4⟩
      have HB4 := Lib.hid (below_step HB3.out hb4)
      clear hb4
      go_wp2
      go_ret
      exact ⟨ret_bool HZ.out.symm, HB4.out⟩
  · have HZ : Hid (z = false) := HE.out.trans (by rw [decide_eq_false hm]; rfl)
    have HD := Lib.hid (decide_eq_false hm)
    clear HE hm
    go_enter Tryz.func16, Tryz.ntmps16
    go_wp2_with fail
    refine Calls.mono (CU.out _ (HR.out.alloc _)) ?_
    rintro e w2 ⟨v2, rfl, ho2, hb2⟩
    obtain ⟨A2, c2, rfl, hl2, hr2⟩ := ho2.reads
    have HR2 := Lib.hid hr2
    clear ho2 hr2
    obtain ⟨cb2, fb2⟩ := bcell hb2
    have z2 := hb2.size
    simp at z2
    have HB2 : Hid (Below w.heap.size w w2) := (by repeat (first | exact Below.refl _ _ | apply below_alloc | apply below_drewN | apply below_drew | (refine below_set2 ?_ ?_; (first | (simp; done) | (simp; omega))) | (refine below_step ?_ hb2)))
    go_wp2_with fail
    refine Calls.mono (Contains_sg u A2 _ c2 ((s1, s2), (s3, s4)) _ HR2.out rfl) ?_
    rintro e w3 ⟨rfl, hb3⟩
    rw [HD.out]
    have HB3 := Lib.hid (below_step HB2.out hb3)
    clear hb2 hb3
    go_wp2
    go_ret
    exact ⟨ret_bool HZ.out.symm, HB3.out⟩
end Go.Proofs.YtlmjciajpjdilaaGreat
end
