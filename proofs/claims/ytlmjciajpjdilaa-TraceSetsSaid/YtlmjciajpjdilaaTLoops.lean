/- Contract of trace.loops: the loops of directed segments. -/
import Derived.Test.YtlmjciajpjdilaaTGm
import Derived.Test.YtlmjciajpjdilaaTTurn
namespace Go.Proofs.Ytlmjciajpjdilaa
open Go.RowKit Go.Proofs.YtlmjciajpjdilaaW.PrintLast
set_option linter.unusedVariables false
set_option linter.unusedSimpArgs false

attribute [local go_sem high] eqPt eqSg
theorem GM.look {w : World} {base b : Nat} {vs : List (Pt × Value)} {l : Sgs} (h : GM w base b vs l) (p : Pt) : ∃ A c, (mapGet vs p).getD (.slice none 0 0) = .slice A (outs l p).length c ∧ Row Ty.pt (fun _ => True) w A (outs l p) := by
  have hlk : (vs.map Prod.fst).length = vs.length := List.length_map ..
  by_cases hi : mapIx vs p < vs.length
  · have h1 : mapGet vs p = some (vs[mapIx vs p]'hi).2 := by rw [mapGet, List.getElem?_eq_getElem hi]; rfl
    have h2 := h.rows _ hi
    rw [mapIx_lt hi] at h2
    obtain ⟨A, c, e, _, hr⟩ := h2.reads
    exact ⟨A, c, by rw [h1]; exact e, hr⟩
  · have h1 : mapGet vs p = none := Classical.byContradiction (fun h => hi (mapIx_lt_iff.2 h))
    have h2 : p ∉ atL l := fun hm => hi (by rw [mapIx_mem, h.keys]; exact (dk_mem _ _).2 hm)
    have h3 : outs l p = [] := gi_none h2
    exact ⟨none, 0, by rw [h1, h3]; rfl, by rw [h3]; exact Row.nil _ _ _ _⟩
section
variable {P : Program} {ops : Array Oper} {rest : List Oper} {o : Oper} {a : Act} {Q : Exit → Act → World → Prop} {W : World}
/-- delete, at the operation. -/
theorem wpList_delM (hg : o.guard = none) (m x : Operand) (t u : TypeId) (hop : o.op = .call { callee := .builtin .delete, args := #[m, x], argTypes := #[t, u] }) (mv xv : Value) (hm : a.eval m = mv) (hx : a.eval x = xv) (w' : World)
    (hrun : (Builtin.delete_ #[t, u] o.type #[mv, xv]).run P W = .ok (.tuple #[]) w') (h : wpList P ops Q rest (a.put o.dst (.tuple #[])) w') : wpList P ops Q (o :: rest) a W := by
  refine wpList_plain hg fun K' hK' => ?_
  unfold Oper.wp
  simp only [execOp, hop, resolve, invoke, builtin, Sem.run_bind, Sem.run_pure, Result.andThen_ok, List.map_toArray, List.map_cons, List.map_nil, hm, hx, hrun]
  exact hK' _ _ h
end
def loopSt (dl : Sgs) (k : Nat) : Rgs × Sgs := (dl.take k).foldl (loopF dl) ([], dl)
theorem loopSt_snoc (dl : Sgs) (k : Nat) (h : k < dl.length) : loopSt dl (k + 1) = loopF dl (loopSt dl k) (sgD dl k) := by
  unfold loopSt
  rw [take_snoc dl k ((0, 0), (0, 0)) h, List.foldl_append]; rfl
theorem loopF_out {dl : Sgs} {st : Rgs × Sgs} {s : Sg} (h : s ∉ st.2) : loopF dl st s = st := by unfold loopF; rw [if_neg h]
theorem loopF_in {dl : Sgs} {st : Rgs × Sgs} {s : Sg} (h : s ∈ st.2) : loopF dl st s = (st.1 ++ [(walkZ dl s st.2.length s [] st.2).1], (walkZ dl s st.2.length s [] st.2).2) := by unfold loopF; rw [if_pos h]
def dropS (rest : Sgs) (t : Sg) : Sgs := rest.filter fun x => decide (x ≠ t)
theorem walk_stop {dl : Sgs} {s t : Sg} {n : Nat} {ring : Pts} {rest : Sgs} (h : succZ dl t = s ∨ succZ dl t ∉ dropS rest t) : walkZ dl s (n + 1) t ring rest = (ring ++ [t.1], dropS rest t) := by
  unfold walkZ; exact if_pos h
theorem walkZ_on {dl : Sgs} {s t : Sg} {n : Nat} {ring : Pts} {rest : Sgs} (h1 : ¬ succZ dl t = s) (h2 : succZ dl t ∈ dropS rest t) : walkZ dl s (n + 1) t ring rest = walkZ dl s n (succZ dl t) (ring ++ [t.1]) (dropS rest t) := by
  conv => lhs; unfold walkZ
  exact if_neg (fun h => h.elim h1 (fun h => h h2))
theorem dropS_lt {rest : Sgs} {t : Sg} (h : t ∈ rest) : (dropS rest t).length < rest.length := by
  unfold dropS
  have h1 := List.length_filter_lt_length_iff_exists (p := fun x => decide (x ≠ t)) (l := rest)
  exact h1.2 ⟨t, h, by simp⟩
/-- Every round adds one point to a ring: as many as segments go. -/
theorem walk_len (dl : Sgs) (s : Sg) : ∀ (n : Nat) (t : Sg) (ring : Pts) (rest : Sgs), t ∈ rest → rest.length ≤ n → (walkZ dl s n t ring rest).1.length + (walkZ dl s n t ring rest).2.length ≤ ring.length + rest.length
  | 0, t, ring, rest, _, _ => Nat.le_refl _
  | n + 1, t, ring, rest, hm, hl => by
    have hd := dropS_lt hm
    by_cases h : succZ dl t = s ∨ succZ dl t ∉ dropS rest t
    · rw [walk_stop h]; simp; omega
    · have h1 : ¬ succZ dl t = s := fun e => h (.inl e)
      have h2 : succZ dl t ∈ dropS rest t := Classical.byContradiction (fun e => h (.inr e))
      rw [walkZ_on h1 h2]
      have := walk_len dl s n (succZ dl t) (ring ++ [t.1]) (dropS rest t) h2 (by omega)
      simp at this; omega
theorem loopSt_len (dl : Sgs) : ∀ k, (loopSt dl k).1.length ≤ k ∧ (loopSt dl k).2.length ≤ dl.length
  | 0 => ⟨Nat.le_refl _, Nat.le_refl _⟩
  | k + 1 => by
    have ih := loopSt_len dl k
    by_cases h : k < dl.length
    · rw [loopSt_snoc dl k h]
      by_cases hm : sgD dl k ∈ (loopSt dl k).2
      · rw [loopF_in hm]
        have := walk_len dl (sgD dl k) (loopSt dl k).2.length (sgD dl k) [] (loopSt dl k).2 hm (Nat.le_refl _)
        simp at this ⊢; omega
      · rw [loopF_out hm]; omega
    · have : loopSt dl (k + 1) = loopSt dl k := by unfold loopSt; rw [List.take_of_length_le (by omega), List.take_of_length_le (by omega)]
      rw [this]; omega
theorem row_onep {ok : Nat → Prop} {w : World} {g : Nat} {t : TypeId} {x : Pt} (hok : ok g) (h : w.heap[g]? = some (.cells #[.int .i64 x.1, .int .i64 x.2] t (0, 0))) : Row Ty.pt ok w (some ⟨g, 0, none⟩) [x] := by
  refine ⟨by simp, fun _ => ⟨_, rfl, hok, fun i y hy => ?_⟩⟩
  have hi : i = 0 := by have := (List.getElem?_eq_some_iff.1 hy).1; simp at this; exact this
  subst hi
  simp at hy; subst hy
  refine ⟨_, rfl, fun j u hu => ?_⟩
  rw [add_at, Nat.zero_mul, Nat.zero_add, Nat.zero_add]
  exact blk_cell h j (by simpa using hu)
theorem Own1.row_ok {α : Type} {T : Ty α} {e : TypeId} {base : Nat} {w : World} {v : Value} {xs : List α} (hf : ∀ (ok ok' : Nat → Prop) (w w' : World) (x : α) (cs : List Value), T.R ok w x cs → T.R ok' w' x cs) (h : Own1 T e base w v xs) (ok : Nat → Prop) (hok : ∀ b, v.ownBlock = some b → ok b) :
    ∃ A c, v = .slice A xs.length c ∧ xs.length ≤ c ∧ Row T ok w A xs := by
  obtain ⟨h0, inner, h1, hr⟩ := h
  have h' : OwnR T e base (fun _ => True) w v xs := ⟨fun _ _ => trivial, inner, h1, hr.imp (fun x c hc => hf _ _ _ _ _ _ hc)⟩
  obtain ⟨A, c, e, hl, hrow, _⟩ := OwnR.reads h'
  exact ⟨A, c, e, hl, hrow.mono (fun k hk => hk.elim (fun h => absurd trivial h) (fun h => hok k h))⟩
theorem walk_sub (dl : Sgs) (s : Sg) : ∀ (n : Nat) (t : Sg) (ring : Pts) (rest : Sgs) (x : Sg), x ∈ (walkZ dl s n t ring rest).2 → x ∈ rest
  | 0, t, ring, rest, x, h => h
  | n + 1, t, ring, rest, x, h => by
    by_cases hs : succZ dl t = s ∨ succZ dl t ∉ dropS rest t
    · rw [walk_stop hs] at h; exact (List.mem_filter.1 h).1
    · have h1 : ¬ succZ dl t = s := fun e => hs (.inl e)
      have h2 : succZ dl t ∈ dropS rest t := Classical.byContradiction (fun e => hs (.inr e))
      rw [walkZ_on h1 h2] at h
      exact (List.mem_filter.1 (walk_sub dl s n _ _ _ x h)).1
theorem loopSt_sub (dl : Sgs) : ∀ k, ∀ x ∈ (loopSt dl k).2, x ∈ dl
  | 0, x, h => h
  | k + 1, x, h => by
    by_cases hk : k < dl.length
    · rw [loopSt_snoc dl k hk] at h
      by_cases hm : sgD dl k ∈ (loopSt dl k).2
      · rw [loopF_in hm] at h; exact loopSt_sub dl k x (walk_sub dl _ _ _ _ _ x h)
      · rw [loopF_out hm] at h; exact loopSt_sub dl k x h
    · have : loopSt dl (k + 1) = loopSt dl k := by unfold loopSt; rw [List.take_of_length_le (by omega), List.take_of_length_le (by omega)]
      rw [this] at h; exact loopSt_sub dl k x h
theorem outs_valid {dl : Sgs} (h : segsV dl) (p : Pt) : ∀ x ∈ outs dl p, validB x = true := by
  intro x hx
  obtain ⟨s, hs, rfl⟩ := List.mem_map.1 hx
  have := h s (List.mem_filter.1 hs).1
  rw [Bool.and_eq_true] at this
  exact this.2
set_option maxRecDepth 100000 in
set_option maxHeartbeats 4000000 in
theorem trace_loops {ok : Nat → Prop} (dl : Sgs) (A : Option Addr) (n c : Nat) (w : World) (hr : Row Ty.sg ok w A dl) (hn : n = dl.length) (hV : segsV dl) (hlen : dl.length ≤ 1000000) :
    Calls Try.prog 12 #[.slice A n c] w fun e w' => ∃ v, e = .returned v ∧ Own1 Ty.ring 36 w.heap.size w' v (loopsZ dl) ∧ Below w.heap.size w w' := by
  subst hn
  have mk1 : ∀ W : World, (Instr.makeMap 52 none).run Try.prog W = .ok (.map (some W.heap.size)) (W.alloc (.map #[] 0)) := fun W => run_makeMap _ W
  have mk2 : ∀ W : World, (Instr.makeMap 53 none).run Try.prog W = .ok (.map (some W.heap.size)) (W.alloc (.map #[] 0)) := fun W => run_makeMap _ W
  have HR := Lib.hid hr
  have HVV := Lib.hid hV
  clear hr hV
  have HLZ : Hid (loopsZ dl = (loopSt dl dl.length).1) := by show _ = _; unfold loopSt loopsZ; rw [List.take_length]
  generalize loopsZ dl = res at *
  go_enter Try.func12, Try.ntmps12
  go_wp2
  go_loopw [16] (fun i wr => ∃ (k : Nat) (vs : List (Pt × Value)), k ≤ dl.length ∧ i = .int .i64 k ∧ Hid (Below w.heap.size w wr) ∧ Hid (GM wr (w.heap.size + 1 + 1) w.heap.size vs (dl.take k)) ∧ Hid (RM wr (w.heap.size + 1) (dl.take k)) ∧ w.heap.size + 1 + 1 ≤ wr.heap.size) (fun i _ => dl.length - (intOf i).toNat)
  case atStart => exact ⟨0, [], Nat.zero_le _, rfl, (by repeat (first | exact Below.refl _ _ | apply below_alloc | apply below_drewN | apply below_drew | (refine below_set2 ?_ ?_; (first | (simp; done) | (simp; omega))))), GM.made (OwnMap.below (OwnMap.made w ptV) (below_alloc (Below.refl _ _) _)), by show RM _ _ _; have := RM.made (w.alloc (.map #[] 0)); simpa using this, by simp⟩
  case round =>
    obtain ⟨k, vs, hk, rfl, HB, HG, HRm, hz1⟩ := hrel
    by_cases hlt : k < dl.length
    · have HRw := Lib.hid (HR.out.below HB.out)
      obtain ⟨ad, rfl, hx0, hx1, hx2, hx3⟩ := HRw.out.sg_at k hlt
      have HT := Lib.hid (take_snoc dl k ((0, 0), (0, 0)) hlt)
      have hkl : (dl.take k).length ≤ 1000000 := by rw [List.length_take]; omega
      obtain ⟨s, hs⟩ : ∃ s, s = sgD dl k := ⟨_, rfl⟩
      have hs' : dl.getD k ((0, 0), (0, 0)) = s := hs.symm
      rw [← hs] at hx0 hx1 hx2 hx3
      rw [hs'] at HT
      generalize dl.take k = dk0 at *
      clear hs hs' HRw
      obtain ⟨Wq, hWq⟩ : ∃ Wq, Wq = (wr.alloc (.cells #[.int .i64 s.1.1, .int .i64 s.1.2, .int .i64 s.2.1, .int .i64 s.2.2] 27)).alloc (.cells #[.int .i64 s.2.1, .int .i64 s.2.2] 25) := ⟨_, rfl⟩
      have BQ : Below wr.heap.size wr Wq := by rw [hWq]; exact (by repeat (first | exact Below.refl _ _ | apply below_alloc | apply below_drewN | apply below_drew | (refine below_set2 ?_ ?_; (first | (simp; done) | (simp; omega)))))
      have HS0 : Wq.heap[wr.heap.size]? = some (.cells #[.int .i64 s.1.1, .int .i64 s.1.2, .int .i64 s.2.1, .int .i64 s.2.2] 27 (0, 0)) := by rw [hWq]; exact (two_alloc wr _ _).1
      have HL0 : Wq.heap[wr.heap.size + 1]? = some (.cells #[.int .i64 s.2.1, .int .i64 s.2.2] 25 (0, 0)) := by rw [hWq]; exact (two_alloc wr _ _).2
      have hzq := lt_of_block HL0
      obtain ⟨w2, st, vv, hrun, hown, hK2, hs2, hvo, hstep⟩ := (HG.out.below BQ).add s (by omega) (by omega)
      have HST := Lib.hid hstep
      have hne2 : ∀ j, vv.ownBlock = some j → j < wr.heap.size := fun j hj => by
        obtain ⟨i, hi, e⟩ := hvo j hj
        exact (OwnR.lt (HG.out.rows i hi) j e).2
      have hneb : ¬ wr.heap.size = w.heap.size := by omega
      have hneb2 : ¬ wr.heap.size + 1 = w.heap.size := by omega
      have HS2 := (hK2.block _ (by omega) hneb).trans HS0
      have HL2 := (hK2.block _ hzq hneb2).trans HL0
      have HROW : Hid (Row Ty.pt (fun j => ¬ vv.ownBlock = some j) w2 (some ⟨wr.heap.size + 1, 0, none⟩) [s.2]) := row_onep (fun e => by have := hne2 _ e; omega) HL2
      have HOWN := Lib.hid hown
      have hlen2 : ((gi dk0 s.1).length + 1) * 16 ≤ 140737488355328 := by
        have h1 : (gi dk0 s.1).length ≤ dk0.length := by unfold gi; rw [List.length_map]; exact List.length_filter_le _ _
        omega
      have hszb : w.heap.size + 1 + 1 ≤ w2.heap.size := by omega
      have K2 : KeptS (fun i => i = w.heap.size) wr w2 := kept_step (kept_of_below BQ) hK2
      have hvb : ∀ b, vv.ownBlock = some b → w.heap.size + 1 + 1 ≤ b := fun b e => (OwnR.lt HOWN.out b e).1
      rw [hWq] at hrun
      clear hWq hstep hown hvo BQ HS0 HL0 HL2 hK2
      go_wp2_with (first | (at_builtin; refine app_row Ty.pt (W := w2) (w.heap.size + 1 + 1) rfl _ _ 36 25 _ 16 rfl Try.underlying36 infoPt rfl (by decide) vv (gi dk0 s.1) [s.2] (some ⟨wr.heap.size + 1, 0, none⟩) 1 1 _ rfl rfl rfl HROW.out HOWN.out hszb hlen2 ?_; intro v1 w3 HO1 hg1 hat1; obtain ⟨w4, vs', hrun2, hGM, hK4⟩ := HST.out v1 w3 _ HO1 hg1 hat1; have HGM := Lib.hid hGM; have hS3 := (hg1.block _ (lt_of_block HS2) (fun e => absurd (hne2 _ e.symm) (by omega))).trans HS2; have hS4 := (hK4.block _ (lt_of_block hS3) hneb).trans hS3; have K4 := Lib.hid (kept_step (kept_step (kept_mono (S' := fun i => i = w.heap.size ∨ vv.ownBlock = some i) K2 (fun k _ h => .inl h)) (kept_mono (kept_grown hg1 (fun c e => e)) (fun k _ h => .inr h))) (kept_mono hK4 (fun k _ h => .inl h))); obtain ⟨w5, hrun3, hRM5, hK5, hs5⟩ := (HRm.out.kept K4.out (fun h => h.elim (fun h => by omega) (fun h => by have := hvb _ h; omega))).put s; have sc0 := blk_cell hS4 0 rfl; have sc1 := blk_cell hS4 1 rfl; have sc2 := blk_cell hS4 2 rfl; have sc3 := blk_cell hS4 3 rfl; clear HO1 hg1 hat1 hGM hK4))
      have HG5 : Hid (GM w5 (w.heap.size + 1 + 1) w.heap.size vs' (dk0 ++ [s])) := HGM.out.kept hK5 (by omega) (fun i hi g hg e => by have := (OwnR.lt (HGM.out.rows i hi) g hg).1; omega)
      have HR5 := Lib.hid hRM5
      have HB5 : Hid (Below w.heap.size w w5) := below_kept (below_kept HB.out K4.out (fun b hb => hb.elim (fun h => by omega) (fun h => by have := hvb _ h; omega))) hK5 (fun b hb => by omega)
      have hz5 : w.heap.size + 1 + 1 ≤ w5.heap.size := by have := K4.out.size; omega
      clear hRM5 hK5 K4 HGM HRm HG sc0 sc1 sc2 sc3 hS3 hS4 hrun hrun2 HROW HOWN HST
      go_wp2
      go_roundw
      case rel => exact ⟨k + 1, vs', by omega, by go_num, HB5, by rw [HT.out]; exact HG5, by rw [HT.out]; exact HR5, hz5⟩
      case measure => simp [intOf]; omega
    · obtain rfl : k = dl.length := by omega
      rw [List.take_length] at HG HRm
      obtain ⟨W1, rfl⟩ : ∃ W1 : World, W1 = wr := ⟨_, rfl⟩
      go_wp2
      go_loopw [7, 35] (fun ov iv wr => ∃ k : Nat, k ≤ dl.length ∧ iv = .int .i64 k ∧ Hid (KeptS (fun i => i = w.heap.size + 1) W1 wr) ∧ Hid (Below w.heap.size w wr) ∧ Hid (RM wr (w.heap.size + 1) (loopSt dl k).2) ∧ Hid (OwnR Ty.ring 36 W1.heap.size (fun i => i = w.heap.size + 1 ∨ ov.ownBlock = some i) wr ov (loopSt dl k).1)) (fun _ i _ => dl.length - (intOf i).toNat)
      case atStart => exact ⟨0, Nat.zero_le _, rfl, kept_refl _ _, HB.out, HRm.out, OwnR.nil _ _ _ _ _⟩
      case round =>
        obtain ⟨k, hk, rfl, HK, HBw, HRr, HO⟩ := hrel
        clear HRm HB
        by_cases hlt : k < dl.length
        · have HRw := Lib.hid (HR.out.below HBw.out)
          obtain ⟨ad, rfl, hx0, hx1, hx2, hx3⟩ := HRw.out.sg_at k hlt
          have HSN := Lib.hid (loopSt_snoc dl k hlt)
          have hll := loopSt_len dl k
          obtain ⟨s, hs⟩ : ∃ s, s = sgD dl k := ⟨_, rfl⟩
          rw [← hs] at hx0 hx1 hx2 hx3 HSN
          have hst : ∃ q, q = loopSt dl k := ⟨_, rfl⟩
          obtain ⟨st, hst⟩ := hst
          rw [← hst] at hll HSN HRr HO
          clear hs HRw
          have hzw : W1.heap.size ≤ wr.heap.size := HK.out.size
          have hlk := (HRr.out.below (below_alloc (Below.refl wr.heap.size wr) (.cells #[.int .i64 s.1.1, .int .i64 s.1.2, .int .i64 s.2.1, .int .i64 s.2.2] 27))).get s
          by_cases hm : s ∈ st.2
          · rw [decide_eq_true hm] at hlk
            have HLF := Lib.hid (HSN.out.trans (loopF_in hm))
            have HM := Lib.hid hm
            clear hm HSN
            have hsub := loopSt_sub dl k
            rw [← hst] at hsub
            have HSUB := Lib.hid hsub
            obtain ⟨wo, rfl⟩ : ∃ wo : World, wo = wr := ⟨_, rfl⟩
            have HSo : ((wo.alloc (.cells #[.int .i64 s.1.1, .int .i64 s.1.2, .int .i64 s.2.1, .int .i64 s.2.2] 27)).alloc (.cells #[.int .i64 s.1.1, .int .i64 s.1.2, .int .i64 s.2.1, .int .i64 s.2.2] 27)).heap[wo.heap.size]? = some (.cells #[.int .i64 s.1.1, .int .i64 s.1.2, .int .i64 s.2.1, .int .i64 s.2.2] 27 (0, 0)) := (two_alloc wo _ _).1
            have HTo : ((wo.alloc (.cells #[.int .i64 s.1.1, .int .i64 s.1.2, .int .i64 s.2.1, .int .i64 s.2.2] 27)).alloc (.cells #[.int .i64 s.1.1, .int .i64 s.1.2, .int .i64 s.2.1, .int .i64 s.2.2] 27)).heap[wo.heap.size + 1]? = some (.cells #[.int .i64 s.1.1, .int .i64 s.1.2, .int .i64 s.2.1, .int .i64 s.2.2] 27 (0, 0)) := (two_alloc wo _ _).2
            have HGK : Hid (∀ W, KeptS (fun i => i = w.heap.size + 1) W1 W → GM W (w.heap.size + 1 + 1) w.heap.size vs dl) := fun W hK => HG.out.kept hK (by omega) (fun i hi g hg e => by have := (OwnR.lt (HG.out.rows i hi) g hg).1; omega)
            have hb1 : w.heap.size + 1 < W1.heap.size := by omega
            have hor : ∀ b, u7.ownBlock = some b → W1.heap.size ≤ b ∧ b < wo.heap.size := fun b e => OwnR.lt HO.out b e
            have HOR := Lib.hid hor
            clear hst hsub hor
            go_wp2
            go_step3
            go_wp2
            go_step3
            go_wp2
            go_loopg [10] st.2.length (fun gg rv wi => ∃ (m : Nat) (t : Sg) (ring : Pts) (rest : Sgs), m ≤ gg ∧ rest.length ≤ m ∧ ring.length + rest.length ≤ dl.length ∧ Hid (t ∈ rest) ∧ Hid (∀ x ∈ rest, x ∈ dl) ∧ Hid (walkZ dl s st.2.length s [] st.2 = walkZ dl s m t ring rest) ∧
              wi.heap[wo.heap.size]? = some (.cells #[.int .i64 s.1.1, .int .i64 s.1.2, .int .i64 s.2.1, .int .i64 s.2.2] 27 (0, 0)) ∧ wi.heap[wo.heap.size + 1]? = some (.cells #[.int .i64 t.1.1, .int .i64 t.1.2, .int .i64 t.2.1, .int .i64 t.2.2] 27 (0, 0)) ∧ Hid (KeptS (fun i => i = w.heap.size + 1) wo wi) ∧ Hid (Below w.heap.size w wi) ∧ Hid (RM wi (w.heap.size + 1) rest) ∧ Hid (Own1 Ty.pt 25 (wo.heap.size + 1 + 1) wi rv ring))
            case atStart => exact ⟨st.2.length, s, [], st.2, Nat.le_refl _, Nat.le_refl _, by simp; omega, HM, HSUB, rfl, HSo, HTo, kept_alloc (kept_alloc (kept_refl _ _) _) _, (by repeat (first | exact Below.refl _ _ | apply below_alloc | apply below_drewN | apply below_drew | (refine below_set2 ?_ ?_; (first | (simp; done) | (simp; omega))) | (refine below_step ?_ HBw.out))), HRr.out.below (by repeat (first | exact Below.refl _ _ | apply below_alloc | apply below_drewN | apply below_drew | (refine below_set2 ?_ ?_; (first | (simp; done) | (simp; omega))))), OwnR.nil _ _ _ _ _⟩
            case round =>
              obtain ⟨m, t, ring, rest, hmg, hgg, hrl, HMt, HSB, HW, HS, HT, HKi, HBi, HRi, HOi⟩ := hrel
              clear HSo HTo HM HSUB hx0 hx1 hx2 hx3 hlk HRr HBw
              have hrp : 0 < rest.length := List.length_pos_of_mem HMt.out
              obtain ⟨m, rfl⟩ : ∃ m', m = m' + 1 := ⟨m - 1, by omega⟩
              have hdl := dropS_lt HMt.out
              have tc0 := blk_cell HT 0 rfl
              have tc1 := blk_cell HT 1 rfl
              have tc2 := blk_cell HT 2 rfl
              have tc3 := blk_cell HT 3 rfl
              have hzt := lt_of_block HT
              have hlr : (ring.length + 1) * 16 ≤ 140737488355328 := by omega
              have hobr : ∀ b, u10.ownBlock = some b → wo.heap.size + 1 + 1 ≤ b := fun b e => (OwnR.lt HOi.out b e).1
              have HVT : Hid (validB t.1 = true ∧ validB t.2 = true) := by have := HVV.out t (HSB.out t HMt.out); rw [Bool.and_eq_true] at this; exact this
              go_wp2_with (first | (at_builtin; refine app_one Ty.pt (W := wr) (wo.heap.size + 1 + 1) rfl _ _ 36 25 _ 16 rfl Try.underlying36 infoPt rfl (by decide) u10 ring t.1 _ _ rfl rfl rfl rfl HOi.out (by omega) hlr ?_; intro v1 w2 HO1 hg1 hat1; have HT2 := (hg1.block _ hzt (fun e => by have := hobr _ e.symm; omega)).trans HT; have HS2 := (hg1.block _ (by omega) (fun e => by have := hobr _ e.symm; omega)).trans HS; have sc0 := blk_cell HT2 0 rfl; have sc1 := blk_cell HT2 1 rfl; have sc2 := blk_cell HT2 2 rfl; have sc3 := blk_cell HT2 3 rfl; obtain ⟨w3, hdel, hRM3, hK3, hs3⟩ := (HRi.out.kept (kept_grown (S := fun k => u10.ownBlock = some k) hg1 (fun b e => e)) (fun e => by have := hobr _ e; omega)).del t 0) | (refine wpList_delM rfl _ _ 53 27 rfl (.map (some (w.heap.size + 1))) (sgV t) rfl rfl w3 hdel ?_))
              have hz2 := hg1.size
              have HT3 := (hK3.block _ (lt_of_block HT2) (by omega)).trans HT2
              have HS3 := (hK3.block _ (lt_of_block HS2) (by omega)).trans HS2
              have K1w : KeptS (fun i => i = w.heap.size + 1) W1 w3 := kept_step (kept_own (kept_step HK.out HKi.out) hg1 (fun b e => by have := hobr _ e; omega)) hK3
              have Kow : KeptS (fun i => i = w.heap.size + 1) wo w3 := kept_step (kept_own HKi.out hg1 (fun b e => by have := hobr _ e; omega)) hK3
              have HG3 := HGK.out w3 K1w
              have HM3 : OwnMap ptV w3 w.heap.size vs := HG3.map
              obtain ⟨An, cn, hval, hrow⟩ := HG3.look t.2
              have hlkf : ∀ W, OwnMap ptV W w.heap.size vs → (Instr.lookup 52 (.map (some w.heap.size)) (ptV t.2) false).run Try.prog W = .ok (.slice An (outs dl t.2).length cn) W := fun W hW => by
                have := hW.lookup (P := Try.prog) (t := 52) (kt := 25) (et := 36) keyPt (by kernel_rfl) (z := .slice none 0 0) (by kernel_rfl) t.2 false
                rw [this, hval]; rfl
              have HLK := Lib.hid hlkf
              have HROW := Lib.hid hrow
              have hlk3 : (Instr.lookup 52 (.map (some w.heap.size)) (.agg #[.int .i64 t.2.1, .int .i64 t.2.2]) false).run Try.prog w3 = .ok (.slice An (outs dl t.2).length cn) w3 := hlkf w3 HM3
              have HRM3 := Lib.hid hRM3
              have HOr3 : Hid (Own1 Ty.pt 25 (wo.heap.size + 1 + 1) w3 v1 (ring ++ [t.1])) := Own1.flat_kept pt_flat (Own1.of HO1) hK3 (fun b e h => by
                rcases hat1 with h1 | ⟨b', h1, hle⟩
                · have := hobr b (h1 ▸ e); omega
                · have : b' = b := by rw [h1] at e; exact Option.some.inj e
                  omega)
              have HBw3 : Hid (Below w.heap.size w w3) := below_kept (below_own HBi.out hg1 (fun b e => by have := hobr _ e; omega)) hK3 (fun b hb => by omega)
              have hov : ∀ b, v1.ownBlock = some b → wo.heap.size + 1 + 1 ≤ b := fun b e => (OwnR.lt HOr3.out b e).1
              have hzz3 := K1w.size
              clear tc0 tc1 tc2 tc3 sc0 sc1 sc2 sc3 HO1 hg1 hat1 hdel hRM3 hK3 HT2 HS2 HRi HOi HT HS hlkf hrow hval HBi
              have tc0 := blk_cell HT3 0 rfl
              have tc1 := blk_cell HT3 1 rfl
              have tc2 := blk_cell HT3 2 rfl
              have tc3 := blk_cell HT3 3 rfl
              go_wp2_with fail
              refine start_ (n := 13) (S := fun w' => w'.cell? ⟨wo.heap.size + 1, 0, none⟩ = some (.int .i64 t.1.1) ∧ w'.cell? ⟨wo.heap.size + 1, 1, none⟩ = some (.int .i64 t.1.2) ∧ w'.cell? ⟨wo.heap.size + 1, 2, none⟩ = some (.int .i64 t.2.1) ∧ w'.cell? ⟨wo.heap.size + 1, 3, none⟩ = some (.int .i64 t.2.2) ∧ (Instr.lookup 52 (.map (some w.heap.size)) (.agg #[.int .i64 t.2.1, .int .i64 t.2.2]) false).run Try.prog w' = .ok (.slice An (outs dl t.2).length cn) w') (ds := [12]) #[false, false, false, false, false, false, false, false, false, false, false, false, false] (by kernel_rfl) rfl rfl ⟨tc0, tc1, tc2, tc3, HLK.out w3.drew (HM3.below (below_drew (Below.refl _ _)))⟩ (fun hHeld => ?_)
              refine pure_ (i := 0) (N := some 51) (v := ?_) (a' := ?_) #[true, false, false, false, false, false, false, false, false, false, false, false, false] rfl rfl (by kernel_rfl) (fun _ _ _ h => h) (Or.inl ⟨by rfl, ?_⟩) ?_ ?_
              rotate_left
              · intro w'
                go_simp
                with_reducible rfl
              rotate_left
              · simp only [Act.put, List.setIfInBounds_toArray, List.set_cons_zero, List.set_cons_succ, i64_w, i32_w]
                rfl
              refine pure_ (i := 2) (N := some 53) (v := ?_) (a' := ?_) #[true, false, true, false, false, false, false, false, false, false, false, false, false] rfl rfl (by kernel_rfl) (fun _ _ _ h => h) (Or.inl ⟨by rfl, ?_⟩) ?_ ?_
              rotate_left
              · intro w'
                go_simp
                with_reducible rfl
              rotate_left
              · simp only [Act.put, List.setIfInBounds_toArray, List.set_cons_zero, List.set_cons_succ, i64_w, i32_w]
                rfl
              refine pure_ (i := 3) (N := some 54) (v := ?_) (a' := ?_) #[true, false, true, true, false, false, false, false, false, false, false, false, false] rfl rfl (by kernel_rfl) (fun _ _ _ h => h) (Or.inl ⟨by rfl, ?_⟩) ?_ ?_
              rotate_left
              · intro w'
                go_simp
                with_reducible rfl
              rotate_left
              · simp only [Act.put, List.setIfInBounds_toArray, List.set_cons_zero, List.set_cons_succ, i64_w, i32_w]
                rfl
              refine pure_ (i := 6) (N := some 57) (v := ?_) (a' := ?_) #[true, false, true, true, false, false, true, false, false, false, false, false, false] rfl rfl (by kernel_rfl) (fun _ _ _ h => h) (Or.inl ⟨by rfl, ?_⟩) ?_ ?_
              rotate_left
              · intro w'
                go_simp
                with_reducible rfl
              rotate_left
              · simp only [Act.put, List.setIfInBounds_toArray, List.set_cons_zero, List.set_cons_succ, i64_w, i32_w]
                rfl
              refine pure_ (i := 8) (N := some 59) (v := ?_) (a' := ?_) #[true, false, true, true, false, false, true, false, true, false, false, false, false] rfl rfl (by kernel_rfl) (fun _ _ _ h => h) (Or.inl ⟨by rfl, ?_⟩) ?_ ?_
              rotate_left
              · intro w'
                go_simp
                with_reducible rfl
              rotate_left
              · simp only [Act.put, List.setIfInBounds_toArray, List.set_cons_zero, List.set_cons_succ, i64_w, i32_w]
                rfl
              refine take_ (i := 1) (N := some 52) (v := ?_) (a' := ?_) #[true, true, true, true, false, false, true, false, true, false, false, false, false] rfl rfl (by kernel_rfl) (fun _ _ _ h => h) (Or.inl ⟨by rfl, ?_⟩) hHeld ?_ ?_
              rotate_left
              · rintro w' ⟨s0, s1, s2, s3, s4⟩
                go_simp
                with_reducible rfl
              rotate_left
              · simp only [Act.put, List.setIfInBounds_toArray, List.set_cons_zero, List.set_cons_succ, i64_w, i32_w]
                rfl
              refine take_ (i := 4) (N := some 55) (v := ?_) (a' := ?_) #[true, true, true, true, true, false, true, false, true, false, false, false, false] rfl rfl (by kernel_rfl) (fun _ _ _ h => h) (Or.inl ⟨by rfl, ?_⟩) hHeld ?_ ?_
              rotate_left
              · rintro w' ⟨s0, s1, s2, s3, s4⟩
                go_simp
                with_reducible rfl
              rotate_left
              · simp only [Act.put, List.setIfInBounds_toArray, List.set_cons_zero, List.set_cons_succ, i64_w, i32_w]
                rfl
              refine take_ (i := 5) (N := some 56) (v := ?_) (a' := ?_) #[true, true, true, true, true, true, true, false, true, false, false, false, false] rfl rfl (by kernel_rfl) (fun _ _ _ h => h) (Or.inl ⟨by rfl, ?_⟩) hHeld ?_ ?_
              rotate_left
              · rintro w' ⟨s0, s1, s2, s3, s4⟩
                go_simp
                with_reducible rfl
              rotate_left
              · simp only [Act.put, List.setIfInBounds_toArray, List.set_cons_zero, List.set_cons_succ, i64_w, i32_w]
                rfl
              refine take_ (i := 7) (N := some 58) (v := ?_) (a' := ?_) #[true, true, true, true, true, true, true, true, true, false, false, false, false] rfl rfl (by kernel_rfl) (fun _ _ _ h => h) (Or.inl ⟨by rfl, ?_⟩) hHeld ?_ ?_
              rotate_left
              · rintro w' ⟨s0, s1, s2, s3, s4⟩
                go_simp
                with_reducible rfl
              rotate_left
              · simp only [Act.put, List.setIfInBounds_toArray, List.set_cons_zero, List.set_cons_succ, i64_w, i32_w]
                rfl
              refine take_ (i := 9) (N := some 60) (v := ?_) (a' := ?_) #[true, true, true, true, true, true, true, true, true, true, false, false, false] rfl rfl (by kernel_rfl) (fun _ _ _ h => h) (Or.inl ⟨by rfl, ?_⟩) hHeld ?_ ?_
              rotate_left
              · rintro w' ⟨s0, s1, s2, s3, s4⟩
                go_simp
                with_reducible rfl
              rotate_left
              · simp only [Act.put, List.setIfInBounds_toArray, List.set_cons_zero, List.set_cons_succ, i64_w, i32_w]
                rfl
              refine one_ (i := 10) (N := some 61) #[true, true, true, true, true, true, true, true, true, true, true, false, false] rfl rfl (by kernel_rfl) (by decide) (fun K hK => ?_)
              refine goes_ Try.func28 (by kernel_rfl) rfl #[.slice An (outs dl t.2).length cn, .agg #[.int .i64 t.1.1, .int .i64 t.1.2], .agg #[.int .i64 t.2.1, .int .i64 t.2.2]] (by rfl) rfl rfl (by simp only [List.map_toArray, List.map_cons, List.map_nil]; rfl) ?_
              with_reducible refine (trace_turn (outs dl t.2) An _ cn t.1 t.2 _ (HROW.out.below (below_drew (Below.refl _ _))) rfl (outs_valid HVV.out t.2) HVT.out.1 HVT.out.2).mono ?_
              rintro e w4 ⟨rfl, hb4⟩
              refine ⟨_, rfl, ?_⟩
              have tf0 := blk_free (blk_below (W := w3.drew) HT3 hb4) 0
              have tf1 := blk_free (blk_below (W := w3.drew) HT3 hb4) 1
              have tf2 := blk_free (blk_below (W := w3.drew) HT3 hb4) 2
              have tf3 := blk_free (blk_below (W := w3.drew) HT3 hb4) 3
              refine hK.out _ _ ⟨blk_cell (blk_below (W := w3.drew) HT3 hb4) 0 rfl, blk_cell (blk_below (W := w3.drew) HT3 hb4) 1 rfl, blk_cell (blk_below (W := w3.drew) HT3 hb4) 2 rfl, blk_cell (blk_below (W := w3.drew) HT3 hb4) 3 rfl, HLK.out w4 ((HM3.below (below_drew (Below.refl _ _))).below hb4)⟩ (fun hHeld => ?_)
              clear hK K
              refine norm_ (a' := ?_) ?_ ?_
              rotate_left
              · show Act.put _ (some 61) _ = _
                simp only [Act.put, List.setIfInBounds_toArray, List.set_cons_zero, List.set_cons_succ, i64_w, i32_w]
                rfl
              refine pure_ (i := 11) (N := some 62) (v := ?_) (a' := ?_) #[true, true, true, true, true, true, true, true, true, true, true, true, false] rfl rfl (by kernel_rfl) (fun _ _ _ h => h) (Or.inl ⟨by rfl, ?_⟩) ?_ ?_
              rotate_left
              · intro w'
                go_simp
                with_reducible rfl
              rotate_left
              · simp only [Act.put, List.setIfInBounds_toArray, List.set_cons_zero, List.set_cons_succ, i64_w, i32_w]
                rfl
              refine last_ (i := 12) (N := none) #[true, true, true, true, true, true, true, true, true, true, true, true, true] rfl rfl (by kernel_rfl) (by decide) (fun K hK => ?_)
              refine skip_ (w1 := ?_) (by rfl) rfl ?_ ?_
              rotate_left
              · go_simp
                rfl
              refine hK.out _ _ ?_
              clear hK K
              refine done_ (by kernel_rfl) ?_
              clear tf0 tf1 tf2 tf3 tc0 tc1 tc2 tc3 hlk3
              have HSU : Hid (succZ dl t = (t.2, turnL t.1 t.2 (outs dl t.2))) := rfl
              generalize turnL t.1 t.2 (outs dl t.2) = q at *
              obtain ⟨W5, hW5⟩ : ∃ W5, W5 = (((w4.setCell ⟨wo.heap.size + 1, 0, none⟩ (.int .i64 t.2.1)).setCell ⟨wo.heap.size + 1, 1, none⟩ (.int .i64 t.2.2)).setCell ⟨wo.heap.size + 1, 2, none⟩ (.int .i64 q.1)).setCell ⟨wo.heap.size + 1, 3, none⟩ (.int .i64 q.2) := ⟨_, rfl⟩
              have hb4' : Below w3.heap.size w3 w4 := below_step (below_drew (Below.refl _ _)) hb4
              have HT5 : W5.heap[wo.heap.size + 1]? = some (.cells #[.int .i64 t.2.1, .int .i64 t.2.2, .int .i64 q.1, .int .i64 q.2] 27 (0, 0)) := by rw [hW5]; exact blk_set (blk_set (blk_set (blk_set (blk_below HT3 hb4') _) _) _) _
              have hnst : ¬ wo.heap.size = wo.heap.size + 1 := by omega
              have HS5 : W5.heap[wo.heap.size]? = some (.cells #[.int .i64 s.1.1, .int .i64 s.1.2, .int .i64 s.2.1, .int .i64 s.2.2] 27 (0, 0)) := by rw [hW5]; exact blk_far (blk_far (blk_far (blk_far (blk_below HS3 hb4') hnst _) hnst _) hnst _) hnst _
              have K45 : KeptS (fun i => i = wo.heap.size + 1) w4 W5 := by rw [hW5]; exact kept_set rfl (kept_set rfl (kept_set rfl (kept_set rfl (kept_refl _ _))))
              have Ko5 : Hid (KeptS (fun i => i = w.heap.size + 1) wo W5) := by show KeptS _ _ _; rw [hW5]; exact kept_setnew (by show _ ≤ wo.heap.size + 1; omega) (kept_setnew (by show _ ≤ wo.heap.size + 1; omega) (kept_setnew (by show _ ≤ wo.heap.size + 1; omega) (kept_setnew (by show _ ≤ wo.heap.size + 1; omega) (kept_below Kow hb4'))))
              have HR5 : Hid (RM W5 (w.heap.size + 1) (dropS rest t)) := (HRM3.out.below hb4').kept K45 (by omega)
              have HO5 : Hid (Own1 Ty.pt 25 (wo.heap.size + 1 + 1) W5 v1 (ring ++ [t.1])) := Own1.flat_kept pt_flat (Own1.below HOr3.out hb4') K45 (fun b e h => by have := hov b e; omega)
              have HB5 : Hid (Below w.heap.size w W5) := below_kept (below_step HBw3.out hb4') K45 (fun b hb => by omega)
              rw [← hW5]
              clear hW5 hb4' hb4 K45 Kow K1w HRM3 HOr3 HBw3 HT3 HS3 HM3 HROW HLK hHeld
              have tc0 := blk_cell HT5 0 rfl
              have tc1 := blk_cell HT5 1 rfl
              have tc2 := blk_cell HT5 2 rfl
              have tc3 := blk_cell HT5 3 rfl
              have sc0 := blk_cell HS5 0 rfl
              have sc1 := blk_cell HS5 1 rfl
              have sc2 := blk_cell HS5 2 rfl
              have sc3 := blk_cell HS5 3 rfl
              have HRS : Hid (dropS rest t = rest.filter fun x => decide (x ≠ t)) := rfl
              by_cases hts : ((t.2, q) : Sg) = s
              · have hd := (sgB (t.2, q) s).trans (decide_eq_true hts)
                have HWF : Hid (walkZ dl s st.2.length s [] st.2 = (ring ++ [t.1], dropS rest t)) := HW.out.trans (walk_stop (.inl (HSU.out.trans hts)))
                clear hts
                generalize ring ++ [t.1] = rg at *
                obtain ⟨Av, cv, rfl, hlv, hrv⟩ := Own1.row_ok pt_flat HO5.out (fun i => ¬ (i = w.heap.size + 1 ∨ u7.ownBlock = some i)) (fun b e h => by have h1 := hov b e; rcases h with h | h; (· omega); (· have := (HOR.out b h).2; omega))
                have HRV := Lib.hid hrv
                have HOo : Hid (OwnR Ty.ring 36 W1.heap.size (fun i => i = w.heap.size + 1 ∨ u7.ownBlock = some i) W5 u7 st.1) := OwnR.kept HO.out Ko5.out (fun b hb => .inl hb) (fun b e h => by have := (HOR.out b e).1; omega)
                have hlo : (st.1.length + 1) * 24 ≤ 140737488355328 := by omega
                have hz5 : W1.heap.size ≤ W5.heap.size := by have := Ko5.out.size; omega
                clear hrv
                go_wp2_with (at_builtin; refine app_one Ty.ring (W := W5) W1.heap.size rfl _ _ 28 36 _ 24 rfl Try.underlying28 infoRing rfl (by decide) u7 st.1 rg [.slice Av rg.length cv] _ rfl rfl rfl ⟨Av, cv, rfl, hlv, HRV.out⟩ HOo.out hz5 hlo ?_; intro v2 w7 HO7 hg7 hat7)
                have HO8 : Hid (OwnR Ty.ring 36 W1.heap.size (fun i => i = w.heap.size + 1 ∨ v2.ownBlock = some i) w7 v2 (st.1 ++ [rg])) := OwnR.remut HO7 (fun k _ hk => hk.elim (fun h => .inl (.inl h)) (fun h => .inr h)) (fun k hk => .inr hk)
                have K7 : Hid (KeptS (fun i => i = w.heap.size + 1) W1 w7) := kept_own (kept_step HK.out Ko5.out) hg7 (fun b e => (HOR.out b e).1)
                have HR7 : Hid (RM w7 (w.heap.size + 1) (dropS rest t)) := HR5.out.kept (kept_grown (S := fun k => u7.ownBlock = some k) hg7 (fun b e => e)) (fun e => by have := (HOR.out _ e).1; omega)
                have HB7 : Hid (Below w.heap.size w w7) := below_own HB5.out hg7 (fun b e => by have := (HOR.out b e).1; omega)
                have HLF2 : Hid (loopSt dl (k + 1) = (st.1 ++ [rg], dropS rest t)) := HLF.out.trans (by rw [HWF.out])
                clear HO7 hg7 hat7 tc0 tc1 tc2 tc3 sc0 sc1 sc2 sc3 HOo HO5
                go_wp2
                go_roundw
                case rel => exact ⟨k + 1, by omega, by go_num, K7, HB7, by rw [HLF2.out]; exact HR7, by rw [HLF2.out]; exact HO8⟩
                case measure => simp [intOf]; omega
              · have hd := (sgB (t.2, q) s).trans (decide_eq_false hts)
                have hlk5 := HR5.out.get (t.2, q)
                by_cases hmem : ((t.2, q) : Sg) ∈ dropS rest t
                · rw [decide_eq_true hmem] at hlk5
                  have HWF : Hid (walkZ dl s st.2.length s [] st.2 = walkZ dl s m (t.2, q) (ring ++ [t.1]) (dropS rest t)) := HW.out.trans (by rw [walkZ_on (by rw [HSU.out]; exact hts) (by rw [HSU.out]; exact hmem), HSU.out])
                  have HM2 := Lib.hid hmem
                  have HSB2 : Hid (∀ x ∈ dropS rest t, x ∈ dl) := fun x hx => HSB.out x (List.mem_filter.1 hx).1
                  clear hts hmem
                  go_wp2
                  go_roundg m
                  case measure => omega
                  case rel => exact ⟨m, (t.2, q), ring ++ [t.1], dropS rest t, Nat.le_refl _, by omega, by rw [List.length_append]; simp; omega, HM2, HSB2, HWF, HS5, HT5, Ko5, HB5, HR5, HO5⟩
                · rw [decide_eq_false hmem] at hlk5
                  have HWF : Hid (walkZ dl s st.2.length s [] st.2 = (ring ++ [t.1], dropS rest t)) := HW.out.trans (walk_stop (.inr (by rw [HSU.out]; exact hmem)))
                  clear hts hmem
                  generalize ring ++ [t.1] = rg at *
                  obtain ⟨Av, cv, rfl, hlv, hrv⟩ := Own1.row_ok pt_flat HO5.out (fun i => ¬ (i = w.heap.size + 1 ∨ u7.ownBlock = some i)) (fun b e h => by have h1 := hov b e; rcases h with h | h; (· omega); (· have := (HOR.out b h).2; omega))
                  have HRV := Lib.hid hrv
                  have HOo : Hid (OwnR Ty.ring 36 W1.heap.size (fun i => i = w.heap.size + 1 ∨ u7.ownBlock = some i) W5 u7 st.1) := OwnR.kept HO.out Ko5.out (fun b hb => .inl hb) (fun b e h => by have := (HOR.out b e).1; omega)
                  have hlo : (st.1.length + 1) * 24 ≤ 140737488355328 := by omega
                  have hz5 : W1.heap.size ≤ W5.heap.size := by have := Ko5.out.size; omega
                  clear hrv
                  go_wp2_with (at_builtin; refine app_one Ty.ring (W := W5) W1.heap.size rfl _ _ 28 36 _ 24 rfl Try.underlying28 infoRing rfl (by decide) u7 st.1 rg [.slice Av rg.length cv] _ rfl rfl rfl ⟨Av, cv, rfl, hlv, HRV.out⟩ HOo.out hz5 hlo ?_; intro v2 w7 HO7 hg7 hat7)
                  have HO8 : Hid (OwnR Ty.ring 36 W1.heap.size (fun i => i = w.heap.size + 1 ∨ v2.ownBlock = some i) w7 v2 (st.1 ++ [rg])) := OwnR.remut HO7 (fun k _ hk => hk.elim (fun h => .inl (.inl h)) (fun h => .inr h)) (fun k hk => .inr hk)
                  have K7 : Hid (KeptS (fun i => i = w.heap.size + 1) W1 w7) := kept_own (kept_step HK.out Ko5.out) hg7 (fun b e => (HOR.out b e).1)
                  have HR7 : Hid (RM w7 (w.heap.size + 1) (dropS rest t)) := HR5.out.kept (kept_grown (S := fun k => u7.ownBlock = some k) hg7 (fun b e => e)) (fun e => by have := (HOR.out _ e).1; omega)
                  have HB7 : Hid (Below w.heap.size w w7) := below_own HB5.out hg7 (fun b e => by have := (HOR.out b e).1; omega)
                  have HLF2 : Hid (loopSt dl (k + 1) = (st.1 ++ [rg], dropS rest t)) := HLF.out.trans (by rw [HWF.out])
                  clear HO7 hg7 hat7 tc0 tc1 tc2 tc3 sc0 sc1 sc2 sc3 HOo HO5
                  go_wp2
                  go_roundw
                  case rel => exact ⟨k + 1, by omega, by go_num, K7, HB7, by rw [HLF2.out]; exact HR7, by rw [HLF2.out]; exact HO8⟩
                  case measure => simp [intOf]; omega
          · clear hst
            rw [decide_eq_false hm] at hlk
            have HLF := Lib.hid (HSN.out.trans (loopF_out hm))
            clear hm HSN
            go_wp2
            go_step3
            go_wp2
            rw [Exit.noGoto_exit]
            go_wp2
            go_roundw
            case rel => exact ⟨k + 1, by omega, by go_num, kept_alloc HK.out _, (by repeat (first | exact Below.refl _ _ | apply below_alloc | apply below_drewN | apply below_drew | (refine below_set2 ?_ ?_; (first | (simp; done) | (simp; omega))) | (refine below_step ?_ HBw.out))), by rw [HLF.out]; exact HRr.out.below (by repeat (first | exact Below.refl _ _ | apply below_alloc | apply below_drewN | apply below_drew | (refine below_set2 ?_ ?_; (first | (simp; done) | (simp; omega))))), by rw [HLF.out]; exact HO.out.below (by repeat (first | exact Below.refl _ _ | apply below_alloc | apply below_drewN | apply below_drew | (refine below_set2 ?_ ?_; (first | (simp; done) | (simp; omega)))))⟩
            case measure => simp [intOf]; omega
        · obtain rfl : k = dl.length := by omega
          have hwz : w.heap.size ≤ W1.heap.size := by omega
          have HO9 : Hid (Own1 Ty.ring 36 w.heap.size wr u7 res) := by show Own1 _ _ _ _ _ _; rw [HLZ.out]; exact Own1.base (Own1.of HO.out) hwz
          go_wp2
          try rw [Exit.noGoto_ret]
          go_ret
          exact ⟨_, rfl, HO9.out, HBw.out⟩
end Go.Proofs.Ytlmjciajpjdilaa
