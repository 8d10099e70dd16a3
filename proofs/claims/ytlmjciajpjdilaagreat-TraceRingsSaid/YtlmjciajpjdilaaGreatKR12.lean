/- Contract of trace.loops: the loops of directed segments. Contract of trace.divided. -/
import Derived.Test.YtlmjciajpjdilaaGreatKR10
import Derived.Test.YtlmjciajpjdilaaGreatKR11
import Derived.Test.YtlmjciajpjdilaaGreatKR8
namespace Go.Proofs.YtlmjciajpjdilaaGreat
set_option linter.unusedVariables false
set_option linter.unusedSimpArgs false
section
open Go.RowKit Go.Proofs.YtlmjciajpjdilaaGreatW.PrintLast

attribute [local go_sem high] eqPt eqSg
theorem GM.look {w : World} {base b : Nat} {vs : List (Pt × Value)} {l : Sgs} (h : GM w base b vs l) (p : Pt) : ∃ A c, (mapGet vs p).getD (.slice none 0 0) = .slice A (outs l p).length c ∧ Row Ty.pt (fun _ => True) w A (outs l p) := by
 have hlk : (vs.map Prod.fst).length = vs.length := List.length_map ..
 by_cases hi : mapIx vs p < vs.length
 ·have h1 : mapGet vs p = some (vs[mapIx vs p]'hi).2 := by rw [mapGet, List.getElem?_eq_getElem hi]; rfl
  have h2 := h.rows _ hi
  rw [mapIx_lt hi] at h2
  obtain ⟨A, c, e, _, hr⟩ := h2.reads
  exact ⟨A, c, by rw [h1]; exact e, hr⟩
 ·have h1 : mapGet vs p = none := Classical.byContradiction (fun h => hi (mapIx_lt_iff.2 h))
  have h2 : p ∉ atL l := fun hm => hi (by rw [mapIx_mem, h.keys]; exact (dk_mem _ _).2 hm)
  have h3 : outs l p = [] := gi_none h2
  exact ⟨none, 0, by rw [h1, h3]; rfl, by rw [h3]; exact Row.nil _ _ _ _⟩
section
variable {P : Program} {ops : Array Oper} {rest : List Oper} {o : Oper} {a : Act} {Q : Exit → Act → World → Prop} {W : World}
/-- delete, at the operation. -/
theorem wpList_delM (hg : o.guard = none) (m x : Operand) (t u : TypeId) (hop : o.op = .call { callee := .builtin .delete, args := #[m, x], argTypes := #[t, u] }) (mv xv : Value) (hm : a.eval m = mv) (hx : a.eval x = xv) (w' : World)
  (hrun : (Builtin.delete_ #[t, u] o.type #[mv, xv]).run P W = .ok (.tuple #[]) w') (h : wpList P ops Q rest (a.put o.dst (.tuple #[])) w') : wpList P ops Q (o :: rest) a W := by
 refine wpList_plain hg fun K' hK' => ?_
 unfold Oper.wp
 simp only [execOp, hop, resolve, invoke, builtin, Sem.run_bind, Sem.run_pure, Result.andThen_ok, List.map_toArray, List.map_cons, List.map_nil, hm, hx, hrun]
 exact hK' _ _ h
end
def loopSt (dl : Sgs) (k : Nat) : Rgs × Sgs := (dl.take k).foldl (loopF dl) ([], dl)
theorem loopSt_snoc (dl : Sgs) (k : Nat) (h : k < dl.length) : loopSt dl (k + 1) = loopF dl (loopSt dl k) (sgD dl k) := by
 unfold loopSt
 rw [take_snoc dl k ((0, 0), (0, 0)) h, List.foldl_append]; rfl
theorem loopF_out {dl : Sgs} {st : Rgs × Sgs} {s : Sg} (h : s ∉ st.2) : loopF dl st s = st := by unfold loopF; rw [if_neg h]
theorem loopF_in {dl : Sgs} {st : Rgs × Sgs} {s : Sg} (h : s ∈ st.2) : loopF dl st s = (st.1 ++ [(walkZ dl s st.2.length s [] st.2).1], (walkZ dl s st.2.length s [] st.2).2) := by unfold loopF; rw [if_pos h]
def dropS (rest : Sgs) (t : Sg) : Sgs := rest.filter fun x => decide (x ≠ t)
theorem walk_stop {dl : Sgs} {s t : Sg} {n : Nat} {ring : Pts} {rest : Sgs} (h : succZ dl t = s ∨ succZ dl t ∉ dropS rest t) : walkZ dl s (n + 1) t ring rest = (ring ++ [t.1], dropS rest t) := by
 unfold walkZ; exact if_pos h
theorem walkZ_on {dl : Sgs} {s t : Sg} {n : Nat} {ring : Pts} {rest : Sgs} (h1 : ¬ succZ dl t = s) (h2 : succZ dl t ∈ dropS rest t) : walkZ dl s (n + 1) t ring rest = walkZ dl s n (succZ dl t) (ring ++ [t.1]) (dropS rest t) := by
 conv => lhs; unfold walkZ
 exact if_neg (fun h => h.elim h1 (fun h => h h2))
theorem dropS_lt {rest : Sgs} {t : Sg} (h : t ∈ rest) : (dropS rest t).length < rest.length := by
 unfold dropS
 have h1 := List.length_filter_lt_length_iff_exists (p := fun x => decide (x ≠ t)) (l := rest)
 exact h1.2 ⟨t, h, by simp⟩
/-- Every round adds one point to a ring: as many as segments go. -/
theorem walk_len (dl : Sgs) (s : Sg) : ∀ (n : Nat) (t : Sg) (ring : Pts) (rest : Sgs), t ∈ rest → rest.length ≤ n → (walkZ dl s n t ring rest).1.length + (walkZ dl s n t ring rest).2.length ≤ ring.length + rest.length
 | 0, t, ring, rest, _, _ => Nat.le_refl _
 | n + 1, t, ring, rest, hm, hl => by
  have hd := dropS_lt hm
  by_cases h : succZ dl t = s ∨ succZ dl t ∉ dropS rest t
  ·rw [walk_stop h]; simp; omega
  ·have h1 : ¬ succZ dl t = s := fun e => h (.inl e)
   have h2 : succZ dl t ∈ dropS rest t := Classical.byContradiction (fun e => h (.inr e))
   rw [walkZ_on h1 h2]
   have := walk_len dl s n (succZ dl t) (ring ++ [t.1]) (dropS rest t) h2 (by omega)
   simp at this; omega
theorem loopSt_len (dl : Sgs) : ∀ k, (loopSt dl k).1.length ≤ k ∧ (loopSt dl k).2.length ≤ dl.length
 | 0 => ⟨Nat.le_refl _, Nat.le_refl _⟩
 | k + 1 => by
  have ih := loopSt_len dl k
  by_cases h : k < dl.length
  ·rw [loopSt_snoc dl k h]
   by_cases hm : sgD dl k ∈ (loopSt dl k).2
   ·rw [loopF_in hm]
    have := walk_len dl (sgD dl k) (loopSt dl k).2.length (sgD dl k) [] (loopSt dl k).2 hm (Nat.le_refl _)
    simp at this ⊢; omega
   ·rw [loopF_out hm]; omega
  ·have : loopSt dl (k + 1) = loopSt dl k := by unfold loopSt; rw [List.take_of_length_le (by omega), List.take_of_length_le (by omega)]
   rw [this]; omega
theorem row_onep {ok : Nat → Prop} {w : World} {g : Nat} {t : TypeId} {x : Pt} (hok : ok g) (h : w.heap[g]? = some (.cells #[.int .i64 x.1, .int .i64 x.2] t (0, 0))) : Row Ty.pt ok w (some ⟨g, 0, none⟩) [x] := by
 refine ⟨by simp, fun _ => ⟨_, rfl, hok, fun i y hy => ?_⟩⟩
 have hi : i = 0 := by have := (List.getElem?_eq_some_iff.1 hy).1; simp at this; exact this
 subst hi
 simp at hy; subst hy
 refine ⟨_, rfl, fun j u hu => ?_⟩
 rw [add_at, Nat.zero_mul, Nat.zero_add, Nat.zero_add]
 exact blk_cell h j (by simpa using hu)
theorem Own1.row_ok {α : Type} {T : Ty α} {e : TypeId} {base : Nat} {w : World} {v : Value} {xs : List α} (hf : ∀ (ok ok' : Nat → Prop) (w w' : World) (x : α) (cs : List Value), T.R ok w x cs → T.R ok' w' x cs) (h : Own1 T e base w v xs) (ok : Nat → Prop) (hok : ∀ b, v.ownBlock = some b → ok b) :
  ∃ A c, v = .slice A xs.length c ∧ xs.length ≤ c ∧ Row T ok w A xs := by
 obtain ⟨h0, inner, h1, hr⟩ := h
 have h' : OwnR T e base (fun _ => True) w v xs := ⟨fun _ _ => trivial, inner, h1, hr.imp (fun x c hc => hf _ _ _ _ _ _ hc)⟩
 obtain ⟨A, c, e, hl, hrow, _⟩ := OwnR.reads h'
 exact ⟨A, c, e, hl, hrow.mono (fun k hk => hk.elim (fun h => absurd trivial h) (fun h => hok k h))⟩
theorem walk_sub (dl : Sgs) (s : Sg) : ∀ (n : Nat) (t : Sg) (ring : Pts) (rest : Sgs) (x : Sg), x ∈ (walkZ dl s n t ring rest).2 → x ∈ rest
 | 0, t, ring, rest, x, h => h
 | n + 1, t, ring, rest, x, h => by
  by_cases hs : succZ dl t = s ∨ succZ dl t ∉ dropS rest t
  ·rw [walk_stop hs] at h; exact (List.mem_filter.1 h).1
  ·have h1 : ¬ succZ dl t = s := fun e => hs (.inl e)
   have h2 : succZ dl t ∈ dropS rest t := Classical.byContradiction (fun e => hs (.inr e))
   rw [walkZ_on h1 h2] at h
   exact (List.mem_filter.1 (walk_sub dl s n _ _ _ x h)).1
theorem loopSt_sub (dl : Sgs) : ∀ k, ∀ x ∈ (loopSt dl k).2, x ∈ dl
 | 0, x, h => h
 | k + 1, x, h => by
  by_cases hk : k < dl.length
  ·rw [loopSt_snoc dl k hk] at h
   by_cases hm : sgD dl k ∈ (loopSt dl k).2
   ·rw [loopF_in hm] at h; exact loopSt_sub dl k x (walk_sub dl _ _ _ _ _ x h)
   ·rw [loopF_out hm] at h; exact loopSt_sub dl k x h
  ·have : loopSt dl (k + 1) = loopSt dl k := by unfold loopSt; rw [List.take_of_length_le (by omega), List.take_of_length_le (by omega)]
   rw [this] at h; exact loopSt_sub dl k x h
theorem outs_valid {dl : Sgs} (h : segsV dl) (p : Pt) : ∀ x ∈ outs dl p, validB x = true := by
 intro x hx
 obtain ⟨s, hs, rfl⟩ := List.mem_map.1 hx
 have := h s (List.mem_filter.1 hs).1
 rw [Bool.and_eq_true] at this
 exact this.2
set_option maxRecDepth 100000 in
set_option maxHeartbeats 4000000 in
theorem trace_loops {ok : Nat → Prop} (dl : Sgs) (A : Option Addr) (n c : Nat) (w : World) (hr : Row Ty.sg ok w A dl) (hn : n = dl.length) (hV : segsV dl) (hlen : dl.length ≤ 1000000) :
  Calls Tryz.prog 45 #[.slice A n c] w fun e w' => ∃ v, e = .returned v ∧ Own1 Ty.ring 41 w.heap.size w' v (loopsZ dl) ∧ Below w.heap.size w w' := by
 subst hn
 have mk1 : ∀ W : World, (Instr.makeMap 83 none).run Tryz.prog W = .ok (.map (some W.heap.size)) (W.alloc (.map #[] 0)) := fun W => run_makeMap _ W
 have mk2 : ∀ W : World, (Instr.makeMap 84 none).run Tryz.prog W = .ok (.map (some W.heap.size)) (W.alloc (.map #[] 0)) := fun W => run_makeMap _ W
 have HR := Lib.hid hr
 have HVV := Lib.hid hV
 clear hr hV
 have HLZ : Hid (loopsZ dl = (loopSt dl dl.length).1) := by show _ = _; unfold loopSt loopsZ; rw [List.take_length]
 generalize loopsZ dl = res at *
 go_enter Tryz.func45, Tryz.ntmps45
 go_wp2
 go_loopw [16] (fun i wr => ∃ (k : Nat) (vs : List (Pt × Value)), k ≤ dl.length ∧ i = .int .i64 k ∧ Hid (Below w.heap.size w wr) ∧ Hid (GM wr (w.heap.size + 1 + 1) w.heap.size vs (dl.take k)) ∧ Hid (RM wr (w.heap.size + 1) (dl.take k)) ∧ w.heap.size + 1 + 1 ≤ wr.heap.size) (fun i _ => dl.length - (intOf i).toNat)
 case atStart => exact ⟨0, [], Nat.zero_le _, rfl, bq, GM.made (OwnMap.below (OwnMap.made w ptV) (below_alloc (Below.refl _ _) _)), by show RM _ _ _; have := RM.made (w.alloc (.map #[] 0)); simpa using this, by simp⟩
 case round =>
  obtain ⟨k, vs, hk, rfl, HB, HG, HRm, hz1⟩ := hrel
  by_cases hlt : k < dl.length
  ·have HRw := Lib.hid (HR.out.below HB.out)
   obtain ⟨ad, rfl, hx0, hx1, hx2, hx3⟩ := HRw.out.sg_at k hlt
   have HT := Lib.hid (take_snoc dl k ((0, 0), (0, 0)) hlt)
   have hkl : (dl.take k).length ≤ 1000000 := by rw [List.length_take]; omega
   obtain ⟨s, hs⟩ : ∃ s, s = sgD dl k := ⟨_, rfl⟩
   have hs' : dl.getD k ((0, 0), (0, 0)) = s := hs.symm
   rw [← hs] at hx0 hx1 hx2 hx3
   rw [hs'] at HT
   generalize dl.take k = dk0 at *
   clear hs hs' HRw
   obtain ⟨Wq, hWq⟩ : ∃ Wq, Wq = (wr.alloc (.cells #[.int .i64 s.1.1, .int .i64 s.1.2, .int .i64 s.2.1, .int .i64 s.2.2] 32)).alloc (.cells #[.int .i64 s.2.1, .int .i64 s.2.2] 24) := ⟨_, rfl⟩
   have BQ : Below wr.heap.size wr Wq := by rw [hWq]; exact bq
   have HS0 : Wq.heap[wr.heap.size]? = some (.cells #[.int .i64 s.1.1, .int .i64 s.1.2, .int .i64 s.2.1, .int .i64 s.2.2] 32 (0, 0)) := by rw [hWq]; exact (two_alloc wr _ _).1
   have HL0 : Wq.heap[wr.heap.size + 1]? = some (.cells #[.int .i64 s.2.1, .int .i64 s.2.2] 24 (0, 0)) := by rw [hWq]; exact (two_alloc wr _ _).2
   have hzq := lt_of_block HL0
   obtain ⟨w2, st, vv, hrun, hown, hK2, hs2, hvo, hstep⟩ := (HG.out.below BQ).add s (by omega) (by omega)
   have HST := Lib.hid hstep
   have hne2 : ∀ j, vv.ownBlock = some j → j < wr.heap.size := fun j hj => by
    obtain ⟨i, hi, e⟩ := hvo j hj
    exact (OwnR.lt (HG.out.rows i hi) j e).2
   have hneb : ¬ wr.heap.size = w.heap.size := by omega
   have hneb2 : ¬ wr.heap.size + 1 = w.heap.size := by omega
   have HS2 := (hK2.block _ (by omega) hneb).trans HS0
   have HL2 := (hK2.block _ hzq hneb2).trans HL0
   have HROW : Hid (Row Ty.pt (fun j => ¬ vv.ownBlock = some j) w2 (some ⟨wr.heap.size + 1, 0, none⟩) [s.2]) := row_onep (fun e => by have := hne2 _ e; omega) HL2
   have HOWN := Lib.hid hown
   have hlen2 : ((gi dk0 s.1).length + 1) * 16 ≤ 140737488355328 := by
    have h1 : (gi dk0 s.1).length ≤ dk0.length := by unfold gi; rw [List.length_map]; exact List.length_filter_le _ _
    omega
   have hszb : w.heap.size + 1 + 1 ≤ w2.heap.size := by omega
   have K2 : KeptS (fun i => i = w.heap.size) wr w2 := kept_step (kept_of_below BQ) hK2
   have hvb : ∀ b, vv.ownBlock = some b → w.heap.size + 1 + 1 ≤ b := fun b e => (OwnR.lt HOWN.out b e).1
   rw [hWq] at hrun
   clear hWq hstep hown hvo BQ HS0 HL0 HL2 hK2
   go_wp2_with (first | (at_builtin; refine app_row Ty.pt (W := w2) (w.heap.size + 1 + 1) rfl _ _ 41 24 _ 16 rfl Tryz.underlying41 infoPt rfl (by decide) vv (gi dk0 s.1) [s.2] (some ⟨wr.heap.size + 1, 0, none⟩) 1 1 _ rfl rfl rfl HROW.out HOWN.out hszb hlen2 ?_; intro v1 w3 HO1 hg1 hat1; obtain ⟨w4, vs', hrun2, hGM, hK4⟩ := HST.out v1 w3 _ HO1 hg1 hat1; have HGM := Lib.hid hGM; have hS3 := (hg1.block _ (lt_of_block HS2) (fun e => absurd (hne2 _ e.symm) (by omega))).trans HS2; have hS4 := (hK4.block _ (lt_of_block hS3) hneb).trans hS3; have K4 := Lib.hid (kept_step (kept_step (kept_mono (S' := fun i => i = w.heap.size ∨ vv.ownBlock = some i) K2 (fun k _ h => .inl h)) (kept_mono (kept_grown hg1 (fun c e => e)) (fun k _ h => .inr h))) (kept_mono hK4 (fun k _ h => .inl h))); obtain ⟨w5, hrun3, hRM5, hK5, hs5⟩ := (HRm.out.kept K4.out (fun h => h.elim (fun h => by omega) (fun h => by have := hvb _ h; omega))).put s; have sc0 := blk_cell hS4 0 rfl; have sc1 := blk_cell hS4 1 rfl; have sc2 := blk_cell hS4 2 rfl; have sc3 := blk_cell hS4 3 rfl; clear HO1 hg1 hat1 hGM hK4))
   have HG5 : Hid (GM w5 (w.heap.size + 1 + 1) w.heap.size vs' (dk0 ++ [s])) := HGM.out.kept hK5 (by omega) (fun i hi g hg e => by have := (OwnR.lt (HGM.out.rows i hi) g hg).1; omega)
   have HR5 := Lib.hid hRM5
   have HB5 : Hid (Below w.heap.size w w5) := below_kept (below_kept HB.out K4.out (fun b hb => hb.elim (fun h => by omega) (fun h => by have := hvb _ h; omega))) hK5 (fun b hb => by omega)
   have hz5 : w.heap.size + 1 + 1 ≤ w5.heap.size := by have := K4.out.size; omega
   clear hRM5 hK5 K4 HGM HRm HG sc0 sc1 sc2 sc3 hS3 hS4 hrun hrun2 HROW HOWN HST
   go_wp2
   go_roundw
   case rel => exact ⟨k + 1, vs', by omega, by go_num, HB5, by rw [HT.out]; exact HG5, by rw [HT.out]; exact HR5, hz5⟩
   case measure => simp [intOf]; omega
  ·obtain rfl : k = dl.length := by omega
   rw [List.take_length] at HG HRm
   obtain ⟨W1, rfl⟩ : ∃ W1 : World, W1 = wr := ⟨_, rfl⟩
   go_wp2
   go_loopw [7, 35] (fun ov iv wr => ∃ k : Nat, k ≤ dl.length ∧ iv = .int .i64 k ∧ Hid (KeptS (fun i => i = w.heap.size + 1) W1 wr) ∧ Hid (Below w.heap.size w wr) ∧ Hid (RM wr (w.heap.size + 1) (loopSt dl k).2) ∧ Hid (OwnR Ty.ring 41 W1.heap.size (fun i => i = w.heap.size + 1 ∨ ov.ownBlock = some i) wr ov (loopSt dl k).1)) (fun _ i _ => dl.length - (intOf i).toNat)
   case atStart => exact ⟨0, Nat.zero_le _, rfl, kept_refl _ _, HB.out, HRm.out, OwnR.nil _ _ _ _ _⟩
   case round =>
    obtain ⟨k, hk, rfl, HK, HBw, HRr, HO⟩ := hrel
    clear HRm HB
    by_cases hlt : k < dl.length
    ·have HRw := Lib.hid (HR.out.below HBw.out)
     obtain ⟨ad, rfl, hx0, hx1, hx2, hx3⟩ := HRw.out.sg_at k hlt
     have HSN := Lib.hid (loopSt_snoc dl k hlt)
     have hll := loopSt_len dl k
     obtain ⟨s, hs⟩ : ∃ s, s = sgD dl k := ⟨_, rfl⟩
     rw [← hs] at hx0 hx1 hx2 hx3 HSN
     have hst : ∃ q, q = loopSt dl k := ⟨_, rfl⟩
     obtain ⟨st, hst⟩ := hst
     rw [← hst] at hll HSN HRr HO
     clear hs HRw
     have hzw : W1.heap.size ≤ wr.heap.size := HK.out.size
     have hlk := (HRr.out.below (below_alloc (Below.refl wr.heap.size wr) (.cells #[.int .i64 s.1.1, .int .i64 s.1.2, .int .i64 s.2.1, .int .i64 s.2.2] 32))).get s
     by_cases hm : s ∈ st.2
     ·rw [decide_eq_true hm] at hlk
      have HLF := Lib.hid (HSN.out.trans (loopF_in hm))
      have HM := Lib.hid hm
      clear hm HSN
      have hsub := loopSt_sub dl k
      rw [← hst] at hsub
      have HSUB := Lib.hid hsub
      obtain ⟨wo, rfl⟩ : ∃ wo : World, wo = wr := ⟨_, rfl⟩
      have HSo : ((wo.alloc (.cells #[.int .i64 s.1.1, .int .i64 s.1.2, .int .i64 s.2.1, .int .i64 s.2.2] 32)).alloc (.cells #[.int .i64 s.1.1, .int .i64 s.1.2, .int .i64 s.2.1, .int .i64 s.2.2] 32)).heap[wo.heap.size]? = some (.cells #[.int .i64 s.1.1, .int .i64 s.1.2, .int .i64 s.2.1, .int .i64 s.2.2] 32 (0, 0)) := (two_alloc wo _ _).1
      have HTo : ((wo.alloc (.cells #[.int .i64 s.1.1, .int .i64 s.1.2, .int .i64 s.2.1, .int .i64 s.2.2] 32)).alloc (.cells #[.int .i64 s.1.1, .int .i64 s.1.2, .int .i64 s.2.1, .int .i64 s.2.2] 32)).heap[wo.heap.size + 1]? = some (.cells #[.int .i64 s.1.1, .int .i64 s.1.2, .int .i64 s.2.1, .int .i64 s.2.2] 32 (0, 0)) := (two_alloc wo _ _).2
      have HGK : Hid (∀ W, KeptS (fun i => i = w.heap.size + 1) W1 W → GM W (w.heap.size + 1 + 1) w.heap.size vs dl) := fun W hK => HG.out.kept hK (by omega) (fun i hi g hg e => by have := (OwnR.lt (HG.out.rows i hi) g hg).1; omega)
      have hb1 : w.heap.size + 1 < W1.heap.size := by omega
      have hor : ∀ b, u7.ownBlock = some b → W1.heap.size ≤ b ∧ b < wo.heap.size := fun b e => OwnR.lt HO.out b e
      have HOR := Lib.hid hor
      clear hst hsub hor
      go_wp2
      go_step3
      go_wp2
      go_step3
      go_wp2
      go_loopg [10] st.2.length (fun gg rv wi => ∃ (m : Nat) (t : Sg) (ring : Pts) (rest : Sgs), m ≤ gg ∧ rest.length ≤ m ∧ ring.length + rest.length ≤ dl.length ∧ Hid (t ∈ rest) ∧ Hid (∀ x ∈ rest, x ∈ dl) ∧ Hid (walkZ dl s st.2.length s [] st.2 = walkZ dl s m t ring rest) ∧
       wi.heap[wo.heap.size]? = some (.cells #[.int .i64 s.1.1, .int .i64 s.1.2, .int .i64 s.2.1, .int .i64 s.2.2] 32 (0, 0)) ∧ wi.heap[wo.heap.size + 1]? = some (.cells #[.int .i64 t.1.1, .int .i64 t.1.2, .int .i64 t.2.1, .int .i64 t.2.2] 32 (0, 0)) ∧ Hid (KeptS (fun i => i = w.heap.size + 1) wo wi) ∧ Hid (Below w.heap.size w wi) ∧ Hid (RM wi (w.heap.size + 1) rest) ∧ Hid (Own1 Ty.pt 24 (wo.heap.size + 1 + 1) wi rv ring))
      case atStart => exact ⟨st.2.length, s, [], st.2, Nat.le_refl _, Nat.le_refl _, by simp; omega, HM, HSUB, rfl, HSo, HTo, kept_alloc (kept_alloc (kept_refl _ _) _) _, (by repeat (first | exact Below.refl _ _ | apply below_alloc | apply below_drewN | apply below_drew | (refine below_set2 ?_ ?_; (first | (simp; done) | (simp; omega))) | (refine below_step ?_ HBw.out))), HRr.out.below bq, OwnR.nil _ _ _ _ _⟩
      case round =>
       obtain ⟨m, t, ring, rest, hmg, hgg, hrl, HMt, HSB, HW, HS, HT, HKi, HBi, HRi, HOi⟩ := hrel
       clear HSo HTo HM HSUB hx0 hx1 hx2 hx3 hlk HRr HBw
       have hrp : 0 < rest.length := List.length_pos_of_mem HMt.out
       obtain ⟨m, rfl⟩ : ∃ m', m = m' + 1 := ⟨m - 1, by omega⟩
       have hdl := dropS_lt HMt.out
       have tc0 := blk_cell HT 0 rfl
       have tc1 := blk_cell HT 1 rfl
       have tc2 := blk_cell HT 2 rfl
       have tc3 := blk_cell HT 3 rfl
       have hzt := lt_of_block HT
       have hlr : (ring.length + 1) * 16 ≤ 140737488355328 := by omega
       have hobr : ∀ b, u10.ownBlock = some b → wo.heap.size + 1 + 1 ≤ b := fun b e => (OwnR.lt HOi.out b e).1
       have HVT : Hid (validB t.1 = true ∧ validB t.2 = true) := by have := HVV.out t (HSB.out t HMt.out); rw [Bool.and_eq_true] at this; exact this
       go_wp2_with (first | (at_builtin; refine app_one Ty.pt (W := wr) (wo.heap.size + 1 + 1) rfl _ _ 41 24 _ 16 rfl Tryz.underlying41 infoPt rfl (by decide) u10 ring t.1 _ _ rfl rfl rfl rfl HOi.out (by omega) hlr ?_; intro v1 w2 HO1 hg1 hat1; have HT2 := (hg1.block _ hzt (fun e => by have := hobr _ e.symm; omega)).trans HT; have HS2 := (hg1.block _ (by omega) (fun e => by have := hobr _ e.symm; omega)).trans HS; have sc0 := blk_cell HT2 0 rfl; have sc1 := blk_cell HT2 1 rfl; have sc2 := blk_cell HT2 2 rfl; have sc3 := blk_cell HT2 3 rfl; obtain ⟨w3, hdel, hRM3, hK3, hs3⟩ := (HRi.out.kept (kept_grown (S := fun k => u10.ownBlock = some k) hg1 (fun b e => e)) (fun e => by have := hobr _ e; omega)).del t 0) | (refine wpList_delM rfl _ _ 84 32 rfl (.map (some (w.heap.size + 1))) (sgV t) rfl rfl w3 hdel ?_))
       have hz2 := hg1.size
       have HT3 := (hK3.block _ (lt_of_block HT2) (by omega)).trans HT2
       have HS3 := (hK3.block _ (lt_of_block HS2) (by omega)).trans HS2
       have K1w : KeptS (fun i => i = w.heap.size + 1) W1 w3 := kept_step (kept_own (kept_step HK.out HKi.out) hg1 (fun b e => by have := hobr _ e; omega)) hK3
       have Kow : KeptS (fun i => i = w.heap.size + 1) wo w3 := kept_step (kept_own HKi.out hg1 (fun b e => by have := hobr _ e; omega)) hK3
       have HG3 := HGK.out w3 K1w
       have HM3 : OwnMap ptV w3 w.heap.size vs := HG3.map
       obtain ⟨An, cn, hval, hrow⟩ := HG3.look t.2
       have hlkf : ∀ W, OwnMap ptV W w.heap.size vs → (Instr.lookup 83 (.map (some w.heap.size)) (ptV t.2) false).run Tryz.prog W = .ok (.slice An (outs dl t.2).length cn) W := fun W hW => by
        have := hW.lookup (P := Tryz.prog) (t := 83) (kt := 24) (et := 41) keyPt (by kernel_rfl) (z := .slice none 0 0) (by kernel_rfl) t.2 false
        rw [this, hval]; rfl
       have HLK := Lib.hid hlkf
       have HROW := Lib.hid hrow
       have hlk3 : (Instr.lookup 83 (.map (some w.heap.size)) (.agg #[.int .i64 t.2.1, .int .i64 t.2.2]) false).run Tryz.prog w3 = .ok (.slice An (outs dl t.2).length cn) w3 := hlkf w3 HM3
       have HRM3 := Lib.hid hRM3
       have HOr3 : Hid (Own1 Ty.pt 24 (wo.heap.size + 1 + 1) w3 v1 (ring ++ [t.1])) := Own1.flat_kept pt_flat (Own1.of HO1) hK3 (fun b e h => by
        rcases hat1 with h1 | ⟨b', h1, hle⟩
        ·have := hobr b (h1 ▸ e); omega
        ·have : b' = b := by rw [h1] at e; exact Option.some.inj e
         omega)
       have HBw3 : Hid (Below w.heap.size w w3) := below_kept (below_own HBi.out hg1 (fun b e => by have := hobr _ e; omega)) hK3 (fun b hb => by omega)
       have hov : ∀ b, v1.ownBlock = some b → wo.heap.size + 1 + 1 ≤ b := fun b e => (OwnR.lt HOr3.out b e).1
       have hzz3 := K1w.size
       clear tc0 tc1 tc2 tc3 sc0 sc1 sc2 sc3 HO1 hg1 hat1 hdel hRM3 hK3 HT2 HS2 HRi HOi HT HS hlkf hrow hval HBi
       have tc0 := blk_cell HT3 0 rfl
       have tc1 := blk_cell HT3 1 rfl
       have tc2 := blk_cell HT3 2 rfl
       have tc3 := blk_cell HT3 3 rfl
       go_wp2_with fail
       refine start_ (n := 13) (S := fun w' => w'.cell? ⟨wo.heap.size + 1, 0, none⟩ = some (.int .i64 t.1.1) ∧ w'.cell? ⟨wo.heap.size + 1, 1, none⟩ = some (.int .i64 t.1.2) ∧ w'.cell? ⟨wo.heap.size + 1, 2, none⟩ = some (.int .i64 t.2.1) ∧ w'.cell? ⟨wo.heap.size + 1, 3, none⟩ = some (.int .i64 t.2.2) ∧ (Instr.lookup 83 (.map (some w.heap.size)) (.agg #[.int .i64 t.2.1, .int .i64 t.2.2]) false).run Tryz.prog w' = .ok (.slice An (outs dl t.2).length cn) w') (ds := [12]) #[Z,Z,Z,Z,Z,Z,Z,Z,Z,Z,Z,Z,Z] (by kernel_rfl) rfl rfl ⟨tc0, tc1, tc2, tc3, HLK.out w3.drew (HM3.below (below_drew (Below.refl _ _)))⟩ (fun hHeld => ?_)
       refine pure_ (i := 0) (N := some 51) (v := ?_) (a' := ?_) #[J,Z,Z,Z,Z,Z,Z,Z,Z,Z,Z,Z,Z] rfl rfl (by kernel_rfl) (fun _ _ _ h => h) (Or.inl ⟨by rfl, ?_⟩) ?_ ?_
       rotate_left
       ·intro w'; go_simp; with_reducible rfl
       rotate_left
       ·simp only [Act.put, sA, sB, sC, i64_w, i32_w]; rfl
       refine pure_ (i := 2) (N := some 53) (v := ?_) (a' := ?_) #[J,Z,J,Z,Z,Z,Z,Z,Z,Z,Z,Z,Z] rfl rfl (by kernel_rfl) (fun _ _ _ h => h) (Or.inl ⟨by rfl, ?_⟩) ?_ ?_
       rotate_left
       ·intro w'; go_simp; with_reducible rfl
       rotate_left
       ·simp only [Act.put, sA, sB, sC, i64_w, i32_w]; rfl
       refine pure_ (i := 3) (N := some 54) (v := ?_) (a' := ?_) #[J,Z,J,J,Z,Z,Z,Z,Z,Z,Z,Z,Z] rfl rfl (by kernel_rfl) (fun _ _ _ h => h) (Or.inl ⟨by rfl, ?_⟩) ?_ ?_
       rotate_left
       ·intro w'; go_simp; with_reducible rfl
       rotate_left
       ·simp only [Act.put, sA, sB, sC, i64_w, i32_w]; rfl
       refine pure_ (i := 6) (N := some 57) (v := ?_) (a' := ?_) #[J,Z,J,J,Z,Z,J,Z,Z,Z,Z,Z,Z] rfl rfl (by kernel_rfl) (fun _ _ _ h => h) (Or.inl ⟨by rfl, ?_⟩) ?_ ?_
       rotate_left
       ·intro w'; go_simp; with_reducible rfl
       rotate_left
       ·simp only [Act.put, sA, sB, sC, i64_w, i32_w]; rfl
       refine pure_ (i := 8) (N := some 59) (v := ?_) (a' := ?_) #[J,Z,J,J,Z,Z,J,Z,J,Z,Z,Z,Z] rfl rfl (by kernel_rfl) (fun _ _ _ h => h) (Or.inl ⟨by rfl, ?_⟩) ?_ ?_
       rotate_left
       ·intro w'; go_simp; with_reducible rfl
       rotate_left
       ·simp only [Act.put, sA, sB, sC, i64_w, i32_w]; rfl
       refine take_ (i := 1) (N := some 52) (v := ?_) (a' := ?_) #[J,J,J,J,Z,Z,J,Z,J,Z,Z,Z,Z] rfl rfl (by kernel_rfl) (fun _ _ _ h => h) (Or.inl ⟨by rfl, ?_⟩) hHeld ?_ ?_
       rotate_left
       ·rintro w' ⟨s0, s1, s2, s3, s4⟩; go_simp; with_reducible rfl
       rotate_left
       ·simp only [Act.put, sA, sB, sC, i64_w, i32_w]; rfl
       refine take_ (i := 4) (N := some 55) (v := ?_) (a' := ?_) #[J,J,J,J,J,Z,J,Z,J,Z,Z,Z,Z] rfl rfl (by kernel_rfl) (fun _ _ _ h => h) (Or.inl ⟨by rfl, ?_⟩) hHeld ?_ ?_
       rotate_left
       ·rintro w' ⟨s0, s1, s2, s3, s4⟩; go_simp; with_reducible rfl
       rotate_left
       ·simp only [Act.put, sA, sB, sC, i64_w, i32_w]; rfl
       refine take_ (i := 5) (N := some 56) (v := ?_) (a' := ?_) #[J,J,J,J,J,J,J,Z,J,Z,Z,Z,Z] rfl rfl (by kernel_rfl) (fun _ _ _ h => h) (Or.inl ⟨by rfl, ?_⟩) hHeld ?_ ?_
       rotate_left
       ·rintro w' ⟨s0, s1, s2, s3, s4⟩; go_simp; with_reducible rfl
       rotate_left
       ·simp only [Act.put, sA, sB, sC, i64_w, i32_w]; rfl
       refine take_ (i := 7) (N := some 58) (v := ?_) (a' := ?_) #[J,J,J,J,J,J,J,J,J,Z,Z,Z,Z] rfl rfl (by kernel_rfl) (fun _ _ _ h => h) (Or.inl ⟨by rfl, ?_⟩) hHeld ?_ ?_
       rotate_left
       ·rintro w' ⟨s0, s1, s2, s3, s4⟩; go_simp; with_reducible rfl
       rotate_left
       ·simp only [Act.put, sA, sB, sC, i64_w, i32_w]; rfl
       refine take_ (i := 9) (N := some 60) (v := ?_) (a' := ?_) #[J,J,J,J,J,J,J,J,J,J,Z,Z,Z] rfl rfl (by kernel_rfl) (fun _ _ _ h => h) (Or.inl ⟨by rfl, ?_⟩) hHeld ?_ ?_
       rotate_left
       ·rintro w' ⟨s0, s1, s2, s3, s4⟩; go_simp; with_reducible rfl
       rotate_left
       ·simp only [Act.put, sA, sB, sC, i64_w, i32_w]; rfl
       refine one_ (i := 10) (N := some 61) #[J,J,J,J,J,J,J,J,J,J,J,Z,Z] rfl rfl (by kernel_rfl) (by decide) (fun K hK => ?_)
       refine goes_ Tryz.func89 (by kernel_rfl) rfl #[.slice An (outs dl t.2).length cn, .agg #[.int .i64 t.1.1, .int .i64 t.1.2], .agg #[.int .i64 t.2.1, .int .i64 t.2.2]] (by rfl) rfl rfl (by simp only [List.map_toArray, List.map_cons, List.map_nil]; rfl) ?_
       with_reducible refine (trace_turn (outs dl t.2) An _ cn t.1 t.2 _ (HROW.out.below (below_drew (Below.refl _ _))) rfl (outs_valid HVV.out t.2) HVT.out.1 HVT.out.2).mono ?_
       rintro e w4 ⟨rfl, hb4⟩
       refine ⟨_, rfl, ?_⟩
       have tf0 := blk_free (blk_below (W := w3.drew) HT3 hb4) 0
       have tf1 := blk_free (blk_below (W := w3.drew) HT3 hb4) 1
       have tf2 := blk_free (blk_below (W := w3.drew) HT3 hb4) 2
       have tf3 := blk_free (blk_below (W := w3.drew) HT3 hb4) 3
       refine hK.out _ _ ⟨blk_cell (blk_below (W := w3.drew) HT3 hb4) 0 rfl, blk_cell (blk_below (W := w3.drew) HT3 hb4) 1 rfl, blk_cell (blk_below (W := w3.drew) HT3 hb4) 2 rfl, blk_cell (blk_below (W := w3.drew) HT3 hb4) 3 rfl, HLK.out w4 ((HM3.below (below_drew (Below.refl _ _))).below hb4)⟩ (fun hHeld => ?_)
       clear hK K
       refine norm_ (a' := ?_) ?_ ?_
       rotate_left
       ·show Act.put _ (some 61) _ = _
        simp only [Act.put, sA, sB, sC, i64_w, i32_w]; rfl
       refine pure_ (i := 11) (N := some 62) (v := ?_) (a' := ?_) #[J,J,J,J,J,J,J,J,J,J,J,J,Z] rfl rfl (by kernel_rfl) (fun _ _ _ h => h) (Or.inl ⟨by rfl, ?_⟩) ?_ ?_
       rotate_left
       ·intro w'; go_simp; with_reducible rfl
       rotate_left
       ·simp only [Act.put, sA, sB, sC, i64_w, i32_w]; rfl
       refine last_ (i := 12) (N := none) #[J,J,J,J,J,J,J,J,J,J,J,J,J] rfl rfl (by kernel_rfl) (by decide) (fun K hK => ?_)
       refine skip_ (w1 := ?_) (by rfl) rfl ?_ ?_
       rotate_left
       ·go_simp
        rfl
       refine hK.out _ _ ?_
       clear hK K
       refine done_ (by kernel_rfl) ?_
       clear tf0 tf1 tf2 tf3 tc0 tc1 tc2 tc3 hlk3
       have HSU : Hid (succZ dl t = (t.2, turnL t.1 t.2 (outs dl t.2))) := rfl
       generalize turnL t.1 t.2 (outs dl t.2) = q at *
       obtain ⟨W5, hW5⟩ : ∃ W5, W5 = (((w4.setCell ⟨wo.heap.size + 1, 0, none⟩ (.int .i64 t.2.1)).setCell ⟨wo.heap.size + 1, 1, none⟩ (.int .i64 t.2.2)).setCell ⟨wo.heap.size + 1, 2, none⟩ (.int .i64 q.1)).setCell ⟨wo.heap.size + 1, 3, none⟩ (.int .i64 q.2) := ⟨_, rfl⟩
       have hb4' : Below w3.heap.size w3 w4 := below_step (below_drew (Below.refl _ _)) hb4
       have HT5 : W5.heap[wo.heap.size + 1]? = some (.cells #[.int .i64 t.2.1, .int .i64 t.2.2, .int .i64 q.1, .int .i64 q.2] 32 (0, 0)) := by rw [hW5]; exact blk_set (blk_set (blk_set (blk_set (blk_below HT3 hb4') _) _) _) _
       have hnst : ¬ wo.heap.size = wo.heap.size + 1 := by omega
       have HS5 : W5.heap[wo.heap.size]? = some (.cells #[.int .i64 s.1.1, .int .i64 s.1.2, .int .i64 s.2.1, .int .i64 s.2.2] 32 (0, 0)) := by rw [hW5]; exact blk_far (blk_far (blk_far (blk_far (blk_below HS3 hb4') hnst _) hnst _) hnst _) hnst _
       have K45 : KeptS (fun i => i = wo.heap.size + 1) w4 W5 := by rw [hW5]; exact kept_set rfl (kept_set rfl (kept_set rfl (kept_set rfl (kept_refl _ _))))
       have Ko5 : Hid (KeptS (fun i => i = w.heap.size + 1) wo W5) := by show KeptS _ _ _; rw [hW5]; exact kept_setnew (by show _ ≤ wo.heap.size + 1; omega) (kept_setnew (by show _ ≤ wo.heap.size + 1; omega) (kept_setnew (by show _ ≤ wo.heap.size + 1; omega) (kept_setnew (by show _ ≤ wo.heap.size + 1; omega) (kept_below Kow hb4'))))
       have HR5 : Hid (RM W5 (w.heap.size + 1) (dropS rest t)) := (HRM3.out.below hb4').kept K45 (by omega)
       have HO5 : Hid (Own1 Ty.pt 24 (wo.heap.size + 1 + 1) W5 v1 (ring ++ [t.1])) := Own1.flat_kept pt_flat (Own1.below HOr3.out hb4') K45 (fun b e h => by have := hov b e; omega)
       have HB5 : Hid (Below w.heap.size w W5) := below_kept (below_step HBw3.out hb4') K45 (fun b hb => by omega)
       rw [← hW5]
       clear hW5 hb4' hb4 K45 Kow K1w HRM3 HOr3 HBw3 HT3 HS3 HM3 HROW HLK hHeld
       have tc0 := blk_cell HT5 0 rfl
       have tc1 := blk_cell HT5 1 rfl
       have tc2 := blk_cell HT5 2 rfl
       have tc3 := blk_cell HT5 3 rfl
       have sc0 := blk_cell HS5 0 rfl
       have sc1 := blk_cell HS5 1 rfl
       have sc2 := blk_cell HS5 2 rfl
       have sc3 := blk_cell HS5 3 rfl
       have HRS : Hid (dropS rest t = rest.filter fun x => decide (x ≠ t)) := rfl
       by_cases hts : ((t.2, q) : Sg) = s
       ·have hd := (sgB (t.2, q) s).trans (decide_eq_true hts)
        have HWF : Hid (walkZ dl s st.2.length s [] st.2 = (ring ++ [t.1], dropS rest t)) := HW.out.trans (walk_stop (.inl (HSU.out.trans hts)))
        clear hts
        generalize ring ++ [t.1] = rg at *
        obtain ⟨Av, cv, rfl, hlv, hrv⟩ := Own1.row_ok pt_flat HO5.out (fun i => ¬ (i = w.heap.size + 1 ∨ u7.ownBlock = some i)) (fun b e h => by have h1 := hov b e; rcases h with h | h; (· omega); (· have := (HOR.out b h).2; omega))
        have HRV := Lib.hid hrv
        have HOo : Hid (OwnR Ty.ring 41 W1.heap.size (fun i => i = w.heap.size + 1 ∨ u7.ownBlock = some i) W5 u7 st.1) := OwnR.kept HO.out Ko5.out (fun b hb => .inl hb) (fun b e h => by have := (HOR.out b e).1; omega)
        have hlo : (st.1.length + 1) * 24 ≤ 140737488355328 := by omega
        have hz5 : W1.heap.size ≤ W5.heap.size := by have := Ko5.out.size; omega
        clear hrv
        go_wp2_with (at_builtin; refine app_one Ty.ring (W := W5) W1.heap.size rfl _ _ 33 41 _ 24 rfl Tryz.underlying33 infoRing rfl (by decide) u7 st.1 rg [.slice Av rg.length cv] _ rfl rfl rfl ⟨Av, cv, rfl, hlv, HRV.out⟩ HOo.out hz5 hlo ?_; intro v2 w7 HO7 hg7 hat7)
        have HO8 : Hid (OwnR Ty.ring 41 W1.heap.size (fun i => i = w.heap.size + 1 ∨ v2.ownBlock = some i) w7 v2 (st.1 ++ [rg])) := OwnR.remut HO7 (fun k _ hk => hk.elim (fun h => .inl (.inl h)) (fun h => .inr h)) (fun k hk => .inr hk)
        have K7 : Hid (KeptS (fun i => i = w.heap.size + 1) W1 w7) := kept_own (kept_step HK.out Ko5.out) hg7 (fun b e => (HOR.out b e).1)
        have HR7 : Hid (RM w7 (w.heap.size + 1) (dropS rest t)) := HR5.out.kept (kept_grown (S := fun k => u7.ownBlock = some k) hg7 (fun b e => e)) (fun e => by have := (HOR.out _ e).1; omega)
        have HB7 : Hid (Below w.heap.size w w7) := below_own HB5.out hg7 (fun b e => by have := (HOR.out b e).1; omega)
        have HLF2 : Hid (loopSt dl (k + 1) = (st.1 ++ [rg], dropS rest t)) := HLF.out.trans (by rw [HWF.out])
        clear HO7 hg7 hat7 tc0 tc1 tc2 tc3 sc0 sc1 sc2 sc3 HOo HO5
        go_wp2
        go_roundw
        case rel => exact ⟨k + 1, by omega, by go_num, K7, HB7, by rw [HLF2.out]; exact HR7, by rw [HLF2.out]; exact HO8⟩
        case measure => simp [intOf]; omega
       ·have hd := (sgB (t.2, q) s).trans (decide_eq_false hts)
        have hlk5 := HR5.out.get (t.2, q)
        by_cases hmem : ((t.2, q) : Sg) ∈ dropS rest t
        ·rw [decide_eq_true hmem] at hlk5
         have HWF : Hid (walkZ dl s st.2.length s [] st.2 = walkZ dl s m (t.2, q) (ring ++ [t.1]) (dropS rest t)) := HW.out.trans (by rw [walkZ_on (by rw [HSU.out]; exact hts) (by rw [HSU.out]; exact hmem), HSU.out])
         have HM2 := Lib.hid hmem
         have HSB2 : Hid (∀ x ∈ dropS rest t, x ∈ dl) := fun x hx => HSB.out x (List.mem_filter.1 hx).1
         clear hts hmem
         go_wp2
         go_roundg m
         case measure => omega
         case rel => exact ⟨m, (t.2, q), ring ++ [t.1], dropS rest t, Nat.le_refl _, by omega, by rw [List.length_append]; simp; omega, HM2, HSB2, HWF, HS5, HT5, Ko5, HB5, HR5, HO5⟩
        ·rw [decide_eq_false hmem] at hlk5
         have HWF : Hid (walkZ dl s st.2.length s [] st.2 = (ring ++ [t.1], dropS rest t)) := HW.out.trans (walk_stop (.inr (by rw [HSU.out]; exact hmem)))
         clear hts hmem
         generalize ring ++ [t.1] = rg at *
         obtain ⟨Av, cv, rfl, hlv, hrv⟩ := Own1.row_ok pt_flat HO5.out (fun i => ¬ (i = w.heap.size + 1 ∨ u7.ownBlock = some i)) (fun b e h => by have h1 := hov b e; rcases h with h | h; (· omega); (· have := (HOR.out b h).2; omega))
         have HRV := Lib.hid hrv
         have HOo : Hid (OwnR Ty.ring 41 W1.heap.size (fun i => i = w.heap.size + 1 ∨ u7.ownBlock = some i) W5 u7 st.1) := OwnR.kept HO.out Ko5.out (fun b hb => .inl hb) (fun b e h => by have := (HOR.out b e).1; omega)
         have hlo : (st.1.length + 1) * 24 ≤ 140737488355328 := by omega
         have hz5 : W1.heap.size ≤ W5.heap.size := by have := Ko5.out.size; omega
         clear hrv
         go_wp2_with (at_builtin; refine app_one Ty.ring (W := W5) W1.heap.size rfl _ _ 33 41 _ 24 rfl Tryz.underlying33 infoRing rfl (by decide) u7 st.1 rg [.slice Av rg.length cv] _ rfl rfl rfl ⟨Av, cv, rfl, hlv, HRV.out⟩ HOo.out hz5 hlo ?_; intro v2 w7 HO7 hg7 hat7)
         have HO8 : Hid (OwnR Ty.ring 41 W1.heap.size (fun i => i = w.heap.size + 1 ∨ v2.ownBlock = some i) w7 v2 (st.1 ++ [rg])) := OwnR.remut HO7 (fun k _ hk => hk.elim (fun h => .inl (.inl h)) (fun h => .inr h)) (fun k hk => .inr hk)
         have K7 : Hid (KeptS (fun i => i = w.heap.size + 1) W1 w7) := kept_own (kept_step HK.out Ko5.out) hg7 (fun b e => (HOR.out b e).1)
         have HR7 : Hid (RM w7 (w.heap.size + 1) (dropS rest t)) := HR5.out.kept (kept_grown (S := fun k => u7.ownBlock = some k) hg7 (fun b e => e)) (fun e => by have := (HOR.out _ e).1; omega)
         have HB7 : Hid (Below w.heap.size w w7) := below_own HB5.out hg7 (fun b e => by have := (HOR.out b e).1; omega)
         have HLF2 : Hid (loopSt dl (k + 1) = (st.1 ++ [rg], dropS rest t)) := HLF.out.trans (by rw [HWF.out])
         clear HO7 hg7 hat7 tc0 tc1 tc2 tc3 sc0 sc1 sc2 sc3 HOo HO5
         go_wp2
         go_roundw
         case rel => exact ⟨k + 1, by omega, by go_num, K7, HB7, by rw [HLF2.out]; exact HR7, by rw [HLF2.out]; exact HO8⟩
         case measure => simp [intOf]; omega
     ·clear hst
      rw [decide_eq_false hm] at hlk
      have HLF := Lib.hid (HSN.out.trans (loopF_out hm))
      clear hm HSN
      go_wp2
      go_step3
      go_wp2
      rw [Exit.noGoto_exit]
      go_wp2
      go_roundw
      case rel => exact ⟨k + 1, by omega, by go_num, kept_alloc HK.out _, (by repeat (first | exact Below.refl _ _ | apply below_alloc | apply below_drewN | apply below_drew | (refine below_set2 ?_ ?_; (first | (simp; done) | (simp; omega))) | (refine below_step ?_ HBw.out))), by rw [HLF.out]; exact HRr.out.below bq, by rw [HLF.out]; exact HO.out.below bq⟩
      case measure => simp [intOf]; omega
    ·obtain rfl : k = dl.length := by omega
     have hwz : w.heap.size ≤ W1.heap.size := by omega
     have HO9 : Hid (Own1 Ty.ring 41 w.heap.size wr u7 res) := by show Own1 _ _ _ _ _ _; rw [HLZ.out]; exact Own1.base (Own1.of HO.out) hwz
     go_wp2
     try rw [Exit.noGoto_ret]
     go_ret
     exact ⟨_, rfl, HO9.out, HBw.out⟩
end
section
open Go.RowKit Go.Proofs.YtlmjciajpjdilaaGreatW.PrintLast

theorem OwnR.regrow {α : Type} {T : Ty α} {e : TypeId} {base : Nat} {M M' : Nat → Prop} {W w1 : World} {v : Value} {xs : List α} {row : Option Nat} (h : OwnR T e base M W v xs) (hg : W.grownBy w1 row) (hM : ∀ b, row = some b → M b) (hv : ∀ b, v.ownBlock = some b → row ≠ some b)
  (hM' : ∀ k, M' k → M k ∨ W.heap.size ≤ k) (hv' : ∀ k, v.ownBlock = some k → M' k) : OwnR T e base M' w1 v xs := by
 have h1 : OwnR T e base (fun k => M k ∨ W.heap.size ≤ k) W v xs := h.remut (fun k hk hm => hm.elim id (fun h => by omega)) (fun k hk => .inl (h.1 k hk))
 have h2 := OwnR.kept h1 (kept_grown (S := fun k => row = some k) hg (fun b e => e)) (fun b hb => .inl (hM b hb)) (fun b e hb => hv b e hb)
 exact h2.remut (fun k _ hm => hM' k hm) hv'
theorem OwnR.cut {α : Type} {T : Ty α} {e : TypeId} {base g n c : Nat} {M : Nat → Prop} {w : World} {xs : List α} (h : OwnR T e base M w (.slice (some ⟨g, 0, none⟩) n c) xs) (m : Nat) (hm : m ≤ xs.length) : OwnR T e base M w (.slice (some ⟨g, 0, none⟩) m c) (xs.take m) := by
 obtain ⟨h0, inner, ho, hr⟩ := h
 obtain ⟨hlen, ho⟩ := ho
 rcases ho with ⟨h, _⟩ | ⟨g', cap, cur, hv, hb, hh, h1, h2, h3, h4⟩
 ·cases h
 injection hv with hv hvn hvc; injection hv with hv; injection hv with hv
 subst hv hvc hvn
 have hti : (xs.take m).length = m := by rw [List.length_take]; omega
 refine ⟨h0, inner.take (m * T.sz), ⟨?_, .inr ⟨g, c, cur, by rw [hti], hb, hh, by rw [hti]; omega, h2, h3, ?_⟩⟩, hr.take m⟩
 ·rw [List.length_take, hlen, hti, Nat.min_eq_left (Nat.mul_le_mul_right _ hm)]
 ·rw [hti, ← h4, List.take_take, Nat.min_eq_left (Nat.mul_le_mul_right _ hm)]
def divSt (ring : Pts) (acc : Rgs) (j : Nat) : Rgs × Pts := (ring.take j).foldl cutF (acc, [])
theorem divSt_snoc (ring : Pts) (acc : Rgs) (j : Nat) (h : j < ring.length) : divSt ring acc (j + 1) = cutF (divSt ring acc j) (ptD ring j) := by
 unfold divSt
 rw [take_snoc ring j (0, 0) h, List.foldl_append]; rfl
theorem cutF_in {st : Rgs × Pts} {p : Pt} (h : p ∈ st.2) : cutF st p = (st.1 ++ [canonR (st.2.drop (st.2.idxOf p))], st.2.take (st.2.idxOf p) ++ [p]) := by unfold cutF; rw [if_pos h]
theorem cutF_out {st : Rgs × Pts} {p : Pt} (h : p ∉ st.2) : cutF st p = (st.1, st.2 ++ [p]) := by unfold cutF; rw [if_neg h]
theorem cutF_len (st : Rgs × Pts) (p : Pt) : (cutF st p).1.length ≤ st.1.length + 1 ∧ (cutF st p).2.length ≤ st.2.length + 1 ∧ 0 < (cutF st p).2.length := by
 by_cases h : p ∈ st.2
 ·rw [cutF_in h]; simp; omega
 ·rw [cutF_out h]; simp
theorem divSt_len (ring : Pts) (acc : Rgs) : ∀ j, j ≤ ring.length → (divSt ring acc j).1.length ≤ acc.length + j ∧ (divSt ring acc j).2.length ≤ j ∧ (0 < j → 0 < (divSt ring acc j).2.length)
 | 0, _ => by simp [divSt]
 | j + 1, h => by
  have ih := divSt_len ring acc j (by omega)
  rw [divSt_snoc ring acc j (by omega)]
  have := cutF_len (divSt ring acc j) (ptD ring j)
  exact ⟨by omega, by omega, fun _ => this.2.2⟩
theorem divR_eq (acc : Rgs) (r : Pts) : divR acc r = (divSt r acc r.length).1 ++ [canonR (divSt r acc r.length).2] := by
 unfold divR divSt; rw [List.take_length]
def divTo (rs : Rgs) (k : Nat) : Rgs := (rs.take k).foldl divR []
theorem divTo_snoc (rs : Rgs) (k : Nat) (h : k < rs.length) : divTo rs (k + 1) = divR (divTo rs k) (rgD rs k) := by
 unfold divTo
 rw [take_snoc rs k [] h, List.foldl_append]; rfl
theorem divTo_len (rs : Rgs) (hb : ∀ r ∈ rs, r.length ≤ 1000000) : ∀ k, k ≤ rs.length → (divTo rs k).length ≤ k * 1000001
 | 0, _ => by simp [divTo]
 | k + 1, h => by
  have ih := divTo_len rs hb k (by omega)
  rw [divTo_snoc rs k (by omega), divR_eq, List.length_append]
  have h1 := divSt_len (rgD rs k) (divTo rs k) (rgD rs k).length (Nat.le_refl _)
  have h2 : (rgD rs k).length ≤ 1000000 := hb _ (by simp [rgD, show k < rs.length by omega])
  rw [Nat.add_mul]; simp; omega
theorem beq_uniq {α : Type} (i1 i2 : BEq α) (h1 : @LawfulBEq α i1) (h2 : @LawfulBEq α i2) : i1 = i2 := by
 have hf : ∀ a b, @BEq.beq α i1 a b = @BEq.beq α i2 a b := fun a b => by
  rw [Bool.eq_iff_iff, @beq_iff_eq α i1 h1 a b, @beq_iff_eq α i2 h2 a b]
 cases i1; cases i2
 congr
 funext a b
 exact hf a b
theorem idxOf_inst (p : Pt) (l : Pts) : @List.idxOf Pt instBEqOfDecidableEq p l = @List.idxOf Pt instBEqProd p l := by
 rw [beq_uniq (α := Pt) instBEqOfDecidableEq instBEqProd inferInstance inferInstance]
theorem ixZ_at' {l : Pts} {p : Pt} (h : p ∈ l) : ixZ l p = (l.idxOf p : Nat) := by
 unfold ixZ
 rw [if_pos h, idxOf_inst]
set_option maxRecDepth 100000 in
set_option maxHeartbeats 4000000 in
theorem trace_divided {ok : Nat → Prop} (rs : Rgs) (A : Option Addr) (n c : Nat) (w : World) (hr : Row Ty.ring ok w A rs) (hn : n = rs.length) (hne : ∀ r ∈ rs, 0 < r.length) (hb : ∀ r ∈ rs, r.length ≤ 1000000) (hlen : rs.length ≤ 1000000) :
  Calls Tryz.prog 44 #[.slice A n c] w fun e w' => ∃ v, e = .returned v ∧ Own1 Ty.ring 41 w.heap.size w' v (dividedZ rs) ∧ Below w.heap.size w w' := by
 subst hn
 have HR := Lib.hid hr
 have HNE := Lib.hid hne
 have HBD := Lib.hid hb
 clear hr hne hb
 have HDZ : Hid (dividedZ rs = divTo rs rs.length) := by show _ = _; unfold divTo dividedZ; rw [List.take_length]
 generalize dividedZ rs = res at *
 go_enter Tryz.func44, Tryz.ntmps44
 go_wp2
 go_loopw [3, 12] (fun v i wr => ∃ k : Nat, k ≤ rs.length ∧ i = .int .i64 k ∧ Hid (Below w.heap.size w wr) ∧ Hid (Own1 Ty.ring 41 w.heap.size wr v (divTo rs k))) (fun _ i _ => rs.length - (intOf i).toNat)
 case atStart => exact ⟨0, Nat.zero_le _, rfl, Below.refl _ _, OwnR.nil _ _ _ _ _⟩
 case round =>
  obtain ⟨k, hk, rfl, HB, HO⟩ := hrel
  by_cases hlt : k < rs.length
  ·obtain ⟨ad, A0, c0, rfl, hx00, hl0, hrow00⟩ := HR.out.ring_at k hlt
   have hx0 := cell_below HB.out hx00
   have hrow0 := hrow00.bnd.mono (ok' := fun k => k < w.heap.size) (fun k hk => hk.2)
   clear hx00 hrow00
   have HSN := Lib.hid ((divTo_snoc rs k hlt).trans (divR_eq _ _))
   have hmem : rgD rs k ∈ rs := by simp [rgD, hlt]
   have hrb := HBD.out _ hmem
   have hrp := HNE.out _ hmem
   have hdl := divTo_len rs HBD.out k hk
   obtain ⟨r, hre⟩ : ∃ r, r = rgD rs k := ⟨_, rfl⟩
   rw [← hre] at hx0 hl0 hrow0 HSN hrb hrp
   generalize divTo rs k = acc at *
   have hsl := divSt_len r acc
   have HSL := Lib.hid hsl
   have hacc : acc.length ≤ 1000001000000 := by omega
   have HRO := Lib.hid hrow0
   clear hmem hre hsl hrow0 hdl
   obtain ⟨wo, rfl⟩ : ∃ wo : World, wo = wr := ⟨_, rfl⟩
   go_wp2
   go_loopw [3, 6, 18] (fun ov pv i wi => ∃ j : Nat, j ≤ r.length ∧ i = .int .i64 j ∧ Hid (Below w.heap.size w wi) ∧ Hid (OwnR Ty.ring 41 w.heap.size (fun i => ov.ownBlock = some i ∨ pv.ownBlock = some i) wi ov (divSt r acc j).1) ∧ Hid (Own1 Ty.pt 24 w.heap.size wi pv (divSt r acc j).2)) (fun _ _ i _ => r.length - (intOf i).toNat)
   case atStart => exact ⟨0, Nat.zero_le _, rfl, HB.out, OwnR.remut HO.out (fun k _ h => h.elim id (fun h => by cases h)) (fun k h => .inl h), OwnR.nil _ _ _ _ _⟩
   case round =>
    obtain ⟨j, hj, rfl, HBi, HOi, HPi⟩ := hrel
    clear HO HB hx0
    have hsw := HBi.out.size
    by_cases hjt : j < r.length
    ·have HRi := Lib.hid (HRO.out.below HBi.out)
     obtain ⟨bd, rfl, hp0, hp1⟩ := HRi.out.pt_at j hjt
     have HDS := Lib.hid (divSt_snoc r acc j hjt)
     obtain ⟨hs1, hs2, hs3⟩ := HSL.out j hj
     obtain ⟨q, hq⟩ : ∃ q, q = divSt r acc j := ⟨_, rfl⟩
     rw [← hq] at HDS hs1 hs2 HOi HPi
     clear hq hs3
     obtain ⟨out, path⟩ := q
     simp only at hs1 hs2 HOi HPi
     obtain ⟨p, hpe⟩ : ∃ p, p = ptD r j := ⟨_, rfl⟩
     rw [← hpe] at hp0 hp1 HDS
     obtain ⟨Ap, cp, rfl, hlp, hrp⟩ := HPi.out.reads
     have HPR := Lib.hid hrp
     have HX := heap_alloc_new wr (.cells #[.int .i64 p.1, .int .i64 p.2] 24)
     clear hpe hrp HRi
     have hovl : ∀ b, u3.ownBlock = some b → b < wr.heap.size := fun b e => (OwnR.lt HOi.out b e).2
     have hpvl : ∀ b, (Value.slice Ap path.length cp).ownBlock = some b → b < wr.heap.size := fun b e => (OwnR.lt HPi.out b e).2
     have HOVL := Lib.hid hovl
     have HPVL := Lib.hid hpvl
     clear hovl hpvl
     go_wp2_with fail
     refine (Index_pt path Ap _ cp p _ (HPR.out.alloc _) rfl).mono ?_
     rintro e w2 ⟨rfl, hb2⟩
     have HX2 := blk_below HX hb2
     have B2 : Hid (Below w.heap.size w w2) := (by repeat (first | exact Below.refl _ _ | apply below_alloc | apply below_drewN | apply below_drew | (refine below_set2 ?_ ?_; (first | (simp; done) | (simp; omega))) | (refine below_step ?_ hb2) | (refine below_step ?_ HBi.out)))
     have HO2 : Hid (OwnR Ty.ring 41 w.heap.size (fun i => u3.ownBlock = some i ∨ (Value.slice Ap path.length cp).ownBlock = some i) w2 u3 out) := OwnR.below HOi.out (by repeat (first | exact Below.refl _ _ | apply below_alloc | apply below_drewN | apply below_drew | (refine below_set2 ?_ ?_; (first | (simp; done) | (simp; omega))) | (refine below_step ?_ hb2)))
     have HP2 : Hid (Own1 Ty.pt 24 w.heap.size w2 (.slice Ap path.length cp) path) := Own1.below HPi.out (by repeat (first | exact Below.refl _ _ | apply below_alloc | apply below_drewN | apply below_drew | (refine below_set2 ?_ ?_; (first | (simp; done) | (simp; omega))) | (refine below_step ?_ hb2)))
     have hz2 := lt_of_block HX2
     clear HX hp0 hp1 HBi HOi HPi HPR hb2
     have hx0 := blk_cell HX2 0 rfl
     have hx1 := blk_cell HX2 1 rfl
     by_cases hm : p ∈ path
     ·rw [ixZ_at' hm]
      have hml : path.idxOf p < path.length := List.idxOf_lt_length_of_mem hm
      have HDS2 : Hid (divSt r acc (j + 1) = (out ++ [canonR (path.drop (path.idxOf p))], path.take (path.idxOf p) ++ [p])) := HDS.out.trans (cutF_in hm)
      clear HDS hm
      generalize path.idxOf p = m at *
      obtain ⟨g, cx, hv, _⟩ := HP2.out.form (by omega)
      injection hv with hv _ hc'
      subst hv hc'
      obtain ⟨_, _, ev, _, hrp2⟩ := HP2.out.reads
      injection ev with ev1 _ ev3
      subst ev1 ev3
      have hrd := hrp2.drop m
      rw [add_at, Nat.zero_add] at hrd
      have HRD : Hid (Row Ty.pt (fun _ => True) w2 (some ⟨g, m * 2, none⟩) (path.drop m)) := hrd
      have hdl : Hid ((path.drop m).length = path.length - m) := List.length_drop ..
      have hcm : ¬ cp = m := by omega
      have hmc : m ≤ cp := by omega
      have hml2 : m ≤ path.length := by omega
      have hge : (0 : Int) ≤ (m : Int) := by omega
      clear hrp2 hrd
      go_wp2_with fail
      refine (Clone_pt (path.drop m) _ _ _ _ HRD.out hdl.out.symm (by rw [hdl.out]; omega)).mono ?_
      rintro e w3 ⟨v3, rfl, ho3, hb3⟩
      obtain ⟨A3, c3, rfl, hl3, hr3⟩ := ho3.reads
      have HR3 := Lib.hid hr3
      have hl3' : Hid ((path.drop m).length ≤ c3) := hl3
      clear ho3 hr3 hl3 HRD
      go_wp2_with fail
      refine (poly_Canon (path.drop m) A3 _ c3 _ HR3.out (by first | rfl | exact hdl.out.symm) hl3'.out (by rw [hdl.out]; omega) (by rw [hdl.out]; omega)).mono ?_
      rintro e w4 ⟨v4, rfl, ho4, hb4⟩
      have B4 : Hid (Below w.heap.size w w4) := (by repeat (first | exact Below.refl _ _ | apply below_alloc | apply below_drewN | apply below_drew | (refine below_set2 ?_ ?_; (first | (simp; done) | (simp; omega))) | (refine below_step ?_ hb4) | (refine below_step ?_ hb3) | (refine below_step ?_ B2.out)))
      have HO4 : Hid (OwnR Ty.ring 41 w.heap.size (fun i => u3.ownBlock = some i ∨ (Value.slice (some ⟨g, 0, none⟩) path.length cp).ownBlock = some i) w4 u3 out) := OwnR.below (OwnR.below HO2.out hb3) hb4
      have HP4 : Hid (Own1 Ty.pt 24 w.heap.size w4 (.slice (some ⟨g, 0, none⟩) path.length cp) path) := Own1.below (Own1.below HP2.out hb3) hb4
      have HX4 := blk_below (blk_below HX2 hb3) hb4
      have hz3 := hb3.size
      have hz4 := hb4.size
      obtain ⟨A4, c4, rfl, hl4, hr4⟩ := Own1.row_ok pt_flat ho4 (fun i => ¬ (u3.ownBlock = some i ∨ (Value.slice (some ⟨g, 0, none⟩) path.length cp).ownBlock = some i)) (fun b e h => by have h1 := (OwnR.lt ho4 b e).1; rcases h with h | h; (· have := HOVL.out b h; omega); (· have := HPVL.out b h; omega))
      have HR4 := Lib.hid hr4
      generalize canonR (path.drop m) = cr at *
      clear HO2 HP2 HR3 ho4 hr4 hb3 hb4 HX2 hx0 hx1 B2 hl3'
      go_wp2_with (first | (at_builtin; refine app_one Ty.ring (W := w4) w.heap.size rfl _ _ 33 41 _ 24 rfl Tryz.underlying33 infoRing rfl (by decide) u3 out cr [.slice A4 cr.length c4] _ rfl rfl rfl ⟨A4, c4, rfl, hl4, HR4.out⟩ HO4.out (by omega) (by omega) ?_; intro v5 w5 HO5 hg5 hat5; have hX5 := (hg5.block _ (lt_of_block HX4) (fun e => by have := HOVL.out _ e.symm; omega)).trans HX4; have hx0 := blk_cell hX5 0 rfl; have hx1 := blk_cell hX5 1 rfl; have HP5 := Own1.flat_kept pt_flat HP4.out (kept_grown (S := fun k => u3.ownBlock = some k) hg5 (fun b e => e)) (fun b e h => Own1.apart (Own1.of HO4.out) HP4.out (by decide) h e); have HPc := Lib.hid (OwnR.cut HP5 m hml2); have hz5 := hg5.size; have hlt5 : (path.take m).length ≤ path.length := (by rw [List.length_take]; omega)) | (at_builtin; refine app_one Ty.pt (W := w5) w.heap.size rfl _ _ 41 24 _ 16 rfl Tryz.underlying41 infoPt rfl (by decide) (.slice (some ⟨g, 0, none⟩) m cp) (path.take m) p _ _ rfl rfl rfl rfl HPc.out (by omega) (by omega) ?_; intro v6 w6 HO6 hg6 hat6))
      have HP6 : Hid (Own1 Ty.pt 24 w.heap.size w6 v6 (path.take m ++ [p])) := Own1.of HO6
      have HO6' : Hid (OwnR Ty.ring 41 w.heap.size (fun i => v5.ownBlock = some i ∨ v6.ownBlock = some i) w6 v5 (out ++ [cr])) := OwnR.regrow HO5 hg6 (fun b e => .inl (.inr e)) (fun b e h => Own1.apart (Own1.of HO5) (show Own1 Ty.pt 24 w.heap.size w5 (.slice (some ⟨g, 0, none⟩) m cp) (path.take m) from HPc.out) (by decide) e h)
       (fun k hk => hk.elim (fun h => .inl (.inr h)) (fun h => by
        rcases hat6 with h1 | ⟨b', h1, hle⟩
        ·exact .inl (.inl (.inr (by rw [h1] at h; exact h)))
        ·right; rw [h1] at h; have : b' = k := Option.some.inj h; omega)) (fun k hk => .inl hk)
      have B6 : Hid (Below w.heap.size w w6) := below_own (below_own B4.out hg5 (fun b e => (OwnR.lt HO4.out b e).1)) hg6 (fun b e => (OwnR.lt HP4.out b e).1)
      clear HO5 HO6 hg5 hg6 hat5 hat6 HPc HP5 hX5
      go_wp2
      go_roundw
      case rel => exact ⟨j + 1, by omega, by go_num, B6, by rw [HDS2.out]; exact HO6', by rw [HDS2.out]; exact HP6⟩
      case measure => simp [intOf]; omega
     ·rw [ixZ_none hm]
      have HDS2 : Hid (divSt r acc (j + 1) = (out, path ++ [p])) := HDS.out.trans (cutF_out hm)
      clear HDS hm
      go_wp2_with (at_builtin; refine app_one Ty.pt (W := w2) w.heap.size rfl _ _ 41 24 _ 16 rfl Tryz.underlying41 infoPt rfl (by decide) (.slice Ap path.length cp) path p _ _ rfl rfl rfl rfl HP2.out (by omega) (by omega) ?_; intro v1 w3 HO1 hg1 hat1)
      have HP3 : Hid (Own1 Ty.pt 24 w.heap.size w3 v1 (path ++ [p])) := Own1.of HO1
      have HO3 : Hid (OwnR Ty.ring 41 w.heap.size (fun i => u3.ownBlock = some i ∨ v1.ownBlock = some i) w3 u3 out) := OwnR.regrow HO2.out hg1 (fun b e => .inr e) (fun b e h => Own1.apart (Own1.of HO2.out) HP2.out (by decide) e h)
       (fun k hk => hk.elim (fun h => .inl (.inl h)) (fun h => by
        rcases hat1 with h1 | ⟨b', h1, hle⟩
        ·exact .inl (.inr (by rw [h1] at h; exact h))
        ·right; rw [h1] at h; have : b' = k := Option.some.inj h; omega)) (fun k hk => .inl hk)
      have B3 : Hid (Below w.heap.size w w3) := below_own B2.out hg1 (fun b e => (OwnR.lt HP2.out b e).1)
      clear HO1 hg1 hat1
      go_wp2
      go_roundw
      case rel => exact ⟨j + 1, by omega, by go_num, B3, by rw [HDS2.out]; exact HO3, by rw [HDS2.out]; exact HP3⟩
      case measure => simp [intOf]; omega
    ·obtain rfl : j = r.length := by omega
     obtain ⟨hs1, hs2, hs3⟩ := HSL.out r.length (Nat.le_refl _)
     have hs3' := hs3 hrp
     obtain ⟨q, hq⟩ : ∃ q, q = divSt r acc r.length := ⟨_, rfl⟩
     rw [← hq] at HSN hs1 hs2 HOi HPi hs3'
     clear hq hs3
     obtain ⟨out, path⟩ := q
     simp only at hs1 hs2 HOi HPi HSN hs3'
     obtain ⟨Ap, cp, rfl, hlp, hrpp⟩ := HPi.out.reads
     have HPR := Lib.hid hrpp
     have HOVL : Hid (∀ b, u3.ownBlock = some b → b < wr.heap.size) := fun b e => (OwnR.lt HOi.out b e).2
     have HPVL : Hid (∀ b, (Value.slice Ap path.length cp).ownBlock = some b → b < wr.heap.size) := fun b e => (OwnR.lt HPi.out b e).2
     clear hrpp
     go_wp2_with fail
     refine (Clone_pt path Ap _ cp _ HPR.out rfl (by omega)).mono ?_
     rintro e w3 ⟨v3, rfl, ho3, hb3⟩
     obtain ⟨A3, c3, rfl, hl3, hr3⟩ := ho3.reads
     have HR3 := Lib.hid hr3
     have hl3' : Hid (path.length ≤ c3) := hl3
     clear ho3 hr3 hl3
     go_wp2_with fail
     refine (poly_Canon path A3 _ c3 _ HR3.out rfl hl3'.out hs3' (by omega)).mono ?_
     rintro e w4 ⟨v4, rfl, ho4, hb4⟩
     have B4 : Hid (Below w.heap.size w w4) := (by repeat (first | exact Below.refl _ _ | apply below_alloc | apply below_drewN | apply below_drew | (refine below_set2 ?_ ?_; (first | (simp; done) | (simp; omega))) | (refine below_step ?_ hb4) | (refine below_step ?_ hb3) | (refine below_step ?_ HBi.out)))
     have HO4 : Hid (OwnR Ty.ring 41 w.heap.size (fun i => u3.ownBlock = some i ∨ (Value.slice Ap path.length cp).ownBlock = some i) w4 u3 out) := OwnR.below (OwnR.below HOi.out hb3) hb4
     have hz3 := hb3.size
     have hz4 := hb4.size
     obtain ⟨A4, c4, rfl, hl4, hr4⟩ := Own1.row_ok pt_flat ho4 (fun i => ¬ (u3.ownBlock = some i ∨ (Value.slice Ap path.length cp).ownBlock = some i)) (fun b e h => by have h1 := (OwnR.lt ho4 b e).1; rcases h with h | h; (· have := HOVL.out b h; omega); (· have := HPVL.out b h; omega))
     have HR4 := Lib.hid hr4
     generalize canonR path = cr at *
     clear HR3 ho4 hr4 hb3 hb4 hl3'
     go_wp2_with (at_builtin; refine app_one Ty.ring (W := w4) w.heap.size rfl _ _ 33 41 _ 24 rfl Tryz.underlying33 infoRing rfl (by decide) u3 out cr [.slice A4 cr.length c4] _ rfl rfl rfl ⟨A4, c4, rfl, hl4, HR4.out⟩ HO4.out (by omega) (by omega) ?_; intro v5 w5 HO5 hg5 hat5)
     have HO6 : Hid (Own1 Ty.ring 41 w.heap.size w5 v5 (out ++ [cr])) := Own1.of HO5
     have B6 : Hid (Below w.heap.size w w5) := below_own B4.out hg5 (fun b e => (OwnR.lt HO4.out b e).1)
     clear HO5 hg5 hat5
     go_wp2
     go_roundw
     case rel => exact ⟨k + 1, by omega, by go_num, B6, by rw [HSN.out]; exact HO6⟩
     case measure => simp [intOf]; omega
  ·obtain rfl : k = rs.length := by omega
   have HO9 : Hid (Own1 Ty.ring 41 w.heap.size wr u3 res) := by show Own1 _ _ _ _ _ _; rw [HDZ.out]; exact HO.out
   go_wp2
   go_ret
   exact ⟨_, rfl, HO9.out, HB.out⟩
end
end Go.Proofs.YtlmjciajpjdilaaGreat
