/- Words of this session's own: m[k] = append(m[k], ..) and range over a map that a call has made; points and segments as keys. Contract of trace.Check. -/
import Derived.Test.YtlmjciajpjdilaaGreatKR8
import Derived.Test.YtlmjciajpjdilaaGreatKR1
import Derived.Maps.RangeRun
import Derived.Laws.StructEq
namespace Go.Proofs.YtlmjciajpjdilaaGreat
set_option linter.unusedVariables false
set_option linter.unusedSimpArgs false
section
open Go.RowKit Go.Proofs.YtlmjciajpjdilaaGreatW.PrintLast
set_option linter.unusedSectionVars false

abbrev ptV (p : Pt) : Value := .agg #[.int .i64 p.1, .int .i64 p.2]
abbrev sgV (a : Sg) : Value := .agg #[.int .i64 a.1.1, .int .i64 a.1.2, .int .i64 a.2.1, .int .i64 a.2.2]
theorem nodup_sub : ∀ {l m : List Nat}, l.Nodup → (∀ x ∈ l, x ∈ m) → l.length ≤ m.length
 | [], m, _, _ => Nat.zero_le _
 | x :: l, m, hn, hs => by
  have hx := hs x List.mem_cons_self
  have h1 := List.nodup_cons.1 hn
  have h2 := nodup_sub (m := m.erase x) h1.2 (fun y hy => (List.mem_erase_of_ne (fun e => h1.1 (by rw [← e]; exact hy))).2 (hs y (List.mem_cons_of_mem _ hy)))
  rw [List.length_erase_of_mem hx] at h2
  have := List.length_pos_of_mem hx
  simp only [List.length_cons]; omega
section
variable {κ : Type} [DecidableEq κ] {P : Program} {kt et t : TypeId} {enc : κ → Value} {w w' : World} {b : Nat} {vs : List (κ × Value)}
/-- Block b is a map whose entries are vs, and entry i has the stamp s. -/
def OwnMapS (enc : κ → Value) (w : World) (b : Nat) (vs : List (κ × Value)) (i s : Nat) : Prop :=
 ∃ es clock, w.heap[b]? = some (.map es clock) ∧ es.toList.map (·.key) = (vs.map Prod.fst).map enc ∧ es.toList.map (·.val) = vs.map Prod.snd ∧ (vs.map Prod.fst).Nodup ∧ (es.toList.map (·.born)).Nodup ∧ (∀ e ∈ es.toList, e.born < clock) ∧ (es.toList[i]?).map (·.born) = some s
theorem OwnMapS.own {i s : Nat} (h : OwnMapS enc w b vs i s) : OwnMap enc w b vs := by
 obtain ⟨es, clock, h1, h2, h3, h4, h5, h6, _⟩ := h
 exact ⟨es, clock, h1, h2, h3, h4, h5, h6⟩
theorem OwnMapS.kept {S : Nat → Prop} {i s : Nat} (h : OwnMapS enc w b vs i s) (k : KeptS S w w') (hs : ¬ S b) : OwnMapS enc w' b vs i s := by
 have hl := h.own.lt
 obtain ⟨es, clock, hb, h'⟩ := h
 exact ⟨es, clock, (k.block b hl hs).trans hb, h'⟩
theorem set_heap {w : World} {b : Nat} (hl : b < w.heap.size) (o : Obj) : KeptS (fun i => i = b) w { w with heap := w.heap.setIfInBounds b o } ∧ (w.heap.setIfInBounds b o)[b]? = some o :=
 ⟨⟨rfl, rfl, rfl, by simp, fun i _ hi => by show (w.heap.setIfInBounds b o)[i]? = _; rw [Array.getElem?_setIfInBounds, if_neg (fun e => hi e.symm)]⟩, by rw [Array.getElem?_setIfInBounds, if_pos rfl, if_pos hl]⟩
/-- m[k], for a store that follows. -/
theorem OwnMap.entry (h : OwnMap enc w b vs) (K : KeyOk P kt enc) (ht : P.underlying t = some (.map kt et)) {z : Value} (hz : ∀ w, (zeroValue et).run P w = .ok z w) (k : κ) :
  ∃ w' s, (Instr.mapEntry t (.map (some b)) (enc k)).run P w = .ok (.tuple #[(mapGet vs k).getD z, goInt (s : Nat)]) w' ∧ OwnMapS enc w' b (if mapIx vs k < vs.length then vs else vs ++ [(k, z)]) (mapIx vs k) s ∧ KeptS (fun i => i = b) w w' ∧ w'.heap.size = w.heap.size := by
 have hbl := h.lt
 obtain ⟨es, clock, hb, hk, hv, hn, hbn, hc⟩ := h
 have hl : es.toList.length = vs.length := by have := congrArg List.length hv; simpa using this
 have hf := K.find k es.toList (vs.map Prod.fst) w hk
 have hg : (es.toList[(vs.map Prod.fst).idxOf k]?).map (·.val) = mapGet vs k := by
  have := congrArg (fun l => l[(vs.map Prod.fst).idxOf k]?) hv
  simpa [mapGet, mapIx] using this
 by_cases hi : mapIx vs k < vs.length
 ·have hi' : mapIx vs k < es.toList.length := by rw [hl]; exact hi
  have he : es.toList[(vs.map Prod.fst).idxOf k]? = some (es.toList[mapIx vs k]'hi') := List.getElem?_eq_getElem hi'
  have hkey : (es.toList[mapIx vs k]'hi').key = enc k := by
   have h1 := congrArg (fun l => l[mapIx vs k]?) hk
   simp only [List.getElem?_map] at h1
   rw [List.getElem?_eq_getElem hi', List.getElem?_eq_getElem hi] at h1
   simp only [Option.map_some, Option.some.injEq] at h1
   rw [h1, mapIx_lt hi]
  have hself : es.modify (mapIx vs k) (fun e => { e with key := enc k }) = es := by
   apply Array.ext
   ·simp
   ·intro j h1 h2
    rw [Array.getElem_modify]
    split
    ·rename_i hj
     subst hj
     have : (es[mapIx vs k]'h2) = es.toList[mapIx vs k]'hi' := by simp
     rw [this]
     cases hx : es.toList[mapIx vs k]'hi' with
     | mk key val born => rw [hx] at hkey; simp only at hkey; rw [hkey]
    ·rfl
  obtain ⟨hK, hA⟩ := set_heap hbl (.map es clock)
  refine ⟨_, (es.toList[mapIx vs k]'hi').born, ?_, ?_, hK, by simp⟩
  rotate_left
  ·rw [if_pos hi]
   exact ⟨es, clock, hA, hk, hv, hn, hbn, hc, by rw [List.getElem?_eq_getElem hi']; rfl⟩
  ·rw [he] at hg
   simp only [Option.map_some] at hg
   have hes : (es[(vs.map Prod.fst).idxOf k]?.map (·.key)).getD (enc k) = enc k := by
    rw [← Array.getElem?_toList, he]
    simpa using hkey
   have heb : (es[(vs.map Prod.fst).idxOf k]?.map (fun x => (x.born : Int))).getD 0 = ((es.toList[mapIx vs k]'hi').born : Int) := by
    rw [← Array.getElem?_toList, he]; rfl
   simp only [Instr.mapEntry, Sem.run_bind, run_underlying ht, Result.andThen_ok, MapKept.run_getObj_map hb, Sem.run_pure, K.check, hf, he, Option.map_some]
   simp only [hes, Instr.keyThatStays, K.same, if_true, Sem.run_pure, Result.andThen_ok, MapKept.run_setObj_map _ hb, Sem.run_bind, heb]
   rw [← hg]
   have : es.modify ((vs.map Prod.fst).idxOf k) (fun e => { e with key := enc k }) = es := hself
   rw [this]
   rfl
 ·have he : es.toList[(vs.map Prod.fst).idxOf k]? = none := List.getElem?_eq_none (by rw [hl]; exact Nat.le_of_not_lt hi)
  have hnk : k ∉ vs.map Prod.fst := fun hm => hi (by have := List.idxOf_lt_length_of_mem hm; rwa [List.length_map] at this)
  have hix : mapIx vs k = vs.length := by
   have := List.idxOf_eq_length hnk
   rw [List.length_map] at this; exact this
  obtain ⟨hK, hA⟩ := set_heap hbl (.map (es.push { key := enc k, val := z, born := clock }) (clock + 1))
  refine ⟨_, clock, ?_, ?_, hK, by simp⟩
  rotate_left
  ·rw [if_neg hi]
   refine ⟨es.push { key := enc k, val := z, born := clock }, clock + 1, hA, by simp [hk], by simp [hv], ?_, ?_, ?_, ?_⟩
   ·rw [List.map_append, List.nodup_append]
    refine ⟨hn, by simp, fun a ha b hb' => ?_⟩
    simp only [List.map_cons, List.map_nil, List.mem_singleton] at hb'
    subst hb'
    exact fun e => hnk (e ▸ ha)
   ·rw [Array.toList_push, List.map_append, List.nodup_append]
    refine ⟨hbn, by simp, fun a ha c' hc' => ?_⟩
    simp only [List.map_cons, List.map_nil, List.mem_singleton] at hc'
    subst hc'
    obtain ⟨e, he', rfl⟩ := List.mem_map.1 ha
    have := hc e he'
    exact fun h => by omega
   ·intro e he'
    rw [Array.toList_push] at he'
    rcases List.mem_append.1 he' with h | h
    ·have := hc e h; omega
    ·rw [List.mem_singleton.1 h]; exact Nat.lt_succ_self _
   ·rw [hix, ← hl, Array.toList_push, List.getElem?_append_right (Nat.le_refl _)]; simp
  ·have hgn : mapGet vs k = none := by rw [he] at hg; simpa using hg.symm
   simp only [Instr.mapEntry, Sem.run_bind, run_underlying ht, Result.andThen_ok, MapKept.run_getObj_map hb, Sem.run_pure, K.check, hf, he, Option.map_none, MapKept.run_setObj_map _ hb, hz, hgn, Option.getD_none]
/-- The store behind it. -/
theorem OwnMapS.put {i s : Nat} (h : OwnMapS enc w b vs i s) (hi : i < vs.length) (v : Value) :
  ∃ w', (Instr.entryStore t (.map (some b)) (goInt (s : Nat)) v).run P w = .ok () w' ∧ OwnMap enc w' b (vs.set i ((vs[i]'hi).1, v)) ∧ KeptS (fun i => i = b) w w' ∧ w'.heap.size = w.heap.size := by
 have hbl := h.own.lt
 obtain ⟨es, clock, hb, hk, hv, hn, hbn, hc, hs⟩ := h
 have hl : es.toList.length = vs.length := by have := congrArg List.length hv; simpa using this
 have hi' : i < es.toList.length := by rw [hl]; exact hi
 have hbs : (es.toList[i]'hi').born = s := by rw [List.getElem?_eq_getElem hi'] at hs; simpa using hs
 have hfi : es.findIdx? (fun e => (e.born : Int) == (s : Int)) = some i := by
  rw [Array.findIdx?_eq_some_iff_getElem]
  refine ⟨by simpa using hi', ?_, fun j hj => ?_⟩
  ·have : (es[i]'(by simpa using hi')) = es.toList[i]'hi' := by simp
   rw [this, hbs]; simp
  ·have hj' : j < es.toList.length := by omega
   intro he
   have e1 : (es[j]'(by simpa using hj')) = es.toList[j]'hj' := by simp
   rw [e1] at he
   have e2 : (es.toList[j]'hj').born = s := by have := eq_of_beq he; omega
   have e3 : (es.toList.map (·.born))[j]? = (es.toList.map (·.born))[i]? := by rw [List.getElem?_map, List.getElem?_map, List.getElem?_eq_getElem hj', List.getElem?_eq_getElem hi']; simp only [Option.map_some, e2, hbs]
   have := (List.getElem?_inj (by simpa using hj') hbn).1 e3
   omega
 obtain ⟨hK, hA⟩ := set_heap hbl (.map (es.modify i (fun e => { e with val := v })) clock)
 refine ⟨_, ?_, ?_, hK, by simp⟩
 rotate_left
 ·refine ⟨es.modify i (fun e => { e with val := v }), clock, hA, ?_, ?_, ?_, ?_, ?_⟩
  ·rw [List.map_set, List.map_set, Array.toList_modify, ← hk]
   apply List.ext_getElem?
   intro j
   simp only [List.getElem?_map, List.getElem?_modify, List.getElem?_set, List.length_map, hl]
   by_cases hj : i = j
   ·subst hj
    have h1 := congrArg (fun l => l[i]?) hk
    simp only [List.getElem?_map] at h1
    rw [List.getElem?_eq_getElem hi', List.getElem?_eq_getElem hi] at h1
    simp only [Option.map_some, Option.some.injEq] at h1
    simp only [if_true, if_pos hi]
    rw [List.getElem?_eq_getElem hi']
    simpa using h1
   ·simp only [if_neg hj]
    cases es.toList[j]? <;> rfl
  ·rw [List.map_set, Array.toList_modify, ← hv]
   apply List.ext_getElem?
   intro j
   simp only [List.getElem?_map, List.getElem?_modify, List.getElem?_set, List.length_map, hl]
   by_cases hj : i = j
   ·subst hj
    simp only [if_true, if_pos hi]
    rw [List.getElem?_eq_getElem hi']
    rfl
   ·simp only [if_neg hj]
    cases es.toList[j]? <;> rfl
  ·rw [List.map_set]
   have e : (vs.map Prod.fst).set i (vs[i]'hi).1 = vs.map Prod.fst := by
    have e0 : (vs[i]'hi).1 = (vs.map Prod.fst)[i]'(by simpa using hi) := by simp
    rw [e0]; exact List.set_getElem_self _
   rw [e]; exact hn
  ·have e : (es.modify i (fun e => { e with val := v })).toList.map (·.born) = es.toList.map (·.born) := by
    rw [Array.toList_modify]
    apply List.ext_getElem?
    intro j
    simp only [List.getElem?_map, List.getElem?_modify]
    split <;> cases es.toList[j]? <;> rfl
   rw [e]; exact hbn
  ·intro e he'
   rw [Array.toList_modify] at he'
   obtain ⟨j, hj, rfl⟩ := List.mem_iff_getElem.1 he'
   rw [List.getElem_modify]
   have hj' : j < es.toList.length := by simpa using hj
   split
   ·show (es.toList[j]'hj').born < clock
    exact hc _ (List.getElem_mem hj')
   ·exact hc _ (List.getElem_mem hj')
 ·simp only [Instr.entryStore, Sem.run_bind, MapKept.run_getObj_map hb, Result.andThen_ok, goInt, asInt, asIntOf, Sem.run_pure, hfi, MapKept.run_setObj_map _ hb]
/-- A loop over a map under way: block r is an iterator over the map b, which has handed out the entries ds. -/
def RngM (enc : κ → Value) (w : World) (b r : Nat) (vs : List (κ × Value)) (ds : List Nat) : Prop :=
 ∃ es clock since c0, w.heap[b]? = some (.map es clock) ∧ es.toList.map (·.key) = (vs.map Prod.fst).map enc ∧ es.toList.map (·.val) = vs.map Prod.snd ∧ (es.toList.map (·.born)).Nodup ∧ (∀ e ∈ es.toList, e.born < since) ∧ since ≤ c0 ∧ since ≤ clock ∧
  w.heap[r]? = some (.mapIter (some b) since (ds.map (fun i => ((es.toList[i]?).map (·.born)).getD 0)).toArray c0) ∧ ds.Nodup ∧ ∀ i ∈ ds, i < vs.length
theorem RngM.lt {r : Nat} {ds : List Nat} (h : RngM enc w b r vs ds) : b < w.heap.size ∧ r < w.heap.size ∧ b ≠ r := by
 obtain ⟨es, clock, since, c0, hb, _, _, _, _, _, _, hr, _⟩ := h
 refine ⟨(Array.getElem?_eq_some_iff.1 hb).1, (Array.getElem?_eq_some_iff.1 hr).1, fun e => ?_⟩
 rw [e, hr] at hb; cases hb
theorem RngM.kept {S : Nat → Prop} {r : Nat} {ds : List Nat} (h : RngM enc w b r vs ds) (k : KeptS S w w') (hs : ¬ S b) (hs' : ¬ S r) : RngM enc w' b r vs ds := by
 have hl := h.lt
 obtain ⟨es, clock, since, c0, hb, h1, h2, h3, h4, h5, h6, hr, h7⟩ := h
 exact ⟨es, clock, since, c0, (k.block b hl.1 hs).trans hb, h1, h2, h3, h4, h5, h6, (k.block r hl.2.1 hs').trans hr, h7⟩
theorem OwnMap.range (h : OwnMap enc w b vs) (ht : P.underlying t = some (.map kt et)) :
  ∃ w', (Instr.range t (.map (some b))).run P w = .ok (.pointer (some ⟨w.heap.size, 0, none⟩)) w' ∧ RngM enc w' b w.heap.size vs [] ∧ Below w.heap.size w w' ∧ w'.heap.size = w.heap.size + 1 := by
 have hbl := h.lt
 obtain ⟨es, clock, hb, hk, hv, hn, hbn, hc⟩ := h
 refine ⟨w.alloc (.mapIter (some b) clock #[] clock), ?_, ?_, bq, by simp⟩
 ·simp only [Instr.range, Sem.run_bind, run_underlying ht, Result.andThen_ok, MapKept.run_getObj_map hb, Sem.run_pure]
  rfl
 ·exact ⟨es, clock, clock, clock, (Below.heap_alloc w _ b hbl).trans hb, hk, hv, hbn, hc, Nat.le_refl _, Nat.le_refl _, heap_alloc_new _ _, List.nodup_nil, fun i hi => by cases hi⟩
theorem RngM.next {r : Nat} {ds : List Nat} (h : RngM enc w b r vs ds) (ty : TypeId) :
  (ds.length = vs.length ∧ (Instr.next (.pointer (some ⟨r, 0, none⟩)) false ty).run P w = .ok (.tuple #[.bool false]) w) ∨
  ∃ (i : Nat) (hi : i < vs.length) (w' : World), i ∉ ds ∧ (Instr.next (.pointer (some ⟨r, 0, none⟩)) false ty).run P w = .ok (.tuple #[.bool true, enc (vs[i]'hi).1, (vs[i]'hi).2]) w' ∧ RngM enc w' b r vs (ds ++ [i]) ∧ KeptS (fun k => k = r) w w' ∧ w'.heap.size = w.heap.size ∧
   (Instr.entry (.pointer (some ⟨r, 0, none⟩))).run P w' = .ok (.tuple #[enc (vs[i]'hi).1, (vs[i]'hi).2]) w' := by
 have hl := h.lt
 obtain ⟨es, clock, since, c0, hb, hk, hv, hbn, hc, h5, h6, hr, hnd, hlt⟩ := h
 have hlen : es.toList.length = vs.length := by have := congrArg List.length hv; simpa using this
 have hat : ∀ (i : Nat) (hi : i < es.toList.length), (es.toList[i]'hi).key = enc (vs[i]'(by omega)).1 ∧ (es.toList[i]'hi).val = (vs[i]'(by omega)).2 := fun i hi => by
  have h1 := congrArg (fun l => l[i]?) hk
  have h2 := congrArg (fun l => l[i]?) hv
  simp only [List.getElem?_map] at h1 h2
  rw [List.getElem?_eq_getElem hi, List.getElem?_eq_getElem (show i < vs.length by omega)] at h1 h2
  simp only [Option.map_some, Option.some.injEq] at h1 h2
  exact ⟨h1, h2⟩
 rcases Go.run_next_at (P := P) w ty r b since c0 _ es clock hr hb hc h5 with ⟨h0, hrun⟩ | ⟨e, he, w1, hw1, hrun⟩
 ·refine .inl ⟨?_, hrun⟩
  have hall : ∀ i, i < vs.length → i ∈ ds := by
   intro i hi
   have hi' : i < es.toList.length := by omega
   have h1 : ∀ e ∈ es.toList, (ds.map (fun i => ((es.toList[i]?).map (·.born)).getD 0)).toArray.contains e.born = true := by
    intro e he
    have := Array.eq_empty_of_size_eq_zero h0
    unfold leftOf at this
    rw [Array.filter_eq_empty_iff] at this
    have := this e (by simpa using he)
    simpa using this
   have h2 := h1 _ (List.getElem_mem hi')
   simp only [List.contains_toArray, List.contains_iff_mem, List.mem_map] at h2
   obtain ⟨j, hj, e2⟩ := h2
   have hj' := hlt j hj
   rw [List.getElem?_eq_getElem (show j < es.toList.length by omega)] at e2
   simp only [Option.map_some, Option.getD_some] at e2
   have e3 : (es.toList.map (·.born))[j]? = (es.toList.map (·.born))[i]? := by
    rw [List.getElem?_map, List.getElem?_map, List.getElem?_eq_getElem hi', List.getElem?_eq_getElem (show j < es.toList.length by omega)]; simp only [Option.map_some, e2]
   have := (List.getElem?_inj (by rw [List.length_map]; omega) hbn).1 e3
   rw [← this]; exact hj
  have h1 : ds.length ≤ vs.length := by
   have h2 : ds ⊆ List.range vs.length := fun i hi => List.mem_range.2 (hlt i hi)
   have := nodup_sub hnd h2
   simpa using this
  have h2 : vs.length ≤ ds.length := by
   have h3 : List.range vs.length ⊆ ds := fun i hi => hall i (List.mem_range.1 hi)
   have := nodup_sub List.nodup_range h3
   simpa using this
  omega
 ·unfold leftOf at he
  have he' : e ∈ es.toList ∧ (ds.map (fun i => ((es.toList[i]?).map (·.born)).getD 0)).toArray.contains e.born = false := by simpa using he
  obtain ⟨he1, he2⟩ := he'
  obtain ⟨i, hi, rfl⟩ := List.getElem_of_mem he1
  have hi' : i < vs.length := by omega
  have hni : i ∉ ds := fun hm => by
   have : (ds.map (fun i => ((es.toList[i]?).map (·.born)).getD 0)).toArray.contains (es.toList[i]'hi).born = true := by
    simp only [List.contains_toArray, List.contains_iff_mem, List.mem_map]
    exact ⟨i, hm, by rw [List.getElem?_eq_getElem hi]; rfl⟩
   rw [this] at he2; cases he2
  have hk1 : KeptS (fun k => k = r) w (Go.ChangeMaps.setBlock w1 r (.mapIter (some b) since (((ds.map (fun i => ((es.toList[i]?).map (·.born)).getD 0)).toArray).push (es.toList[i]'hi).born) clock)) ∧ (Go.ChangeMaps.setBlock w1 r (.mapIter (some b) since (((ds.map (fun i => ((es.toList[i]?).map (·.born)).getD 0)).toArray).push (es.toList[i]'hi).born) clock)).heap.size = w.heap.size ∧
    (Go.ChangeMaps.setBlock w1 r (.mapIter (some b) since (((ds.map (fun i => ((es.toList[i]?).map (·.born)).getD 0)).toArray).push (es.toList[i]'hi).born) clock)).heap[r]? = some (.mapIter (some b) since (((ds.map (fun i => ((es.toList[i]?).map (·.born)).getD 0)).toArray).push (es.toList[i]'hi).born) clock) := by
   have hh : w1.heap = w.heap ∧ w1.os = w.os ∧ w1.tape = w.tape ∧ w1.output = w.output := by rcases hw1 with rfl | rfl <;> exact ⟨rfl, rfl, rfl, rfl⟩
   refine ⟨⟨hh.2.1, hh.2.2.1, hh.2.2.2, by simp [Go.ChangeMaps.setBlock, hh.1], fun k _ hkk => ?_⟩, by simp [Go.ChangeMaps.setBlock, hh.1], ?_⟩
   ·simp only [Go.ChangeMaps.setBlock, hh.1]
    rw [Array.getElem?_setIfInBounds, if_neg (fun e => hkk e.symm)]
   ·simp only [Go.ChangeMaps.setBlock, hh.1]
    rw [Array.getElem?_setIfInBounds, if_pos rfl, if_pos hl.2.1]
  obtain ⟨hK, hsz, hrr⟩ := hk1
  have hb' := (hK.block b hl.1 hl.2.2).trans hb
  have hpush : ((ds.map (fun i => ((es.toList[i]?).map (·.born)).getD 0)).toArray).push (es.toList[i]'hi).born = ((ds ++ [i]).map (fun i => ((es.toList[i]?).map (·.born)).getD 0)).toArray := by
   rw [List.map_append, List.push_toArray, List.map_cons, List.map_nil, List.getElem?_eq_getElem hi]; rfl
  rw [hpush] at hK hsz hrr hb' hrun
  refine .inr ⟨i, hi', _, hni, ?_, ⟨es, clock, since, clock, hb', hk, hv, hbn, hc, h6, h6, hrr, ?_, ?_⟩, hK, hsz, ?_⟩
  ·rw [hrun, (hat i hi).1, (hat i hi).2]
  ·rw [List.nodup_append]
   refine ⟨hnd, by simp, fun a ha c hcc => ?_⟩
   rw [List.mem_singleton.1 hcc]
   exact fun e => hni (e ▸ ha)
  ·intro j hj
   rcases List.mem_append.1 hj with h | h
   ·exact hlt j h
   ·rw [List.mem_singleton.1 h]; exact hi'
  ·rw [← (hat i hi).1, ← (hat i hi).2]
   rw [← hpush] at hrr hb' ⊢
   exact Go.run_entry_at _ r b since _ es clock (es.toList[i]'hi) hrr hb' (List.getElem_mem hi) hbn
end
theorem part_int (cs : Array Value) (o : Nat) (v : Value) (w : World) (h : cs[o]? = some v) : (part 3 cs o).run Tryz.prog w = .ok v w := by
 simp [part, isAgg, run_underlying Tryz.underlying3, h]
theorem eq_pt (p q : Pt) (w : World) : (Op.equal 24 (ptV p) (ptV q)).run Tryz.prog w = .ok (decide (p = q)) w := eqPt 9998 w _ _ _ _
theorem eq_sg (p q : Sg) (w : World) : (Op.equal 32 (sgV p) (sgV q)).run Tryz.prog w = .ok (decide (p = q)) w := eqSg 9997 w _ _ _ _ _ _ _ _
theorem chk_pt (c : Bool) (p : Pt) (w : World) : (Instr.checkKey c 10000 24 (ptV p)).run Tryz.prog w = .ok () w := by
 have p0 : ∀ x y : Int, (part 3 #[.int .i64 x, .int .i64 y] 0).run Tryz.prog w = .ok (.int .i64 x) w := fun x y => part_int _ _ _ _ rfl
 have p1 : ∀ x y : Int, (part 3 #[.int .i64 x, .int .i64 y] 1).run Tryz.prog w = .ok (.int .i64 y) w := fun x y => part_int _ _ _ _ rfl
 have key : ∀ n : Nat, (∀ x : Int, (Instr.checkKey c n 3 (.int .i64 x)).run Tryz.prog w = .ok () w) → (Instr.checkKey c (n + 1) 24 (ptV p)).run Tryz.prog w = .ok () w := by
  intro n hc
  unfold ptV
  simp [Instr.checkKey, run_underlying Tryz.underlying24, p0, p1, hc]
 exact key 9999 (fun x => check_int (by kernel_rfl) c 9998 x w)
theorem ask_gen {κ : Type} [DecidableEq κ] {P : Program} {kt : TypeId} {enc : κ → Value} {w : World} (heq : ∀ p q : κ, (Op.equal kt (enc p) (enc q)).run P w = .ok (decide (p = q)) w) (k : κ) : ∀ (es : List MapEntry) (ks : List κ) (i : Nat), es.map (·.key) = ks.map enc → (Instr.findAsking kt (enc k) es i).run P w = .ok ((es[ks.idxOf k]?).map fun e => (i + ks.idxOf k, e.val)) w := by
 intro es
 induction es with
 | nil => intro ks i h; simp [Instr.findAsking]
 | cons e es ih =>
  intro ks i h
  cases ks with
  | nil => simp at h
  | cons y ys =>
   simp only [List.map_cons, List.cons.injEq] at h
   rw [Instr.findAsking]
   simp only [h.1, Sem.run_bind, heq, Result.andThen_ok]
   by_cases hy : k = y
   ·subst hy; simp
   ·rw [show decide (k = y) = false by simp [hy]]
    simp only [Bool.false_eq_true, if_false, ih ys (i + 1) h.2, List.idxOf_cons, show (y == k) = false by simpa using fun e : y = k => hy e.symm]
    simp only [cond_false, List.getElem?_cons_succ]
    congr 1
    cases es[List.idxOf k ys]? with
    | none => rfl
    | some e => simp only [Option.map_some]; congr 2; omega
theorem chk_ptn (c : Bool) (n : Nat) (p : Pt) (w : World) : (Instr.checkKey c (n + 2) 24 (ptV p)).run Tryz.prog w = .ok () w := by
 have p0 : ∀ x y : Int, (part 3 #[.int .i64 x, .int .i64 y] 0).run Tryz.prog w = .ok (.int .i64 x) w := fun x y => part_int _ _ _ _ rfl
 have p1 : ∀ x y : Int, (part 3 #[.int .i64 x, .int .i64 y] 1).run Tryz.prog w = .ok (.int .i64 y) w := fun x y => part_int _ _ _ _ rfl
 have hc : ∀ x : Int, (Instr.checkKey c (n + 1) 3 (.int .i64 x)).run Tryz.prog w = .ok () w := fun x => check_int (by kernel_rfl) c n x w
 unfold ptV
 simp [Instr.checkKey, run_underlying Tryz.underlying24, p0, p1, hc]
theorem chk_sg (c : Bool) (p : Sg) (w : World) : (Instr.checkKey c 10000 32 (sgV p)).run Tryz.prog w = .ok () w := by
 have p0 : ∀ x y z u : Int, (part 24 #[.int .i64 x, .int .i64 y, .int .i64 z, .int .i64 u] 0).run Tryz.prog w = .ok (ptV (x, y)) w := fun x y z u => by kernel_rfl
 have p1 : ∀ x y z u : Int, (part 24 #[.int .i64 x, .int .i64 y, .int .i64 z, .int .i64 u] 2).run Tryz.prog w = .ok (ptV (z, u)) w := fun x y z u => by kernel_rfl
 have key : ∀ n : Nat, (∀ x : Pt, (Instr.checkKey c n 24 (ptV x)).run Tryz.prog w = .ok () w) → (Instr.checkKey c (n + 1) 32 (sgV p)).run Tryz.prog w = .ok () w := by
  intro n hc
  unfold sgV
  simp [Instr.checkKey, run_underlying Tryz.underlying32, p0, p1, hc]
 exact key 9999 (fun x => chk_ptn c 9997 x w)
theorem keyPt : KeyOk Tryz.prog 24 ptV where
 check := fun c p w => chk_pt c p w
 find := fun k es ks w h => by
  have hnow : Instr.findNow (.struct (Tryz.prog.fieldsOf 24)) (ptV k) es 0 = if es = [] then some none else none := by
   cases es with
   | nil => rfl
   | cons e es => simp [Instr.findNow, Instr.sameNow]
  have hu : Tryz.prog.underlying 24 = some (.struct (Tryz.prog.fieldsOf 24)) := by kernel_rfl
  rw [Instr.findKey]
  simp only [Sem.run_bind, run_underlying hu, Result.andThen_ok, hnow]
  by_cases he : es = []
  ·subst he; simp
  ·rw [if_neg he]
   have := ask_gen (fun p q => eq_pt p q w) k es ks 0 h
   simpa using this
 same := fun k => by
  show Instr.sameBits (9999 + 1) (ptV k) (ptV k) = true
  simp [Instr.sameBits, ptV, same_int]
theorem keySg : KeyOk Tryz.prog 32 sgV where
 check := fun c p w => chk_sg c p w
 find := fun k es ks w h => by
  have hnow : Instr.findNow (.struct (Tryz.prog.fieldsOf 32)) (sgV k) es 0 = if es = [] then some none else none := by
   cases es with
   | nil => rfl
   | cons e es => simp [Instr.findNow, Instr.sameNow]
  have hu : Tryz.prog.underlying 32 = some (.struct (Tryz.prog.fieldsOf 32)) := by kernel_rfl
  rw [Instr.findKey]
  simp only [Sem.run_bind, run_underlying hu, Result.andThen_ok, hnow]
  by_cases he : es = []
  ·subst he; simp
  ·rw [if_neg he]
   have := ask_gen (fun p q => eq_sg p q w) k es ks 0 h
   simpa using this
 same := fun k => by
  show Instr.sameBits (9999 + 1) (sgV k) (sgV k) = true
  simp [Instr.sameBits, sgV, same_int]
end
section
open Go.RowKit Go.Proofs.YtlmjciajpjdilaaGreatW.PrintLast

/-- Block b is a map that counts how often each point is in a list. -/
def EM (w : World) (b : Nat) (l : Pts) : Prop := ∃ vs : List (Pt × Value), OwnMap ptV w b vs ∧ ∀ p, mapGet vs p = if p ∈ l then some (.int .i64 (l.count p : Nat)) else none
theorem EM.made (w : World) : EM (w.alloc (.map #[] 0)) w.heap.size [] := ⟨[], OwnMap.made w ptV, fun p => by simp [mapGet]⟩
theorem EM.below {w w' : World} {b : Nat} {l : Pts} (h : EM w b l) (hb : Below w.heap.size w w') : EM w' b l := by
 obtain ⟨vs, h1, h2⟩ := h
 exact ⟨vs, h1.below hb, h2⟩
theorem mapIx_lt_iff {κ : Type} [DecidableEq κ] {vs : List (κ × Value)} {k : κ} : mapIx vs k < vs.length ↔ mapGet vs k ≠ none := by
 unfold mapGet
 constructor
 ·intro h; rw [List.getElem?_eq_getElem h]; simp
 ·intro h; apply Classical.byContradiction; intro hn; exact h (by rw [List.getElem?_eq_none (by omega)]; rfl)
theorem mapIx_le {κ : Type} [DecidableEq κ] {vs : List (κ × Value)} {k : κ} : mapIx vs k ≤ vs.length := by
 have := List.idxOf_le_length (a := k) (l := vs.map Prod.fst)
 rwa [List.length_map] at this
theorem mapIx_of {κ : Type} [DecidableEq κ] {vs : List (κ × Value)} {k : κ} {i : Nat} (hn : (vs.map Prod.fst).Nodup) (hi : i < vs.length) (hk : (vs[i]'hi).1 = k) : mapIx vs k = i := by
 have := List.Nodup.idxOf_getElem hn i (by rw [List.length_map]; exact hi)
 rw [List.getElem_map, hk] at this
 exact this
theorem mapGet_set {κ : Type} [DecidableEq κ] {vs : List (κ × Value)} {k : κ} (hi : mapIx vs k < vs.length) (v : Value) (j : κ) : mapGet (vs.set (mapIx vs k) (k, v)) j = if j = k then some v else mapGet vs j := by
 have hk : (vs.set (mapIx vs k) (k, v)).map Prod.fst = vs.map Prod.fst := by
  rw [List.map_set]
  apply List.ext_getElem?
  intro m
  rw [List.getElem?_set]
  split
  ·rename_i hj; subst hj
   rw [if_pos (by rw [List.length_map]; exact hi), List.getElem?_map, List.getElem?_eq_getElem hi]
   simp [mapIx_lt hi]
  ·rfl
 have hx : mapIx (vs.set (mapIx vs k) (k, v)) j = mapIx vs j := by rw [mapIx, hk]; rfl
 rw [mapGet, hx, List.getElem?_set]
 by_cases hj : j = k
 ·subst hj; rw [if_pos rfl, if_pos rfl, if_pos hi]; rfl
 ·rw [if_neg hj]
  split
  ·rename_i e
   have h1 := mapIx_lt hi
   have h2 : mapIx vs j < vs.length := by omega
   have h3 := mapIx_lt h2
   exact absurd (by simp only [← e] at h3; rw [← h3, h1]) hj
  ·rfl
theorem mapGet_snoc {κ : Type} [DecidableEq κ] {vs : List (κ × Value)} {k : κ} (hi : ¬ mapIx vs k < vs.length) (v : Value) (j : κ) : mapGet (vs ++ [(k, v)]) j = if j = k then some v else mapGet vs j := by
 have hnk : k ∉ vs.map Prod.fst := fun hm => hi (by have := List.idxOf_lt_length_of_mem hm; rwa [List.length_map] at this)
 by_cases hj : j = k
 ·subst hj
  rw [if_pos rfl, mapGet, mapIx, List.map_append, List.idxOf_append, if_neg hnk]
  simp
 ·rw [if_neg hj]
  unfold mapGet mapIx
  rw [List.map_append, List.idxOf_append]
  by_cases hm : j ∈ vs.map Prod.fst
  ·rw [if_pos hm, List.getElem?_append_left (by have := List.idxOf_lt_length_of_mem hm; rwa [List.length_map] at this)]
  ·rw [if_neg hm]
   have e1 : List.idxOf j (vs.map Prod.fst) = vs.length := by rw [List.idxOf_eq_length hm, List.length_map]
   rw [e1]
   have e2 : List.idxOf j (List.map Prod.fst [(k, v)]) = 1 := by
    simp [List.idxOf_cons, show (k == j) = false by simpa using fun e : k = j => hj e.symm]
   rw [e2]
   simp
   omega
/-- ends[p]++ -/
theorem EM.inc {w : World} {b : Nat} {l : Pts} (h : EM w b l) (p : Pt) :
  (∀ c : Bool, c = false → (Instr.lookup 56 (.map (some b)) (ptV p) c).run Tryz.prog w = .ok (.int .i64 (l.count p : Nat)) w) ∧
  ∃ w2 s, (Instr.mapEntry 56 (.map (some b)) (ptV p)).run Tryz.prog w = .ok (.tuple #[.int .i64 (l.count p : Nat), .int .i64 (s : Nat)]) w2 ∧
  (∀ c : Bool, c = false → (Instr.lookup 56 (.map (some b)) (ptV p) c).run Tryz.prog w2 = .ok (.int .i64 (l.count p : Nat)) w2) ∧ KeptS (fun i => i = b) w w2 ∧
  ∃ w3, (Instr.entryStore 56 (.map (some b)) (.int .i64 (s : Nat)) (.int .i64 ((l.count p : Nat) + 1 : Int))).run Tryz.prog w2 = .ok () w3 ∧ EM w3 b (l ++ [p]) ∧ KeptS (fun i => i = b) w w3 ∧ w3.heap.size = w.heap.size := by
 obtain ⟨vs, hM, hv⟩ := h
 have hget : (mapGet vs p).getD (.int .i64 0) = .int .i64 (l.count p : Nat) := by
  rw [hv p]
  by_cases hp : p ∈ l
  ·rw [if_pos hp]; rfl
  ·rw [if_neg hp, List.count_eq_zero_of_not_mem hp]; rfl
 refine ⟨fun c hc => ?_, ?_⟩
 ·subst hc
  have := hM.lookup (P := Tryz.prog) (t := 56) (kt := 24) (et := 3) keyPt (by kernel_rfl) (z := .int .i64 0) (by kernel_rfl) p false
  rw [this, hget]; rfl
 obtain ⟨w2, s, hrun, hS, hK, hsz⟩ := hM.entry keyPt (t := 56) (kt := 24) (et := 3) (by kernel_rfl) (z := .int .i64 0) (fun w => by kernel_rfl) p
 rw [hget] at hrun
 have hlk2 : (mapGet (if mapIx vs p < vs.length then vs else vs ++ [(p, Value.int .i64 0)]) p).getD (.int .i64 0) = .int .i64 (l.count p : Nat) := by
  by_cases hi : mapIx vs p < vs.length
  ·rw [if_pos hi]; exact hget
  ·rw [if_neg hi, mapGet_snoc hi, if_pos rfl, ← hget]
   have : mapGet vs p = none := Classical.byContradiction (fun h => hi (mapIx_lt_iff.2 h))
   rw [this]; rfl
 refine ⟨w2, s, hrun, fun c hc => ?_, hK, ?_⟩
 ·subst hc
  have := hS.own.lookup (P := Tryz.prog) (t := 56) (kt := 24) (et := 3) keyPt (by kernel_rfl) (z := .int .i64 0) (by kernel_rfl) p false
  rw [this, hlk2]; rfl
 by_cases hi : mapIx vs p < vs.length
 ·rw [if_pos hi] at hS
  obtain ⟨w3, hrun3, hM3, hK3, hs3⟩ := hS.put (P := Tryz.prog) (t := 56) hi (.int .i64 ((l.count p : Nat) + 1 : Int))
  rw [mapIx_lt hi] at hM3
  refine ⟨w3, hrun3, ⟨_, hM3, fun j => ?_⟩, kept_step hK hK3, by omega⟩
  rw [mapGet_set hi, hv j]
  by_cases hj : j = p
  ·subst hj
   rw [if_pos rfl, if_pos (by simp), List.count_append]
   simp
  ·rw [if_neg hj, List.count_append]
   simp [hj, show ¬ p = j from fun e => hj e.symm]
 ·rw [if_neg hi] at hS
  have hix : mapIx vs p = vs.length := by
   have h1 : ¬ mapIx vs p < vs.length := hi
   have : mapIx vs p ≤ vs.length := mapIx_le
   omega
  have hi2 : mapIx vs p < (vs ++ [(p, Value.int .i64 0)]).length := by rw [List.length_append]; simp; omega
  have hpl : p ∉ l := fun hp => hi (mapIx_lt_iff.2 (by rw [hv p, if_pos hp]; simp))
  obtain ⟨w3, hrun3, hM3, hK3, hs3⟩ := hS.put (P := Tryz.prog) (t := 56) hi2 (.int .i64 ((l.count p : Nat) + 1 : Int))
  have e1 : ((vs ++ [(p, Value.int .i64 0)])[mapIx vs p]'hi2).1 = p := by
   rw [List.getElem_append_right (by omega)]; simp
  have e2 : (vs ++ [(p, Value.int .i64 0)]).set (mapIx vs p) (p, Value.int .i64 ((l.count p : Nat) + 1 : Int)) = vs ++ [(p, Value.int .i64 ((l.count p : Nat) + 1 : Int))] := by
   rw [List.set_append_right _ _ (by omega), hix]; simp
  rw [e1, e2] at hM3
  refine ⟨w3, hrun3, ⟨_, hM3, fun j => ?_⟩, kept_step hK hK3, by omega⟩
  rw [mapGet_snoc hi, hv j]
  by_cases hj : j = p
  ·subst hj
   rw [if_pos rfl, if_pos (by simp), List.count_append]
   simp
  ·rw [if_neg hj, List.count_append]
   simp [hj, show ¬ p = j from fun e => hj e.symm]
/-- What a loop over the map meets. -/
theorem EM.entries {w : World} {b : Nat} {l : Pts} (h : EM w b l) : ∃ vs : List (Pt × Value), OwnMap ptV w b vs ∧ (∀ (i : Nat) (hi : i < vs.length), (vs[i]'hi).1 ∈ l ∧ (vs[i]'hi).2 = .int .i64 (l.count (vs[i]'hi).1 : Nat)) ∧ ∀ p ∈ l, ∃ (i : Nat) (hi : i < vs.length), (vs[i]'hi).1 = p := by
 obtain ⟨vs, hM, hv⟩ := h
 refine ⟨vs, hM, fun i hi => ?_, fun p hp => ?_⟩
 ·obtain ⟨_, _, _, _, _, hn, _⟩ := hM
  have hx := mapIx_of hn hi rfl
  have := hv (vs[i]'hi).1
  rw [mapGet, hx, List.getElem?_eq_getElem hi] at this
  by_cases hm : (vs[i]'hi).1 ∈ l
  ·rw [if_pos hm] at this
   exact ⟨hm, by simpa using this⟩
  ·rw [if_neg hm] at this; cases this
 ·have hi : mapIx vs p < vs.length := mapIx_lt_iff.2 (by rw [hv p, if_pos hp]; simp)
  exact ⟨_, hi, mapIx_lt hi⟩
theorem nodup_full : ∀ {ds : List Nat} {n : Nat}, ds.Nodup → (∀ i ∈ ds, i < n) → ds.length = n → ∀ i, i < n → i ∈ ds := by
 intro ds n hn hb hl i hi
 apply Classical.byContradiction
 intro hni
 have := nodup_sub (l := i :: ds) (m := List.range n) (List.nodup_cons.2 ⟨hni, hn⟩) (fun x hx => by
  rcases List.mem_cons.1 hx with rfl | hx
  ·exact List.mem_range.2 hi
  ·exact List.mem_range.2 (hb x hx))
 rw [List.length_cons, List.length_range] at this
 omega
theorem checkU_cross {u : Sgs} (h : ¬ u = []) (h2 : cleanZ u = false) : checkU u = 13 := by unfold checkU; rw [if_neg h, if_pos h2]
theorem checkU_open {u : Sgs} (h : ¬ u = []) (h2 : cleanZ u = true) (h3 : ∃ p ∈ ends2 u, (ends2 u).count p % 2 = 1) : checkU u = 14 := by
 unfold checkU
 obtain ⟨p, hp, hq⟩ := h3
 rw [if_neg h, if_neg (by rw [h2]; decide), if_pos (List.any_eq_true.2 ⟨p, hp, decide_eq_true hq⟩)]
theorem checkU_ok {u : Sgs} (h : ¬ u = []) (h2 : cleanZ u = true) (h3 : ∀ p ∈ ends2 u, ¬ (ends2 u).count p % 2 = 1) : checkU u = 0 := by
 unfold checkU
 rw [if_neg h, if_neg (by rw [h2]; decide), if_neg (by rw [List.any_eq_true]; rintro ⟨p, hp, hq⟩; exact h3 p hp (of_decide_eq_true hq))]
set_option maxRecDepth 100000 in
set_option maxHeartbeats 2000000 in
theorem trace_Check {ok : Nat → Prop} (l : Sgs) (A : Option Addr) (n c : Nat) (w : World) (hr : Row Ty.sg ok w A l) (hn : n = l.length) (hlen : l.length ≤ 600) :
  Calls Tryz.prog 9 #[.slice A n c] w fun e w' => e = .returned (.int .i64 (checkZ l)) ∧ Below w.heap.size w w' := by
 subst hn
 have mk : ∀ W : World, (Instr.makeMap 56 none).run Tryz.prog W = .ok (.map (some W.heap.size)) (W.alloc (.map #[] 0)) := fun W => run_makeMap _ W
 have HR := Lib.hid hr
 clear hr
 have hul := uniq_len l
 have CU := Lib.hid (fun W h => noding_Unique (ok := ok) l A l.length c W h rfl (by omega))
 obtain ⟨r, hr⟩ : ∃ r, r = checkZ l := ⟨_, rfl⟩
 rw [← hr]
 have HE : Hid (r = checkU (uniqZ l)) := hr
 clear hr
 generalize uniqZ l = u at *
 go_enter Tryz.func9, Tryz.ntmps9
 go_wp2_with fail
 refine Calls.mono (CU.out _ HR.out) ?_
 rintro e w1 ⟨v, rfl, ho, hb1⟩
 obtain ⟨A1, c1, rfl, hl1, hr1⟩ := ho.reads
 have HU := Lib.hid hr1
 have HB1 := Lib.hid hb1
 clear ho hr1 hb1 CU
 by_cases hu : u = []
 ·subst hu
  have HR15 : Hid (r = 15) := HE.out
  clear HE
  go_wp2
  go_ret
  exact ⟨ret_int HR15.out.symm, (by repeat (first | exact Below.refl _ _ | apply below_alloc | apply below_drewN | apply below_drew | (refine below_set2 ?_ ?_; (first | (simp; done) | (simp; omega))) | (refine below_step ?_ HB1.out)))⟩
 have HN := Lib.hid hu
 have hpos : 0 < u.length := List.length_pos_iff.2 hu
 have hq : ((u.length : Int) == 0) = false := by simp; omega
 have hq2 : (u.length == 0) = false := by simp; omega
 clear hu
 cases hc : cleanZ u
 ·have HC := Lib.hid hc
  have HR13 : Hid (r = 13) := HE.out.trans (checkU_cross HN.out hc)
  clear hc HE
  go_wp2_with fail
  refine (noding_Clean u A1 _ c1 _ HU.out rfl (by omega)).mono ?_
  rintro e w2 ⟨rfl, hb2⟩
  rw [HC.out]
  go_wp2
  go_ret
  exact ⟨ret_int HR13.out.symm, (by repeat (first | exact Below.refl _ _ | apply below_alloc | apply below_drewN | apply below_drew | (refine below_set2 ?_ ?_; (first | (simp; done) | (simp; omega))) | (refine below_step ?_ hb2) | (refine below_step ?_ HB1.out)))⟩
 ·have HC := Lib.hid hc
  clear hc
  go_wp2_with fail
  refine (noding_Clean u A1 _ c1 _ HU.out rfl (by omega)).mono ?_
  rintro e w2 ⟨rfl, hb2⟩
  rw [HC.out]
  have HU2 := Lib.hid (HU.out.below hb2)
  have HB2 := Lib.hid (below_step HB1.out hb2)
  clear hb2 HB1 HU
  go_wp2
  go_loopw [20] (fun i wr => ∃ k : Nat, k ≤ u.length ∧ i = .int .i64 k ∧ Hid (Below w2.heap.size w2 wr) ∧ Hid (EM wr w2.heap.size (ends2 (u.take k)))) (fun i _ => u.length - (intOf i).toNat)
  case atStart => exact ⟨0, Nat.zero_le _, rfl, below_alloc (Below.refl _ _) _, EM.made w2⟩
  case round =>
   obtain ⟨k, hk, rfl, HB, HEm⟩ := hrel
   by_cases hlt : k < u.length
   ·have HUr := Lib.hid (HU2.out.below HB.out)
    obtain ⟨ad, rfl, hx0, hx1, hx2, hx3⟩ := HUr.out.sg_at k hlt
    have HS := Lib.hid (ends2_snoc u k hlt)
    have hel := ends2_len (u.take k)
    rw [List.length_take] at hel
    obtain ⟨s, hs⟩ : ∃ s, s = sgD u k := ⟨_, rfl⟩
    rw [← hs] at hx0 hx1 hx2 hx3 HS
    have hc1 : (ends2 (u.take k)).count s.1 ≤ (ends2 (u.take k)).length := List.count_le_length
    have hc2 : (ends2 (u.take k) ++ [s.1]).count s.2 ≤ (ends2 (u.take k)).length + 1 := by have := List.count_le_length (a := s.2) (l := ends2 (u.take k) ++ [s.1]); simpa using this
    have hc3 : (ends2 (u.take k)).count s.1 ≤ 1200 := by omega
    have hc4 : (ends2 (u.take k) ++ [s.1]).count s.2 ≤ 1201 := by omega
    clear hs HUr hel hc1 hc2
    go_wp2_with fail
    obtain ⟨W0, hW0⟩ : ∃ W0, W0 = wr.alloc (.cells #[.int .i64 s.1.1, .int .i64 s.1.2, .int .i64 s.2.1, .int .i64 s.2.2] 32) := ⟨_, rfl⟩
    have HA : W0.heap[wr.heap.size]? = some (.cells #[.int .i64 s.1.1, .int .i64 s.1.2, .int .i64 s.2.1, .int .i64 s.2.2] 32 (0, 0)) := by rw [hW0]; exact heap_alloc_new _ _
    have BW0 : Below wr.heap.size wr W0.drew := by rw [hW0]; exact below_drew (below_alloc (Below.refl _ _) _)
    have hzw := HB.out.size
    have hzb : w2.heap.size < wr.heap.size := by obtain ⟨vs, hM, _⟩ := HEm.out; exact hM.lt
    have hlW := lt_of_block HA
    have hneb : ¬ wr.heap.size = w2.heap.size := by omega
    rw [← hW0]
    clear hW0
    obtain ⟨hlk1, wa1, st1, he1, hlk1b, hka1, w4, hs1, HE4, hk4, hz4⟩ := (HEm.out.below BW0).inc s.1
    generalize (ends2 (u.take k)).count s.1 = cn1 at *
    have wq1 := wr_in (x := ((cn1 : Nat) : Int) + 1) (by omega) (by omega)
    refine start_ (n := 8) (S := fun w' => w'.cell? ⟨wr.heap.size, 0, none⟩ = some (.int .i64 s.1.1) ∧ w'.cell? ⟨wr.heap.size, 1, none⟩ = some (.int .i64 s.1.2) ∧ (Instr.lookup 56 (.map (some w2.heap.size)) (.agg #[.int .i64 s.1.1, .int .i64 s.1.2]) false).run Tryz.prog w' = .ok (.int .i64 ((cn1 : Nat) : Int)) w') (ds := [7]) #[Z,Z,Z,Z,Z,Z,Z,Z] (by kernel_rfl) rfl rfl ⟨blk_cell HA 0 rfl, blk_cell HA 1 rfl, hlk1 false rfl⟩ (fun hHeld => ?_)
    refine pure_ (i := 0) (N := some 24) (v := ?_) (a' := ?_) #[J,Z,Z,Z,Z,Z,Z,Z] rfl rfl (by kernel_rfl) (fun _ _ _ h => h) (Or.inl ⟨by rfl, ?_⟩) ?_ ?_
    rotate_left
    ·intro w'; go_simp; with_reducible rfl
    rotate_left
    ·simp only [Act.put, sA, sB, sC, i64_w, i32_w]; rfl
    refine pure_ (i := 1) (N := some 25) (v := ?_) (a' := ?_) #[J,J,Z,Z,Z,Z,Z,Z] rfl rfl (by kernel_rfl) (fun _ _ _ h => h) (Or.inl ⟨by rfl, ?_⟩) ?_ ?_
    rotate_left
    ·intro w'; go_simp; with_reducible rfl
    rotate_left
    ·simp only [Act.put, sA, sB, sC, i64_w, i32_w]; rfl
    refine take_ (i := 2) (N := some 26) (v := ?_) (a' := ?_) #[J,J,J,Z,Z,Z,Z,Z] rfl rfl (by kernel_rfl) (fun _ _ _ h => h) (Or.inl ⟨by rfl, ?_⟩) hHeld ?_ ?_
    rotate_left
    ·rintro w' ⟨s0, s1, s2⟩; go_simp; with_reducible rfl
    rotate_left
    ·simp only [Act.put, sA, sB, sC, i64_w, i32_w]; rfl
    refine take_ (i := 3) (N := some 27) (v := ?_) (a' := ?_) #[J,J,J,J,Z,Z,Z,Z] rfl rfl (by kernel_rfl) (fun _ _ _ h => h) (Or.inl ⟨by rfl, ?_⟩) hHeld ?_ ?_
    rotate_left
    ·rintro w' ⟨s0, s1, s2⟩; go_simp; with_reducible rfl
    rotate_left
    ·simp only [Act.put, sA, sB, sC, i64_w, i32_w]; rfl
    refine pure_ (i := 4) (N := some 28) (v := ?_) (a' := ?_) #[J,J,J,J,J,Z,Z,Z] rfl rfl (by kernel_rfl) (fun _ _ _ h => h) (Or.inl ⟨by rfl, ?_⟩) ?_ ?_
    rotate_left
    ·intro w'; go_simp; with_reducible rfl
    rotate_left
    ·simp only [Act.put, sA, sB, sC, i64_w, i32_w]; rfl
    refine one_ (i := 5) (N := some 29) #[J,J,J,J,J,J,Z,Z] rfl rfl (by kernel_rfl) (by decide) (fun K hK => ?_)
    refine value_ (w1 := ?_) (v := ?_) (by rfl) rfl ?_ ?_
    rotate_left 2
    ·go_simp
     constructor
     ·rfl
     ·rfl
    refine hK.out _ _ ⟨blk_cell ((hka1.block _ hlW hneb).trans HA) 0 rfl, blk_cell ((hka1.block _ hlW hneb).trans HA) 1 rfl, hlk1b false rfl⟩ (fun hHeld => ?_)
    clear hK K
    refine norm_ (a' := ?_) ?_ ?_
    rotate_left
    ·show Act.put _ (some 29) _ = _
     simp only [Act.put, sA, sB, sC, i64_w, i32_w]; rfl
    refine pure_ (i := 6) (N := some 30) (v := ?_) (a' := ?_) #[J,J,J,J,J,J,J,Z] rfl rfl (by kernel_rfl) (fun _ _ _ h => h) (Or.inl ⟨by rfl, ?_⟩) ?_ ?_
    rotate_left
    ·intro w'; go_simp; with_reducible rfl
    rotate_left
    ·simp only [Act.put, sA, sB, sC, i64_w, i32_w]; rfl
    refine last_ (i := 7) (N := none) #[J,J,J,J,J,J,J,J] rfl rfl (by kernel_rfl) (by decide) (fun K hK => ?_)
    refine skip_ (w1 := ?_) (by rfl) rfl ?_ ?_
    rotate_left
    ·go_simp
     rfl
    refine hK.out _ _ ?_
    clear hK K
    refine done_ (by kernel_rfl) ?_
    clear hlk1 he1 hs1
    have HA4 : w4.heap[wr.heap.size]? = some (.cells #[.int .i64 s.1.1, .int .i64 s.1.2, .int .i64 s.2.1, .int .i64 s.2.2] 32 (0, 0)) := (hk4.block _ hlW hneb).trans HA
    go_wp2_with fail
    obtain ⟨hlk2, wa2, st2, he2, hlk2b, hka2, w6, hs2, HE6, hk6, hz6⟩ := (HE4.below (below_drew (Below.refl _ _))).inc s.2
    generalize (ends2 (u.take k) ++ [s.1]).count s.2 = cn2 at *
    have wq2 := wr_in (x := ((cn2 : Nat) : Int) + 1) (by omega) (by omega)
    refine start_ (n := 8) (S := fun w' => w'.cell? ⟨wr.heap.size, 2, none⟩ = some (.int .i64 s.2.1) ∧ w'.cell? ⟨wr.heap.size, 3, none⟩ = some (.int .i64 s.2.2) ∧ (Instr.lookup 56 (.map (some w2.heap.size)) (.agg #[.int .i64 s.2.1, .int .i64 s.2.2]) false).run Tryz.prog w' = .ok (.int .i64 ((cn2 : Nat) : Int)) w') (ds := [7]) #[Z,Z,Z,Z,Z,Z,Z,Z] (by kernel_rfl) rfl rfl ⟨blk_cell HA4 2 rfl, blk_cell HA4 3 rfl, hlk2 false rfl⟩ (fun hHeld => ?_)
    refine pure_ (i := 0) (N := some 31) (v := ?_) (a' := ?_) #[J,Z,Z,Z,Z,Z,Z,Z] rfl rfl (by kernel_rfl) (fun _ _ _ h => h) (Or.inl ⟨by rfl, ?_⟩) ?_ ?_
    rotate_left
    ·intro w'; go_simp; with_reducible rfl
    rotate_left
    ·simp only [Act.put, sA, sB, sC, i64_w, i32_w]; rfl
    refine pure_ (i := 1) (N := some 32) (v := ?_) (a' := ?_) #[J,J,Z,Z,Z,Z,Z,Z] rfl rfl (by kernel_rfl) (fun _ _ _ h => h) (Or.inl ⟨by rfl, ?_⟩) ?_ ?_
    rotate_left
    ·intro w'; go_simp; with_reducible rfl
    rotate_left
    ·simp only [Act.put, sA, sB, sC, i64_w, i32_w]; rfl
    refine take_ (i := 2) (N := some 33) (v := ?_) (a' := ?_) #[J,J,J,Z,Z,Z,Z,Z] rfl rfl (by kernel_rfl) (fun _ _ _ h => h) (Or.inl ⟨by rfl, ?_⟩) hHeld ?_ ?_
    rotate_left
    ·rintro w' ⟨s0, s1, s2⟩; go_simp; with_reducible rfl
    rotate_left
    ·simp only [Act.put, sA, sB, sC, i64_w, i32_w]; rfl
    refine take_ (i := 3) (N := some 34) (v := ?_) (a' := ?_) #[J,J,J,J,Z,Z,Z,Z] rfl rfl (by kernel_rfl) (fun _ _ _ h => h) (Or.inl ⟨by rfl, ?_⟩) hHeld ?_ ?_
    rotate_left
    ·rintro w' ⟨s0, s1, s2⟩; go_simp; with_reducible rfl
    rotate_left
    ·simp only [Act.put, sA, sB, sC, i64_w, i32_w]; rfl
    refine pure_ (i := 4) (N := some 35) (v := ?_) (a' := ?_) #[J,J,J,J,J,Z,Z,Z] rfl rfl (by kernel_rfl) (fun _ _ _ h => h) (Or.inl ⟨by rfl, ?_⟩) ?_ ?_
    rotate_left
    ·intro w'; go_simp; with_reducible rfl
    rotate_left
    ·simp only [Act.put, sA, sB, sC, i64_w, i32_w]; rfl
    refine one_ (i := 5) (N := some 36) #[J,J,J,J,J,J,Z,Z] rfl rfl (by kernel_rfl) (by decide) (fun K hK => ?_)
    refine value_ (w1 := ?_) (v := ?_) (by rfl) rfl ?_ ?_
    rotate_left 2
    ·go_simp
     constructor
     ·rfl
     ·rfl
    refine hK.out _ _ ⟨blk_cell ((hka2.block _ (lt_of_block HA4) hneb).trans HA4) 2 rfl, blk_cell ((hka2.block _ (lt_of_block HA4) hneb).trans HA4) 3 rfl, hlk2b false rfl⟩ (fun hHeld => ?_)
    clear hK K
    refine norm_ (a' := ?_) ?_ ?_
    rotate_left
    ·show Act.put _ (some 36) _ = _
     simp only [Act.put, sA, sB, sC, i64_w, i32_w]; rfl
    refine pure_ (i := 6) (N := some 37) (v := ?_) (a' := ?_) #[J,J,J,J,J,J,J,Z] rfl rfl (by kernel_rfl) (fun _ _ _ h => h) (Or.inl ⟨by rfl, ?_⟩) ?_ ?_
    rotate_left
    ·intro w'; go_simp; with_reducible rfl
    rotate_left
    ·simp only [Act.put, sA, sB, sC, i64_w, i32_w]; rfl
    refine last_ (i := 7) (N := none) #[J,J,J,J,J,J,J,J] rfl rfl (by kernel_rfl) (by decide) (fun K hK => ?_)
    refine skip_ (w1 := ?_) (by rfl) rfl ?_ ?_
    rotate_left
    ·go_simp
     rfl
    refine hK.out _ _ ?_
    clear hK K
    refine done_ (by kernel_rfl) ?_
    clear hlk2 he2 hs2
    have HE7 : Hid (EM w6 w2.heap.size (ends2 (u.take (k + 1)))) := by show EM _ _ _; rw [HS.out]; have := HE6; rwa [List.append_assoc] at this
    have HB7 : Hid (Below w2.heap.size w2 w6) := below_kept (below_drew (below_kept (below_step HB.out BW0) hk4 (fun b hb => by omega))) hk6 (fun b hb => by omega)
    clear HE4 HE6 hk4 hk6 HA HA4 BW0 hx0 hx1 hx2 hx3 HEm HB
    go_wp2
    go_roundw
    case rel => exact ⟨k + 1, by omega, by go_num, HB7, HE7⟩
    case measure => simp [intOf]; omega
   ·obtain rfl : k = u.length := by omega
    rw [List.take_length] at HEm
    obtain ⟨vs, hM, hen, hall⟩ := HEm.out.entries
    have HEN := Lib.hid hen
    have HAL := Lib.hid hall
    obtain ⟨w5, hrun, hR, hb5, hs5⟩ := hM.range (P := Tryz.prog) (t := 56) (kt := 24) (et := 3) (by kernel_rfl)
    have HR0 := Lib.hid hR
    have HB5 : Hid (Below w.heap.size w w5) := below_step (below_step HB2.out HB.out) hb5
    have hbl := hM.lt
    have hwz := (below_step HB2.out HB.out).size
    clear hR hen hall hM hb5 HB HEm
    obtain ⟨r0, hre⟩ : ∃ r0, r0 = wr.heap.size := ⟨_, rfl⟩
    have hrz : w.heap.size ≤ r0 := by omega
    rw [← hre] at HR0 hrun
    clear hre hs5 hbl hwz
    go_wp2
    clear hrun
    go_loopg [8] vs.length (fun gg v wq => ∃ ds : List Nat, vs.length - ds.length ≤ gg ∧ Hid (RngM ptV wq w2.heap.size r0 vs ds) ∧ Hid (KeptS (fun i => i = r0) w5 wq) ∧ Hid (∀ i ∈ ds, ∀ hi : i < vs.length, ¬ (ends2 u).count (vs[i]'hi).1 % 2 = 1))
    case atStart => exact ⟨[], by simp, HR0.out, kept_refl _ _, fun i hi => by cases hi⟩
    case round =>
     obtain ⟨ds, hgg, HRG, HKq, HEV⟩ := hrel
     have HBq : Hid (Below w.heap.size w wr) := below_kept HB5.out HKq.out (fun b hb => by omega)
     rcases HRG.out.next (P := Tryz.prog) 0 with ⟨hdl, hrun⟩ | ⟨i, hi, w6, hni, hrun, hR6, hK6, hs6, hent⟩
     ·have HR0' : Hid (r = 0) := HE.out.trans (checkU_ok HN.out HC.out (fun p hp => by
       obtain ⟨i, hi, rfl⟩ := HAL.out p hp
       obtain ⟨_, _, _, _, _, _, _, _, _, _, _, _, hnd, hb⟩ := HRG.out
       exact HEV.out i (nodup_full hnd hb hdl i hi) hi))
      clear hdl hgg
      go_wp2
      go_ret
      exact ⟨ret_int HR0'.out.symm, HBq.out⟩
     ·obtain ⟨hin, hval⟩ := HEN.out i hi
      rw [hval] at hrun hent
      by_cases hodd : (ends2 u).count (vs[i]'hi).1 % 2 = 1
      ·have HR14 : Hid (r = 14) := HE.out.trans (checkU_open HN.out HC.out ⟨_, hin, hodd⟩)
       have hq3 : (((ends2 u).count (vs[i]'hi).1 : Int) % 2 == 1) = true := (odd_eq _).trans (decide_eq_true hodd)
       have HB6 : Hid (Below w.heap.size w w6) := below_kept HBq.out hK6 (fun b hb => by omega)
       clear hodd hval hgg hK6 hs6
       go_wp2
       go_ret
       exact ⟨ret_int HR14.out.symm, HB6.out⟩
      ·have HEV2 : Hid (∀ j ∈ ds ++ [i], ∀ hj : j < vs.length, ¬ (ends2 u).count (vs[j]'hj).1 % 2 = 1) := fun j hj hjl => by
        rcases List.mem_append.1 hj with h | h
        ·exact HEV.out j h hjl
        ·obtain rfl := List.mem_singleton.1 h; exact hodd
       have hq3 : (((ends2 u).count (vs[i]'hi).1 : Int) % 2 == 1) = false := (odd_eq _).trans (decide_eq_false hodd)
       have HR6 := Lib.hid hR6
       have HK6 := Lib.hid (kept_step HKq.out hK6)
       have hdlt : ds.length + 1 ≤ vs.length := by
        obtain ⟨_, _, _, _, _, _, _, _, _, _, _, _, hnd, hb⟩ := hR6
        have := nodup_sub (m := List.range vs.length) hnd (fun x hx => List.mem_range.2 (hb x hx))
        rw [List.length_append, List.length_range] at this
        simpa using this
       clear hodd hval hK6 hs6 hR6
       go_wp2
       go_roundg (vs.length - (ds.length + 1))
       case measure => omega
       case rel => exact ⟨ds ++ [i], by rw [List.length_append]; simp, HR6, HK6, HEV2⟩
end
end Go.Proofs.YtlmjciajpjdilaaGreat
