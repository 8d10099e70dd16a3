/- Words of this session's own: m[k] = append(m[k], ..) and range over a map that a call has made; points and segments as keys. -/
import Derived.Test.YtlmjciajpjdilaaMapO
import Derived.Test.YtlmjciajpjdilaaTEq
import Derived.Maps.RangeRun
import Derived.Laws.StructEq
namespace Go.Proofs.Ytlmjciajpjdilaa
open Go.RowKit Go.Proofs.YtlmjciajpjdilaaW.PrintLast
set_option linter.unusedVariables false
set_option linter.unusedSimpArgs false
set_option linter.unusedSectionVars false

abbrev ptV (p : Pt) : Value := .agg #[.int .i64 p.1, .int .i64 p.2]
abbrev sgV (a : Sg) : Value := .agg #[.int .i64 a.1.1, .int .i64 a.1.2, .int .i64 a.2.1, .int .i64 a.2.2]
theorem nodup_sub : ∀ {l m : List Nat}, l.Nodup → (∀ x ∈ l, x ∈ m) → l.length ≤ m.length
  | [], m, _, _ => Nat.zero_le _
  | x :: l, m, hn, hs => by
    have hx := hs x List.mem_cons_self
    have h1 := List.nodup_cons.1 hn
    have h2 := nodup_sub (m := m.erase x) h1.2 (fun y hy => (List.mem_erase_of_ne (fun e => h1.1 (by rw [← e]; exact hy))).2 (hs y (List.mem_cons_of_mem _ hy)))
    rw [List.length_erase_of_mem hx] at h2
    have := List.length_pos_of_mem hx
    simp only [List.length_cons]; omega
section
variable {κ : Type} [DecidableEq κ] {P : Program} {kt et t : TypeId} {enc : κ → Value} {w w' : World} {b : Nat} {vs : List (κ × Value)}
/-- Block b is a map whose entries are vs, and entry i has the stamp s. -/
def OwnMapS (enc : κ → Value) (w : World) (b : Nat) (vs : List (κ × Value)) (i s : Nat) : Prop :=
  ∃ es clock, w.heap[b]? = some (.map es clock) ∧ es.toList.map (·.key) = (vs.map Prod.fst).map enc ∧ es.toList.map (·.val) = vs.map Prod.snd ∧ (vs.map Prod.fst).Nodup ∧ (es.toList.map (·.born)).Nodup ∧ (∀ e ∈ es.toList, e.born < clock) ∧ (es.toList[i]?).map (·.born) = some s
theorem OwnMapS.own {i s : Nat} (h : OwnMapS enc w b vs i s) : OwnMap enc w b vs := by
  obtain ⟨es, clock, h1, h2, h3, h4, h5, h6, _⟩ := h
  exact ⟨es, clock, h1, h2, h3, h4, h5, h6⟩
theorem OwnMapS.kept {S : Nat → Prop} {i s : Nat} (h : OwnMapS enc w b vs i s) (k : KeptS S w w') (hs : ¬ S b) : OwnMapS enc w' b vs i s := by
  have hl := h.own.lt
  obtain ⟨es, clock, hb, h'⟩ := h
  exact ⟨es, clock, (k.block b hl hs).trans hb, h'⟩
theorem set_heap {w : World} {b : Nat} (hl : b < w.heap.size) (o : Obj) : KeptS (fun i => i = b) w { w with heap := w.heap.setIfInBounds b o } ∧ (w.heap.setIfInBounds b o)[b]? = some o :=
  ⟨⟨rfl, rfl, rfl, by simp, fun i _ hi => by show (w.heap.setIfInBounds b o)[i]? = _; rw [Array.getElem?_setIfInBounds, if_neg (fun e => hi e.symm)]⟩, by rw [Array.getElem?_setIfInBounds, if_pos rfl, if_pos hl]⟩
/-- m[k], for a store that follows. -/
theorem OwnMap.entry (h : OwnMap enc w b vs) (K : KeyOk P kt enc) (ht : P.underlying t = some (.map kt et)) {z : Value} (hz : ∀ w, (zeroValue et).run P w = .ok z w) (k : κ) :
    ∃ w' s, (Instr.mapEntry t (.map (some b)) (enc k)).run P w = .ok (.tuple #[(mapGet vs k).getD z, goInt (s : Nat)]) w' ∧ OwnMapS enc w' b (if mapIx vs k < vs.length then vs else vs ++ [(k, z)]) (mapIx vs k) s ∧ KeptS (fun i => i = b) w w' ∧ w'.heap.size = w.heap.size := by
  have hbl := h.lt
  obtain ⟨es, clock, hb, hk, hv, hn, hbn, hc⟩ := h
  have hl : es.toList.length = vs.length := by have := congrArg List.length hv; simpa using this
  have hf := K.find k es.toList (vs.map Prod.fst) w hk
  have hg : (es.toList[(vs.map Prod.fst).idxOf k]?).map (·.val) = mapGet vs k := by
    have := congrArg (fun l => l[(vs.map Prod.fst).idxOf k]?) hv
    simpa [mapGet, mapIx] using this
  by_cases hi : mapIx vs k < vs.length
  · have hi' : mapIx vs k < es.toList.length := by rw [hl]; exact hi
    have he : es.toList[(vs.map Prod.fst).idxOf k]? = some (es.toList[mapIx vs k]'hi') := List.getElem?_eq_getElem hi'
    have hkey : (es.toList[mapIx vs k]'hi').key = enc k := by
      have h1 := congrArg (fun l => l[mapIx vs k]?) hk
      simp only [List.getElem?_map] at h1
      rw [List.getElem?_eq_getElem hi', List.getElem?_eq_getElem hi] at h1
      simp only [Option.map_some, Option.some.injEq] at h1
      rw [h1, mapIx_lt hi]
    have hself : es.modify (mapIx vs k) (fun e => { e with key := enc k }) = es := by
      apply Array.ext
      · simp
      · intro j h1 h2
        rw [Array.getElem_modify]
        split
        · rename_i hj
          subst hj
          have : (es[mapIx vs k]'h2) = es.toList[mapIx vs k]'hi' := by simp
          rw [this]
          cases hx : es.toList[mapIx vs k]'hi' with
          | mk key val born => rw [hx] at hkey; simp only at hkey; rw [hkey]
        · rfl
    obtain ⟨hK, hA⟩ := set_heap hbl (.map es clock)
    refine ⟨_, (es.toList[mapIx vs k]'hi').born, ?_, ?_, hK, by simp⟩
    rotate_left
    · rw [if_pos hi]
      exact ⟨es, clock, hA, hk, hv, hn, hbn, hc, by rw [List.getElem?_eq_getElem hi']; rfl⟩
    · rw [he] at hg
      simp only [Option.map_some] at hg
      have hes : (es[(vs.map Prod.fst).idxOf k]?.map (·.key)).getD (enc k) = enc k := by
        rw [← Array.getElem?_toList, he]
        simpa using hkey
      have heb : (es[(vs.map Prod.fst).idxOf k]?.map (fun x => (x.born : Int))).getD 0 = ((es.toList[mapIx vs k]'hi').born : Int) := by
        rw [← Array.getElem?_toList, he]; rfl
      simp only [Instr.mapEntry, Sem.run_bind, run_underlying ht, Result.andThen_ok, MapKept.run_getObj_map hb, Sem.run_pure, K.check, hf, he, Option.map_some]
      simp only [hes, Instr.keyThatStays, K.same, if_true, Sem.run_pure, Result.andThen_ok, MapKept.run_setObj_map _ hb, Sem.run_bind, heb]
      rw [← hg]
      have : es.modify ((vs.map Prod.fst).idxOf k) (fun e => { e with key := enc k }) = es := hself
      rw [this]
      rfl
  · have he : es.toList[(vs.map Prod.fst).idxOf k]? = none := List.getElem?_eq_none (by rw [hl]; exact Nat.le_of_not_lt hi)
    have hnk : k ∉ vs.map Prod.fst := fun hm => hi (by have := List.idxOf_lt_length_of_mem hm; rwa [List.length_map] at this)
    have hix : mapIx vs k = vs.length := by
      have := List.idxOf_eq_length hnk
      rw [List.length_map] at this; exact this
    obtain ⟨hK, hA⟩ := set_heap hbl (.map (es.push { key := enc k, val := z, born := clock }) (clock + 1))
    refine ⟨_, clock, ?_, ?_, hK, by simp⟩
    rotate_left
    · rw [if_neg hi]
      refine ⟨es.push { key := enc k, val := z, born := clock }, clock + 1, hA, by simp [hk], by simp [hv], ?_, ?_, ?_, ?_⟩
      · rw [List.map_append, List.nodup_append]
        refine ⟨hn, by simp, fun a ha b hb' => ?_⟩
        simp only [List.map_cons, List.map_nil, List.mem_singleton] at hb'
        subst hb'
        exact fun e => hnk (e ▸ ha)
      · rw [Array.toList_push, List.map_append, List.nodup_append]
        refine ⟨hbn, by simp, fun a ha c' hc' => ?_⟩
        simp only [List.map_cons, List.map_nil, List.mem_singleton] at hc'
        subst hc'
        obtain ⟨e, he', rfl⟩ := List.mem_map.1 ha
        have := hc e he'
        exact fun h => by omega
      · intro e he'
        rw [Array.toList_push] at he'
        rcases List.mem_append.1 he' with h | h
        · have := hc e h; omega
        · rw [List.mem_singleton.1 h]; exact Nat.lt_succ_self _
      · rw [hix, ← hl, Array.toList_push, List.getElem?_append_right (Nat.le_refl _)]; simp
    · have hgn : mapGet vs k = none := by rw [he] at hg; simpa using hg.symm
      simp only [Instr.mapEntry, Sem.run_bind, run_underlying ht, Result.andThen_ok, MapKept.run_getObj_map hb, Sem.run_pure, K.check, hf, he, Option.map_none, MapKept.run_setObj_map _ hb, hz, hgn, Option.getD_none]
/-- The store behind it. -/
theorem OwnMapS.put {i s : Nat} (h : OwnMapS enc w b vs i s) (hi : i < vs.length) (v : Value) :
    ∃ w', (Instr.entryStore t (.map (some b)) (goInt (s : Nat)) v).run P w = .ok () w' ∧ OwnMap enc w' b (vs.set i ((vs[i]'hi).1, v)) ∧ KeptS (fun i => i = b) w w' ∧ w'.heap.size = w.heap.size := by
  have hbl := h.own.lt
  obtain ⟨es, clock, hb, hk, hv, hn, hbn, hc, hs⟩ := h
  have hl : es.toList.length = vs.length := by have := congrArg List.length hv; simpa using this
  have hi' : i < es.toList.length := by rw [hl]; exact hi
  have hbs : (es.toList[i]'hi').born = s := by rw [List.getElem?_eq_getElem hi'] at hs; simpa using hs
  have hfi : es.findIdx? (fun e => (e.born : Int) == (s : Int)) = some i := by
    rw [Array.findIdx?_eq_some_iff_getElem]
    refine ⟨by simpa using hi', ?_, fun j hj => ?_⟩
    · have : (es[i]'(by simpa using hi')) = es.toList[i]'hi' := by simp
      rw [this, hbs]; simp
    · have hj' : j < es.toList.length := by omega
      intro he
      have e1 : (es[j]'(by simpa using hj')) = es.toList[j]'hj' := by simp
      rw [e1] at he
      have e2 : (es.toList[j]'hj').born = s := by have := eq_of_beq he; omega
      have e3 : (es.toList.map (·.born))[j]? = (es.toList.map (·.born))[i]? := by rw [List.getElem?_map, List.getElem?_map, List.getElem?_eq_getElem hj', List.getElem?_eq_getElem hi']; simp only [Option.map_some, e2, hbs]
      have := (List.getElem?_inj (by simpa using hj') hbn).1 e3
      omega
  obtain ⟨hK, hA⟩ := set_heap hbl (.map (es.modify i (fun e => { e with val := v })) clock)
  refine ⟨_, ?_, ?_, hK, by simp⟩
  rotate_left
  · refine ⟨es.modify i (fun e => { e with val := v }), clock, hA, ?_, ?_, ?_, ?_, ?_⟩
    · rw [List.map_set, List.map_set, Array.toList_modify, ← hk]
      apply List.ext_getElem?
      intro j
      simp only [List.getElem?_map, List.getElem?_modify, List.getElem?_set, List.length_map, hl]
      by_cases hj : i = j
      · subst hj
        have h1 := congrArg (fun l => l[i]?) hk
        simp only [List.getElem?_map] at h1
        rw [List.getElem?_eq_getElem hi', List.getElem?_eq_getElem hi] at h1
        simp only [Option.map_some, Option.some.injEq] at h1
        simp only [if_true, if_pos hi]
        rw [List.getElem?_eq_getElem hi']
        simpa using h1
      · simp only [if_neg hj]
        cases es.toList[j]? <;> rfl
    · rw [List.map_set, Array.toList_modify, ← hv]
      apply List.ext_getElem?
      intro j
      simp only [List.getElem?_map, List.getElem?_modify, List.getElem?_set, List.length_map, hl]
      by_cases hj : i = j
      · subst hj
        simp only [if_true, if_pos hi]
        rw [List.getElem?_eq_getElem hi']
        rfl
      · simp only [if_neg hj]
        cases es.toList[j]? <;> rfl
    · rw [List.map_set]
      have e : (vs.map Prod.fst).set i (vs[i]'hi).1 = vs.map Prod.fst := by
        have e0 : (vs[i]'hi).1 = (vs.map Prod.fst)[i]'(by simpa using hi) := by simp
        rw [e0]; exact List.set_getElem_self _
      rw [e]; exact hn
    · have e : (es.modify i (fun e => { e with val := v })).toList.map (·.born) = es.toList.map (·.born) := by
        rw [Array.toList_modify]
        apply List.ext_getElem?
        intro j
        simp only [List.getElem?_map, List.getElem?_modify]
        split <;> cases es.toList[j]? <;> rfl
      rw [e]; exact hbn
    · intro e he'
      rw [Array.toList_modify] at he'
      obtain ⟨j, hj, rfl⟩ := List.mem_iff_getElem.1 he'
      rw [List.getElem_modify]
      have hj' : j < es.toList.length := by simpa using hj
      split
      · show (es.toList[j]'hj').born < clock
        exact hc _ (List.getElem_mem hj')
      · exact hc _ (List.getElem_mem hj')
  · simp only [Instr.entryStore, Sem.run_bind, MapKept.run_getObj_map hb, Result.andThen_ok, goInt, asInt, asIntOf, Sem.run_pure, hfi, MapKept.run_setObj_map _ hb]
/-- A loop over a map under way: block r is an iterator over the map b, which has handed out the entries ds. -/
def RngM (enc : κ → Value) (w : World) (b r : Nat) (vs : List (κ × Value)) (ds : List Nat) : Prop :=
  ∃ es clock since c0, w.heap[b]? = some (.map es clock) ∧ es.toList.map (·.key) = (vs.map Prod.fst).map enc ∧ es.toList.map (·.val) = vs.map Prod.snd ∧ (es.toList.map (·.born)).Nodup ∧ (∀ e ∈ es.toList, e.born < since) ∧ since ≤ c0 ∧ since ≤ clock ∧
    w.heap[r]? = some (.mapIter (some b) since (ds.map (fun i => ((es.toList[i]?).map (·.born)).getD 0)).toArray c0) ∧ ds.Nodup ∧ ∀ i ∈ ds, i < vs.length
theorem RngM.lt {r : Nat} {ds : List Nat} (h : RngM enc w b r vs ds) : b < w.heap.size ∧ r < w.heap.size ∧ b ≠ r := by
  obtain ⟨es, clock, since, c0, hb, _, _, _, _, _, _, hr, _⟩ := h
  refine ⟨(Array.getElem?_eq_some_iff.1 hb).1, (Array.getElem?_eq_some_iff.1 hr).1, fun e => ?_⟩
  rw [e, hr] at hb; cases hb
theorem RngM.kept {S : Nat → Prop} {r : Nat} {ds : List Nat} (h : RngM enc w b r vs ds) (k : KeptS S w w') (hs : ¬ S b) (hs' : ¬ S r) : RngM enc w' b r vs ds := by
  have hl := h.lt
  obtain ⟨es, clock, since, c0, hb, h1, h2, h3, h4, h5, h6, hr, h7⟩ := h
  exact ⟨es, clock, since, c0, (k.block b hl.1 hs).trans hb, h1, h2, h3, h4, h5, h6, (k.block r hl.2.1 hs').trans hr, h7⟩
theorem OwnMap.range (h : OwnMap enc w b vs) (ht : P.underlying t = some (.map kt et)) :
    ∃ w', (Instr.range t (.map (some b))).run P w = .ok (.pointer (some ⟨w.heap.size, 0, none⟩)) w' ∧ RngM enc w' b w.heap.size vs [] ∧ Below w.heap.size w w' ∧ w'.heap.size = w.heap.size + 1 := by
  have hbl := h.lt
  obtain ⟨es, clock, hb, hk, hv, hn, hbn, hc⟩ := h
  refine ⟨w.alloc (.mapIter (some b) clock #[] clock), ?_, ?_, (by repeat (first | exact Below.refl _ _ | apply below_alloc | apply below_drewN | apply below_drew | (refine below_set2 ?_ ?_; (first | (simp; done) | (simp; omega))))), by simp⟩
  · simp only [Instr.range, Sem.run_bind, run_underlying ht, Result.andThen_ok, MapKept.run_getObj_map hb, Sem.run_pure]
    rfl
  · exact ⟨es, clock, clock, clock, (Below.heap_alloc w _ b hbl).trans hb, hk, hv, hbn, hc, Nat.le_refl _, Nat.le_refl _, heap_alloc_new _ _, List.nodup_nil, fun i hi => by cases hi⟩
theorem RngM.next {r : Nat} {ds : List Nat} (h : RngM enc w b r vs ds) (ty : TypeId) :
    (ds.length = vs.length ∧ (Instr.next (.pointer (some ⟨r, 0, none⟩)) false ty).run P w = .ok (.tuple #[.bool false]) w) ∨
    ∃ (i : Nat) (hi : i < vs.length) (w' : World), i ∉ ds ∧ (Instr.next (.pointer (some ⟨r, 0, none⟩)) false ty).run P w = .ok (.tuple #[.bool true, enc (vs[i]'hi).1, (vs[i]'hi).2]) w' ∧ RngM enc w' b r vs (ds ++ [i]) ∧ KeptS (fun k => k = r) w w' ∧ w'.heap.size = w.heap.size ∧
      (Instr.entry (.pointer (some ⟨r, 0, none⟩))).run P w' = .ok (.tuple #[enc (vs[i]'hi).1, (vs[i]'hi).2]) w' := by
  have hl := h.lt
  obtain ⟨es, clock, since, c0, hb, hk, hv, hbn, hc, h5, h6, hr, hnd, hlt⟩ := h
  have hlen : es.toList.length = vs.length := by have := congrArg List.length hv; simpa using this
  have hat : ∀ (i : Nat) (hi : i < es.toList.length), (es.toList[i]'hi).key = enc (vs[i]'(by omega)).1 ∧ (es.toList[i]'hi).val = (vs[i]'(by omega)).2 := fun i hi => by
    have h1 := congrArg (fun l => l[i]?) hk
    have h2 := congrArg (fun l => l[i]?) hv
    simp only [List.getElem?_map] at h1 h2
    rw [List.getElem?_eq_getElem hi, List.getElem?_eq_getElem (show i < vs.length by omega)] at h1 h2
    simp only [Option.map_some, Option.some.injEq] at h1 h2
    exact ⟨h1, h2⟩
  rcases Go.run_next_at (P := P) w ty r b since c0 _ es clock hr hb hc h5 with ⟨h0, hrun⟩ | ⟨e, he, w1, hw1, hrun⟩
  · refine .inl ⟨?_, hrun⟩
    have hall : ∀ i, i < vs.length → i ∈ ds := by
      intro i hi
      have hi' : i < es.toList.length := by omega
      have h1 : ∀ e ∈ es.toList, (ds.map (fun i => ((es.toList[i]?).map (·.born)).getD 0)).toArray.contains e.born = true := by
        intro e he
        have := Array.eq_empty_of_size_eq_zero h0
        unfold leftOf at this
        rw [Array.filter_eq_empty_iff] at this
        have := this e (by simpa using he)
        simpa using this
      have h2 := h1 _ (List.getElem_mem hi')
      simp only [List.contains_toArray, List.contains_iff_mem, List.mem_map] at h2
      obtain ⟨j, hj, e2⟩ := h2
      have hj' := hlt j hj
      rw [List.getElem?_eq_getElem (show j < es.toList.length by omega)] at e2
      simp only [Option.map_some, Option.getD_some] at e2
      have e3 : (es.toList.map (·.born))[j]? = (es.toList.map (·.born))[i]? := by
        rw [List.getElem?_map, List.getElem?_map, List.getElem?_eq_getElem hi', List.getElem?_eq_getElem (show j < es.toList.length by omega)]; simp only [Option.map_some, e2]
      have := (List.getElem?_inj (by rw [List.length_map]; omega) hbn).1 e3
      rw [← this]; exact hj
    have h1 : ds.length ≤ vs.length := by
      have h2 : ds ⊆ List.range vs.length := fun i hi => List.mem_range.2 (hlt i hi)
      have := nodup_sub hnd h2
      simpa using this
    have h2 : vs.length ≤ ds.length := by
      have h3 : List.range vs.length ⊆ ds := fun i hi => hall i (List.mem_range.1 hi)
      have := nodup_sub List.nodup_range h3
      simpa using this
    omega
  · unfold leftOf at he
    have he' : e ∈ es.toList ∧ (ds.map (fun i => ((es.toList[i]?).map (·.born)).getD 0)).toArray.contains e.born = false := by simpa using he
    obtain ⟨he1, he2⟩ := he'
    obtain ⟨i, hi, rfl⟩ := List.getElem_of_mem he1
    have hi' : i < vs.length := by omega
    have hni : i ∉ ds := fun hm => by
      have : (ds.map (fun i => ((es.toList[i]?).map (·.born)).getD 0)).toArray.contains (es.toList[i]'hi).born = true := by
        simp only [List.contains_toArray, List.contains_iff_mem, List.mem_map]
        exact ⟨i, hm, by rw [List.getElem?_eq_getElem hi]; rfl⟩
      rw [this] at he2; cases he2
    have hk1 : KeptS (fun k => k = r) w (Go.ChangeMaps.setBlock w1 r (.mapIter (some b) since (((ds.map (fun i => ((es.toList[i]?).map (·.born)).getD 0)).toArray).push (es.toList[i]'hi).born) clock)) ∧ (Go.ChangeMaps.setBlock w1 r (.mapIter (some b) since (((ds.map (fun i => ((es.toList[i]?).map (·.born)).getD 0)).toArray).push (es.toList[i]'hi).born) clock)).heap.size = w.heap.size ∧
        (Go.ChangeMaps.setBlock w1 r (.mapIter (some b) since (((ds.map (fun i => ((es.toList[i]?).map (·.born)).getD 0)).toArray).push (es.toList[i]'hi).born) clock)).heap[r]? = some (.mapIter (some b) since (((ds.map (fun i => ((es.toList[i]?).map (·.born)).getD 0)).toArray).push (es.toList[i]'hi).born) clock) := by
      have hh : w1.heap = w.heap ∧ w1.os = w.os ∧ w1.tape = w.tape ∧ w1.output = w.output := by rcases hw1 with rfl | rfl <;> exact ⟨rfl, rfl, rfl, rfl⟩
      refine ⟨⟨hh.2.1, hh.2.2.1, hh.2.2.2, by simp [Go.ChangeMaps.setBlock, hh.1], fun k _ hkk => ?_⟩, by simp [Go.ChangeMaps.setBlock, hh.1], ?_⟩
      · simp only [Go.ChangeMaps.setBlock, hh.1]
        rw [Array.getElem?_setIfInBounds, if_neg (fun e => hkk e.symm)]
      · simp only [Go.ChangeMaps.setBlock, hh.1]
        rw [Array.getElem?_setIfInBounds, if_pos rfl, if_pos hl.2.1]
    obtain ⟨hK, hsz, hrr⟩ := hk1
    have hb' := (hK.block b hl.1 hl.2.2).trans hb
    have hpush : ((ds.map (fun i => ((es.toList[i]?).map (·.born)).getD 0)).toArray).push (es.toList[i]'hi).born = ((ds ++ [i]).map (fun i => ((es.toList[i]?).map (·.born)).getD 0)).toArray := by
      rw [List.map_append, List.push_toArray, List.map_cons, List.map_nil, List.getElem?_eq_getElem hi]; rfl
    rw [hpush] at hK hsz hrr hb' hrun
    refine .inr ⟨i, hi', _, hni, ?_, ⟨es, clock, since, clock, hb', hk, hv, hbn, hc, h6, h6, hrr, ?_, ?_⟩, hK, hsz, ?_⟩
    · rw [hrun, (hat i hi).1, (hat i hi).2]
    · rw [List.nodup_append]
      refine ⟨hnd, by simp, fun a ha c hcc => ?_⟩
      rw [List.mem_singleton.1 hcc]
      exact fun e => hni (e ▸ ha)
    · intro j hj
      rcases List.mem_append.1 hj with h | h
      · exact hlt j h
      · rw [List.mem_singleton.1 h]; exact hi'
    · rw [← (hat i hi).1, ← (hat i hi).2]
      rw [← hpush] at hrr hb' ⊢
      exact Go.run_entry_at _ r b since _ es clock (es.toList[i]'hi) hrr hb' (List.getElem_mem hi) hbn
end
theorem part_int (cs : Array Value) (o : Nat) (v : Value) (w : World) (h : cs[o]? = some v) : (part 3 cs o).run Try.prog w = .ok v w := by
  simp [part, isAgg, run_underlying Try.underlying3, h]
theorem eq_pt (p q : Pt) (w : World) : (Op.equal 25 (ptV p) (ptV q)).run Try.prog w = .ok (decide (p = q)) w := eqPt 9998 w _ _ _ _
theorem eq_sg (p q : Sg) (w : World) : (Op.equal 27 (sgV p) (sgV q)).run Try.prog w = .ok (decide (p = q)) w := eqSg 9997 w _ _ _ _ _ _ _ _
theorem chk_pt (c : Bool) (p : Pt) (w : World) : (Instr.checkKey c 10000 25 (ptV p)).run Try.prog w = .ok () w := by
  have p0 : ∀ x y : Int, (part 3 #[.int .i64 x, .int .i64 y] 0).run Try.prog w = .ok (.int .i64 x) w := fun x y => part_int _ _ _ _ rfl
  have p1 : ∀ x y : Int, (part 3 #[.int .i64 x, .int .i64 y] 1).run Try.prog w = .ok (.int .i64 y) w := fun x y => part_int _ _ _ _ rfl
  have key : ∀ n : Nat, (∀ x : Int, (Instr.checkKey c n 3 (.int .i64 x)).run Try.prog w = .ok () w) → (Instr.checkKey c (n + 1) 25 (ptV p)).run Try.prog w = .ok () w := by
    intro n hc
    unfold ptV
    simp [Instr.checkKey, run_underlying Try.underlying25, p0, p1, hc]
  exact key 9999 (fun x => check_int (by kernel_rfl) c 9998 x w)
theorem ask_gen {κ : Type} [DecidableEq κ] {P : Program} {kt : TypeId} {enc : κ → Value} {w : World} (heq : ∀ p q : κ, (Op.equal kt (enc p) (enc q)).run P w = .ok (decide (p = q)) w) (k : κ) : ∀ (es : List MapEntry) (ks : List κ) (i : Nat), es.map (·.key) = ks.map enc → (Instr.findAsking kt (enc k) es i).run P w = .ok ((es[ks.idxOf k]?).map fun e => (i + ks.idxOf k, e.val)) w := by
  intro es
  induction es with
  | nil => intro ks i h; simp [Instr.findAsking]
  | cons e es ih =>
    intro ks i h
    cases ks with
    | nil => simp at h
    | cons y ys =>
      simp only [List.map_cons, List.cons.injEq] at h
      rw [Instr.findAsking]
      simp only [h.1, Sem.run_bind, heq, Result.andThen_ok]
      by_cases hy : k = y
      · subst hy; simp
      · rw [show decide (k = y) = false by simp [hy]]
        simp only [Bool.false_eq_true, if_false, ih ys (i + 1) h.2, List.idxOf_cons, show (y == k) = false by simpa using fun e : y = k => hy e.symm]
        simp only [cond_false, List.getElem?_cons_succ]
        congr 1
        cases es[List.idxOf k ys]? with
        | none => rfl
        | some e => simp only [Option.map_some]; congr 2; omega
theorem chk_ptn (c : Bool) (n : Nat) (p : Pt) (w : World) : (Instr.checkKey c (n + 2) 25 (ptV p)).run Try.prog w = .ok () w := by
  have p0 : ∀ x y : Int, (part 3 #[.int .i64 x, .int .i64 y] 0).run Try.prog w = .ok (.int .i64 x) w := fun x y => part_int _ _ _ _ rfl
  have p1 : ∀ x y : Int, (part 3 #[.int .i64 x, .int .i64 y] 1).run Try.prog w = .ok (.int .i64 y) w := fun x y => part_int _ _ _ _ rfl
  have hc : ∀ x : Int, (Instr.checkKey c (n + 1) 3 (.int .i64 x)).run Try.prog w = .ok () w := fun x => check_int (by kernel_rfl) c n x w
  unfold ptV
  simp [Instr.checkKey, run_underlying Try.underlying25, p0, p1, hc]
theorem chk_sg (c : Bool) (p : Sg) (w : World) : (Instr.checkKey c 10000 27 (sgV p)).run Try.prog w = .ok () w := by
  have p0 : ∀ x y z u : Int, (part 25 #[.int .i64 x, .int .i64 y, .int .i64 z, .int .i64 u] 0).run Try.prog w = .ok (ptV (x, y)) w := fun x y z u => by kernel_rfl
  have p1 : ∀ x y z u : Int, (part 25 #[.int .i64 x, .int .i64 y, .int .i64 z, .int .i64 u] 2).run Try.prog w = .ok (ptV (z, u)) w := fun x y z u => by kernel_rfl
  have key : ∀ n : Nat, (∀ x : Pt, (Instr.checkKey c n 25 (ptV x)).run Try.prog w = .ok () w) → (Instr.checkKey c (n + 1) 27 (sgV p)).run Try.prog w = .ok () w := by
    intro n hc
    unfold sgV
    simp [Instr.checkKey, run_underlying Try.underlying27, p0, p1, hc]
  exact key 9999 (fun x => chk_ptn c 9997 x w)
theorem keyPt : KeyOk Try.prog 25 ptV where
  check := fun c p w => chk_pt c p w
  find := fun k es ks w h => by
    have hnow : Instr.findNow (.struct (Try.prog.fieldsOf 25)) (ptV k) es 0 = if es = [] then some none else none := by
      cases es with
      | nil => rfl
      | cons e es => simp [Instr.findNow, Instr.sameNow]
    have hu : Try.prog.underlying 25 = some (.struct (Try.prog.fieldsOf 25)) := by kernel_rfl
    rw [Instr.findKey]
    simp only [Sem.run_bind, run_underlying hu, Result.andThen_ok, hnow]
    by_cases he : es = []
    · subst he; simp
    · rw [if_neg he]
      have := ask_gen (fun p q => eq_pt p q w) k es ks 0 h
      simpa using this
  same := fun k => by
    show Instr.sameBits (9999 + 1) (ptV k) (ptV k) = true
    simp [Instr.sameBits, ptV, same_int]
theorem keySg : KeyOk Try.prog 27 sgV where
  check := fun c p w => chk_sg c p w
  find := fun k es ks w h => by
    have hnow : Instr.findNow (.struct (Try.prog.fieldsOf 27)) (sgV k) es 0 = if es = [] then some none else none := by
      cases es with
      | nil => rfl
      | cons e es => simp [Instr.findNow, Instr.sameNow]
    have hu : Try.prog.underlying 27 = some (.struct (Try.prog.fieldsOf 27)) := by kernel_rfl
    rw [Instr.findKey]
    simp only [Sem.run_bind, run_underlying hu, Result.andThen_ok, hnow]
    by_cases he : es = []
    · subst he; simp
    · rw [if_neg he]
      have := ask_gen (fun p q => eq_sg p q w) k es ks 0 h
      simpa using this
  same := fun k => by
    show Instr.sameBits (9999 + 1) (sgV k) (sgV k) = true
    simp [Instr.sameBits, sgV, same_int]
end Go.Proofs.Ytlmjciajpjdilaa
