/- Words of this session's own: maps that a call has made, read as lists of entries. No program is in sight. -/
import Derived.Test.YtlmjciajpjdilaaStep
import Derived.MapKept
namespace Go.Proofs.Ytlmjciajpjdilaa
open Go.RowKit
set_option linter.unusedVariables false
set_option linter.unusedSimpArgs false
set_option linter.unusedSectionVars false

section
variable {κ : Type} [DecidableEq κ]
def mapIx (vs : List (κ × Value)) (k : κ) : Nat := (vs.map Prod.fst).idxOf k
/-- The value at a key. -/
def mapGet (vs : List (κ × Value)) (k : κ) : Option Value := (vs[mapIx vs k]?).map Prod.snd
/-- The entries behind m[k] = v. -/
def mapPut (vs : List (κ × Value)) (k : κ) (v : Value) : List (κ × Value) := if mapIx vs k < vs.length then vs.set (mapIx vs k) (k, v) else vs ++ [(k, v)]
/-- What a kind of keys must do. -/
structure KeyOk (P : Program) (kt : TypeId) (enc : κ → Value) : Prop where
  check : ∀ (b : Bool) (k : κ) (w : World), (Instr.checkKey b 10000 kt (enc k)).run P w = .ok () w
  find : ∀ (k : κ) (es : List MapEntry) (ks : List κ) (w : World), es.map (·.key) = ks.map enc → (Instr.findKey kt (enc k) es).run P w = .ok ((es[ks.idxOf k]?).map fun e => (ks.idxOf k, e.val)) w
  same : ∀ k : κ, Instr.sameBits 10000 (enc k) (enc k) = true
/-- Block b is a map whose entries are vs. -/
def OwnMap (enc : κ → Value) (w : World) (b : Nat) (vs : List (κ × Value)) : Prop :=
  ∃ es clock, w.heap[b]? = some (.map es clock) ∧ es.toList.map (·.key) = (vs.map Prod.fst).map enc ∧ es.toList.map (·.val) = vs.map Prod.snd ∧ (vs.map Prod.fst).Nodup ∧ (es.toList.map (·.born)).Nodup ∧ ∀ e ∈ es.toList, e.born < clock
theorem mapIx_lt {vs : List (κ × Value)} {k : κ} (h : mapIx vs k < vs.length) : (vs[mapIx vs k]'h).1 = k := by
  have h' : (vs.map Prod.fst).idxOf k < (vs.map Prod.fst).length := by rw [List.length_map]; exact h
  have := List.getElem_idxOf h'
  rw [List.getElem_map] at this
  exact this
variable {P : Program} {kt et t : TypeId} {enc : κ → Value} {w w' : World} {b : Nat} {vs : List (κ × Value)}
theorem OwnMap.made (w : World) (enc : κ → Value) : OwnMap enc (w.alloc (.map #[] 0)) w.heap.size [] := ⟨#[], 0, heap_alloc_new w _, rfl, rfl, List.nodup_nil, List.nodup_nil, fun e he => by simp at he⟩
theorem OwnMap.lt (h : OwnMap enc w b vs) : b < w.heap.size := by
  obtain ⟨es, clock, hb, _⟩ := h
  exact (Array.getElem?_eq_some_iff.1 hb).1
theorem OwnMap.kept {S : Nat → Prop} (h : OwnMap enc w b vs) (k : KeptS S w w') (hs : ¬ S b) : OwnMap enc w' b vs := by
  have hl := h.lt
  obtain ⟨es, clock, hb, h'⟩ := h
  exact ⟨es, clock, (k.block b hl hs).trans hb, h'⟩
theorem OwnMap.below (h : OwnMap enc w b vs) (hb : Below w.heap.size w w') : OwnMap enc w' b vs := h.kept (S := fun _ => False) (kept_of_below hb) id
theorem OwnMap.lookup (h : OwnMap enc w b vs) (K : KeyOk P kt enc) (ht : P.underlying t = some (.map kt et)) {z : Value} (hz : (zeroValue et).run P w = .ok z w) (k : κ) (c : Bool) :
    (Instr.lookup t (.map (some b)) (enc k) c).run P w = .ok (if c then .tuple #[(mapGet vs k).getD z, .bool (mapGet vs k).isSome] else (mapGet vs k).getD z) w := by
  obtain ⟨es, clock, hb, hk, hv, _⟩ := h
  have hl : es.toList.length = vs.length := by have := congrArg List.length hv; simpa using this
  have hf := K.find k es.toList (vs.map Prod.fst) w hk
  have hg : (es.toList[(vs.map Prod.fst).idxOf k]?).map (·.val) = mapGet vs k := by
    have := congrArg (fun l => l[(vs.map Prod.fst).idxOf k]?) hv
    simpa [mapGet, mapIx] using this
  simp only [Instr.lookup, Sem.run_bind, run_underlying ht, Result.andThen_ok, MapKept.run_getObj_map hb, Sem.run_pure, K.check, hf]
  cases he : es.toList[(vs.map Prod.fst).idxOf k]? with
  | none =>
    rw [he] at hg
    simp only [Option.map_none] at hg ⊢
    rw [← hg]
    cases c <;> simp [hz]
  | some e =>
    rw [he] at hg
    simp only [Option.map_some] at hg ⊢
    rw [← hg]
    cases c <;> simp
theorem OwnMap.update (h : OwnMap enc w b vs) (K : KeyOk P kt enc) (ht : P.underlying t = some (.map kt et)) (k : κ) (v : Value) :
    ∃ w', (Instr.mapUpdate t (.map (some b)) (enc k) v).run P w = .ok () w' ∧ OwnMap enc w' b (mapPut vs k v) ∧ KeptS (fun i => i = b) w w' ∧ w'.heap.size = w.heap.size := by
  have hbl := h.lt
  obtain ⟨es, clock, hb, hk, hv, hn, hbn, hc⟩ := h
  have hl : es.toList.length = vs.length := by have := congrArg List.length hv; simpa using this
  have hf := K.find k es.toList (vs.map Prod.fst) w hk
  have keep : ∀ o : Obj, KeptS (fun i => i = b) w { w with heap := w.heap.setIfInBounds b o } := fun o =>
    ⟨rfl, rfl, rfl, by simp, fun i _ hi => by show (w.heap.setIfInBounds b o)[i]? = _; rw [Array.getElem?_setIfInBounds, if_neg (fun e => hi e.symm)]⟩
  have at_ : ∀ o : Obj, (w.heap.setIfInBounds b o)[b]? = some o := fun o => by rw [Array.getElem?_setIfInBounds, if_pos rfl, if_pos hbl]
  by_cases hi : mapIx vs k < vs.length
  · have he : es.toList[(vs.map Prod.fst).idxOf k]? = some (es.toList[mapIx vs k]'(by rw [hl]; exact hi)) := List.getElem?_eq_getElem (by rw [hl]; exact hi)
    have hkey : (es.toList[mapIx vs k]'(by rw [hl]; exact hi)).key = enc k := by
      have h1 := congrArg (fun l => l[mapIx vs k]?) hk
      simp only [List.getElem?_map] at h1
      rw [List.getElem?_eq_getElem (by rw [hl]; exact hi), List.getElem?_eq_getElem hi] at h1
      simp only [Option.map_some, Option.some.injEq] at h1
      rw [h1, mapIx_lt hi]
    refine ⟨_, ?_, ?_, keep (.map (es.modify (mapIx vs k) (fun e => { e with key := enc k, val := v })) clock), by simp⟩
    rotate_left
    · refine ⟨es.modify (mapIx vs k) (fun e => { e with key := enc k, val := v }), clock, at_ _, ?_, ?_, ?_, ?_, ?_⟩
      · rw [mapPut, if_pos hi, List.map_set, List.map_set, Array.toList_modify, ← hk]
        apply List.ext_getElem?
        intro j
        simp only [List.getElem?_map, List.getElem?_modify, List.getElem?_set, List.length_map, hl]
        by_cases hj : mapIx vs k = j
        · subst hj
          simp only [if_true, if_pos hi]
          rw [List.getElem?_eq_getElem (by rw [hl]; exact hi)]
          simp
        · simp only [if_neg hj]
          cases es.toList[j]? <;> rfl
      · rw [mapPut, if_pos hi, List.map_set, Array.toList_modify, ← hv]
        apply List.ext_getElem?
        intro j
        simp only [List.getElem?_map, List.getElem?_modify, List.getElem?_set, List.length_map, hl]
        by_cases hj : mapIx vs k = j
        · subst hj
          simp only [if_true, if_pos hi]
          rw [List.getElem?_eq_getElem (by rw [hl]; exact hi)]
          simp
        · simp only [if_neg hj]
          cases es.toList[j]? <;> rfl
      · rw [mapPut, if_pos hi, List.map_set]
        have e : (vs.map Prod.fst).set (mapIx vs k) k = vs.map Prod.fst := by
          apply List.ext_getElem?
          intro j
          rw [List.getElem?_set]
          split
          · rename_i hj; subst hj
            rw [if_pos (by rw [List.length_map]; exact hi), List.getElem?_map, List.getElem?_eq_getElem hi]
            simp [mapIx_lt hi]
          · rfl
        rw [e]; exact hn
      · have e : (es.modify (mapIx vs k) (fun e => { e with key := enc k, val := v })).toList.map (·.born) = es.toList.map (·.born) := by
          rw [Array.toList_modify]
          apply List.ext_getElem?
          intro j
          simp only [List.getElem?_map, List.getElem?_modify]
          split <;> cases es.toList[j]? <;> rfl
        rw [e]; exact hbn
      · intro e he'
        rw [Array.toList_modify] at he'
        obtain ⟨j, hj, rfl⟩ := List.mem_iff_getElem.1 he'
        rw [List.getElem_modify]
        have hj' : j < es.toList.length := by simpa using hj
        split
        · show (es.toList[j]'hj').born < clock
          exact hc _ (List.getElem_mem hj')
        · exact hc _ (List.getElem_mem hj')
    · simp only [Instr.mapUpdate, Sem.run_bind, run_underlying ht, Result.andThen_ok, MapKept.run_getObj_map hb, Sem.run_pure, K.check, hf, he, Option.map_some]
      have hes : (es[(vs.map Prod.fst).idxOf k]?.map (·.key)).getD (enc k) = enc k := by
        rw [← Array.getElem?_toList, he]
        simpa using hkey
      simp only [hes, Instr.keyThatStays, K.same, if_true, Sem.run_pure, Result.andThen_ok, MapKept.run_setObj_map _ hb, Sem.run_bind]
      rfl
  · have he : es.toList[(vs.map Prod.fst).idxOf k]? = none := List.getElem?_eq_none (by rw [hl]; exact Nat.le_of_not_lt hi)
    have hnk : k ∉ vs.map Prod.fst := fun hm => hi (by have := List.idxOf_lt_length_of_mem hm; rwa [List.length_map] at this)
    refine ⟨_, ?_, ?_, keep (.map (es.push { key := enc k, val := v, born := clock }) (clock + 1)), by simp⟩
    rotate_left
    · refine ⟨es.push { key := enc k, val := v, born := clock }, clock + 1, at_ _, ?_, ?_, ?_, ?_, ?_⟩
      · rw [mapPut, if_neg hi]; simp [hk]
      · rw [mapPut, if_neg hi]; simp [hv]
      · rw [mapPut, if_neg hi, List.map_append, List.nodup_append]
        refine ⟨hn, by simp, fun a ha b hb' => ?_⟩
        simp only [List.map_cons, List.map_nil, List.mem_singleton] at hb'
        subst hb'
        exact fun e => hnk (e ▸ ha)
      · rw [Array.toList_push, List.map_append, List.nodup_append]
        refine ⟨hbn, by simp, fun a ha c' hc' => ?_⟩
        simp only [List.map_cons, List.map_nil, List.mem_singleton] at hc'
        subst hc'
        obtain ⟨e, he', rfl⟩ := List.mem_map.1 ha
        have := hc e he'
        exact fun h => by omega
      · intro e he'
        rw [Array.toList_push] at he'
        rcases List.mem_append.1 he' with h | h
        · have := hc e h; omega
        · rw [List.mem_singleton.1 h]; exact Nat.lt_succ_self _
    · simp only [Instr.mapUpdate, Sem.run_bind, run_underlying ht, Result.andThen_ok, MapKept.run_getObj_map hb, Sem.run_pure, K.check, hf, he, Option.map_none, MapKept.run_setObj_map _ hb]
variable {ops : Array Oper} {rest : List Oper} {o : Oper} {a : Act} {Q : Exit → Act → World → Prop}
/-- m[k] = v, at the operation. -/
theorem wpList_putM (hg : o.guard = none) (m x v : Operand) (t : TypeId) (hop : o.op = Op.mapUpdate t m x v) (ht : P.underlying t = some (.map kt et)) (K : KeyOk P kt enc) (b : Nat) (vs : List (κ × Value)) (k : κ) (val : Value)
    (hm : a.eval m = .map (some b)) (hx : a.eval x = enc k) (hv : a.eval v = val) (HO : OwnMap enc w b vs)
    (h : ∀ w', OwnMap enc w' b (mapPut vs k val) → KeptS (fun i => i = b) w w' → w'.heap.size = w.heap.size → wpList P ops Q rest (a.put o.dst undef) w') : wpList P ops Q (o :: rest) a w := by
  refine wpList_plain hg fun K' hK' => ?_
  obtain ⟨w', hrun, r1, r2, r3⟩ := HO.update K ht k val
  unfold Oper.wp
  simp [execOp, hop, hm, hx, hv, hrun, Result.andThen]
  exact hK' _ _ (h w' r1 r2 r3)
/-- v, ok := m[k] or v := m[k], at the operation. -/
theorem wpList_getM (hg : o.guard = none) (m x : Operand) (t : TypeId) (c : Bool) (hop : o.op = Op.lookup t m x c) (ht : P.underlying t = some (.map kt et)) (K : KeyOk P kt enc) (z : Value) (hz : ∀ w, (zeroValue et).run P w = .ok z w) (b : Nat) (vs : List (κ × Value)) (k : κ)
    (hm : a.eval m = .map (some b)) (hx : a.eval x = enc k) (HO : OwnMap enc w b vs)
    (h : wpList P ops Q rest (a.put o.dst (if c then .tuple #[(mapGet vs k).getD z, .bool (mapGet vs k).isSome] else (mapGet vs k).getD z)) w) : wpList P ops Q (o :: rest) a w := by
  refine wpList_plain hg fun K' hK' => ?_
  have hrun := HO.lookup K ht (hz w) k c
  unfold Oper.wp
  simp [execOp, hop, hm, hx, hrun, Result.andThen]
  exact hK' _ _ h
end
theorem same_int (n : Nat) (q : IntKind) (k : Int) : Instr.sameBits n (.int q k) (.int q k) = true := by
  cases n <;> simp [Instr.sameBits]
theorem check_int {P : Program} {kt : TypeId} {q : IntKind} (hk : P.underlying kt = some (.int q)) (b : Bool) (n : Nat) (k : Int) (w : World) : (Instr.checkKey b (n + 1) kt (.int q k)).run P w = .ok () w := by
  simp [Instr.checkKey, run_underlying hk]
/-- Whole numbers as keys. -/
theorem keyOk_int {P : Program} {kt : TypeId} {q : IntKind} (hk : P.underlying kt = some (.int q)) : KeyOk P kt (fun x : Int => Value.int q x) where
  check := fun b k w => check_int hk b 9999 k w
  find := fun k es ks w h => by
    have key : ∀ (es : List MapEntry) (ks : List Int) (i : Nat), es.map (·.key) = ks.map (fun x => Value.int q x) → Instr.findNow (.int q) (.int q k) es i = some ((es[ks.idxOf k]?).map fun e => (i + ks.idxOf k, e.val)) := by
      intro es
      induction es with
      | nil => intro ks i h; simp [Instr.findNow]
      | cons e es ih =>
        intro ks i h
        cases ks with
        | nil => simp at h
        | cons y ys =>
          simp only [List.map_cons, List.cons.injEq] at h
          simp only [Instr.findNow, h.1, Instr.sameNow, if_true]
          by_cases hy : k = y
          · subst hy; simp
          · have hb : (k == y) = false := by simpa using hy
            rw [hb]
            simp only [ih ys (i + 1) h.2, List.idxOf_cons, show (y == k) = false by simpa using fun e : y = k => hy e.symm]
            simp only [cond_false, List.getElem?_cons_succ]
            congr 1
            cases es[List.idxOf k ys]? with
            | none => rfl
            | some e => simp only [Option.map_some]; congr 2; omega
    simp [Instr.findKey, run_underlying hk, key es ks 0 h]
  same := fun k => same_int 10000 q k
end Go.Proofs.Ytlmjciajpjdilaa
