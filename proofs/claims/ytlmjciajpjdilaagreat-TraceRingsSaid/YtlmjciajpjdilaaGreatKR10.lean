/- Words of this session's own: a map of points to rows of points, and a set of segments, in memory. -/
import Derived.Test.YtlmjciajpjdilaaGreatKR9
namespace Go.Proofs.YtlmjciajpjdilaaGreat
set_option linter.unusedVariables false
set_option linter.unusedSimpArgs false
section
open Go.RowKit Go.Proofs.YtlmjciajpjdilaaGreatW.PrintLast

def dk (l : List Pt) : List Pt := l.foldl (fun d p => if p ∈ d then d else d ++ [p]) []
theorem dk_snoc (l : List Pt) (p : Pt) : dk (l ++ [p]) = if p ∈ dk l then dk l else dk l ++ [p] := by
 unfold dk
 rw [List.foldl_append]
 simp only [List.foldl_cons, List.foldl_nil]
theorem snoc_ind {α : Type} {P : List α → Prop} (h0 : P []) (h1 : ∀ l x, P l → P (l ++ [x])) : ∀ l, P l := by
 intro l
 have : ∀ n, ∀ l : List α, l.length = n → P l := by
  intro n
  induction n with
  | zero => intro l h; rw [List.eq_nil_of_length_eq_zero h]; exact h0
  | succ n ih =>
   intro l h
   have hne : l ≠ [] := fun e => by rw [e] at h; simp at h
   rw [← List.dropLast_concat_getLast hne]
   exact h1 _ _ (ih _ (by rw [List.length_dropLast]; omega))
 exact this _ l rfl
theorem dk_mem (l : List Pt) : ∀ p, p ∈ dk l ↔ p ∈ l := by
 refine snoc_ind (P := fun l => ∀ p, p ∈ dk l ↔ p ∈ l) (fun p => by simp [dk]) (fun l x ih p => ?_) l
 rw [dk_snoc]
 split
 ·rename_i h
  rw [ih, List.mem_append, List.mem_singleton]
  constructor
  ·exact .inl
  ·rintro (h1 | rfl)
   ·exact h1
   ·exact (ih _).1 h
 ·rw [List.mem_append, List.mem_append, ih]
theorem dk_nodup (l : List Pt) : (dk l).Nodup := by
 refine snoc_ind (P := fun l => (dk l).Nodup) (by simp [dk]) (fun l x ih => ?_) l
 rw [dk_snoc]
 split
 ·exact ih
 ·rename_i h
  rw [List.nodup_append]
  refine ⟨ih, by simp, fun a ha b hb => ?_⟩
  rw [List.mem_singleton.1 hb]
  exact fun e => h (e ▸ ha)
def gi (l : Sgs) (p : Pt) : Pts := (l.filter (fun x => decide (x.1 = p))).map (·.2)
def atL (l : Sgs) : List Pt := l.map (·.1)
theorem gi_snoc (l : Sgs) (x : Sg) (p : Pt) : gi (l ++ [x]) p = if x.1 = p then gi l p ++ [x.2] else gi l p := by
 unfold gi
 rw [List.filter_append, List.map_append]
 by_cases h : x.1 = p
 ·simp [h]
 ·simp [h]
theorem gi_none {l : Sgs} {p : Pt} (h : p ∉ atL l) : gi l p = [] := by
 unfold gi
 rw [List.map_eq_nil_iff, List.filter_eq_nil_iff]
 intro x hx
 simp only [decide_eq_true_eq]
 exact fun e => h (List.mem_map.2 ⟨x, hx, e⟩)
theorem atL_snoc (l : Sgs) (x : Sg) : atL (l ++ [x]) = atL l ++ [x.1] := by simp [atL]
section
variable {κ : Type} [DecidableEq κ] {vs : List (κ × Value)} {k : κ}
theorem mapIx_mem : mapIx vs k < vs.length ↔ k ∈ vs.map Prod.fst := by
 constructor
 ·intro hi; exact List.mem_map.2 ⟨_, List.getElem_mem hi, mapIx_lt hi⟩
 ·intro hm; have := List.idxOf_lt_length_of_mem hm; rwa [List.length_map] at this
theorem mapIx_le' : mapIx vs k ≤ vs.length := by
 have := List.idxOf_le_length (a := k) (l := vs.map Prod.fst)
 rwa [List.length_map] at this
theorem mapIx_at (hn : (vs.map Prod.fst).Nodup) {j : Nat} (hj : j < vs.length) (e : (vs[j]'hj).1 = k) : mapIx vs k = j := by
 have := List.Nodup.idxOf_getElem hn j (by rw [List.length_map]; exact hj)
 rw [List.getElem_map, e] at this
 exact this
end
/-- Block b is a map of the places' points to the IDs of the places there, each list in a row of its own. -/
structure GM (w : World) (base b : Nat) (vs : List (Pt × Value)) (l : Sgs) : Prop where
 map : OwnMap ptV w b vs
 keys : vs.map Prod.fst = dk (atL l)
 rows : ∀ (i : Nat) (hi : i < vs.length), Own1 Ty.pt 24 base w (vs[i]'hi).2 (gi l (vs[i]'hi).1)
 apart : ∀ (i j : Nat) (hi : i < vs.length) (hj : j < vs.length), i ≠ j → ∀ k, (vs[i]'hi).2.ownBlock = some k → (vs[j]'hj).2.ownBlock ≠ some k
theorem Own1.not_map {α : Type} {T : Ty α} {e : TypeId} {base g : Nat} {w : World} {v : Value} {xs : List α} {es : Array MapEntry} {c : Nat} (h : Own1 T e base w v xs) (hg : w.heap[g]? = some (.map es c)) : v.ownBlock ≠ some g := by
 intro hk
 obtain ⟨_, _, ⟨_, h2⟩, _⟩ := h
 rcases h2 with ⟨rfl, _⟩ | ⟨g', cap, cur, rfl, _, hh, _⟩
 ·cases hk
 cases hk
 rw [hh] at hg
 cases hg
theorem OwnMap.obj {κ : Type} [DecidableEq κ] {enc : κ → Value} {w : World} {b : Nat} {vs : List (κ × Value)} (h : OwnMap enc w b vs) : ∃ es c, w.heap[b]? = some (.map es c) := by
 obtain ⟨es, c, h, _⟩ := h; exact ⟨es, c, h⟩
theorem GM.made {w : World} {base b : Nat} (h : OwnMap ptV w b []) : GM w base b [] [] := ⟨h, by simp [dk, atL], fun i hi => absurd hi (by simp), fun i j hi => absurd hi (by simp)⟩
theorem GM.kept {w w' : World} {base b : Nat} {vs : List (Pt × Value)} {l : Sgs} {S : Nat → Prop} (h : GM w base b vs l) (k : KeptS S w w') (hb : ¬ S b) (hr : ∀ (i : Nat) (hi : i < vs.length) (g : Nat), (vs[i]'hi).2.ownBlock = some g → ¬ S g) : GM w' base b vs l :=
 ⟨h.map.kept k hb, h.keys, fun i hi => Own1.flat_kept pt_flat (h.rows i hi) k (hr i hi), h.apart⟩
theorem GM.below {w w' : World} {base b : Nat} {vs : List (Pt × Value)} {l : Sgs} (h : GM w base b vs l) (k : Below w.heap.size w w') : GM w' base b vs l :=
 h.kept (S := fun _ => False) (kept_of_below k) id (fun _ _ _ _ hf => hf)
/-- groups[p] = append(groups[p], id) -/
theorem GM.add {w : World} {base b : Nat} {vs : List (Pt × Value)} {l : Sgs} (h : GM w base b vs l) (x : Sg) (hbase : base ≤ w.heap.size) (hbb : b < base) :
  ∃ w2 s v, (Instr.mapEntry 83 (.map (some b)) (.agg #[.int .i64 x.1.1, .int .i64 x.1.2])).run Tryz.prog w = .ok (.tuple #[v, .int .i64 ((s : Nat) : Int)]) w2 ∧ Own1 Ty.pt 24 base w2 v (gi l x.1) ∧ KeptS (fun i => i = b) w w2 ∧ w2.heap.size = w.heap.size ∧ (∀ k, v.ownBlock = some k → ∃ (i : Nat) (hi : i < vs.length), (vs[i]'hi).2.ownBlock = some k) ∧
   ∀ v1 w3 M, OwnR Ty.pt 24 base M w3 v1 (gi l x.1 ++ [x.2]) → w2.grownBy w3 v.ownBlock → (v1.ownBlock = v.ownBlock ∨ ∃ c, v1.ownBlock = some c ∧ w2.heap.size ≤ c) →
    ∃ w4 vs', (Instr.entryStore 83 (.map (some b)) (.int .i64 ((s : Nat) : Int)) v1).run Tryz.prog w3 = .ok () w4 ∧ GM w4 base b vs' (l ++ [x]) ∧ KeptS (fun i => i = b) w3 w4 := by
 obtain ⟨w2, s, hrun, hS, hK, hsz⟩ := h.map.entry keyPt (t := 83) (et := 41) (by kernel_rfl) (z := .slice none 0 0) (fun w => by kernel_rfl) x.1
 obtain ⟨es, c, hobj⟩ := h.map.obj
 obtain ⟨p, hp⟩ : ∃ p, p = x.1 := ⟨_, rfl⟩
 have hlk : (vs.map Prod.fst).length = vs.length := List.length_map ..
 have hin : mapIx vs p < vs.length ↔ p ∈ dk (atL l) := by
  rw [← h.keys]; exact mapIx_mem
 have hown : Own1 Ty.pt 24 base w ((mapGet vs p).getD (.slice none 0 0)) (gi l p) := by
  by_cases hi : mapIx vs p < vs.length
  ·have h1 : mapGet vs p = some (vs[mapIx vs p]'hi).2 := by rw [mapGet, List.getElem?_eq_getElem hi]; rfl
   have h2 := h.rows _ hi
   rw [mapIx_lt hi] at h2
   rw [h1]; exact h2
  ·have h1 : mapGet vs p = none := by rw [mapGet, List.getElem?_eq_none (by omega)]; rfl
   have h2 : p ∉ atL l := fun hm => hi (hin.2 ((dk_mem _ _).2 hm))
   rw [h1, gi_none h2]
   exact OwnR.nil _ _ _ _ _
 obtain ⟨v, hv⟩ : ∃ v, v = (mapGet vs p).getD (.slice none 0 0) := ⟨_, rfl⟩
 rw [← hp, ← hv] at hrun
 rw [← hv] at hown
 have hnb : ∀ k, v.ownBlock = some k → ¬ k = b := fun k hk e => hown.not_map hobj (by rw [hk, e])
 refine ⟨w2, s, v, ?_, by rw [← hp]; exact Own1.flat_kept pt_flat hown hK hnb, hK, hsz, fun k hk => ?_, ?_⟩
 rotate_left
 ·by_cases hi : mapIx vs p < vs.length
  ·have h1 : v = (vs[mapIx vs p]'hi).2 := by rw [hv, mapGet, List.getElem?_eq_getElem hi]; rfl
   exact ⟨_, hi, by rw [← h1]; exact hk⟩
  ·have h1 : v = .slice none 0 0 := by rw [hv, mapGet, List.getElem?_eq_none (by omega)]; rfl
   rw [h1] at hk; cases hk
 rotate_left
 ·have : (goInt (s : Nat) : Value) = .int .i64 ((s : Nat) : Int) := rfl
  rw [← this, ← hrun, hp]
 intro v1 w3 M HO hg hat
 rw [← hp] at HO hS
 have hK3 : KeptS (fun k => v.ownBlock = some k) w2 w3 := kept_grown hg (fun c e => e)
 have hS3 := hS.kept hK3 (fun e => hnb b e rfl)
 have hi3 : mapIx vs p < (if mapIx vs p < vs.length then vs else vs ++ [(p, Value.slice none 0 0)]).length := by
  by_cases hi : mapIx vs p < vs.length
  ·rw [if_pos hi]; exact hi
  ·rw [if_neg hi, List.length_append]
   have : mapIx vs p ≤ vs.length := mapIx_le'
   simp; omega
 obtain ⟨w4, hrun4, hM4, hK4, hsz4⟩ := hS3.put (P := Tryz.prog) (t := 83) hi3 v1
 obtain ⟨vs', hvs'⟩ : ∃ vs', vs' = (if mapIx vs p < vs.length then vs else vs ++ [(p, Value.slice none 0 0)]).set (mapIx vs p) (((if mapIx vs p < vs.length then vs else vs ++ [(p, Value.slice none 0 0)])[mapIx vs p]'hi3).1, v1) := ⟨_, rfl⟩
 rw [← hvs'] at hM4
 refine ⟨w4, vs', hrun4, ?_, hK4⟩
 have hgk : ∀ k, v1.ownBlock = some k → ¬ k = b := fun k hk e => by
  rcases hat with h1 | ⟨c, h1, h2⟩
  ·exact hnb k (by rw [← h1]; exact hk) e
  ·rw [h1] at hk; cases hk
   have := h.map.lt
   omega
 have row1 : Own1 Ty.pt 24 base w4 v1 (gi l p ++ [x.2]) := Own1.flat_kept pt_flat (Own1.of HO) hK4 hgk
 have old : ∀ (j : Nat) (hj : j < vs.length), j ≠ mapIx vs p → Own1 Ty.pt 24 base w4 (vs[j]'hj).2 (gi l (vs[j]'hj).1) ∧ ∀ k, (vs[j]'hj).2.ownBlock = some k → v1.ownBlock ≠ some k := by
  intro j hj hne
  have h0 := h.rows j hj
  have hjb : ∀ k, (vs[j]'hj).2.ownBlock = some k → ¬ k = b := fun k hk e => h0.not_map hobj (by rw [hk, e])
  have hjv : ∀ k, (vs[j]'hj).2.ownBlock = some k → v.ownBlock ≠ some k := by
   intro k hk e
   by_cases hi : mapIx vs p < vs.length
   ·have h1 : v = (vs[mapIx vs p]'hi).2 := by rw [hv, mapGet, List.getElem?_eq_getElem hi]; rfl
    rw [h1] at e
    exact h.apart j _ hj hi hne k hk e
   ·have h1 : v = .slice none 0 0 := by rw [hv, mapGet, List.getElem?_eq_none (by omega)]; rfl
    rw [h1] at e; cases e
  have h1 := Own1.flat_kept pt_flat h0 hK hjb
  have h2 := Own1.flat_kept pt_flat h1 hK3 (fun k hk e => hjv k hk e)
  refine ⟨Own1.flat_kept pt_flat h2 hK4 hjb, fun k hk e => ?_⟩
  rcases hat with h3 | ⟨c, h3, h4⟩
  ·exact hjv k hk (by rw [← h3]; exact e)
  ·rw [h3] at e; cases e
   have := (OwnR.lt h0 _ hk).2
   omega
 have gother : ∀ q, q ≠ p → gi (l ++ [x]) q = gi l q := fun q hq => by rw [gi_snoc, if_neg (by rw [← hp]; exact fun e => hq e.symm)]
 have gsame : gi (l ++ [x]) p = gi l p ++ [x.2] := by rw [gi_snoc, if_pos hp.symm]
 by_cases hi : mapIx vs p < vs.length
 ·have hkp := mapIx_lt hi
  have hvs2 : vs' = vs.set (mapIx vs p) ((vs[mapIx vs p]'hi).1, v1) := by rw [hvs']; simp only [if_pos hi]
  clear hvs'
  subst hvs2
  have hnod : (vs.map Prod.fst).Nodup := by obtain ⟨_, _, _, _, _, h5, _⟩ := h.map; exact h5
  have hkne : ∀ (j : Nat) (hj : j < vs.length), j ≠ mapIx vs p → (vs[j]'hj).1 ≠ p := by
   intro j hj hne e
   apply hne
   exact (mapIx_at hnod hj e).symm
  refine ⟨hM4, ?_, ?_, ?_⟩
  ·rw [atL_snoc, dk_snoc, ← hp, if_pos (hin.1 hi), ← h.keys, List.map_set]
   have e0 : (vs[mapIx vs p]'hi).1 = (vs.map Prod.fst)[mapIx vs p]'(by rw [List.length_map]; exact hi) := by simp
   rw [e0]; exact List.set_getElem_self _
  ·intro j hj
   rw [List.length_set] at hj
   by_cases e : j = mapIx vs p
   ·subst e
    simp only [List.getElem_set_self]
    rw [hkp, gsame]; exact row1
   ·rw [List.getElem_set_ne (fun h => e h.symm)]
    rw [gother _ (hkne j hj e)]
    exact (old j hj e).1
  ·intro i j hi' hj hne k hk
   rw [List.length_set] at hi' hj
   by_cases e : i = mapIx vs p
   ·subst e
    simp only [List.getElem_set_self] at hk
    rw [List.getElem_set_ne (fun h => hne h)]
    exact fun e2 => (old j hj (fun h => hne h.symm)).2 k e2 hk
   ·rw [List.getElem_set_ne (fun h => e h.symm)] at hk
    by_cases e2 : j = mapIx vs p
    ·subst e2
     simp only [List.getElem_set_self]
     exact (old i hi' e).2 k hk
    ·rw [List.getElem_set_ne (fun h => e2 h.symm)]
     exact h.apart i j hi' hj hne k hk
 ·have hix : mapIx vs p = vs.length := by
   have : mapIx vs p ≤ vs.length := mapIx_le'
   omega
  have hpn : p ∉ dk (atL l) := fun hm => hi (hin.2 hm)
  have eset : (vs ++ [(p, Value.slice none 0 0)]).set vs.length (p, v1) = vs ++ [(p, v1)] := by
   rw [List.set_append_right _ _ (Nat.le_refl _)]; simp
  have e1 : ((if mapIx vs p < vs.length then vs else vs ++ [(p, Value.slice none 0 0)])[mapIx vs p]'hi3).1 = p := by
   simp [if_neg hi, hix]
  have hvs2 : vs' = vs ++ [(p, v1)] := by rw [hvs', e1, if_neg hi, hix, eset]
  clear hvs' e1 eset
  subst hvs2
  have hkne : ∀ (j : Nat) (hj : j < vs.length), (vs[j]'hj).1 ≠ p := fun j hj e => hpn (by rw [← h.keys]; exact List.mem_map.2 ⟨_, List.getElem_mem hj, e⟩)
  refine ⟨hM4, ?_, ?_, ?_⟩
  ·rw [atL_snoc, dk_snoc, ← hp, if_neg hpn, ← h.keys]; simp
  ·intro j hj
   rw [List.length_append] at hj
   by_cases e : j < vs.length
   ·rw [List.getElem_append_left e]
    rw [gother _ (hkne j e)]
    exact (old j e (by omega)).1
   ·obtain rfl : j = vs.length := by simp at hj; omega
    simp only [List.getElem_concat_length]
    rw [gsame]; exact row1
  ·intro i j hi' hj hne k hk
   rw [List.length_append] at hi' hj
   simp only [List.length_cons, List.length_nil] at hi' hj
   by_cases e : i < vs.length
   ·rw [List.getElem_append_left e] at hk
    by_cases e2 : j < vs.length
    ·rw [List.getElem_append_left e2]
     exact h.apart i j e e2 hne k hk
    ·obtain rfl : j = vs.length := by omega
     simp only [List.getElem_concat_length]
     exact (old i e (by omega)).2 k hk
   ·obtain rfl : i = vs.length := by omega
    simp only [List.getElem_concat_length] at hk
    rw [List.getElem_append_left (show j < vs.length by omega)]
    exact fun e2 => (old j (by omega) (by omega)).2 k e2 hk
theorem kept_own {S : Nat → Prop} {w W w1 : World} {row : Option Nat} (h : KeptS S w W) (hg : W.grownBy w1 row) (hr : ∀ b, row = some b → w.heap.size ≤ b) : KeptS S w w1 :=
 ⟨hg.os.trans h.os, hg.tape.trans h.tape, hg.output.trans h.output, Nat.le_trans h.size hg.size, fun i hi hne => (hg.block i (Nat.lt_of_lt_of_le hi h.size) (fun e => by have := hr i e.symm; omega)).trans (h.block i hi hne)⟩

/-! ### a set of segments -/
section
variable {κ : Type} [DecidableEq κ] {P : Program} {kt et t : TypeId} {enc : κ → Value} {w w' : World} {b : Nat} {vs : List (κ × Value)}
theorem map_eraseIdx' {α β : Type} (f : α → β) : ∀ (l : List α) (i : Nat), (l.eraseIdx i).map f = (l.map f).eraseIdx i
 | [], i => by simp
 | x :: l, 0 => by simp
 | x :: l, i + 1 => by simp [map_eraseIdx' f l i]
def mapDel (vs : List (κ × Value)) (k : κ) : List (κ × Value) := vs.eraseIdx (mapIx vs k)
theorem OwnMap.delete (h : OwnMap enc w b vs) (K : KeyOk P kt enc) (ht : P.underlying t = some (.map kt et)) (k : κ) (u : TypeId) (ty : TypeId) :
  ∃ w', (Builtin.delete_ #[t, u] ty #[.map (some b), enc k]).run P w = .ok (.tuple #[]) w' ∧ OwnMap enc w' b (mapDel vs k) ∧ KeptS (fun i => i = b) w w' ∧ w'.heap.size = w.heap.size := by
 have hbl := h.lt
 obtain ⟨es, clock, hb, hk, hv, hn, hbn, hc⟩ := h
 have hl : es.toList.length = vs.length := by have := congrArg List.length hv; simpa using this
 have hf := K.find k es.toList (vs.map Prod.fst) w hk
 have hix : (vs.map Prod.fst).idxOf k = mapIx vs k := rfl
 rw [hix] at hf
 by_cases hi : mapIx vs k < vs.length
 ·have hi' : mapIx vs k < es.toList.length := by rw [hl]; exact hi
  rw [List.getElem?_eq_getElem hi', Option.map_some] at hf
  obtain ⟨hkp, hat⟩ := set_heap hbl (.map (es.eraseIdxIfInBounds (mapIx vs k)) clock)
  refine ⟨_, ?_, ⟨es.eraseIdxIfInBounds (mapIx vs k), clock, hat, ?_, ?_, ?_, ?_, ?_⟩, hkp, by simp⟩
  ·simp only [Builtin.delete_, List.getElem?_toArray, List.getElem?_cons_zero, List.getElem?_cons_succ, Sem.run_bind, run_underlying ht, Result.andThen_ok, MapKept.run_getObj_map hb, K.check, hf, MapKept.run_setObj_map _ hb, Sem.run_pure]
  ·simp only [mapDel, Array.toList_eraseIdxIfInBounds, map_eraseIdx', hk]
  ·simp only [mapDel, Array.toList_eraseIdxIfInBounds, map_eraseIdx', hv]
  ·simp only [mapDel, map_eraseIdx']
   exact hn.sublist (List.eraseIdx_sublist _ _)
  ·simp only [Array.toList_eraseIdxIfInBounds, map_eraseIdx']
   exact hbn.sublist (List.eraseIdx_sublist _ _)
  ·intro e he
   rw [Array.toList_eraseIdxIfInBounds] at he
   exact hc e ((List.eraseIdx_sublist _ _).subset he)
 ·have hi' : es.toList.length ≤ mapIx vs k := by rw [hl]; omega
  rw [List.getElem?_eq_none hi', Option.map_none] at hf
  obtain ⟨hkp, hat⟩ := set_heap hbl (.map es clock)
  refine ⟨_, ?_, ⟨es, clock, hat, ?_, ?_, ?_, hbn, hc⟩, hkp, by simp⟩
  ·simp only [Builtin.delete_, List.getElem?_toArray, List.getElem?_cons_zero, List.getElem?_cons_succ, Sem.run_bind, run_underlying ht, Result.andThen_ok, MapKept.run_getObj_map hb, K.check, hf, MapKept.run_setObj_map _ hb, Sem.run_pure]
  ·rw [mapDel, List.eraseIdx_of_length_le (by omega)]; exact hk
  ·rw [mapDel, List.eraseIdx_of_length_le (by omega)]; exact hv
  ·rw [mapDel, List.eraseIdx_of_length_le (by omega)]; exact hn
theorem mapGet_del {vs : List (κ × Value)} (hn : (vs.map Prod.fst).Nodup) (k j : κ) : mapGet (mapDel vs k) j = if j = k then none else mapGet vs j := by
 have hn2 : ((mapDel vs k).map Prod.fst).Nodup := by
  rw [mapDel, map_eraseIdx']; exact hn.sublist (List.eraseIdx_sublist _ _)
 have mem : ∀ (l : List (κ × Value)), (l.map Prod.fst).Nodup → ∀ x : κ × Value, x ∈ l → mapGet l x.1 = some x.2 := by
  intro l hl x hx
  obtain ⟨i, hi, rfl⟩ := List.getElem_of_mem hx
  rw [mapGet, mapIx_of hl hi rfl, List.getElem?_eq_getElem hi]; rfl
 have nomem : ∀ (l : List (κ × Value)) (x : κ), x ∉ l.map Prod.fst → mapGet l x = none := by
  intro l x hx
  apply Classical.byContradiction
  intro h
  have := mapIx_lt_iff.2 h
  exact hx (List.mem_map.2 ⟨_, List.getElem_mem this, mapIx_lt this⟩)
 by_cases hi : mapIx vs k < vs.length
 ·have hk := mapIx_lt hi
  by_cases hj : j = k
  ·rw [if_pos hj]
   apply nomem
   rw [hj, mapDel, map_eraseIdx']
   intro hm
   have e : (vs.map Prod.fst).eraseIdx (mapIx vs k) = (vs.map Prod.fst).erase k := by
    rw [List.erase_eq_eraseIdx_of_idxOf rfl]; rfl
   rw [e] at hm
   exact (List.Nodup.not_mem_erase hn) hm
  ·rw [if_neg hj]
   by_cases hm : j ∈ vs.map Prod.fst
   ·obtain ⟨x, hx, rfl⟩ := List.mem_map.1 hm
    rw [mem vs hn x hx]
    apply mem _ hn2
    rw [mapDel, List.mem_eraseIdx_iff_getElem?]
    obtain ⟨i, hi2, rfl⟩ := List.getElem_of_mem hx
    refine ⟨i, fun e => hj ?_, List.getElem?_eq_getElem hi2⟩
    have e2 := mapIx_of hn hi2 rfl
    subst e
    exact hk
   ·rw [nomem vs j hm]
    apply nomem
    intro h
    rw [mapDel, map_eraseIdx'] at h
    exact hm ((List.eraseIdx_sublist _ _).subset h)
 ·have : mapDel vs k = vs := by rw [mapDel, List.eraseIdx_of_length_le (by omega)]
  rw [this]
  by_cases hj : j = k
  ·rw [if_pos hj, hj]; exact Classical.byContradiction (fun h => hi (mapIx_lt_iff.2 h))
  ·rw [if_neg hj]
end
theorem mapGet_putS {κ : Type} [DecidableEq κ] (vs : List (κ × Value)) (k j : κ) (v : Value) : mapGet (mapPut vs k v) j = if j = k then some v else mapGet vs j := by
 unfold mapPut
 by_cases hi : mapIx vs k < vs.length
 ·rw [if_pos hi]; exact mapGet_set hi v j
 ·rw [if_neg hi]; exact mapGet_snoc hi v j
/-- Block b is the set of the segments of a list. -/
def RM (w : World) (b : Nat) (l : Sgs) : Prop := ∃ vs : List (Sg × Value), OwnMap sgV w b vs ∧ ∀ s, mapGet vs s = if s ∈ l then some (.bool true) else none
theorem RM.made (w : World) : RM (w.alloc (.map #[] 0)) w.heap.size [] := ⟨[], OwnMap.made w sgV, fun p => by simp [mapGet]⟩
theorem RM.kept {w w' : World} {b : Nat} {l : Sgs} {S : Nat → Prop} (h : RM w b l) (k : KeptS S w w') (hs : ¬ S b) : RM w' b l := by
 obtain ⟨vs, h1, h2⟩ := h
 exact ⟨vs, h1.kept k hs, h2⟩
theorem RM.below {w w' : World} {b : Nat} {l : Sgs} (h : RM w b l) (hb : Below w.heap.size w w') : RM w' b l := by
 obtain ⟨vs, h1, h2⟩ := h
 exact ⟨vs, h1.below hb, h2⟩
theorem RM.lt {w : World} {b : Nat} {l : Sgs} (h : RM w b l) : b < w.heap.size := by
 obtain ⟨vs, h1, _⟩ := h; exact h1.lt
theorem RM.get {w : World} {b : Nat} {l : Sgs} (h : RM w b l) (s : Sg) : (Instr.lookup 84 (.map (some b)) (sgV s) false).run Tryz.prog w = .ok (.bool (decide (s ∈ l))) w := by
 obtain ⟨vs, h1, h2⟩ := h
 have := h1.lookup (P := Tryz.prog) (t := 84) (kt := 32) (et := 4) keySg (by kernel_rfl) (z := .bool false) (by kernel_rfl) s false
 rw [this, h2 s]
 by_cases hs : s ∈ l
 ·rw [if_pos hs]; simp [hs]
 ·rw [if_neg hs]; simp [hs]
theorem RM.put {w : World} {b : Nat} {l : Sgs} (h : RM w b l) (s : Sg) : ∃ w', (Instr.mapUpdate 84 (.map (some b)) (sgV s) (.bool true)).run Tryz.prog w = .ok () w' ∧ RM w' b (l ++ [s]) ∧ KeptS (fun i => i = b) w w' ∧ w'.heap.size = w.heap.size := by
 obtain ⟨vs, h1, h2⟩ := h
 obtain ⟨w', hrun, hM, hK, hs⟩ := h1.update (P := Tryz.prog) (t := 84) (kt := 32) (et := 4) keySg (by kernel_rfl) s (.bool true)
 refine ⟨w', hrun, ⟨_, hM, fun j => ?_⟩, hK, hs⟩
 rw [mapGet_putS, h2 j]
 by_cases hj : j = s
 ·subst hj; simp
 ·rw [if_neg hj]; simp [hj]
theorem RM.del {w : World} {b : Nat} {l : Sgs} (h : RM w b l) (s : Sg) (ty : TypeId) : ∃ w', (Builtin.delete_ #[84, 32] ty #[.map (some b), sgV s]).run Tryz.prog w = .ok (.tuple #[]) w' ∧ RM w' b (l.filter fun x => decide (x ≠ s)) ∧ KeptS (fun i => i = b) w w' ∧ w'.heap.size = w.heap.size := by
 obtain ⟨vs, h1, h2⟩ := h
 obtain ⟨w', hrun, hM, hK, hs⟩ := h1.delete (P := Tryz.prog) (t := 84) (kt := 32) (et := 4) keySg (by kernel_rfl) s 32 ty
 have hn : (vs.map Prod.fst).Nodup := by obtain ⟨_, _, _, _, _, h5, _⟩ := h1; exact h5
 refine ⟨w', hrun, ⟨_, hM, fun j => ?_⟩, hK, hs⟩
 rw [mapGet_del hn, h2 j]
 by_cases hj : j = s
 ·subst hj; simp
 ·rw [if_neg hj]; simp [hj]
end
end Go.Proofs.YtlmjciajpjdilaaGreat
