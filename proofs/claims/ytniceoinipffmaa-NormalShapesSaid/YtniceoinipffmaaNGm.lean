/- Words of this session's own: a map of points to lists of IDs, in memory. -/
import Derived.Test.YtniceoinipffmaaNMergP
namespace Go.Proofs.Ytniceoinipffmaa
open Go.RowKit Go.Proofs.YtniceoinipffmaaW.PrintLast
set_option linter.unusedVariables false
set_option linter.unusedSimpArgs false

section
variable {κ : Type} [DecidableEq κ] {vs : List (κ × Value)} {k : κ}
theorem mapIx_mem : mapIx vs k < vs.length ↔ k ∈ vs.map Prod.fst := by
  constructor
  · intro hi; exact List.mem_map.2 ⟨_, List.getElem_mem hi, mapIx_lt hi⟩
  · intro hm; have := List.idxOf_lt_length_of_mem hm; rwa [List.length_map] at this
theorem mapIx_le : mapIx vs k ≤ vs.length := by
  have := List.idxOf_le_length (a := k) (l := vs.map Prod.fst)
  rwa [List.length_map] at this
theorem mapIx_at (hn : (vs.map Prod.fst).Nodup) {j : Nat} (hj : j < vs.length) (e : (vs[j]'hj).1 = k) : mapIx vs k = j := by
  have := List.Nodup.idxOf_getElem hn j (by rw [List.length_map]; exact hj)
  rw [List.getElem_map, e] at this
  exact this
end
/-- Block b is a map of the places' points to the IDs of the places there, each list in a row of its own. -/
structure GM (w : World) (base b : Nat) (vs : List (Pt × Value)) (l : List Place) : Prop where
  map : OwnMap ptV w b vs
  keys : vs.map Prod.fst = dk (atL l)
  rows : ∀ (i : Nat) (hi : i < vs.length), Own1 Ty.i64 3 base w (vs[i]'hi).2 (gi l (vs[i]'hi).1)
  apart : ∀ (i j : Nat) (hi : i < vs.length) (hj : j < vs.length), i ≠ j → ∀ k, (vs[i]'hi).2.ownBlock = some k → (vs[j]'hj).2.ownBlock ≠ some k
theorem Own1.not_map {α : Type} {T : Ty α} {e : TypeId} {base g : Nat} {w : World} {v : Value} {xs : List α} {es : Array MapEntry} {c : Nat} (h : Own1 T e base w v xs) (hg : w.heap[g]? = some (.map es c)) : v.ownBlock ≠ some g := by
  intro hk
  obtain ⟨_, _, ⟨_, h2⟩, _⟩ := h
  rcases h2 with ⟨rfl, _⟩ | ⟨g', cap, cur, rfl, _, hh, _⟩
  · cases hk
  cases hk
  rw [hh] at hg
  cases hg
theorem OwnMap.obj {κ : Type} [DecidableEq κ] {enc : κ → Value} {w : World} {b : Nat} {vs : List (κ × Value)} (h : OwnMap enc w b vs) : ∃ es c, w.heap[b]? = some (.map es c) := by
  obtain ⟨es, c, h, _⟩ := h; exact ⟨es, c, h⟩
theorem GM.made {w : World} {base b : Nat} (h : OwnMap ptV w b []) : GM w base b [] [] := ⟨h, by simp [dk, atL], fun i hi => absurd hi (by simp), fun i j hi => absurd hi (by simp)⟩
theorem GM.kept {w w' : World} {base b : Nat} {vs : List (Pt × Value)} {l : List Place} {S : Nat → Prop} (h : GM w base b vs l) (k : KeptS S w w') (hb : ¬ S b) (hr : ∀ (i : Nat) (hi : i < vs.length) (g : Nat), (vs[i]'hi).2.ownBlock = some g → ¬ S g) : GM w' base b vs l :=
  ⟨h.map.kept k hb, h.keys, fun i hi => Own1.flat_kept int_flat (h.rows i hi) k (hr i hi), h.apart⟩
theorem GM.below {w w' : World} {base b : Nat} {vs : List (Pt × Value)} {l : List Place} (h : GM w base b vs l) (k : Below w.heap.size w w') : GM w' base b vs l :=
  h.kept (S := fun _ => False) (kept_of_below k) id (fun _ _ _ _ hf => hf)
/-- groups[p] = append(groups[p], id) -/
theorem GM.add {w : World} {base b : Nat} {vs : List (Pt × Value)} {l : List Place} (h : GM w base b vs l) (x : Place) (hbase : base ≤ w.heap.size) (hbb : b < base) :
    ∃ w2 s v, (Instr.mapEntry 86 (.map (some b)) (.agg #[.int .i64 x.2.1.1, .int .i64 x.2.1.2])).run Try.prog w = .ok (.tuple #[v, .int .i64 ((s : Nat) : Int)]) w2 ∧ Own1 Ty.i64 3 base w2 v (gi l x.2.1) ∧ KeptS (fun i => i = b) w w2 ∧ w2.heap.size = w.heap.size ∧ (∀ k, v.ownBlock = some k → ∃ (i : Nat) (hi : i < vs.length), (vs[i]'hi).2.ownBlock = some k) ∧
      ∀ v1 w3 M, OwnR Ty.i64 3 base M w3 v1 (gi l x.2.1 ++ [x.1]) → w2.grownBy w3 v.ownBlock → (v1.ownBlock = v.ownBlock ∨ ∃ c, v1.ownBlock = some c ∧ w2.heap.size ≤ c) →
        ∃ w4 vs', (Instr.entryStore 86 (.map (some b)) (.int .i64 ((s : Nat) : Int)) v1).run Try.prog w3 = .ok () w4 ∧ GM w4 base b vs' (l ++ [x]) ∧ KeptS (fun i => i = b) w3 w4 := by
  obtain ⟨w2, s, hrun, hS, hK, hsz⟩ := h.map.entry keyPt (t := 86) (et := 39) (by kernel_rfl) (z := .slice none 0 0) (fun w => by kernel_rfl) x.2.1
  obtain ⟨es, c, hobj⟩ := h.map.obj
  obtain ⟨p, hp⟩ : ∃ p, p = x.2.1 := ⟨_, rfl⟩
  have hlk : (vs.map Prod.fst).length = vs.length := List.length_map ..
  have hin : mapIx vs p < vs.length ↔ p ∈ dk (atL l) := by
    rw [← h.keys]; exact mapIx_mem
  have hown : Own1 Ty.i64 3 base w ((mapGet vs p).getD (.slice none 0 0)) (gi l p) := by
    by_cases hi : mapIx vs p < vs.length
    · have h1 : mapGet vs p = some (vs[mapIx vs p]'hi).2 := by rw [mapGet, List.getElem?_eq_getElem hi]; rfl
      have h2 := h.rows _ hi
      rw [mapIx_lt hi] at h2
      rw [h1]; exact h2
    · have h1 : mapGet vs p = none := by rw [mapGet, List.getElem?_eq_none (by omega)]; rfl
      have h2 : p ∉ atL l := fun hm => hi (hin.2 ((dk_mem _ _).2 hm))
      rw [h1, gi_none h2]
      exact OwnR.nil _ _ _ _ _
  obtain ⟨v, hv⟩ : ∃ v, v = (mapGet vs p).getD (.slice none 0 0) := ⟨_, rfl⟩
  rw [← hp, ← hv] at hrun
  rw [← hv] at hown
  have hnb : ∀ k, v.ownBlock = some k → ¬ k = b := fun k hk e => hown.not_map hobj (by rw [hk, e])
  refine ⟨w2, s, v, ?_, by rw [← hp]; exact Own1.flat_kept int_flat hown hK hnb, hK, hsz, fun k hk => ?_, ?_⟩
  rotate_left
  · by_cases hi : mapIx vs p < vs.length
    · have h1 : v = (vs[mapIx vs p]'hi).2 := by rw [hv, mapGet, List.getElem?_eq_getElem hi]; rfl
      exact ⟨_, hi, by rw [← h1]; exact hk⟩
    · have h1 : v = .slice none 0 0 := by rw [hv, mapGet, List.getElem?_eq_none (by omega)]; rfl
      rw [h1] at hk; cases hk
  rotate_left
  · have : (goInt (s : Nat) : Value) = .int .i64 ((s : Nat) : Int) := rfl
    rw [← this, ← hrun, hp]; rfl
  intro v1 w3 M HO hg hat
  rw [← hp] at HO hS
  have hK3 : KeptS (fun k => v.ownBlock = some k) w2 w3 := kept_grown hg (fun c e => e)
  have hS3 := hS.kept hK3 (fun e => hnb b e rfl)
  have hi3 : mapIx vs p < (if mapIx vs p < vs.length then vs else vs ++ [(p, Value.slice none 0 0)]).length := by
    by_cases hi : mapIx vs p < vs.length
    · rw [if_pos hi]; exact hi
    · rw [if_neg hi, List.length_append]
      have : mapIx vs p ≤ vs.length := mapIx_le
      simp; omega
  obtain ⟨w4, hrun4, hM4, hK4, hsz4⟩ := hS3.put (P := Try.prog) (t := 86) hi3 v1
  obtain ⟨vs', hvs'⟩ : ∃ vs', vs' = (if mapIx vs p < vs.length then vs else vs ++ [(p, Value.slice none 0 0)]).set (mapIx vs p) (((if mapIx vs p < vs.length then vs else vs ++ [(p, Value.slice none 0 0)])[mapIx vs p]'hi3).1, v1) := ⟨_, rfl⟩
  rw [← hvs'] at hM4
  refine ⟨w4, vs', hrun4, ?_, hK4⟩
  have hgk : ∀ k, v1.ownBlock = some k → ¬ k = b := fun k hk e => by
    rcases hat with h1 | ⟨c, h1, h2⟩
    · exact hnb k (by rw [← h1]; exact hk) e
    · rw [h1] at hk; cases hk
      have := h.map.lt
      omega
  have row1 : Own1 Ty.i64 3 base w4 v1 (gi l p ++ [x.1]) := Own1.flat_kept int_flat (Own1.of HO) hK4 hgk
  have old : ∀ (j : Nat) (hj : j < vs.length), j ≠ mapIx vs p → Own1 Ty.i64 3 base w4 (vs[j]'hj).2 (gi l (vs[j]'hj).1) ∧ ∀ k, (vs[j]'hj).2.ownBlock = some k → v1.ownBlock ≠ some k := by
    intro j hj hne
    have h0 := h.rows j hj
    have hjb : ∀ k, (vs[j]'hj).2.ownBlock = some k → ¬ k = b := fun k hk e => h0.not_map hobj (by rw [hk, e])
    have hjv : ∀ k, (vs[j]'hj).2.ownBlock = some k → v.ownBlock ≠ some k := by
      intro k hk e
      by_cases hi : mapIx vs p < vs.length
      · have h1 : v = (vs[mapIx vs p]'hi).2 := by rw [hv, mapGet, List.getElem?_eq_getElem hi]; rfl
        rw [h1] at e
        exact h.apart j _ hj hi hne k hk e
      · have h1 : v = .slice none 0 0 := by rw [hv, mapGet, List.getElem?_eq_none (by omega)]; rfl
        rw [h1] at e; cases e
    have h1 := Own1.flat_kept int_flat h0 hK hjb
    have h2 := Own1.flat_kept int_flat h1 hK3 (fun k hk e => hjv k hk e)
    refine ⟨Own1.flat_kept int_flat h2 hK4 hjb, fun k hk e => ?_⟩
    rcases hat with h3 | ⟨c, h3, h4⟩
    · exact hjv k hk (by rw [← h3]; exact e)
    · rw [h3] at e; cases e
      have := (OwnR.lt h0 _ hk).2
      omega
  have gother : ∀ q, q ≠ p → gi (l ++ [x]) q = gi l q := fun q hq => by rw [gi_snoc, if_neg (by rw [← hp]; exact fun e => hq e.symm)]
  have gsame : gi (l ++ [x]) p = gi l p ++ [x.1] := by rw [gi_snoc, if_pos hp.symm]
  by_cases hi : mapIx vs p < vs.length
  · have hkp := mapIx_lt hi
    have hvs2 : vs' = vs.set (mapIx vs p) ((vs[mapIx vs p]'hi).1, v1) := by rw [hvs']; simp only [if_pos hi]
    clear hvs'
    subst hvs2
    have hnod : (vs.map Prod.fst).Nodup := by obtain ⟨_, _, _, _, _, h5, _⟩ := h.map; exact h5
    have hkne : ∀ (j : Nat) (hj : j < vs.length), j ≠ mapIx vs p → (vs[j]'hj).1 ≠ p := by
      intro j hj hne e
      apply hne
      exact (mapIx_at hnod hj e).symm
    refine ⟨hM4, ?_, ?_, ?_⟩
    · rw [atL_snoc, dk_snoc, ← hp, if_pos (hin.1 hi), ← h.keys, List.map_set]
      have e0 : (vs[mapIx vs p]'hi).1 = (vs.map Prod.fst)[mapIx vs p]'(by rw [List.length_map]; exact hi) := by simp
      rw [e0]; exact List.set_getElem_self _
    · intro j hj
      rw [List.length_set] at hj
      by_cases e : j = mapIx vs p
      · subst e
        simp only [List.getElem_set_self]
        rw [hkp, gsame]; exact row1
      · rw [List.getElem_set_ne (fun h => e h.symm)]
        rw [gother _ (hkne j hj e)]
        exact (old j hj e).1
    · intro i j hi' hj hne k hk
      rw [List.length_set] at hi' hj
      by_cases e : i = mapIx vs p
      · subst e
        simp only [List.getElem_set_self] at hk
        rw [List.getElem_set_ne (fun h => hne h)]
        exact fun e2 => (old j hj (fun h => hne h.symm)).2 k e2 hk
      · rw [List.getElem_set_ne (fun h => e h.symm)] at hk
        by_cases e2 : j = mapIx vs p
        · subst e2
          simp only [List.getElem_set_self]
          exact (old i hi' e).2 k hk
        · rw [List.getElem_set_ne (fun h => e2 h.symm)]
          exact h.apart i j hi' hj hne k hk
  · have hix : mapIx vs p = vs.length := by
      have : mapIx vs p ≤ vs.length := mapIx_le
      omega
    have hpn : p ∉ dk (atL l) := fun hm => hi (hin.2 hm)
    have eset : (vs ++ [(p, Value.slice none 0 0)]).set vs.length (p, v1) = vs ++ [(p, v1)] := by
      rw [List.set_append_right _ _ (Nat.le_refl _)]; simp
    have e1 : ((if mapIx vs p < vs.length then vs else vs ++ [(p, Value.slice none 0 0)])[mapIx vs p]'hi3).1 = p := by
      simp [if_neg hi, hix]
    have hvs2 : vs' = vs ++ [(p, v1)] := by rw [hvs', e1, if_neg hi, hix, eset]
    clear hvs' e1 eset
    subst hvs2
    have hkne : ∀ (j : Nat) (hj : j < vs.length), (vs[j]'hj).1 ≠ p := fun j hj e => hpn (by rw [← h.keys]; exact List.mem_map.2 ⟨_, List.getElem_mem hj, e⟩)
    refine ⟨hM4, ?_, ?_, ?_⟩
    · rw [atL_snoc, dk_snoc, ← hp, if_neg hpn, ← h.keys]; simp
    · intro j hj
      rw [List.length_append] at hj
      by_cases e : j < vs.length
      · rw [List.getElem_append_left e]
        rw [gother _ (hkne j e)]
        exact (old j e (by omega)).1
      · obtain rfl : j = vs.length := by simp at hj; omega
        simp only [List.getElem_concat_length]
        rw [gsame]; exact row1
    · intro i j hi' hj hne k hk
      rw [List.length_append] at hi' hj
      simp only [List.length_cons, List.length_nil] at hi' hj
      by_cases e : i < vs.length
      · rw [List.getElem_append_left e] at hk
        by_cases e2 : j < vs.length
        · rw [List.getElem_append_left e2]
          exact h.apart i j e e2 hne k hk
        · obtain rfl : j = vs.length := by omega
          simp only [List.getElem_concat_length]
          exact (old i e (by omega)).2 k hk
      · obtain rfl : i = vs.length := by omega
        simp only [List.getElem_concat_length] at hk
        rw [List.getElem_append_left (show j < vs.length by omega)]
        exact fun e2 => (old j (by omega) (by omega)).2 k e2 hk
theorem kept_own {S : Nat → Prop} {w W w1 : World} {row : Option Nat} (h : KeptS S w W) (hg : W.grownBy w1 row) (hr : ∀ b, row = some b → w.heap.size ≤ b) : KeptS S w w1 :=
  ⟨hg.os.trans h.os, hg.tape.trans h.tape, hg.output.trans h.output, Nat.le_trans h.size hg.size, fun i hi hne => (hg.block i (Nat.lt_of_lt_of_le hi h.size) (fun e => by have := hr i e.symm; omega)).trans (h.block i hi hne)⟩
theorem row_one {ok : Nat → Prop} {w : World} {g : Nat} {x : Int} (hok : ok g) (h : w.cell? ⟨g, 0, none⟩ = some (.int .i64 x)) : Row Ty.i64 ok w (some ⟨g, 0, none⟩) [x] := by
  refine ⟨by simp, fun _ => ⟨_, rfl, hok, fun i y hy => ?_⟩⟩
  have hi : i = 0 := by have := (List.getElem?_eq_some_iff.1 hy).1; simp at this; exact this
  subst hi
  simp at hy
  subst hy
  refine ⟨[.int .i64 x], rfl, fun j u hu => ?_⟩
  have hj : j = 0 := by have := (List.getElem?_eq_some_iff.1 hu).1; simp at this; exact this
  subst hj
  simp at hu
  subst hu
  exact h
theorem RngM.le {κ : Type} [DecidableEq κ] {enc : κ → Value} {w : World} {b r : Nat} {vs : List (κ × Value)} {ds : List Nat} (h : RngM enc w b r vs ds) : ds.length ≤ vs.length ∧ ds.Nodup ∧ ∀ i ∈ ds, i < vs.length := by
  obtain ⟨es, clock, since, c0, _, _, _, _, _, _, _, _, h1, h2⟩ := h
  refine ⟨?_, h1, h2⟩
  have := nodup_sub (m := List.range vs.length) h1 (fun x hx => List.mem_range.2 (h2 x hx))
  simpa using this
theorem RngM.objs {κ : Type} [DecidableEq κ] {enc : κ → Value} {w : World} {b r : Nat} {vs : List (κ × Value)} {ds : List Nat} (h : RngM enc w b r vs ds) : (∃ es c, w.heap[b]? = some (.map es c)) ∧ ∃ m s a c, w.heap[r]? = some (.mapIter m s a c) := by
  obtain ⟨es, clock, since, c0, h1, _, _, _, _, _, _, h2, _⟩ := h
  exact ⟨⟨_, _, h1⟩, ⟨_, _, _, _, h2⟩⟩
theorem OwnR.not_obj {α : Type} {T : Ty α} {e : TypeId} {base g : Nat} {M : Nat → Prop} {w : World} {v : Value} {xs : List α} (h : OwnR T e base M w v xs) (hg : ∀ cs t fr, w.heap[g]? ≠ some (.cells cs t fr)) : v.ownBlock ≠ some g := by
  intro hk
  obtain ⟨_, _, ⟨_, h2⟩, _⟩ := h
  rcases h2 with ⟨rfl, _⟩ | ⟨g', cap, cur, rfl, _, hh, _⟩
  · cases hk
  cases hk
  exact hg _ _ _ hh
end Go.Proofs.Ytniceoinipffmaa
