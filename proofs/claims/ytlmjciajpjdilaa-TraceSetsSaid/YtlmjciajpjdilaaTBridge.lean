/- The library's sort over rows that a call owns: worlds that have grown, how a row of flat structs lies for the sort, what stands behind it. No program is in sight. -/
import Derived.Test.YtlmjciajpjdilaaTGw
import Derived.Test.YtlmjciajpjdilaaTSortP
import Derived.Shelf.SlSortCmp.NoneTotal
namespace Go.Proofs.Ytlmjciajpjdilaa
open Go.RowKit
set_option linter.unusedVariables false
set_option linter.unusedSectionVars false

/-! ### the cells of a row of flat values -/
section
variable {α : Type} [Inhabited α] {enc : α → List Value} {k : Nat}
theorem flat_len (hk : ∀ x, (enc x).length = k) : ∀ xs : List α, (xs.flatMap enc).length = xs.length * k
  | [] => by simp
  | x :: xs => by rw [List.flatMap_cons, List.length_append, flat_len hk xs, hk, List.length_cons, Nat.add_mul]; omega
theorem flat_get (hk : ∀ x, (enc x).length = k) : ∀ (xs : List α) (i j : Nat), j < k → (xs.flatMap enc)[i * k + j]? = (xs[i]?).bind fun x => (enc x)[j]?
  | [], i, j, h => by simp
  | x :: xs, 0, j, h => by
    rw [List.flatMap_cons, Nat.zero_mul, Nat.zero_add, List.getElem?_append_left (by rw [hk]; exact h)]
    simp
  | x :: xs, i + 1, j, h => by
    rw [List.flatMap_cons, List.getElem?_append_right (by rw [hk, Nat.add_mul]; omega), hk]
    rw [show (i + 1) * k + j - k = i * k + j by rw [Nat.add_mul]; omega, flat_get hk xs i j h]
    simp
theorem flatK_list (hk : ∀ x, (enc x).length = k) (d : Array α) : Go.Sort.flatK enc k d = (d.toList.flatMap enc).toArray := by
  refine Go.Sort.ext_get! (by simp [flat_len hk]) fun t ht => ?_
  have ht' : t < d.size * k := by simpa using ht
  have k0 : 0 < k := by
    rcases Nat.eq_zero_or_pos k with h | h
    · subst h; simp at ht'
    · exact h
  have hm : t % k < k := Nat.mod_lt _ k0
  have hd : t / k < d.size := (Nat.div_lt_iff_lt_mul k0).2 ht'
  rw [Go.Sort.get_flatK _ _ _ t ht']
  have := flat_get hk d.toList (t / k) (t % k) hm
  rw [Nat.mul_comm, Nat.div_add_mod] at this
  rw [getElem!_pos d _ hd]
  simp only [getElem!_def, List.getElem?_toArray, this, Array.getElem?_toList, Array.getElem?_eq_getElem hd, Option.bind_some]
theorem reps_flat {hn : 0 < k} {h1 : ∀ x, ∀ u ∈ enc x, u.oneCell' = true} (hk : ∀ x, (enc x).length = k) (ok : Nat → Prop) (w : World) : ∀ xs : List α, Reps (Ty.flat k hn enc hk h1) ok w xs (xs.flatMap enc)
  | [] => rfl
  | x :: xs => ⟨enc x, _, rfl, rfl, reps_flat hk ok w xs⟩
theorem reps_flat_eq {hn : 0 < k} {h1 : ∀ x, ∀ u ∈ enc x, u.oneCell' = true} (hk : ∀ x, (enc x).length = k) {ok : Nat → Prop} {w : World} : ∀ {xs : List α} {cs : List Value}, Reps (Ty.flat k hn enc hk h1) ok w xs cs → cs = xs.flatMap enc
  | [], _, h => h
  | x :: xs, _, ⟨c, d, e, hc, hd⟩ => by
    rw [e, show c = enc x from hc, reps_flat_eq hk hd]; rfl
end
theorem putRow_map {α : Type} [Inhabited α] (enc : α → Value) (w : World) (blk : Nat) (d : Array α) : Go.Sort.putRow enc w blk 0 d = Go.Sort.putRow id w blk 0 (d.map enc) := by
  unfold Go.Sort.putRow
  refine Go.Sort.mapBlock_congr _ _ _ _ fun c _ _ _ => ?_
  apply Array.ext_getElem?
  intro k
  simp only [Go.Sort.putCells, Array.getElem?_mapIdx, Array.size_map]
  cases c[k]? with
  | none => rfl
  | some x =>
    simp only [Option.map_some, id]
    split
    · rename_i h
      rw [getElem!_pos d _ (by omega), getElem!_pos (d.map enc) _ (by simp; omega), Array.getElem_map]
    · rfl
section
variable {α : Type} {T : Ty α} {e : TypeId} {base g n c : Nat} {M : Nat → Prop} {w : World} {xs : List α}
theorem OwnR.cellsOf (HO : OwnR T e base M w (.slice (some ⟨g, 0, none⟩) n c) xs) : ∃ inner, Reps T (fun k => ¬ M k) w xs inner ∧ Go.Sort.Holds id w g 0 inner.toArray ∧ g < w.heap.size := by
  obtain ⟨h0, inner, ho, hr⟩ := HO
  refine ⟨inner, hr, fun j hj => ?_, (OwnR.lt ⟨h0, inner, ho, hr⟩ g rfl).2⟩
  have hj' : j < inner.length := by simpa using hj
  have := ho.cells (g := g) rfl j inner[j] (by simp [hj'])
  rw [add_at, Nat.zero_add] at this
  refine ⟨by rw [Nat.zero_add, this]; simp [hj'], ?_⟩
  rcases ho.2 with ⟨h, _⟩ | ⟨g', cap, cur, hv, hb, hh, _⟩
  · cases h
  · injection hv with hv; injection hv with hv; injection hv with hv
    subst hv
    simp [World.frozen?, hh]
/-- Behind the sort: the row's cells hold other values of as many cells. -/
theorem OwnR.resorted {ys : List α} {inner' : List Value} (HO : OwnR T e base M w (.slice (some ⟨g, 0, none⟩) n c) xs) (hl : ys.length = xs.length) (hr' : Reps T (fun k => ¬ M k) w ys inner') (m : Nat) (os : Array Obj) {W : World} (hW : W = Go.Sort.grow (Go.Sort.putRow id (Go.Sort.ahead w m) g 0 inner'.toArray) os) :
    OwnR T e base M W (.slice (some ⟨g, 0, none⟩) n c) ys ∧ KeptS (fun k => k = g) w W := by
  have hgl := (OwnR.lt HO g rfl).2
  obtain ⟨h0, inner, ho, hr⟩ := HO
  have hg : M g := h0 g rfl
  have hli := hr'.len
  obtain ⟨hlen, ho⟩ := ho
  rcases ho with ⟨h, _⟩ | ⟨g', cap, cur, hv, hb, hh, h1, h2, h3, h4⟩
  · cases h
  injection hv with hv hvn hvc; injection hv with hv; injection hv with hv
  subst hv hvc hvn
  have hfit : inner'.length ≤ cur.size := by rw [hli, hl, h3]; exact Nat.mul_le_mul_right _ h1
  have hother : ∀ k, k < w.heap.size → k ≠ g → W.heap[k]? = w.heap[k]? := fun k hk hne => by
    rw [hW, Go.Sort.heap_grow_old _ _ (by simpa using hk)]
    show (w.heap.modify g _)[k]? = _
    rw [Array.getElem?_modify, if_neg (fun e => hne e.symm)]
  have hat : W.heap[g]? = some (.cells (Go.Sort.putCells id 0 inner'.toArray cur) e (0, 0)) := by
    rw [hW, Go.Sort.heap_grow_old _ _ (by simpa using hgl)]
    show (w.heap.modify g _)[g]? = _
    rw [Array.getElem?_modify, if_pos rfl, hh]; rfl
  have hk : KeptS (fun k => k = g) w W := ⟨by rw [hW]; rfl, by rw [hW]; rfl, by rw [hW]; rfl, by rw [hW]; simp, fun k hk hne => hother k hk hne⟩
  refine ⟨⟨h0, inner', ⟨hli, .inr ⟨g, c, _, by rw [hl], hb, hat, by rw [hl]; exact h1, h2, by simp [Go.Sort.putCells, h3], ?_⟩⟩, hr'.imp (fun x d hx => T.step hx (fun k hk' hlt => hother k hlt (fun e => hk' (e ▸ hg))))⟩, hk⟩
  rw [← hli]
  apply List.ext_getElem?
  intro j
  rw [List.getElem?_take]
  split
  · rename_i hj
    simp only [Go.Sort.putCells, Array.getElem?_toList, Array.getElem?_mapIdx]
    rw [Array.getElem?_eq_getElem (by omega)]
    simp only [Option.map_some, id, Nat.zero_le, List.size_toArray, Nat.zero_add, true_and, hj, if_true, Nat.sub_zero]
    rw [getElem!_pos inner'.toArray j (by simpa using hj)]
    simp [hj]
  · rename_i hj
    rw [List.getElem?_eq_none (by omega)]
end
theorem swo_of {α : Type} {less : α → α → Bool} {cf : α → α → Int} (T : Tot less) (h : ∀ x y, Go.Proofs.ltOf cf x y = less x y) : Go.Sort.SWO (Go.Proofs.ltOf cf) where
  irrefl := fun x => by rw [h]; exact T.irr x
  trans := fun x y z h1 h2 => by rw [h] at *; exact T.trans h1 h2
  ntrans := fun x y z h1 h2 => by
    rw [h] at *
    exact T.ntrans h2 h1
/-- slices.SortFunc over a row of flat structs that the call owns, under a total order. -/
theorem sortK_own {P : Program} {ρ : Go.Shelf.Ren} {α : Type} [Inhabited α] (L : Go.Proofs.SlLaysF0.n6 P ρ) {k : Nat} {hn : 0 < k} {enc : α → List Value} {h1 : ∀ x, ∀ u ∈ enc x, u.oneCell' = true} {hk : ∀ x, (enc x).length = k}
    (aE : ∀ w, (isAgg (ρ.t 24)).run P w = .ok true w) (zE : ∀ w, (Go.sizeOf (ρ.t 24)).run P w = .ok k w) {less : α → α → Bool} (cf : α → α → Int) (T : Tot less) (hcf : ∀ x y, Go.Proofs.ltOf cf x y = less x y) (q : Nat)
    (eg : ∀ args w, (callFunc q args).run P w = .ok (.enter q args) w) (hcmp : ∀ (x y : α) (W : World), Calls P q #[.agg (enc x).toArray, .agg (enc y).toArray] W fun e w' => e = .returned (.int .i64 (cf x y)) ∧ Gw W w')
    {e : TypeId} {base : Nat} {M : Nat → Prop} {w : World} {v : Value} {xs : List α} {A : Option Addr} {n c : Nat} (hv : v = .slice A n c) (hsm : xs.length ≤ 1000000000) (HO : OwnR (Ty.flat k hn enc hk h1) e base M w v xs) :
    Calls P (ρ.f 6) #[.slice A n c, .func (.func q) #[] #[]] w fun e' w' => e' = .returned (.tuple #[]) ∧ OwnR (Ty.flat k hn enc hk h1) e base M w' v (sortG less xs) ∧ KeptS (fun b => v.ownBlock = some b) w w' := by
  have hO := swo_of T hcf
  obtain ⟨A', c', hv', hc', hr, hg⟩ := HO.reads
  rw [hv] at hv'
  injection hv' with e1 e2 e3
  subst e1 e2 e3
  rcases Nat.eq_zero_or_pos xs.length with h0 | h0
  · obtain rfl : xs = [] := List.eq_nil_of_length_eq_zero h0
    exact (AnyF.slices_SortFunc_none { L with } A c _ w).mono fun e' w' ⟨he, hw⟩ => ⟨he, by rw [hw]; exact HO, by rw [hw]; exact kept_refl _ _⟩
  · obtain ⟨g, rfl, _⟩ := hg h0
    subst hv
    obtain ⟨inner, hi, hH, hgl⟩ := HO.cellsOf
    have hin := reps_flat_eq hk hi
    have hH' : Go.Sort.HoldsK enc k w g 0 xs.toArray := by
      unfold Go.Sort.HoldsK
      rw [flatK_list hk, ← hin]; exact hH
    have hsz : xs.toArray.size < 4611686018427387904 := by
      rw [List.size_toArray]; omega
    have hC : CmpLays P q #[] enc k cf g 0 xs.toArray.size w := fun m os dk hs x y => (hcmp x y _).mono fun e' w' ⟨he, hgw⟩ => ⟨he, hgw⟩
    have := AnyQ.slices_SortFunc L k aE zE enc hk h1 cf hO q #[] g 0 c xs.toArray w eg hC hH' hgl hsz
    rw [List.size_toArray] at this
    refine this.mono ?_
    rintro e' w' ⟨he, d', m, os, hp, hs, hw⟩
    have hp' : d'.toList.Perm xs := by
      obtain ⟨hs1, _, hp2⟩ := hp
      have e1 : d'.extract 0 xs.length = d' := by rw [show xs.length = d'.size by rw [hs1]; simp]; simp
      have e2 : xs.toArray.extract 0 xs.length = xs.toArray := by simp
      rw [e1, e2] at hp2
      simpa using hp2
    have hsrt : Srt less d'.toList := by
      refine List.pairwise_iff_getElem.2 fun i j hi hj hij => ?_
      have hl := hp'.length_eq
      have := hs i j (Nat.zero_le _) hij (by omega)
      rw [hcf, getElem!_pos d' i (by simpa using hi), getElem!_pos d' j (by simpa using hj)] at this
      simpa using this
    have hys := sortG_eq T hp' hsrt
    have := HO.resorted (ys := d'.toList) (inner' := d'.toList.flatMap enc) hp'.length_eq (reps_flat hk _ _ _) m os (W := w') (by rw [hw]; unfold sortWorldK Go.Sort.putRowK; rw [flatK_list hk])
    rw [hys] at this
    exact ⟨he, this.1, kept_mono this.2 (fun k _ hk => by rw [hk]; rfl)⟩
end Go.Proofs.Ytlmjciajpjdilaa
