/- The library's sort over rows that a call owns: worlds that have grown, how a row of flat structs lies for the sort, what stands behind it. No program is in sight. Contract of noding.canon. Contracts of slices.Compact at segments and at points: neighbours that repeat are taken out. Contracts of slices.SortFunc at segments and points, of noding.Sort and noding.Unique. Plain facts on unique segments. Contract of slices.Equal at segments; append of a row at a step of a region. Contracts of slices.Index, Contains and Equal at ints, of sets.Has and of mesh.areas. Contracts of slices.Equal at ints, of simplify.leave. Words of this session's own: rows of edges that a call owns; corners as values. -/
import Derived.Test.YtaeflnbjeaoapaaGreatKPW
import Derived.Test.YtaeflnbjeaoapaaGreatKP1
import Derived.Test.YtaeflnbjeaoapaaGreatKP0
import Derived.Shelf.SlSortCmp.NoneTotal
import Derived.Test.YtaeflnbjeaoapaaGreatTLay
import Derived.Test.YtaeflnbjeaoapaaGreatKP3
import Derived.RegionTactic
namespace Go.Proofs.YtaeflnbjeaoapaaGreat
set_option linter.unusedVariables false
set_option linter.unusedSimpArgs false
section
open Go.RowKit
set_option linter.unusedSectionVars false

/-! ### the cells of a row of flat values -/
section
variable {α : Type} [Inhabited α] {enc : α → List Value} {k : Nat}
theorem flat_len (hk : ∀ x, (enc x).length = k) : ∀ xs : List α, (xs.flatMap enc).length = xs.length * k
 | [] => by simp
 | x :: xs => by rw [List.flatMap_cons, List.length_append, flat_len hk xs, hk, List.length_cons, Nat.add_mul]; omega
theorem flat_get (hk : ∀ x, (enc x).length = k) : ∀ (xs : List α) (i j : Nat), j < k → (xs.flatMap enc)[i * k + j]? = (xs[i]?).bind fun x => (enc x)[j]?
 | [], i, j, h => by simp
 | x :: xs, 0, j, h => by
  rw [List.flatMap_cons, Nat.zero_mul, Nat.zero_add, List.getElem?_append_left (by rw [hk]; exact h)]
  simp
 | x :: xs, i + 1, j, h => by
  rw [List.flatMap_cons, List.getElem?_append_right (by rw [hk, Nat.add_mul]; omega), hk]
  rw [show (i + 1) * k + j - k = i * k + j by rw [Nat.add_mul]; omega, flat_get hk xs i j h]
  simp
theorem flatK_list (hk : ∀ x, (enc x).length = k) (d : Array α) : Go.Sort.flatK enc k d = (d.toList.flatMap enc).toArray := by
 refine Go.Sort.ext_get! (by simp [flat_len hk]) fun t ht => ?_
 have ht' : t < d.size * k := by simpa using ht
 have k0 : 0 < k := by
  rcases Nat.eq_zero_or_pos k with h | h
  ·subst h; simp at ht'
  ·exact h
 have hm : t % k < k := Nat.mod_lt _ k0
 have hd : t / k < d.size := (Nat.div_lt_iff_lt_mul k0).2 ht'
 rw [Go.Sort.get_flatK _ _ _ t ht']
 have := flat_get hk d.toList (t / k) (t % k) hm
 rw [Nat.mul_comm, Nat.div_add_mod] at this
 rw [getElem!_pos d _ hd]
 simp only [getElem!_def, List.getElem?_toArray, this, Array.getElem?_toList, Array.getElem?_eq_getElem hd, Option.bind_some]
theorem reps_flat {hn : 0 < k} {h1 : ∀ x, ∀ u ∈ enc x, u.oneCell' = true} (hk : ∀ x, (enc x).length = k) (ok : Nat → Prop) (w : World) : ∀ xs : List α, Reps (Ty.flat k hn enc hk h1) ok w xs (xs.flatMap enc)
 | [] => rfl
 | x :: xs => ⟨enc x, _, rfl, rfl, reps_flat hk ok w xs⟩
theorem reps_flat_eq {hn : 0 < k} {h1 : ∀ x, ∀ u ∈ enc x, u.oneCell' = true} (hk : ∀ x, (enc x).length = k) {ok : Nat → Prop} {w : World} : ∀ {xs : List α} {cs : List Value}, Reps (Ty.flat k hn enc hk h1) ok w xs cs → cs = xs.flatMap enc
 | [], _, h => h
 | x :: xs, _, ⟨c, d, e, hc, hd⟩ => by
  rw [e, show c = enc x from hc, reps_flat_eq hk hd]; rfl
end
theorem putRow_map {α : Type} [Inhabited α] (enc : α → Value) (w : World) (blk : Nat) (d : Array α) : Go.Sort.putRow enc w blk 0 d = Go.Sort.putRow id w blk 0 (d.map enc) := by
 unfold Go.Sort.putRow
 refine Go.Sort.mapBlock_congr _ _ _ _ fun c _ _ _ => ?_
 apply Array.ext_getElem?
 intro k
 simp only [Go.Sort.putCells, Array.getElem?_mapIdx, Array.size_map]
 cases c[k]? with
 | none => rfl
 | some x =>
  simp only [Option.map_some, id]
  split
  ·rename_i h
   rw [getElem!_pos d _ (by omega), getElem!_pos (d.map enc) _ (by simp; omega), Array.getElem_map]
  ·rfl
section
variable {α : Type} {T : Ty α} {e : TypeId} {base g n c : Nat} {M : Nat → Prop} {w : World} {xs : List α}
theorem OwnR.cellsOf (HO : OwnR T e base M w (.slice (some ⟨g, 0, none⟩) n c) xs) : ∃ inner, Reps T (fun k => ¬ M k) w xs inner ∧ Go.Sort.Holds id w g 0 inner.toArray ∧ g < w.heap.size := by
 obtain ⟨h0, inner, ho, hr⟩ := HO
 refine ⟨inner, hr, fun j hj => ?_, (OwnR.lt ⟨h0, inner, ho, hr⟩ g rfl).2⟩
 have hj' : j < inner.length := by simpa using hj
 have := ho.cells (g := g) rfl j inner[j] (by simp [hj'])
 rw [add_at, Nat.zero_add] at this
 refine ⟨by rw [Nat.zero_add, this]; simp [hj'], ?_⟩
 rcases ho.2 with ⟨h, _⟩ | ⟨g', cap, cur, hv, hb, hh, _⟩
 ·cases h
 ·injection hv with hv; injection hv with hv; injection hv with hv
  subst hv
  simp [World.frozen?, hh]
/-- Behind the sort: the row's cells hold other values of as many cells. -/
theorem OwnR.resorted {ys : List α} {inner' : List Value} (HO : OwnR T e base M w (.slice (some ⟨g, 0, none⟩) n c) xs) (hl : ys.length = xs.length) (hr' : Reps T (fun k => ¬ M k) w ys inner') (m : Nat) (os : Array Obj) {W : World} (hW : W = Go.Sort.grow (Go.Sort.putRow id (Go.Sort.ahead w m) g 0 inner'.toArray) os) :
  OwnR T e base M W (.slice (some ⟨g, 0, none⟩) n c) ys ∧ KeptS (fun k => k = g) w W := by
 have hgl := (OwnR.lt HO g rfl).2
 obtain ⟨h0, inner, ho, hr⟩ := HO
 have hg : M g := h0 g rfl
 have hli := hr'.len
 obtain ⟨hlen, ho⟩ := ho
 rcases ho with ⟨h, _⟩ | ⟨g', cap, cur, hv, hb, hh, h1, h2, h3, h4⟩
 ·cases h
 injection hv with hv hvn hvc; injection hv with hv; injection hv with hv
 subst hv hvc hvn
 have hfit : inner'.length ≤ cur.size := by rw [hli, hl, h3]; exact Nat.mul_le_mul_right _ h1
 have hother : ∀ k, k < w.heap.size → k ≠ g → W.heap[k]? = w.heap[k]? := fun k hk hne => by
  rw [hW, Go.Sort.heap_grow_old _ _ (by simpa using hk)]
  show (w.heap.modify g _)[k]? = _
  rw [Array.getElem?_modify, if_neg (fun e => hne e.symm)]
 have hat : W.heap[g]? = some (.cells (Go.Sort.putCells id 0 inner'.toArray cur) e (0, 0)) := by
  rw [hW, Go.Sort.heap_grow_old _ _ (by simpa using hgl)]
  show (w.heap.modify g _)[g]? = _
  rw [Array.getElem?_modify, if_pos rfl, hh]; rfl
 have hk : KeptS (fun k => k = g) w W := ⟨by rw [hW]; rfl, by rw [hW]; rfl, by rw [hW]; rfl, by rw [hW]; simp, fun k hk hne => hother k hk hne⟩
 refine ⟨⟨h0, inner', ⟨hli, .inr ⟨g, c, _, by rw [hl], hb, hat, by rw [hl]; exact h1, h2, by simp [Go.Sort.putCells, h3], ?_⟩⟩, hr'.imp (fun x d hx => T.step hx (fun k hk' hlt => hother k hlt (fun e => hk' (e ▸ hg))))⟩, hk⟩
 rw [← hli]
 apply List.ext_getElem?
 intro j
 rw [List.getElem?_take]
 split
 ·rename_i hj
  simp only [Go.Sort.putCells, Array.getElem?_toList, Array.getElem?_mapIdx]
  rw [Array.getElem?_eq_getElem (by omega)]
  simp only [Option.map_some, id, Nat.zero_le, List.size_toArray, Nat.zero_add, true_and, hj, if_true, Nat.sub_zero]
  rw [getElem!_pos inner'.toArray j (by simpa using hj)]
  simp [hj]
 ·rename_i hj
  rw [List.getElem?_eq_none (by omega)]
end
theorem swo_of {α : Type} {less : α → α → Bool} {cf : α → α → Int} (T : Tot less) (h : ∀ x y, Go.Proofs.ltOf cf x y = less x y) : Go.Sort.SWO (Go.Proofs.ltOf cf) where
 irrefl := fun x => by rw [h]; exact T.irr x
 trans := fun x y z h1 h2 => by rw [h] at *; exact T.trans h1 h2
 ntrans := fun x y z h1 h2 => by
  rw [h] at *
  exact T.ntrans h2 h1
/-- slices.SortFunc over a row of flat structs that the call owns, under a total order. -/
theorem sortK_own {P : Program} {ρ : Go.Shelf.Ren} {α : Type} [Inhabited α] (L : Go.Proofs.SlLaysF0.n6 P ρ) {k : Nat} {hn : 0 < k} {enc : α → List Value} {h1 : ∀ x, ∀ u ∈ enc x, u.oneCell' = true} {hk : ∀ x, (enc x).length = k}
  (aE : ∀ w, (isAgg (ρ.t 24)).run P w = .ok true w) (zE : ∀ w, (Go.sizeOf (ρ.t 24)).run P w = .ok k w) {less : α → α → Bool} (cf : α → α → Int) (T : Tot less) (hcf : ∀ x y, Go.Proofs.ltOf cf x y = less x y) (q : Nat)
  (eg : ∀ args w, (callFunc q args).run P w = .ok (.enter q args) w) (hcmp : ∀ (x y : α) (W : World), Calls P q #[.agg (enc x).toArray, .agg (enc y).toArray] W fun e w' => e = .returned (.int .i64 (cf x y)) ∧ Gw W w')
  {e : TypeId} {base : Nat} {M : Nat → Prop} {w : World} {v : Value} {xs : List α} {A : Option Addr} {n c : Nat} (hv : v = .slice A n c) (hsm : xs.length ≤ 1000000000) (HO : OwnR (Ty.flat k hn enc hk h1) e base M w v xs) :
  Calls P (ρ.f 6) #[.slice A n c, .func (.func q) #[] #[]] w fun e' w' => e' = .returned (.tuple #[]) ∧ OwnR (Ty.flat k hn enc hk h1) e base M w' v (sortG less xs) ∧ KeptS (fun b => v.ownBlock = some b) w w' := by
 have hO := swo_of T hcf
 obtain ⟨A', c', hv', hc', hr, hg⟩ := HO.reads
 rw [hv] at hv'
 injection hv' with e1 e2 e3
 subst e1 e2 e3
 rcases Nat.eq_zero_or_pos xs.length with h0 | h0
 ·obtain rfl : xs = [] := List.eq_nil_of_length_eq_zero h0
  exact (AnyF.slices_SortFunc_none { L with } A c _ w).mono fun e' w' ⟨he, hw⟩ => ⟨he, by rw [hw]; exact HO, by rw [hw]; exact kept_refl _ _⟩
 ·obtain ⟨g, rfl, _⟩ := hg h0
  subst hv
  obtain ⟨inner, hi, hH, hgl⟩ := HO.cellsOf
  have hin := reps_flat_eq hk hi
  have hH' : Go.Sort.HoldsK enc k w g 0 xs.toArray := by
   unfold Go.Sort.HoldsK
   rw [flatK_list hk, ← hin]; exact hH
  have hsz : xs.toArray.size < 4611686018427387904 := by
   rw [List.size_toArray]; omega
  have hC : CmpLays P q #[] enc k cf g 0 xs.toArray.size w := fun m os dk hs x y => (hcmp x y _).mono fun e' w' ⟨he, hgw⟩ => ⟨he, hgw⟩
  have := AnyQ.slices_SortFunc L k aE zE enc hk h1 cf hO q #[] g 0 c xs.toArray w eg hC hH' hgl hsz
  rw [List.size_toArray] at this
  refine this.mono ?_
  rintro e' w' ⟨he, d', m, os, hp, hs, hw⟩
  have hp' : d'.toList.Perm xs := by
   obtain ⟨hs1, _, hp2⟩ := hp
   have e1 : d'.extract 0 xs.length = d' := by rw [show xs.length = d'.size by rw [hs1]; simp]; simp
   have e2 : xs.toArray.extract 0 xs.length = xs.toArray := by simp
   rw [e1, e2] at hp2
   simpa using hp2
  have hsrt : Srt less d'.toList := by
   refine List.pairwise_iff_getElem.2 fun i j hi hj hij => ?_
   have hl := hp'.length_eq
   have := hs i j (Nat.zero_le _) hij (by omega)
   rw [hcf, getElem!_pos d' i (by simpa using hi), getElem!_pos d' j (by simpa using hj)] at this
   simpa using this
  have hys := sortG_eq T hp' hsrt
  have := HO.resorted (ys := d'.toList) (inner' := d'.toList.flatMap enc) hp'.length_eq (reps_flat hk _ _ _) m os (W := w') (by rw [hw]; unfold sortWorldK Go.Sort.putRowK; rw [flatK_list hk])
  rw [hys] at this
  exact ⟨he, this.1, kept_mono this.2 (fun k _ hk => by rw [hk]; rfl)⟩
end
section
open Go.RowKit Go.Proofs.YtaeflnbjeaoapaaGreatW.PrintLast

theorem canon_snoc (l : Sgs) (k : Nat) (h : k < l.length) : canonZ (l.take (k + 1)) = canonZ (l.take k) ++ (if goodB (sgD l k) = true then [ofS (sgD l k)] else []) := by
 unfold canonZ
 rw [take_snoc l k ((0, 0), (0, 0)) h, List.filter_append, List.map_append]
 congr 1
 show List.map ofS ([sgD l k].filter goodB) = _
 by_cases hg : goodB (sgD l k) = true
 ·rw [if_pos hg, List.filter_cons_of_pos hg]; rfl
 ·rw [if_neg hg, List.filter_cons_of_neg hg]; rfl
theorem canon_le (l : Sgs) : (canonZ l).length ≤ l.length := by unfold canonZ; rw [List.length_map]; exact List.length_filter_le _ _
set_option maxHeartbeats 1000000 in
theorem noding_canon {ok : Nat → Prop} (l : Sgs) (A : Option Addr) (n c : Nat) (w : World) (hr : Row Ty.sg ok w A l) (hn : n = l.length) (hlen : l.length ≤ 2000000) :
  Calls Tryz.prog 79 #[.slice A n c] w fun e w' => ∃ v, e = .returned v ∧ Own1 Ty.sg 48 w.heap.size w' v (canonZ l) ∧ Below w.heap.size w w' := by
 subst hn
 have HR := Lib.hid hr
 clear hr
 go_enter Tryz.func79, Tryz.ntmps79
 go_wp2
 go_loopw [3, 8] (fun v i wr => ∃ k : Nat, k ≤ l.length ∧ i = .int .i64 k ∧ Below w.heap.size w wr ∧ Own1 Ty.sg 48 w.heap.size wr v (canonZ (l.take k))) (fun _ i _ => l.length - (intOf i).toNat)
 case atStart => exact ⟨0, Nat.zero_le _, rfl, Below.refl _ _, OwnR.nil _ _ _ _ _⟩
 case round =>
  obtain ⟨k, hk, rfl, BW, ho⟩ := hrel
  by_cases hlt : k < l.length
  ·have HRk := Lib.hid (HR.out.below BW)
   obtain ⟨ad, rfl, hx0, hx1, hx2, hx3⟩ := HRk.out.sg_at k hlt
   have HO := Lib.hid ho
   have HS := Lib.hid (canon_snoc l k hlt)
   have HL : Hid (((canonZ (l.take k)).length + 1) * 32 ≤ 140737488355328) := by
    have := canon_le (l.take k)
    rw [List.length_take] at this
    show _ ≤ _
    omega
   have hsz := BW.size
   clear ho HRk
   obtain ⟨s, hs⟩ : ∃ s, s = sgD l k := ⟨_, rfl⟩
   rw [← hs] at hx0 hx1 hx2 hx3 HS
   clear hs
   obtain ⟨⟨a1, a2⟩, ⟨b1, b2⟩⟩ := s
   simp only at hx0 hx1 hx2 hx3
   by_cases e0 : (a1, a2) = (b1, b2)
   ·obtain ⟨e1, e2⟩ := Prod.mk.inj e0
    subst e1 e2
    have HS2 : Hid (canonZ (l.take (k + 1)) = canonZ (l.take k)) := Lib.hid (by rw [HS.out, if_neg (by simp [goodB]), List.append_nil])
    clear HS e0
    go_wp2
    go_roundw
    case rel => exact ⟨k + 1, by omega, by go_num, (by repeat (first | exact Below.refl _ _ | apply below_alloc | apply below_drewN | apply below_drew | (refine below_set2 ?_ ?_; (first | (simp; done) | (simp; omega))) | (refine below_step ?_ BW))), by rw [HS2.out]; exact Own1.below HO.out bq⟩
    case measure => simp [intOf]; omega
   ·have HN : Hid (¬ ((a1, a2) : Pt) = (b1, b2)) := e0
    by_cases e1 : a1 = b1
    ·have e2 : ¬ a2 = b2 := fun e => e0 (by rw [e1, e])
     clear e0
     subst e1
     cases va : validB (a1, a2)
     ·have HS2 : Hid (canonZ (l.take (k + 1)) = canonZ (l.take k)) := Lib.hid (by rw [HS.out, if_neg (by simp [goodB, va]), List.append_nil])
      clear HS
      go_wp2_with fail
      refine (grid_Valid _ _ _).mono ?_
      rintro e w1 ⟨rfl, hb1⟩
      rw [va]
      go_wp2
      go_roundw
      case rel => exact ⟨k + 1, by omega, by go_num, (by repeat (first | exact Below.refl _ _ | apply below_alloc | apply below_drewN | apply below_drew | (refine below_set2 ?_ ?_; (first | (simp; done) | (simp; omega))) | (refine below_step ?_ hb1) | (refine below_step ?_ BW))), by rw [HS2.out]; exact Own1.below HO.out (by repeat (first | exact Below.refl _ _ | apply below_alloc | apply below_drewN | apply below_drew | (refine below_set2 ?_ ?_; (first | (simp; done) | (simp; omega))) | (refine below_step ?_ hb1)))⟩
      case measure => simp [intOf]; omega
     ·cases vb : validB (a1, b2)
      ·have HS2 : Hid (canonZ (l.take (k + 1)) = canonZ (l.take k)) := Lib.hid (by rw [HS.out, if_neg (by simp [goodB, vb]), List.append_nil])
       clear HS
       go_wp2_with fail
       (refine (grid_Valid _ _ _).mono ?_; rintro e w1 ⟨rfl, hb1⟩; obtain ⟨c_hb1, f_hb1⟩ := bcell hb1; have z_hb1 := hb1.size; (try simp at z_hb1); (try have y0_hb1 : wr.heap.size < w1.heap.size := by omega); (try have y1_hb1 : wr.heap.size + 1 < w1.heap.size := by omega); (try have y2_hb1 : wr.heap.size + 1 + 1 < w1.heap.size := by omega); (try have y3_hb1 : wr.heap.size + 1 + 1 + 1 < w1.heap.size := by omega); (try have y4_hb1 : wr.heap.size + 1 + 1 + 1 + 1 < w1.heap.size := by omega))
       rw [va]
       go_wp2_with fail
       (refine (grid_Valid _ _ _).mono ?_; rintro e w2 ⟨rfl, hb2⟩; obtain ⟨c_hb2, f_hb2⟩ := bcell hb2; have z_hb2 := hb2.size; (try simp at z_hb2); (try have y0_hb2 : wr.heap.size < w2.heap.size := by omega); (try have y1_hb2 : wr.heap.size + 1 < w2.heap.size := by omega); (try have y2_hb2 : wr.heap.size + 1 + 1 < w2.heap.size := by omega); (try have y3_hb2 : wr.heap.size + 1 + 1 + 1 < w2.heap.size := by omega); (try have y4_hb2 : wr.heap.size + 1 + 1 + 1 + 1 < w2.heap.size := by omega))
       rw [vb]
       go_wp2
       go_roundw
       case rel => exact ⟨k + 1, by omega, by go_num, (by repeat (first | exact Below.refl _ _ | apply below_alloc | apply below_drewN | apply below_drew | (refine below_set2 ?_ ?_; (first | (simp; done) | (simp; omega))) | (refine below_step ?_ hb2) | (refine below_step ?_ hb1) | (refine below_step ?_ BW))), by rw [HS2.out]; exact Own1.below HO.out (by repeat (first | exact Below.refl _ _ | apply below_alloc | apply below_drewN | apply below_drew | (refine below_set2 ?_ ?_; (first | (simp; done) | (simp; omega))) | (refine below_step ?_ hb2) | (refine below_step ?_ hb1)))⟩
       case measure => simp [intOf]; omega
      ·have HS2 : Hid (canonZ (l.take (k + 1)) = canonZ (l.take k) ++ [ofS ((a1, a2), (a1, b2))]) := Lib.hid (by rw [HS.out, if_pos (by show (decide (_ ≠ _) && (validB (a1, a2) && validB (a1, b2))) = true; rw [va, vb, Bool.and_true, Bool.and_true]; exact decide_eq_true HN.out)])
       clear HS
       go_wp2_with fail
       (refine (grid_Valid _ _ _).mono ?_; rintro e w1 ⟨rfl, hb1⟩; obtain ⟨c_hb1, f_hb1⟩ := bcell hb1; have z_hb1 := hb1.size; (try simp at z_hb1); (try have y0_hb1 : wr.heap.size < w1.heap.size := by omega); (try have y1_hb1 : wr.heap.size + 1 < w1.heap.size := by omega); (try have y2_hb1 : wr.heap.size + 1 + 1 < w1.heap.size := by omega); (try have y3_hb1 : wr.heap.size + 1 + 1 + 1 < w1.heap.size := by omega); (try have y4_hb1 : wr.heap.size + 1 + 1 + 1 + 1 < w1.heap.size := by omega))
       rw [va]
       go_wp2_with fail
       (refine (grid_Valid _ _ _).mono ?_; rintro e w2 ⟨rfl, hb2⟩; obtain ⟨c_hb2, f_hb2⟩ := bcell hb2; have z_hb2 := hb2.size; (try simp at z_hb2); (try have y0_hb2 : wr.heap.size < w2.heap.size := by omega); (try have y1_hb2 : wr.heap.size + 1 < w2.heap.size := by omega); (try have y2_hb2 : wr.heap.size + 1 + 1 < w2.heap.size := by omega); (try have y3_hb2 : wr.heap.size + 1 + 1 + 1 < w2.heap.size := by omega); (try have y4_hb2 : wr.heap.size + 1 + 1 + 1 + 1 < w2.heap.size := by omega))
       rw [vb]
       go_wp2_with fail
       (refine (seg_Of _ _ _ _ _).mono ?_; rintro e w3 ⟨rfl, hb3⟩; obtain ⟨c_hb3, f_hb3⟩ := bcell hb3; have z_hb3 := hb3.size; (try simp at z_hb3); (try have y0_hb3 : wr.heap.size < w3.heap.size := by omega); (try have y1_hb3 : wr.heap.size + 1 < w3.heap.size := by omega); (try have y2_hb3 : wr.heap.size + 1 + 1 < w3.heap.size := by omega); (try have y3_hb3 : wr.heap.size + 1 + 1 + 1 < w3.heap.size := by omega); (try have y4_hb3 : wr.heap.size + 1 + 1 + 1 + 1 < w3.heap.size := by omega))
       have B3 : Below wr.heap.size wr w3 := (by repeat (first | exact Below.refl _ _ | apply below_alloc | apply below_drewN | apply below_drew | (refine below_set2 ?_ ?_; (first | (simp; done) | (simp; omega))) | (refine below_step ?_ hb3) | (refine below_step ?_ hb2) | (refine below_step ?_ hb1)))
       have HO3 := Lib.hid (Own1.below HO.out B3)
       have hs3 := B3.size
       clear c_hb1 c_hb2 c_hb3 f_hb1 f_hb2 f_hb3 HO
       go_wp2_with (at_builtin; refine app_one Ty.sg (W := w3) w.heap.size rfl _ _ 46 48 _ 32 rfl Tryz.underlying46 infoSg rfl (by decide) u3 (canonZ (l.take k)) (ofS ((a1, a2), (a1, b2))) _ _ rfl rfl rfl rfl HO3.out (by omega) HL.out ?_; intro v1 w4 HO1 hg1 hat1)
       have BZ : Below w.heap.size w w4 := below_own (by repeat (first | exact Below.refl _ _ | apply below_alloc | apply below_drewN | apply below_drew | (refine below_set2 ?_ ?_; (first | (simp; done) | (simp; omega))) | (refine below_step ?_ B3) | (refine below_step ?_ BW))) hg1 (fun b e => (OwnR.lt HO3.out b e).1)
       have HO4 := Lib.hid (Own1.of HO1)
       clear HO1 hg1 hat1
       go_wp2
       go_roundw
       case rel => exact ⟨k + 1, by omega, by go_num, BZ, by rw [HS2.out]; exact HO4.out⟩
       case measure => simp [intOf]; omega
    ·clear e0
     cases va : validB (a1, a2)
     ·have HS2 : Hid (canonZ (l.take (k + 1)) = canonZ (l.take k)) := Lib.hid (by rw [HS.out, if_neg (by simp [goodB, va]), List.append_nil])
      clear HS
      go_wp2_with fail
      refine (grid_Valid _ _ _).mono ?_
      rintro e w1 ⟨rfl, hb1⟩
      rw [va]
      go_wp2
      go_roundw
      case rel => exact ⟨k + 1, by omega, by go_num, (by repeat (first | exact Below.refl _ _ | apply below_alloc | apply below_drewN | apply below_drew | (refine below_set2 ?_ ?_; (first | (simp; done) | (simp; omega))) | (refine below_step ?_ hb1) | (refine below_step ?_ BW))), by rw [HS2.out]; exact Own1.below HO.out (by repeat (first | exact Below.refl _ _ | apply below_alloc | apply below_drewN | apply below_drew | (refine below_set2 ?_ ?_; (first | (simp; done) | (simp; omega))) | (refine below_step ?_ hb1)))⟩
      case measure => simp [intOf]; omega
     ·cases vb : validB (b1, b2)
      ·have HS2 : Hid (canonZ (l.take (k + 1)) = canonZ (l.take k)) := Lib.hid (by rw [HS.out, if_neg (by simp [goodB, vb]), List.append_nil])
       clear HS
       go_wp2_with fail
       (refine (grid_Valid _ _ _).mono ?_; rintro e w1 ⟨rfl, hb1⟩; obtain ⟨c_hb1, f_hb1⟩ := bcell hb1; have z_hb1 := hb1.size; (try simp at z_hb1); (try have y0_hb1 : wr.heap.size < w1.heap.size := by omega); (try have y1_hb1 : wr.heap.size + 1 < w1.heap.size := by omega); (try have y2_hb1 : wr.heap.size + 1 + 1 < w1.heap.size := by omega); (try have y3_hb1 : wr.heap.size + 1 + 1 + 1 < w1.heap.size := by omega); (try have y4_hb1 : wr.heap.size + 1 + 1 + 1 + 1 < w1.heap.size := by omega))
       rw [va]
       go_wp2_with fail
       (refine (grid_Valid _ _ _).mono ?_; rintro e w2 ⟨rfl, hb2⟩; obtain ⟨c_hb2, f_hb2⟩ := bcell hb2; have z_hb2 := hb2.size; (try simp at z_hb2); (try have y0_hb2 : wr.heap.size < w2.heap.size := by omega); (try have y1_hb2 : wr.heap.size + 1 < w2.heap.size := by omega); (try have y2_hb2 : wr.heap.size + 1 + 1 < w2.heap.size := by omega); (try have y3_hb2 : wr.heap.size + 1 + 1 + 1 < w2.heap.size := by omega); (try have y4_hb2 : wr.heap.size + 1 + 1 + 1 + 1 < w2.heap.size := by omega))
       rw [vb]
       go_wp2
       go_roundw
       case rel => exact ⟨k + 1, by omega, by go_num, (by repeat (first | exact Below.refl _ _ | apply below_alloc | apply below_drewN | apply below_drew | (refine below_set2 ?_ ?_; (first | (simp; done) | (simp; omega))) | (refine below_step ?_ hb2) | (refine below_step ?_ hb1) | (refine below_step ?_ BW))), by rw [HS2.out]; exact Own1.below HO.out (by repeat (first | exact Below.refl _ _ | apply below_alloc | apply below_drewN | apply below_drew | (refine below_set2 ?_ ?_; (first | (simp; done) | (simp; omega))) | (refine below_step ?_ hb2) | (refine below_step ?_ hb1)))⟩
       case measure => simp [intOf]; omega
      ·have HS2 : Hid (canonZ (l.take (k + 1)) = canonZ (l.take k) ++ [ofS ((a1, a2), (b1, b2))]) := Lib.hid (by rw [HS.out, if_pos (by show (decide (_ ≠ _) && (validB (a1, a2) && validB (b1, b2))) = true; rw [va, vb, Bool.and_true, Bool.and_true]; exact decide_eq_true HN.out)])
       clear HS
       go_wp2_with fail
       (refine (grid_Valid _ _ _).mono ?_; rintro e w1 ⟨rfl, hb1⟩; obtain ⟨c_hb1, f_hb1⟩ := bcell hb1; have z_hb1 := hb1.size; (try simp at z_hb1); (try have y0_hb1 : wr.heap.size < w1.heap.size := by omega); (try have y1_hb1 : wr.heap.size + 1 < w1.heap.size := by omega); (try have y2_hb1 : wr.heap.size + 1 + 1 < w1.heap.size := by omega); (try have y3_hb1 : wr.heap.size + 1 + 1 + 1 < w1.heap.size := by omega); (try have y4_hb1 : wr.heap.size + 1 + 1 + 1 + 1 < w1.heap.size := by omega))
       rw [va]
       go_wp2_with fail
       (refine (grid_Valid _ _ _).mono ?_; rintro e w2 ⟨rfl, hb2⟩; obtain ⟨c_hb2, f_hb2⟩ := bcell hb2; have z_hb2 := hb2.size; (try simp at z_hb2); (try have y0_hb2 : wr.heap.size < w2.heap.size := by omega); (try have y1_hb2 : wr.heap.size + 1 < w2.heap.size := by omega); (try have y2_hb2 : wr.heap.size + 1 + 1 < w2.heap.size := by omega); (try have y3_hb2 : wr.heap.size + 1 + 1 + 1 < w2.heap.size := by omega); (try have y4_hb2 : wr.heap.size + 1 + 1 + 1 + 1 < w2.heap.size := by omega))
       rw [vb]
       go_wp2_with fail
       (refine (seg_Of _ _ _ _ _).mono ?_; rintro e w3 ⟨rfl, hb3⟩; obtain ⟨c_hb3, f_hb3⟩ := bcell hb3; have z_hb3 := hb3.size; (try simp at z_hb3); (try have y0_hb3 : wr.heap.size < w3.heap.size := by omega); (try have y1_hb3 : wr.heap.size + 1 < w3.heap.size := by omega); (try have y2_hb3 : wr.heap.size + 1 + 1 < w3.heap.size := by omega); (try have y3_hb3 : wr.heap.size + 1 + 1 + 1 < w3.heap.size := by omega); (try have y4_hb3 : wr.heap.size + 1 + 1 + 1 + 1 < w3.heap.size := by omega))
       have B3 : Below wr.heap.size wr w3 := (by repeat (first | exact Below.refl _ _ | apply below_alloc | apply below_drewN | apply below_drew | (refine below_set2 ?_ ?_; (first | (simp; done) | (simp; omega))) | (refine below_step ?_ hb3) | (refine below_step ?_ hb2) | (refine below_step ?_ hb1)))
       have HO3 := Lib.hid (Own1.below HO.out B3)
       have hs3 := B3.size
       clear c_hb1 c_hb2 c_hb3 f_hb1 f_hb2 f_hb3 HO
       go_wp2_with (at_builtin; refine app_one Ty.sg (W := w3) w.heap.size rfl _ _ 46 48 _ 32 rfl Tryz.underlying46 infoSg rfl (by decide) u3 (canonZ (l.take k)) (ofS ((a1, a2), (b1, b2))) _ _ rfl rfl rfl rfl HO3.out (by omega) HL.out ?_; intro v1 w4 HO1 hg1 hat1)
       have BZ : Below w.heap.size w w4 := below_own (by repeat (first | exact Below.refl _ _ | apply below_alloc | apply below_drewN | apply below_drew | (refine below_set2 ?_ ?_; (first | (simp; done) | (simp; omega))) | (refine below_step ?_ B3) | (refine below_step ?_ BW))) hg1 (fun b e => (OwnR.lt HO3.out b e).1)
       have HO4 := Lib.hid (Own1.of HO1)
       clear HO1 hg1 hat1
       go_wp2
       go_roundw
       case rel => exact ⟨k + 1, by omega, by go_num, BZ, by rw [HS2.out]; exact HO4.out⟩
       case measure => simp [intOf]; omega
  ·obtain rfl : k = l.length := by omega
   rw [List.take_length] at ho
   have HO := Lib.hid ho
   clear ho
   go_wp2
   go_ret
   exact ⟨_, rfl, HO.out, BW⟩
end
section
open Go.RowKit Go.Proofs.YtaeflnbjeaoapaaGreatW.PrintLast

attribute [local go_sem high] eqPt eqSg

set_option maxHeartbeats 2000000 in
theorem Compact_sg (xs : List _) (v : Value) (base : Nat) (w : World) (ho : Own1 Ty.sg 48 base w v xs) :
  Calls Tryz.prog 84 #[v] w fun e w' => ∃ v', e = .returned v' ∧ Own1 Ty.sg 48 base w' v' (compactZ xs) ∧ KeptS (fun b => v.ownBlock = some b) w w' := by
 obtain ⟨A, c, rfl, hlc, hr⟩ := ho.reads
 have HO := Lib.hid ho
 have hmx := hr.len
 clear ho hr
 by_cases h2 : xs.length < 2
 ·have HE : Hid (compactZ xs = xs) := compact_one h2
  go_enter Tryz.func84, Tryz.ntmps84
  go_wp2
  go_ret
  exact ⟨_, rfl, by rw [HE.out]; exact Own1.below HO.out bq, kept_of_below bq⟩
 ·obtain ⟨g, c', hv, _⟩ := HO.out.form (by omega)
  injection hv with hv _ hc'
  subst hv hc'
  go_enter Tryz.func84, Tryz.ntmps84
  go_wp2
  go_loopw [3] (fun i wr => ∃ k : Nat, 1 ≤ k ∧ k ≤ xs.length ∧ i = .int .i64 k ∧ Hid (KeptS (fun b => b = g) w wr) ∧ Hid (Own1 Ty.sg 48 base wr (.slice (some ⟨g, 0, none⟩) xs.length c) xs) ∧ Hid (compactZ (xs.take k) = xs.take k)) (fun i _ => xs.length - (intOf i).toNat)
  case atStart => exact ⟨1, Nat.le_refl _, by omega, rfl, kept_refl _ _, HO, by show _ = _; exact compact_one (by rw [List.length_take]; omega)⟩
  case round =>
   obtain ⟨k, hk1, hk, rfl, HB, HOk, HC⟩ := hrel
   clear HO
   by_cases hlt : k < xs.length
   ·obtain ⟨hx0, hx1, hx2, hx3⟩ := OwnR.sg_at HOk.out k hlt
    obtain ⟨hy0, hy1, hy2, hy3⟩ := OwnR.sg_at HOk.out (k - 1) (by omega)
    have ek : ((k : Int) - 1).toNat = k - 1 := by omega
    have ew : wrap64 ((k : Int) - 1) = (k : Int) - 1 := by unfold wrap64; omega
    have eb : (0 : Int) ≤ (k : Int) - 1 := by omega
    have eb2 : (k : Int) - 1 < xs.length := by omega
    by_cases hq : sgD xs k = sgD xs (k - 1)
    ·have hd := (sgB (sgD xs k) (sgD xs (k - 1))).trans (decide_eq_true hq)
     have HQ := Lib.hid hq
     clear hq
     go_wp2_with fail
     go_quiet (fail)
     clear ek ew eb eb2 hd hx0 hx1 hx2 hx3 hy0 hy1 hy2 hy3
     go_wp2
     go_loopw [3, 5] (fun i j wr => ∃ (i' j' : Nat) (ys : List _), i = .int .i64 i' ∧ j = .int .i64 j' ∧ 1 ≤ i' ∧ 1 ≤ j' ∧ i' + 1 ≤ k + j' ∧ k + j' ≤ xs.length ∧ ys.length = xs.length ∧ Hid (KeptS (fun b => b = g) w wr) ∧ Hid (Own1 Ty.sg 48 base wr (.slice (some ⟨g, 0, none⟩) xs.length c) ys) ∧
      Hid (ys.take i' = compactZ (xs.take (k + j'))) ∧ Hid (∀ m, k + j' ≤ m + 1 → ys[m]? = xs[m]?)) (fun _ j _ => xs.length - k - (intOf j).toNat)
     case atStart => exact ⟨k, 1, xs, rfl, rfl, hk1, Nat.le_refl _, by omega, by omega, rfl, kept_drewN HB.out _, Own1.below HOk.out bq, by show _ = _; rw [compact_eq xs ((0, 0), (0, 0)) k (by omega) hlt HQ.out, HC.out], fun m _ => rfl⟩
     case round =>
      obtain ⟨i, j, ys, rfl, rfl, hi1, hj1, hij, hjn, hyl, HB1, HOy, HI, HJ⟩ := hrel
      clear HB HOk HC
      by_cases hlt2 : k + j < xs.length
      ·obtain ⟨hx0, hx1, hx2, hx3⟩ := OwnR.sg_at HOy.out (k + j) (by omega)
       obtain ⟨hy0, hy1, hy2, hy3⟩ := OwnR.sg_at HOy.out (k + j - 1) (by omega)
       have e1 : sgD ys (k + j) = sgD xs (k + j) := by simp only [sgD, List.getD_eq_getElem?_getD, HJ.out (k + j) (by omega)]
       have e2 : sgD ys (k + j - 1) = sgD xs (k + j - 1) := by simp only [sgD, List.getD_eq_getElem?_getD, HJ.out (k + j - 1) (by omega)]
       rw [e1] at hx0 hx1 hx2 hx3
       rw [e2] at hy0 hy1 hy2 hy3
       have ek : ((j : Int) - 1).toNat = j - 1 := by omega
       have ew : wrap64 ((j : Int) - 1) = (j : Int) - 1 := by unfold wrap64; omega
       have eb : (0 : Int) ≤ (j : Int) - 1 := by omega
       have hj2 : j < xs.length - k := by omega
       have ea : k * 4 + j * 4 = (k + j) * 4 := by omega
       have ea2 : k * 4 + (j - 1) * 4 = (k + j - 1) * 4 := by omega
       by_cases hq : sgD xs (k + j) = sgD xs (k + j - 1)
       ·have hd := (sgB (sgD xs (k + j)) (sgD xs (k + j - 1))).trans (decide_eq_true hq)
        have HQ := Lib.hid hq
        clear hq
        go_wp2_with fail
        go_quiet (fail)
        go_wp2
        go_roundw
        case rel => exact ⟨i, j + 1, ys, rfl, by go_num, hi1, by omega, by omega, by omega, hyl, kept_drewN HB1.out _, Own1.below HOy.out bq, by show _ = _; rw [HI.out]; exact (compact_eq xs ((0, 0), (0, 0)) (k + j) (by omega) hlt2 HQ.out).symm, fun m hm => HJ.out m (by omega)⟩
        case measure => simp [intOf]; omega
       ·have hd := (sgB (sgD xs (k + j)) (sgD xs (k + j - 1))).trans (decide_eq_false hq)
        have HQ := Lib.hid hq
        clear hq
        go_wp2_with fail
        go_quiet (fail)
        clear ek ew eb hd
        go_wp2_with (refine wpList_storeT (T := Ty.sg) (y := sgD xs (k + j)) (i := i) rfl (.tmp 51) (.tmp 50) 48 rfl (by kernel_rfl) rfl rfl (Own1.below HOy.out bq) (by omega) rfl rfl ?_; intro w3 HO3 HK3 hs3)
        have HB3 := Lib.hid (kept_step (kept_below HB1.out bq) HK3)
        have HO3' := Lib.hid HO3
        clear HO3 HK3 hs3 hx0 hx1 hx2 hx3 hy0 hy1 hy2 hy3
        go_wp2
        go_roundw
        case rel => exact ⟨i + 1, j + 1, ys.set i (sgD xs (k + j)), by go_num, by go_num, by omega, by omega, by omega, by omega, by rw [List.length_set]; exact hyl, HB3, HO3', by show _ = _; rw [set_take_snoc _ (by omega), HI.out]; exact (compact_ne xs ((0, 0), (0, 0)) (k + j) (by omega) hlt2 HQ.out).symm, fun m hm => by rw [List.getElem?_set_ne (by omega)]; exact HJ.out m (by omega)⟩
        case measure => simp [intOf]; omega
      ·obtain rfl : j = xs.length - k := by omega
       have HE : Hid (ys.take i = compactZ xs) := by have := HI.out; rw [show k + (xs.length - k) = xs.length by omega, List.take_length] at this; exact this
       go_wp2_with (refine wpList_clearT (T := Ty.sg) (i := i) rfl (.tmp 56) 46 rfl Tryz.underlying46 (z := .agg #[.int .i64 0, .int .i64 0, .int .i64 0, .int .i64 0]) (fun w => by kernel_rfl) rfl (by decide) rfl HOy.out rfl (by omega) (by omega) ?_; intro w3 HO3 HK3 hs3)
       have HB3 := Lib.hid (kept_step HB1.out HK3)
       have HO3' := Lib.hid HO3
       clear HO3 HK3 hs3
       rw [HE.out] at HO3'
       go_wp2
       go_ret
       exact ⟨_, rfl, HO3'.out, kept_mono HB3.out (fun k _ hk => by rw [hk]; rfl)⟩
    ·have hd := (sgB (sgD xs k) (sgD xs (k - 1))).trans (decide_eq_false hq)
     have HQ := Lib.hid hq
     clear hq
     go_wp2_with fail
     go_quiet (fail)
     go_wp2
     go_roundw
     case rel => exact ⟨k + 1, by omega, by omega, by go_num, kept_drewN HB.out _, Own1.below HOk.out bq, by show _ = _; rw [compact_ne xs ((0, 0), (0, 0)) k (by omega) hlt HQ.out, HC.out, take_snoc xs k ((0, 0), (0, 0)) hlt]⟩
     case measure => simp [intOf]; omega
   ·obtain rfl : k = xs.length := by omega
    have HE : Hid (compactZ xs = xs) := by have := HC.out; rwa [List.take_length] at this
    go_wp2
    go_ret
    exact ⟨_, rfl, by rw [HE.out]; exact Own1.below HOk.out bq, kept_mono (kept_drewN HB.out 0) (fun k _ hk => by rw [hk]; rfl)⟩

set_option maxHeartbeats 2000000 in
theorem Compact_pt (xs : List _) (v : Value) (base : Nat) (w : World) (ho : Own1 Ty.pt 28 base w v xs) :
  Calls Tryz.prog 29 #[v] w fun e w' => ∃ v', e = .returned v' ∧ Own1 Ty.pt 28 base w' v' (compactZ xs) ∧ KeptS (fun b => v.ownBlock = some b) w w' := by
 obtain ⟨A, c, rfl, hlc, hr⟩ := ho.reads
 have HO := Lib.hid ho
 have hmx := hr.len
 clear ho hr
 by_cases h2 : xs.length < 2
 ·have HE : Hid (compactZ xs = xs) := compact_one h2
  go_enter Tryz.func29, Tryz.ntmps29
  go_wp2
  go_ret
  exact ⟨_, rfl, by rw [HE.out]; exact Own1.below HO.out bq, kept_of_below bq⟩
 ·obtain ⟨g, c', hv, _⟩ := HO.out.form (by omega)
  injection hv with hv _ hc'
  subst hv hc'
  go_enter Tryz.func29, Tryz.ntmps29
  go_wp2
  go_loopw [3] (fun i wr => ∃ k : Nat, 1 ≤ k ∧ k ≤ xs.length ∧ i = .int .i64 k ∧ Hid (KeptS (fun b => b = g) w wr) ∧ Hid (Own1 Ty.pt 28 base wr (.slice (some ⟨g, 0, none⟩) xs.length c) xs) ∧ Hid (compactZ (xs.take k) = xs.take k)) (fun i _ => xs.length - (intOf i).toNat)
  case atStart => exact ⟨1, Nat.le_refl _, by omega, rfl, kept_refl _ _, HO, by show _ = _; exact compact_one (by rw [List.length_take]; omega)⟩
  case round =>
   obtain ⟨k, hk1, hk, rfl, HB, HOk, HC⟩ := hrel
   clear HO
   by_cases hlt : k < xs.length
   ·obtain ⟨hx0, hx1⟩ := OwnR.pt_at HOk.out k hlt
    obtain ⟨hy0, hy1⟩ := OwnR.pt_at HOk.out (k - 1) (by omega)
    have ek : ((k : Int) - 1).toNat = k - 1 := by omega
    have ew : wrap64 ((k : Int) - 1) = (k : Int) - 1 := by unfold wrap64; omega
    have eb : (0 : Int) ≤ (k : Int) - 1 := by omega
    have eb2 : (k : Int) - 1 < xs.length := by omega
    by_cases hq : ptD xs k = ptD xs (k - 1)
    ·have hd := (ptB (ptD xs k) (ptD xs (k - 1))).trans (decide_eq_true hq)
     have HQ := Lib.hid hq
     clear hq
     go_wp2_with fail
     go_quiet (fail)
     clear ek ew eb eb2 hd hx0 hx1 hy0 hy1
     go_wp2
     go_loopw [3, 5] (fun i j wr => ∃ (i' j' : Nat) (ys : List _), i = .int .i64 i' ∧ j = .int .i64 j' ∧ 1 ≤ i' ∧ 1 ≤ j' ∧ i' + 1 ≤ k + j' ∧ k + j' ≤ xs.length ∧ ys.length = xs.length ∧ Hid (KeptS (fun b => b = g) w wr) ∧ Hid (Own1 Ty.pt 28 base wr (.slice (some ⟨g, 0, none⟩) xs.length c) ys) ∧
      Hid (ys.take i' = compactZ (xs.take (k + j'))) ∧ Hid (∀ m, k + j' ≤ m + 1 → ys[m]? = xs[m]?)) (fun _ j _ => xs.length - k - (intOf j).toNat)
     case atStart => exact ⟨k, 1, xs, rfl, rfl, hk1, Nat.le_refl _, by omega, by omega, rfl, kept_drewN HB.out _, Own1.below HOk.out bq, by show _ = _; rw [compact_eq xs (0, 0) k (by omega) hlt HQ.out, HC.out], fun m _ => rfl⟩
     case round =>
      obtain ⟨i, j, ys, rfl, rfl, hi1, hj1, hij, hjn, hyl, HB1, HOy, HI, HJ⟩ := hrel
      clear HB HOk HC
      by_cases hlt2 : k + j < xs.length
      ·obtain ⟨hx0, hx1⟩ := OwnR.pt_at HOy.out (k + j) (by omega)
       obtain ⟨hy0, hy1⟩ := OwnR.pt_at HOy.out (k + j - 1) (by omega)
       have e1 : ptD ys (k + j) = ptD xs (k + j) := by simp only [ptD, List.getD_eq_getElem?_getD, HJ.out (k + j) (by omega)]
       have e2 : ptD ys (k + j - 1) = ptD xs (k + j - 1) := by simp only [ptD, List.getD_eq_getElem?_getD, HJ.out (k + j - 1) (by omega)]
       rw [e1] at hx0 hx1
       rw [e2] at hy0 hy1
       have ek : ((j : Int) - 1).toNat = j - 1 := by omega
       have ew : wrap64 ((j : Int) - 1) = (j : Int) - 1 := by unfold wrap64; omega
       have eb : (0 : Int) ≤ (j : Int) - 1 := by omega
       have hj2 : j < xs.length - k := by omega
       have ea : k * 2 + j * 2 = (k + j) * 2 := by omega
       have ea2 : k * 2 + (j - 1) * 2 = (k + j - 1) * 2 := by omega
       by_cases hq : ptD xs (k + j) = ptD xs (k + j - 1)
       ·have hd := (ptB (ptD xs (k + j)) (ptD xs (k + j - 1))).trans (decide_eq_true hq)
        have HQ := Lib.hid hq
        clear hq
        go_wp2_with fail
        go_quiet (fail)
        go_wp2
        go_roundw
        case rel => exact ⟨i, j + 1, ys, rfl, by go_num, hi1, by omega, by omega, by omega, hyl, kept_drewN HB1.out _, Own1.below HOy.out bq, by show _ = _; rw [HI.out]; exact (compact_eq xs (0, 0) (k + j) (by omega) hlt2 HQ.out).symm, fun m hm => HJ.out m (by omega)⟩
        case measure => simp [intOf]; omega
       ·have hd := (ptB (ptD xs (k + j)) (ptD xs (k + j - 1))).trans (decide_eq_false hq)
        have HQ := Lib.hid hq
        clear hq
        go_wp2_with fail
        go_quiet (fail)
        clear ek ew eb hd
        go_wp2_with (refine wpList_storeT (T := Ty.pt) (y := ptD xs (k + j)) (i := i) rfl (.tmp 51) (.tmp 50) 28 rfl (by kernel_rfl) rfl rfl (Own1.below HOy.out bq) (by omega) rfl rfl ?_; intro w3 HO3 HK3 hs3)
        have HB3 := Lib.hid (kept_step (kept_below HB1.out bq) HK3)
        have HO3' := Lib.hid HO3
        clear HO3 HK3 hs3 hx0 hx1 hy0 hy1
        go_wp2
        go_roundw
        case rel => exact ⟨i + 1, j + 1, ys.set i (ptD xs (k + j)), by go_num, by go_num, by omega, by omega, by omega, by omega, by rw [List.length_set]; exact hyl, HB3, HO3', by show _ = _; rw [set_take_snoc _ (by omega), HI.out]; exact (compact_ne xs (0, 0) (k + j) (by omega) hlt2 HQ.out).symm, fun m hm => by rw [List.getElem?_set_ne (by omega)]; exact HJ.out m (by omega)⟩
        case measure => simp [intOf]; omega
      ·obtain rfl : j = xs.length - k := by omega
       have HE : Hid (ys.take i = compactZ xs) := by have := HI.out; rw [show k + (xs.length - k) = xs.length by omega, List.take_length] at this; exact this
       go_wp2_with (refine wpList_clearT (T := Ty.pt) (i := i) rfl (.tmp 56) 25 rfl Tryz.underlying25 (z := .agg #[.int .i64 0, .int .i64 0]) (fun w => by kernel_rfl) rfl (by decide) rfl HOy.out rfl (by omega) (by omega) ?_; intro w3 HO3 HK3 hs3)
       have HB3 := Lib.hid (kept_step HB1.out HK3)
       have HO3' := Lib.hid HO3
       clear HO3 HK3 hs3
       rw [HE.out] at HO3'
       go_wp2
       go_ret
       exact ⟨_, rfl, HO3'.out, kept_mono HB3.out (fun k _ hk => by rw [hk]; rfl)⟩
    ·have hd := (ptB (ptD xs k) (ptD xs (k - 1))).trans (decide_eq_false hq)
     have HQ := Lib.hid hq
     clear hq
     go_wp2_with fail
     go_quiet (fail)
     go_wp2
     go_roundw
     case rel => exact ⟨k + 1, by omega, by omega, by go_num, kept_drewN HB.out _, Own1.below HOk.out bq, by show _ = _; rw [compact_ne xs (0, 0) k (by omega) hlt HQ.out, HC.out, take_snoc xs k (0, 0) hlt]⟩
     case measure => simp [intOf]; omega
   ·obtain rfl : k = xs.length := by omega
    have HE : Hid (compactZ xs = xs) := by have := HC.out; rwa [List.take_length] at this
    go_wp2
    go_ret
    exact ⟨_, rfl, by rw [HE.out]; exact Own1.below HOk.out bq, kept_mono (kept_drewN HB.out 0) (fun k _ hk => by rw [hk]; rfl)⟩
end
section
open Go.RowKit Go.Proofs.YtaeflnbjeaoapaaGreatW.PrintLast

def EntersT (K : Nat) : Prop := ∀ (args : Array Value) (w : World), (callFunc K args).run Tryz.prog w = .ok (.enter K args) w
theorem enters_t {K : Nat} {fn : Func} {c : Code} (hf : Tryz.prog.funcs[K]? = some fn) (hname : (fn.name == "runtime.NumGoroutine") = false) (hb : fn.body = some c) : EntersT K := by
 intro args w
 have h1 : fn.name ≠ "runtime.NumGoroutine" := by simpa using hname
 simp [callFunc, hf, h1, hb]
theorem SortFunc_sg {base : Nat} {M : Nat → Prop} {w : World} {xs : Sgs} (A : Option Addr) (n c : Nat) (hsm : xs.length ≤ 1000000000) (HO : OwnR Ty.sg 48 base M w (.slice A n c) xs) :
  Calls Tryz.prog 81 #[.slice A n c, .func (.func 82) #[] #[]] w fun e' w' => e' = .returned (.tuple #[]) ∧ OwnR Ty.sg 48 base M w' (.slice A n c) (sortG lessS xs) ∧ KeptS (fun b => (Value.slice A n c).ownBlock = some b) w w' :=
 sortK_own (k := 4) Tryz.laysSg (fun _ => by kernel_rfl) (fun _ => by kernel_rfl) cmpS totS ltS 82 (enters_t Tryz.func82 (by kernel_rfl) rfl) (fun x y W => noding_order x y W) rfl hsm HO
theorem SortFunc_pt {base : Nat} {M : Nat → Prop} {w : World} {xs : Pts} (A : Option Addr) (n c : Nat) (hsm : xs.length ≤ 1000000000) (HO : OwnR Ty.pt 28 base M w (.slice A n c) xs) :
  Calls Tryz.prog 27 #[.slice A n c, .func (.func 78) #[] #[]] w fun e' w' => e' = .returned (.tuple #[]) ∧ OwnR Ty.pt 28 base M w' (.slice A n c) (sortG lessB xs) ∧ KeptS (fun b => (Value.slice A n c).ownBlock = some b) w w' :=
 sortK_own (k := 2) Tryz.laysPt (fun _ => by kernel_rfl) (fun _ => by kernel_rfl) cmpP totB ltP 78 (enters_t Tryz.func78 (by kernel_rfl) rfl) (fun x y W => split_order x y W) rfl hsm HO
theorem noding_Sort {ok : Nat → Prop} (l : Sgs) (A : Option Addr) (n c : Nat) (w : World) (hr : Row Ty.sg ok w A l) (hn : n = l.length) (hlen : l.length ≤ 2000000) :
  Calls Tryz.prog 46 #[.slice A n c] w fun e w' => ∃ v, e = .returned v ∧ Own1 Ty.sg 48 w.heap.size w' v (sortZ l) ∧ Below w.heap.size w w' := by
 subst hn
 go_enter Tryz.func46, Tryz.ntmps46
 go_wp2_with fail
 refine (noding_canon l A _ c w hr rfl hlen).mono ?_
 rintro e w1 ⟨v, rfl, ho, hb⟩
 obtain ⟨A1, c1, rfl, hl1, hr1⟩ := ho.reads
 have HO := Lib.hid ho
 have hcl := canon_le l
 have hw := hb.size
 clear ho hr1
 go_wp2_with fail
 refine (SortFunc_sg A1 _ c1 (by omega) HO.out).mono ?_
 rintro e w2 ⟨rfl, ho2, hk2⟩
 have HO2 := Lib.hid ho2
 have HB2 : Hid (Below w.heap.size w w2) := below_kept hb hk2 (fun b e => (OwnR.lt HO.out b e).1)
 clear ho2 hk2
 go_wp2
 go_ret
 refine ⟨_, rfl, ?_, HB2.out⟩
 have := HO2.out
 rwa [show (canonZ l).length = (sortZ l).length by unfold sortZ; rw [sortG_len]] at this ⊢
theorem noding_Unique {ok : Nat → Prop} (l : Sgs) (A : Option Addr) (n c : Nat) (w : World) (hr : Row Ty.sg ok w A l) (hn : n = l.length) (hlen : l.length ≤ 2000000) :
  Calls Tryz.prog 50 #[.slice A n c] w fun e w' => ∃ v, e = .returned v ∧ Own1 Ty.sg 48 w.heap.size w' v (uniqZ l) ∧ Below w.heap.size w w' := by
 subst hn
 go_enter Tryz.func50, Tryz.ntmps50
 go_wp2_with fail
 refine (noding_Sort l A _ c w hr rfl hlen).mono ?_
 rintro e w1 ⟨v, rfl, ho, hb⟩
 have HO := Lib.hid ho
 have hw := hb.size
 clear ho
 go_wp2_with fail
 refine (Compact_sg (sortZ l) v _ w1 HO.out).mono ?_
 rintro e w2 ⟨v2, rfl, ho2, hk2⟩
 have HO2 := Lib.hid ho2
 have HB2 : Hid (Below w.heap.size w w2) := below_kept hb hk2 (fun b e => (OwnR.lt HO.out b e).1)
 clear ho2 hk2
 go_wp2
 go_ret
 exact ⟨_, rfl, HO2.out, HB2.out⟩
end
section
open Go.RowKit Go.Proofs.YtaeflnbjeaoapaaGreatW.PrintLast

theorem ofB_valid {a b : Pt} (h : (validB a && validB b) = true) : (validB (ofB a b).1 && validB (ofB a b).2) = true := by
 rw [Bool.and_eq_true] at h
 unfold ofB
 split <;> simp [h.1, h.2]
theorem canon_V (l : Sgs) : segsV (canonZ l) := by
 intro s hs
 obtain ⟨x, hx, rfl⟩ := List.mem_map.1 hs
 have := (List.mem_filter.1 hx).2
 unfold goodB at this
 rw [Bool.and_eq_true] at this
 exact ofB_valid this.2
theorem sort_V (l : Sgs) : segsV (sortZ l) := fun s hs => canon_V l s (mem_sortG.1 hs)
theorem uniq_V (l : Sgs) : segsV (uniqZ l) := fun s hs => sort_V l s (mem_compact.1 hs)
theorem uniq_len (l : Sgs) : (uniqZ l).length ≤ l.length := by
 have h1 := compact_len (sortZ l)
 have h2 := canon_le l
 unfold uniqZ
 have h3 : (sortZ l).length = (canonZ l).length := sortG_len _
 omega
theorem any_snoc {α : Type} (xs : List α) (d : α) (f : α → Bool) (k : Nat) (h : k < xs.length) : (xs.take (k + 1)).any f = ((xs.take k).any f || f (xs.getD k d)) := by
 rw [take_snoc xs k d h, List.any_append]; simp
theorem any_hit {α : Type} {xs : List α} {d : α} {f : α → Bool} {k : Nat} (h : k < xs.length) (hf : f (xs.getD k d) = true) : xs.any f = true := by
 rw [List.any_eq_true]
 refine ⟨xs[k], List.getElem_mem h, ?_⟩
 simpa [h] using hf
end
section
open Go.RowKit Go.Proofs.YtaeflnbjeaoapaaGreatW.PrintLast

attribute [local go_sem high] eqPt eqSg
/-- append(v, ys...) at a step of a region that draws its order. -/
theorem step_row {P : Program} {ops : Array Oper} {o : Oper} {a : Act} {Q : Exit → Act → World → Prop} {K : Act → World → Prop} {E : Prop} {α : Type} (T : Ty α) {W : World} (base : Nat) (hgd : o.guard = none) (s x : Operand) (t e : TypeId) (z : Value) (bytes : Nat)
  (ho : o.op = .call { callee := .builtin .append, args := #[s, x], argTypes := #[t, t] })
  (ht : P.underlying t = some (.slice e)) (hinfo : (P.info? e).map (fun i => (i.zero, i.size, i.bytes)) = some (some z, T.sz, bytes)) (hz : z.cells.size = T.sz) (hb0 : 0 < bytes)
  (v : Value) (xs ys : List α) (A : Option Addr) (m c : Nat) (M : Nat → Prop) (hs : a.eval s = v) (hx : a.eval x = .slice A m c) (hm : m = ys.length)
  (hp : Row T (fun k => ¬ M k) W A ys) (HO : OwnR T e base M W v xs) (hbase : base ≤ W.heap.size) (hl : (xs.length + m) * bytes ≤ 140737488355328)
  (h : ∀ v1 w1, OwnR T e base (fun k => M k ∨ v1.ownBlock = some k) w1 v1 (xs ++ ys) → W.grownBy w1 v.ownBlock → (v1.ownBlock = v.ownBlock ∨ ∃ b, v1.ownBlock = some b ∧ W.heap.size ≤ b) → K (a.put o.dst v1) w1) :
  if Region.wanted o (yielded ops a.tmps) = true then Oper.wp P o a W K Q else E := by
 subst hm
 obtain ⟨h0, inner, hown, hr⟩ := HO
 obtain ⟨i0, hi, hzz⟩ := Option.map_eq_some_iff.1 hinfo
 simp only [Prod.mk.injEq] at hzz
 obtain ⟨hz0, hz1, hz2⟩ := hzz
 have hlen : xs.length + ys.length ≤ 140737488355328 := Nat.le_trans (Nat.le_mul_of_pos_right _ hb0) hl
 have hw : Region.wanted o (yielded ops a.tmps) = true := by simp [Region.wanted, hgd]
 rcases Nat.eq_zero_or_pos ys.length with hy | hy
 ·have hy := List.eq_nil_of_length_eq_zero hy
  subst hy
  have hrun : (Builtin.append_ #[t, t] o.type #[v, .slice A 0 c]).run P W = .ok v W := by
   rcases hown.2 with ⟨rfl, hn⟩ | ⟨g, cap, cur, rfl, _, _, hnc, _⟩ <;> rcases A with _ | ad
   ·simp [Builtin.append_, run_underlying ht, sizeOf, typeInfo, hi, Builtin.lenOf, Builtin.firstCells]
   ·simp [Builtin.append_, run_underlying ht, sizeOf, typeInfo, hi, Builtin.lenOf, Builtin.firstCells, loadCells, loadCellsFrom]
   ·simp [Builtin.append_, run_underlying ht, sizeOf, typeInfo, hi, Builtin.lenOf, Builtin.firstCells, hnc, storeCells]
   ·simp [Builtin.append_, run_underlying ht, sizeOf, typeInfo, hi, Builtin.lenOf, Builtin.firstCells, hnc, storeCells, loadCells, loadCellsFrom]
  rw [if_pos hw]
  unfold Oper.wp execOp
  simp only [ho, resolve, invoke, builtin, Sem.run_bind, Sem.run_pure, Result.andThen_ok, List.map_toArray, List.map_cons, List.map_nil, hs, hx, hrun, List.length_nil]
  exact h v W (OwnR.appended (ys := []) hr rfl (by simpa using hown) h0 (grown_refl _ _) (.inl rfl)) (grown_refl _ _) (.inl rfl)
 ·rcases A with _ | ad
  ·obtain ⟨ad, e, _⟩ := hp.2 hy
   cases e
  obtain ⟨cs, hcs, hk⟩ := hp.reps
  refine step_append_lies (w := W) hgd s x t ho base e i0 z T.sz bytes ht hi hz0 hz1 hz2 hz T.pos v xs.length inner hs hown ad ys.length c cs hx hcs.len hk hcs.one hy (by simp only [maxLen]; omega) hl hbase _ rfl ?_
  intro g cap w1 hown1 hg hat _
  have hat' : (Value.slice (some ⟨g, 0, none⟩) (xs.length + ys.length) cap).ownBlock = v.ownBlock ∨ ∃ b, (Value.slice (some ⟨g, 0, none⟩) (xs.length + ys.length) cap).ownBlock = some b ∧ W.heap.size ≤ b := by
   rcases hat with hat | hat
   ·exact .inl (by rw [hat]; rfl)
   ·exact .inr ⟨_, rfl, by rw [hat]; exact Nat.le_refl _⟩
  exact h _ w1 (OwnR.appended hr hcs hown1 h0 hg hat') hg hat'
def ixZ {α : Type} [DecidableEq α] (xs : List α) (x : α) : Int := if x ∈ xs then (xs.idxOf x : Int) else -1
theorem ixZ_none {α : Type} [DecidableEq α] {xs : List α} {x : α} (h : x ∉ xs) : ixZ xs x = -1 := if_neg h
theorem ixZ_at {α : Type} [DecidableEq α] {xs : List α} {x d : α} {k : Nat} (hk : k < xs.length) (h0 : x ∉ xs.take k) (h : x = xs.getD k d) : ixZ xs x = k := by
 have e : xs = xs.take k ++ x :: xs.drop (k + 1) := by
  rw [h]
  have : xs.getD k d = xs[k] := by simp [hk]
  rw [this, ← List.drop_eq_getElem_cons hk, List.take_append_drop]
 have hm : x ∈ xs := by rw [e]; simp
 rw [ixZ, if_pos hm]
 have : xs.idxOf x = k := by
  rw [e, List.idxOf_append, if_neg h0]
  simp; omega
 rw [this]
theorem not_mem_snoc {α : Type} [DecidableEq α] {xs : List α} {x d : α} {k : Nat} (hk : k < xs.length) (h0 : x ∉ xs.take k) (h : ¬ x = xs.getD k d) : x ∉ xs.take (k + 1) := by
 rw [take_snoc xs k d hk]; simp [h0]; simpa using h
theorem ixZ_mem {α : Type} [DecidableEq α] (xs : List α) (x : α) : decide (0 ≤ ixZ xs x) = decide (x ∈ xs) := by
 unfold ixZ
 by_cases h : x ∈ xs
 ·rw [if_pos h]; simp [h]
 ·rw [if_neg h]; simp [h]
theorem Equal_sg {ok ok' : Nat → Prop} (a b : Sgs) (A B : Option Addr) (n m c d : Nat) (w : World) (ha : Row Ty.sg ok w A a) (hb : Row Ty.sg ok' w B b) (hn : n = a.length) (hm : m = b.length) :
  Calls Tryz.prog 44 #[.slice A n c, .slice B m d] w fun e w' => e = .returned (.bool (decide (a = b))) ∧ Below w.heap.size w w' := by
 subst hn hm
 have hl1 := ha.len
 have hl2 := hb.len
 by_cases hl : a.length = b.length
 ·have HL := Lib.hid hl
  have hlb : ((a.length : Int) != (b.length : Int)) = false := by simp [hl]
  have hlb2 : (a.length == b.length) = true := by simp [hl]
  clear hl
  go_enter Tryz.func44, Tryz.ntmps44
  go_wp2
  go_loopw [13] (fun i wr => ∃ k : Nat, k ≤ a.length ∧ i = .int .i64 k ∧ Below w.heap.size w wr ∧ Hid (a.take k = b.take k)) (fun i _ => a.length - (intOf i).toNat)
  case atStart => exact ⟨0, Nat.zero_le _, rfl, Below.refl _ _, by simp [Hid]⟩
  case round =>
   obtain ⟨k, hk, rfl, hbl, hall⟩ := hrel
   by_cases hlt : k < a.length
   ·have hlt2 : k < b.length := by have := HL.out; omega
    obtain ⟨ad, rfl, hx0, hx1, hx2, hx3⟩ := (ha.below hbl).sg_at k hlt
    obtain ⟨bd, rfl, hy0, hy1, hy2, hy3⟩ := (hb.below hbl).sg_at k hlt2
    by_cases hq : sgD a k = sgD b k
    ·have hd := (sgB (sgD a k) (sgD b k)).trans (decide_eq_true hq)
     have HQ := Lib.hid hq
     clear hq
     go_wp2_with fail
     go_quiet (fail)
     go_wp2
     go_roundw
     case rel => exact ⟨k + 1, by omega, by go_num, (by repeat (first | exact Below.refl _ _ | apply below_alloc | apply below_drewN | apply below_drew | (refine below_set2 ?_ ?_; (first | (simp; done) | (simp; omega))) | (refine below_step ?_ hbl))), take_eq_step ((0, 0), (0, 0)) hall.out hlt hlt2 HQ.out⟩
     case measure => simp [intOf]; omega
    ·have hd := (sgB (sgD a k) (sgD b k)).trans (decide_eq_false hq)
     have HQ := Lib.hid hq
     clear hq
     go_wp2_with fail
     go_quiet (fail)
     go_wp2
     go_ret
     exact ⟨ret_bool (by rw [eq_comm, decide_eq_false_iff_not]; exact take_ne ((0, 0), (0, 0)) HQ.out), (by repeat (first | exact Below.refl _ _ | apply below_alloc | apply below_drewN | apply below_drew | (refine below_set2 ?_ ?_; (first | (simp; done) | (simp; omega))) | (refine below_step ?_ hbl)))⟩
   ·go_wp2
    go_ret
    refine ⟨ret_bool ?_, hbl⟩
    have := hall.out
    rw [List.take_of_length_le (by omega), List.take_of_length_le (by have := HL.out; omega)] at this
    simp [this]
 ·have HL := Lib.hid hl
  have hlb : ((a.length : Int) != (b.length : Int)) = true := by simp; omega
  have hlb2 : (a.length == b.length) = false := by simpa using hl
  clear hl
  go_enter Tryz.func44, Tryz.ntmps44
  go_wp2
  go_ret
  exact ⟨ret_bool (by rw [eq_comm, decide_eq_false_iff_not]; exact fun h => HL.out (by rw [h])), Below.refl _ _⟩
end
section
open Go.RowKit Go.Proofs.YtaeflnbjeaoapaaGreatW.PrintLast

theorem inD_eq {l : List Int} {k : Nat} (h : k < l.length) : inD l k = l[k] := by simp [inD, h]
theorem Index_int {ok : Nat → Prop} (xs : List Int) (A : Option Addr) (n c : Nat) (x : Int) (w : World) (hr : Row Ty.i64 ok w A xs) (hn : n = xs.length) :
  Calls Tryz.prog 107 #[.slice A n c, .int .i64 x] w fun e w' => e = .returned (.int .i64 (ixZ xs x)) ∧ Below w.heap.size w w' := by
 subst hn
 have HR := Lib.hid hr
 have hmx := hr.len
 clear hr
 go_enter Tryz.func107, Tryz.ntmps107
 go_wp2
 go_loopw [8] (fun i wr => ∃ k : Nat, k ≤ xs.length ∧ i = .int .i64 k ∧ Hid (Below w.heap.size w wr) ∧ Hid (x ∉ xs.take k)) (fun i _ => xs.length - (intOf i).toNat)
 case atStart => exact ⟨0, Nat.zero_le _, rfl, Below.refl _ _, by simp [Hid]⟩
 case round =>
  obtain ⟨k, hk, rfl, HB, HN⟩ := hrel
  by_cases hlt : k < xs.length
  ·obtain ⟨ad, rfl, hx0⟩ := (HR.out.below HB.out).int_at k hlt
   by_cases hq : x = inD xs k
   ·have hd : (x == inD xs k) = true := by simp [hq]
    have HE : Hid (ixZ xs x = k) := ixZ_at (d := 0) hlt HN.out hq
    clear hq HN
    go_wp2
    go_ret
    exact ⟨ret_int HE.out.symm, (by repeat (first | exact Below.refl _ _ | apply below_alloc | apply below_drewN | apply below_drew | (refine below_set2 ?_ ?_; (first | (simp; done) | (simp; omega))) | (refine below_step ?_ HB.out)))⟩
   ·have hd : (x == inD xs k) = false := by simp [hq]
    have HN2 := Lib.hid (not_mem_snoc (d := 0) hlt HN.out hq)
    clear hq HN
    go_wp2
    go_roundw
    case rel => exact ⟨k + 1, by omega, by go_num, HB.out, HN2⟩
    case measure => simp [intOf]; omega
  ·obtain rfl : k = xs.length := by omega
   have HE : Hid (ixZ xs x = -1) := ixZ_none (by have := HN.out; rwa [List.take_length] at this)
   clear HN
   go_wp2
   go_ret
   exact ⟨ret_int HE.out.symm, HB.out⟩
theorem Contains_int {ok : Nat → Prop} (xs : List Int) (A : Option Addr) (n c : Nat) (x : Int) (w : World) (hr : Row Ty.i64 ok w A xs) (hn : n = xs.length) :
  Calls Tryz.prog 83 #[.slice A n c, .int .i64 x] w fun e w' => e = .returned (.bool (decide (x ∈ xs))) ∧ Below w.heap.size w w' := by
 subst hn
 go_enter Tryz.func83, Tryz.ntmps83
 go_wp2_with fail
 refine (Index_int xs A _ c x _ hr rfl).mono ?_
 rintro e w1 ⟨rfl, hb1⟩
 go_wp2
 go_ret
 exact ⟨ret_bool ((ixZ_mem xs x).trans (decide_eq_decide.2 Iff.rfl)), (by repeat (first | exact Below.refl _ _ | apply below_alloc | apply below_drewN | apply below_drew | (refine below_set2 ?_ ?_; (first | (simp; done) | (simp; omega))) | (refine below_step ?_ hb1)))⟩
theorem sets_Has {ok : Nat → Prop} (xs : List Int) (A : Option Addr) (n c : Nat) (x : Int) (w : World) (hr : Row Ty.i64 ok w A xs) (hn : n = xs.length) :
  Calls Tryz.prog 48 #[.slice A n c, .int .i64 x] w fun e w' => e = .returned (.bool (hasI xs x)) ∧ Below w.heap.size w w' := by
 subst hn
 go_enter Tryz.func48, Tryz.ntmps48
 go_wp2_with fail
 refine (Contains_int xs A _ c x _ hr rfl).mono ?_
 rintro e w1 ⟨rfl, hb1⟩
 go_wp2
 go_ret
 exact ⟨rfl, (by repeat (first | exact Below.refl _ _ | apply below_alloc | apply below_drewN | apply below_drew | (refine below_set2 ?_ ?_; (first | (simp; done) | (simp; omega))) | (refine below_step ?_ hb1)))⟩
def areaB (l : List Int) (i : Nat) : Bool := decide (0 ≤ l.getD i 0) && (decide (l.getD i 0 < 20000) && (decide (i = 0) || decide (l.getD (i - 1) 0 < l.getD i 0)))
theorem areas_def (l : List Int) : areasB l = (List.range l.length).all (areaB l) := rfl
theorem mesh_areas {ok : Nat → Prop} (l : List Int) (A : Option Addr) (n c : Nat) (w : World) (hr : Row Ty.i64 ok w A l) (hn : n = l.length) :
  Calls Tryz.prog 22 #[.slice A n c] w fun e w' => e = .returned (.bool (areasB l)) ∧ Below w.heap.size w w' := by
 subst hn
 have HR := Lib.hid hr
 have hmx := hr.len
 clear hr
 obtain ⟨z, hz⟩ : ∃ z, z = areasB l := ⟨_, rfl⟩
 have HZ : Hid (z = (List.range l.length).all (areaB l)) := hz.trans (areas_def l)
 rw [← hz]
 clear hz
 go_enter Tryz.func22, Tryz.ntmps22
 go_wp2
 go_loopw [7] (fun i wr => ∃ k : Nat, k ≤ l.length ∧ i = .int .i64 k ∧ Hid (Below w.heap.size w wr) ∧ Hid (∀ j, j < k → areaB l j = true)) (fun i _ => l.length - (intOf i).toNat)
 case atStart => exact ⟨0, Nat.zero_le _, rfl, Below.refl _ _, fun j h => by omega⟩
 case round =>
  obtain ⟨k, hk, rfl, HB, HN⟩ := hrel
  by_cases hlt : k < l.length
  ·obtain ⟨ad, rfl, hx0⟩ := (HR.out.below HB.out).int_at k hlt
   have HBad : Hid (areaB l k = false → z = false) := fun h => by
    rw [HZ.out, List.all_eq_false]
    exact ⟨k, List.mem_range.2 hlt, by rw [h]; decide⟩
   have HA : Hid (areaB l k = (decide (0 ≤ inD l k) && (decide (inD l k < 20000) && (decide (k = 0) || decide (inD l (k - 1) < inD l k))))) := rfl
   by_cases h1 : inD l k < 0
   ·have q1 : decide (inD l k < 0) = true := decide_eq_true h1
    have HR1 := HBad.out (by rw [HA.out, decide_eq_false (by omega)]; rfl)
    have HF := Lib.hid HR1
    clear h1 HR1
    generalize inD l k = x at *
    go_wp2
    go_ret
    exact ⟨ret_bool HF.out.symm, HB.out⟩
   ·have q1 : decide (inD l k < 0) = false := decide_eq_false h1
    by_cases h2 : 20000 ≤ inD l k
    ·have q2 : decide (20000 ≤ inD l k) = true := decide_eq_true h2
     have HF := Lib.hid (HBad.out (by rw [HA.out, decide_eq_false (p := inD l k < 20000) (by omega)]; simp))
     clear h1 h2
     generalize inD l k = x at *
     go_wp2
     go_ret
     exact ⟨ret_bool HF.out.symm, HB.out⟩
    ·have q2 : decide (20000 ≤ inD l k) = false := decide_eq_false h2
     by_cases h3 : k = 0
     ·have HG : Hid (areaB l k = true) := by show _ = _; rw [HA.out, decide_eq_true (by omega), decide_eq_true (p := inD l k < 20000) (by omega), decide_eq_true h3]; rfl
      have q3 : decide ((0 : Int) < (k : Int)) = false := decide_eq_false (by omega)
      have q3' : decide (0 < k) = false := decide_eq_false (by omega)
      have hk0 : ¬ 0 < k := by omega
      clear h1 h2 h3
      generalize inD l k = x at *
      go_wp2
      go_roundw
      case rel => exact ⟨k + 1, by omega, by go_num, HB.out, fun j hj => if e : j = k then by rw [e]; exact HG.out else HN.out j (by omega)⟩
      case measure => simp [intOf]; omega
     ·have hkp : 0 < k := by omega
      obtain ⟨ad', e, hy0⟩ := (HR.out.below HB.out).int_at (k - 1) (by omega)
      cases e
      have q3 : decide ((0 : Int) < (k : Int)) = true := decide_eq_true (by omega)
      have q3' : decide (0 < k) = true := decide_eq_true hkp
      have hw : IntKind.i64.wrap ((k : Int) - 1) = (k : Int) - 1 := IntWalk.i64_in _ (by omega)
      have hb1 : (0 : Int) ≤ (k : Int) - 1 := by omega
      have hb2 : (k : Int) - 1 < (l.length : Int) := by omega
      have hk3 : (k : Int) < (l.length : Int) := by omega
      have HA2 : Hid (areaB l k = decide (inD l (k - 1) < inD l k)) := by
       show _ = _
       rw [HA.out, decide_eq_true (p := 0 ≤ inD l k) (by omega), decide_eq_true (p := inD l k < 20000) (by omega), decide_eq_false h3]
       simp
      clear h1 h2 h3 HA
      by_cases h4 : inD l k ≤ inD l (k - 1)
      ·have q4 : decide (inD l k ≤ inD l (k - 1)) = true := decide_eq_true h4
       have HF := Lib.hid (HBad.out (HA2.out.trans (decide_eq_false (by omega))))
       clear h4 HA2 HBad
       generalize inD l k = x at *
       generalize inD l (k - 1) = y at *
       go_wp2
       go_ret
       exact ⟨ret_bool HF.out.symm, HB.out⟩
      ·have q4 : decide (inD l k ≤ inD l (k - 1)) = false := decide_eq_false h4
       have HG := Lib.hid (HA2.out.trans (decide_eq_true (by omega)))
       clear h4 HA2 HBad
       generalize inD l k = x at *
       generalize inD l (k - 1) = y at *
       go_wp2
       go_roundw
       case rel => exact ⟨k + 1, by omega, by go_num, HB.out, fun i hi => if e : i = k then by rw [e]; exact HG.out else HN.out i (by omega)⟩
       case measure => simp [intOf]; omega
  ·obtain rfl : k = l.length := by omega
   have HF : Hid (z = true) := HZ.out.trans (List.all_eq_true.2 (fun j hj => HN.out j (List.mem_range.1 hj)))
   go_wp2
   go_ret
   exact ⟨ret_bool HF.out.symm, HB.out⟩
end
section
open Go.RowKit Go.Proofs.YtaeflnbjeaoapaaGreatW.PrintLast

attribute [local go_sem high] eqPt eqSg
theorem Equal_int {ok ok' : Nat → Prop} (a b : List Int) (A B : Option Addr) (n m c d : Nat) (w : World) (ha : Row Ty.i64 ok w A a) (hb : Row Ty.i64 ok' w B b) (hn : n = a.length) (hm : m = b.length) :
  Calls Tryz.prog 41 #[.slice A n c, .slice B m d] w fun e w' => e = .returned (.bool (decide (a = b))) ∧ Below w.heap.size w w' := by
 subst hn hm
 have hl1 := ha.len
 have hl2 := hb.len
 by_cases hl : a.length = b.length
 ·have HL := Lib.hid hl
  have hlb : ((a.length : Int) != (b.length : Int)) = false := by simp [hl]
  have hlb2 : (a.length == b.length) = true := by simp [hl]
  clear hl
  go_enter Tryz.func41, Tryz.ntmps41
  go_wp2
  go_loopw [13] (fun i wr => ∃ k : Nat, k ≤ a.length ∧ i = .int .i64 k ∧ Below w.heap.size w wr ∧ Hid (a.take k = b.take k)) (fun i _ => a.length - (intOf i).toNat)
  case atStart => exact ⟨0, Nat.zero_le _, rfl, Below.refl _ _, by simp [Hid]⟩
  case round =>
   obtain ⟨k, hk, rfl, hbl, hall⟩ := hrel
   by_cases hlt : k < a.length
   ·have hlt2 : k < b.length := by have := HL.out; omega
    obtain ⟨ad, rfl, hx0⟩ := (ha.below hbl).int_at k hlt
    obtain ⟨bd, rfl, hy0⟩ := (hb.below hbl).int_at k hlt2
    by_cases hq : inD a k = inD b k
    ·have hd : (inD a k != inD b k) = false := by simp [hq]
     have HQ := Lib.hid hq
     clear hq
     go_wp2_with fail
     go_quiet (fail)
     go_wp2
     go_roundw
     case rel => exact ⟨k + 1, by omega, by go_num, (by repeat (first | exact Below.refl _ _ | apply below_alloc | apply below_drewN | apply below_drew | (refine below_set2 ?_ ?_; (first | (simp; done) | (simp; omega))) | (refine below_step ?_ hbl))), take_eq_step 0 hall.out hlt hlt2 HQ.out⟩
     case measure => simp [intOf]; omega
    ·have hd : (inD a k != inD b k) = true := by simp [hq]
     have HQ := Lib.hid hq
     clear hq
     go_wp2_with fail
     go_quiet (fail)
     go_wp2
     go_ret
     exact ⟨ret_bool (by rw [eq_comm, decide_eq_false_iff_not]; exact take_ne 0 HQ.out), (by repeat (first | exact Below.refl _ _ | apply below_alloc | apply below_drewN | apply below_drew | (refine below_set2 ?_ ?_; (first | (simp; done) | (simp; omega))) | (refine below_step ?_ hbl)))⟩
   ·go_wp2
    go_ret
    refine ⟨ret_bool ?_, hbl⟩
    have := hall.out
    rw [List.take_of_length_le (by omega), List.take_of_length_le (by have := HL.out; omega)] at this
    simp [this]
 ·have HL := Lib.hid hl
  have hlb : ((a.length : Int) != (b.length : Int)) = true := by simp; omega
  have hlb2 : (a.length == b.length) = false := by simpa using hl
  clear hl
  go_enter Tryz.func41, Tryz.ntmps41
  go_wp2
  go_ret
  exact ⟨ret_bool (by rw [eq_comm, decide_eq_false_iff_not]; exact fun h => HL.out (by rw [h])), Below.refl _ _⟩
abbrev egA (s : Sg) (A B : Option Addr) (n m c d : Nat) : Value := .agg #[.int .i64 s.1.1, .int .i64 s.1.2, .int .i64 s.2.1, .int .i64 s.2.2, .slice A n c, .slice B m d]
theorem leave_here (a1 a2 a3 a4 : Int) (A B : Option Addr) (n m c d : Nat) (w : World) :
  Calls Tryz.prog 39 #[.agg #[.int .i64 a1, .int .i64 a2, .int .i64 a3, .int .i64 a4, .slice A n c, .slice B m d], .agg #[.int .i64 a1, .int .i64 a2]] w fun e w' =>
   e = .returned (.tuple #[.agg #[.int .i64 a3, .int .i64 a4], .slice A n c, .slice B m d]) ∧ Below w.heap.size w w' := by
 obtain ⟨W0, hW0⟩ : ∃ W0, W0 = ((w.alloc (.cells #[.int .i64 a1, .int .i64 a2, .int .i64 a3, .int .i64 a4, .slice A n c, .slice B m d] 31)).alloc (.cells #[.int .i64 a1, .int .i64 a2] 28)).alloc (.cells #[.int .i64 0, .int .i64 0] 28) := ⟨_, rfl⟩
 have hE : W0.heap[w.heap.size]? = some (.cells #[.int .i64 a1, .int .i64 a2, .int .i64 a3, .int .i64 a4, .slice A n c, .slice B m d] 31 (0, 0)) := by rw [hW0]; exact blk_alloc (blk_alloc (heap_alloc_new _ _) _) _
 have hZ : W0.heap[w.heap.size + 1 + 1]? = some (.cells #[.int .i64 0, .int .i64 0] 28 (0, 0)) := by
  rw [hW0]; have := heap_alloc_new ((w.alloc (.cells #[.int .i64 a1, .int .i64 a2, .int .i64 a3, .int .i64 a4, .slice A n c, .slice B m d] 31)).alloc (.cells #[.int .i64 a1, .int .i64 a2] 28)) (.cells #[.int .i64 0, .int .i64 0] 28); simpa using this
 have B0 : Below w.heap.size w W0 := by rw [hW0]; exact bq
 have hx0 := blk_cell hE 0 rfl
 have hx1 := blk_cell hE 1 rfl
 have hx2 := blk_cell hE 2 rfl
 have hx3 := blk_cell hE 3 rfl
 have hx4 := blk_cell hE 4 rfl
 have hx5 := blk_cell hE 5 rfl
 have hz0 := blk_cell hZ 0 rfl
 have hz1 := blk_cell hZ 1 rfl
 have hf0 := blk_free hZ 0
 have hf1 := blk_free hZ 1
 clear hE hZ
 go_enter Tryz.func39, Tryz.ntmps39
 go_wp2_with fail
 rw [← hW0]
 clear hW0
 go_region
 go_wp2
 refine bodyPost_ret (v := .tuple #[.agg #[.int .i64 a3, .int .i64 a4], .slice A n c, .slice B m d]) ?_ rfl ⟨rfl, below_drew (below_set2 (by simp; omega) (below_set2 (by simp; omega) B0))⟩
 simp [results, Tryz.results39]
 go_simp
theorem leave_there (a1 a2 a3 a4 : Int) (p1 p2 : Int) (A B : Option Addr) (n m c d : Nat) (w : World) (hne : (decide (a1 = p1) && decide (a2 = p2)) = false) :
  Calls Tryz.prog 39 #[.agg #[.int .i64 a1, .int .i64 a2, .int .i64 a3, .int .i64 a4, .slice A n c, .slice B m d], .agg #[.int .i64 p1, .int .i64 p2]] w fun e w' =>
   e = .returned (.tuple #[.agg #[.int .i64 a1, .int .i64 a2], .slice B m d, .slice A n c]) ∧ Below w.heap.size w w' := by
 obtain ⟨W0, hW0⟩ : ∃ W0, W0 = ((w.alloc (.cells #[.int .i64 a1, .int .i64 a2, .int .i64 a3, .int .i64 a4, .slice A n c, .slice B m d] 31)).alloc (.cells #[.int .i64 p1, .int .i64 p2] 28)).alloc (.cells #[.int .i64 0, .int .i64 0] 28) := ⟨_, rfl⟩
 have hE : W0.heap[w.heap.size]? = some (.cells #[.int .i64 a1, .int .i64 a2, .int .i64 a3, .int .i64 a4, .slice A n c, .slice B m d] 31 (0, 0)) := by rw [hW0]; exact blk_alloc (blk_alloc (heap_alloc_new _ _) _) _
 have hZ : W0.heap[w.heap.size + 1 + 1]? = some (.cells #[.int .i64 0, .int .i64 0] 28 (0, 0)) := by
  rw [hW0]; have := heap_alloc_new ((w.alloc (.cells #[.int .i64 a1, .int .i64 a2, .int .i64 a3, .int .i64 a4, .slice A n c, .slice B m d] 31)).alloc (.cells #[.int .i64 p1, .int .i64 p2] 28)) (.cells #[.int .i64 0, .int .i64 0] 28); simpa using this
 have B0 : Below w.heap.size w W0 := by rw [hW0]; exact bq
 have hx0 := blk_cell hE 0 rfl
 have hx1 := blk_cell hE 1 rfl
 have hx2 := blk_cell hE 2 rfl
 have hx3 := blk_cell hE 3 rfl
 have hx4 := blk_cell hE 4 rfl
 have hx5 := blk_cell hE 5 rfl
 have hz0 := blk_cell hZ 0 rfl
 have hz1 := blk_cell hZ 1 rfl
 have hf0 := blk_free hZ 0
 have hf1 := blk_free hZ 1
 clear hE hZ
 go_enter Tryz.func39, Tryz.ntmps39
 go_wp2_with fail
 rw [← hW0]
 clear hW0
 go_region
 go_wp2
 refine bodyPost_ret (v := .tuple #[.agg #[.int .i64 a1, .int .i64 a2], .slice B m d, .slice A n c]) ?_ rfl ⟨rfl, below_drew (below_set2 (by simp; omega) (below_set2 (by simp; omega) B0))⟩
 simp [results, Tryz.results39]
 go_simp
end
section
open Go.RowKit Go.Proofs.YtaeflnbjeaoapaaGreatW.PrintLast

theorem infoEg : (Tryz.prog.info? 31).map (fun i => (i.zero, i.size, i.bytes)) = some (some (.agg #[.int .i64 0, .int .i64 0, .int .i64 0, .int .i64 0, .slice none 0 0, .slice none 0 0]), 6, 80) := by kernel_rfl
/-- A row of edges of the call's own; the edges' lists lie in elder blocks. -/
abbrev OwnE (okk : Nat → Prop) (base : Nat) (w : World) (v : Value) (xs : Msh) : Prop := OwnR Ty.edge 31 base (fun k => ¬ okk k) w v xs
theorem OwnE.of {okk : Nat → Prop} {base : Nat} (hlo : ∀ k, okk k → k < base) {w : World} {v v1 : Value} {xs : Msh} (h : OwnR Ty.edge 31 base (fun k => ¬ okk k ∨ v1.ownBlock = some k) w v xs) (hv : v1 = v) : OwnE okk base w v xs := by
 subst hv
 exact h.remut (fun k _ hk => .inl hk) (fun k hk hok => absurd (OwnR.lt h k hk).1 (Nat.not_le_of_lt (hlo k hok)))
theorem edgeR {ok : Nat → Prop} {w : World} {A B : Option Addr} {n m : Nat} {s : Sg} {L R : List Int} (hn : L.length ≤ n) (hA : Row Ty.i64 ok w A L) (hm : R.length ≤ m) (hB : Row Ty.i64 ok w B R) :
  Ty.edge.R ok w (s, (L, R)) [.int .i64 s.1.1, .int .i64 s.1.2, .int .i64 s.2.1, .int .i64 s.2.2, .slice A L.length n, .slice B R.length m] :=
 ⟨[.int .i64 s.1.1, .int .i64 s.1.2, .int .i64 s.2.1, .int .i64 s.2.2], [.slice A L.length n, .slice B R.length m], rfl, rfl, [.slice A L.length n], [.slice B R.length m], rfl, ⟨A, n, rfl, hn, hA⟩, B, m, rfl, hm, hB⟩
theorem Row.bnd' {α : Type} {T : Ty α} {ok : Nat → Prop} {w : World} {A : Option Addr} {xs : List α} (h : Row T ok w A xs) : Row T (fun k => k < w.heap.size) w A xs := Row.mono (Row.bnd h) (fun _ hk => hk.2)
/-- The first two of an own row of edges. -/
theorem OwnE.two {okk : Nat → Prop} {base : Nat} {w : World} {v : Value} {xs : Msh} (h : OwnE okk base w v xs) (h2 : xs.length = 2) :
  ∃ g c A0 c0 B0 d0 A1 c1 B1 d1, v = .slice (some ⟨g, 0, none⟩) 2 c ∧ base ≤ g ∧ g < w.heap.size ∧
   (w.cell? ⟨g, 0, none⟩ = some (.int .i64 (egD xs 0).1.1.1) ∧ w.cell? ⟨g, 1, none⟩ = some (.int .i64 (egD xs 0).1.1.2) ∧ w.cell? ⟨g, 2, none⟩ = some (.int .i64 (egD xs 0).1.2.1) ∧ w.cell? ⟨g, 3, none⟩ = some (.int .i64 (egD xs 0).1.2.2) ∧
    w.cell? ⟨g, 4, none⟩ = some (.slice A0 (egD xs 0).2.1.length c0) ∧ w.cell? ⟨g, 5, none⟩ = some (.slice B0 (egD xs 0).2.2.length d0)) ∧
   (w.cell? ⟨g, 6, none⟩ = some (.int .i64 (egD xs 1).1.1.1) ∧ w.cell? ⟨g, 7, none⟩ = some (.int .i64 (egD xs 1).1.1.2) ∧ w.cell? ⟨g, 8, none⟩ = some (.int .i64 (egD xs 1).1.2.1) ∧ w.cell? ⟨g, 9, none⟩ = some (.int .i64 (egD xs 1).1.2.2) ∧
    w.cell? ⟨g, 10, none⟩ = some (.slice A1 (egD xs 1).2.1.length c1) ∧ w.cell? ⟨g, 11, none⟩ = some (.slice B1 (egD xs 1).2.2.length d1)) ∧
   ((egD xs 0).2.1.length ≤ c0 ∧ Row Ty.i64 (fun k => okk k ∨ k = g) w A0 (egD xs 0).2.1 ∧ (egD xs 0).2.2.length ≤ d0 ∧ Row Ty.i64 (fun k => okk k ∨ k = g) w B0 (egD xs 0).2.2) ∧
   ((egD xs 1).2.1.length ≤ c1 ∧ Row Ty.i64 (fun k => okk k ∨ k = g) w A1 (egD xs 1).2.1 ∧ (egD xs 1).2.2.length ≤ d1 ∧ Row Ty.i64 (fun k => okk k ∨ k = g) w B1 (egD xs 1).2.2) := by
 obtain ⟨A, c, rfl, hl, hr, hg⟩ := OwnR.reads h
 obtain ⟨g, rfl, hb, hlt, _⟩ := hg (by omega)
 obtain ⟨ad, A0, c0, B0, d0, e0, x0, x1, x2, x3, x4, x5, r0, r1, r2, r3⟩ := hr.edge_at 0 (by omega)
 cases e0
 obtain ⟨ad, A1, c1, B1, d1, e1, y0, y1, y2, y3, y4, y5, s0, s1, s2, s3⟩ := hr.edge_at 1 (by omega)
 cases e1
 rw [h2] at r1 r3 s1 s3 ⊢
 rw [add_at] at x0 x1 x2 x3 x4 x5 y0 y1 y2 y3 y4 y5
 have t : ∀ {A : Option Addr} {xs : List Int}, Row Ty.i64 (fun k => ¬ ¬ okk k ∨ (Value.slice (some ⟨g, 0, none⟩) 2 c).ownBlock = some k) w A xs → Row Ty.i64 (fun k => okk k ∨ k = g) w A xs := fun h => h.mono (fun k hk => by rcases hk with hk | hk; exact .inl (Classical.not_not.1 hk); exact .inr (by simpa [Value.ownBlock, eq_comm] using hk))
 exact ⟨g, c, A0, c0, B0, d0, A1, c1, B1, d1, rfl, hb, hlt, ⟨x0, x1, x2, x3, x4, x5⟩, ⟨y0, y1, y2, y3, y4, y5⟩, ⟨r0, t r1, r2, t r3⟩, s0, t s1, s2, t s3⟩
theorem filter_snoc (m : Msh) (f : Edg → Bool) (k : Nat) (h : k < m.length) : (m.take (k + 1)).filter f = (m.take k).filter f ++ if f (egD m k) = true then [egD m k] else [] := by
 rw [take_snoc m k (((0, 0), (0, 0)), ([], [])) h, List.filter_append]
 congr 1
 show [egD m k].filter f = _
 cases hb : f (egD m k)
 ·rw [List.filter_cons_of_neg (by rw [hb]; decide)]; rfl
 ·rw [List.filter_cons_of_pos hb]; rfl
theorem filter_take_len (m : Msh) (f : Edg → Bool) (k : Nat) : ((m.take k).filter f).length ≤ k :=
 Nat.le_trans (List.length_filter_le _ _) (by rw [List.length_take]; omega)
/-- A corner as a value. -/
abbrev corV (u p w : Pt) (size : Int) (A : Option Addr) (n c : Nat) (B : Option Addr) (m d : Nat) (s : Bool) : Value :=
 .agg #[.int .i64 u.1, .int .i64 u.2, .int .i64 p.1, .int .i64 p.2, .int .i64 w.1, .int .i64 w.2, .int .i64 size, .slice A n c, .slice B m d, .bool s]
def CorR (ok : Nat → Prop) (w : World) (v : Value) (c : Cor) : Prop := ∃ A n B m, v = corV c.u c.p c.w c.size A c.left.length n B c.right.length m c.smooth ∧ c.left.length ≤ n ∧ Row Ty.i64 ok w A c.left ∧ c.right.length ≤ m ∧ Row Ty.i64 ok w B c.right
theorem CorR.below {ok : Nat → Prop} {w w' : World} {v : Value} {c : Cor} (h : CorR ok w v c) (hb : Below w.heap.size w w') : CorR ok w' v c := by
 obtain ⟨A, n, B, m, e, h1, h2, h3, h4⟩ := h
 exact ⟨A, n, B, m, e, h1, h2.below hb, h3, h4.below hb⟩
theorem CorR.zero (ok : Nat → Prop) (w : World) : CorR ok w (corV (0, 0) (0, 0) (0, 0) 0 none 0 0 none 0 0 false) cor0 := ⟨none, 0, none, 0, rfl, Nat.le_refl _, Row.nil _ _ _ _, Nat.le_refl _, Row.nil _ _ _ _⟩
/-- simplify.leave -/
theorem simplify_leave {ok : Nat → Prop} (s : Sg) (L R : List Int) (p : Pt) (A B : Option Addr) (c d : Nat) (w : World) (hL : Row Ty.i64 ok w A L) (hc : L.length ≤ c) (hR : Row Ty.i64 ok w B R) (hd : R.length ≤ d) :
  Calls Tryz.prog 39 #[.agg #[.int .i64 s.1.1, .int .i64 s.1.2, .int .i64 s.2.1, .int .i64 s.2.2, .slice A L.length c, .slice B R.length d], .agg #[.int .i64 p.1, .int .i64 p.2]] w fun e w' =>
   ∃ A' c' B' d' X Y Z, e = .returned (.tuple #[X, Y, Z]) ∧ X = ptA (leaveZ (s, (L, R)) p).1 ∧ Y = .slice A' (leaveZ (s, (L, R)) p).2.1.length c' ∧ Z = .slice B' (leaveZ (s, (L, R)) p).2.2.length d' ∧
    (leaveZ (s, (L, R)) p).2.1.length ≤ c' ∧ Row Ty.i64 ok w' A' (leaveZ (s, (L, R)) p).2.1 ∧ (leaveZ (s, (L, R)) p).2.2.length ≤ d' ∧ Row Ty.i64 ok w' B' (leaveZ (s, (L, R)) p).2.2 ∧ Below w.heap.size w w' := by
 obtain ⟨⟨a1, a2⟩, a3, a4⟩ := s
 obtain ⟨p1, p2⟩ := p
 simp only
 by_cases h : ((a1, a2) : Pt) = (p1, p2)
 ·have e : leaveZ (((a1, a2), (a3, a4)), (L, R)) (p1, p2) = ((a3, a4), (L, R)) := if_pos h
  rw [e]
  cases h
  refine (leave_here a1 a2 a3 a4 A B L.length R.length c d w).mono ?_
  rintro _ w1 ⟨rfl, hb⟩
  exact ⟨A, c, B, d, _, _, _, rfl, rfl, rfl, rfl, hc, hL.below hb, hd, hR.below hb, hb⟩
 ·have e : leaveZ (((a1, a2), (a3, a4)), (L, R)) (p1, p2) = ((a1, a2), (R, L)) := if_neg h
  rw [e]
  refine (leave_there a1 a2 a3 a4 p1 p2 A B L.length R.length c d w (by simpa using h)).mono ?_
  rintro _ w1 ⟨rfl, hb⟩
  exact ⟨B, d, A, c, _, _, _, rfl, rfl, rfl, rfl, hd, hR.below hb, hc, hL.below hb, hb⟩
theorem turn_bd (a b c : Pt) : -4611686018427387904 ≤ turnZ a b c ∧ turnZ a b c ≤ 4611686018427387904 := by
 cases hv : (validB a && validB b && validB c)
 ·simp [turnZ, hv]
 ·rw [turn_valid hv]
  rw [Bool.and_eq_true, Bool.and_eq_true] at hv
  obtain ⟨a1, a2, a3, a4⟩ := valid_bd hv.1.1
  obtain ⟨b1, b2, b3, b4⟩ := valid_bd hv.1.2
  obtain ⟨c1, c2, c3, c4⟩ := valid_bd hv.2
  unfold crossZ
  have k1 := mul_bd2 (a := b.1 - a.1) (b := c.2 - a.2) (by omega) (by omega) (by omega) (by omega)
  have k2 := mul_bd2 (a := b.2 - a.2) (b := c.1 - a.1) (by omega) (by omega) (by omega) (by omega)
  first | omega | (simp only [Int.mul_comm] at *; omega)
end
end Go.Proofs.YtaeflnbjeaoapaaGreat
