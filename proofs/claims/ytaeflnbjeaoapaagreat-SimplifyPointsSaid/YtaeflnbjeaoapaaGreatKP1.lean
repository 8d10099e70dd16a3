/- Words of this session's own, second part: rows that a call owns; append's laws over kinds of values. No program is in sight. Worlds that have drawn and grown, no more. No program is in sight. Contracts of grid.Less, seg.Less, noding.order and of the comparison of noding.Split: what they answer, and that they only draw and lay blocks. Words of this session's own: rows out of cells; copy over elements of any size; append at a step of a region that draws. No program is in sight. Words of this session's own for Trace: own rows, stores and clear in them, segments and rings as elements. Words of this session's own for meshes: edges as elements of rows. '==' of structs as one Bool (words that the kit's print.sh wrote for this seat, without the words that they do not use). '==' of points and of segments as one test; slices of the call's own read at an index. -/
import Derived.Test.YtaeflnbjeaoapaaGreatKPW
import Derived.Test.YtaeflnbjeaoapaaGreatKP0
import Derived.Maps.AppendAt
import Derived.Deep.AppendLies
import Derived.Sort.Grow
import Derived.Laws.CopyRow
import Derived.Lib.SliceRun
import Derived.Test.YtaeflnbjeaoapaaGreatWLast
import Derived.RowKit
import Derived.Laws.StructEq
namespace Go.Proofs.YtaeflnbjeaoapaaGreat
set_option linter.unusedVariables false
set_option linter.unusedSimpArgs false
section
open Go.RowKit

def Reps {α : Type} (T : Ty α) (ok : Nat → Prop) (w : World) : List α → List Value → Prop
 | [], cs => cs = []
 | x :: xs, cs => ∃ c d, cs = c ++ d ∧ T.R ok w x c ∧ Reps T ok w xs d
section
variable {α : Type} {T : Ty α} {ok ok' : Nat → Prop} {w w' : World}
theorem Reps.len : ∀ {xs : List α} {cs : List Value}, Reps T ok w xs cs → cs.length = xs.length * T.sz
 | [], _, h => by rw [show _ = [] from h]; simp
 | x :: xs, _, ⟨c, d, e, hc, hd⟩ => by rw [e, List.length_append, T.len hc, Reps.len hd, List.length_cons, Nat.add_mul, Nat.one_mul, Nat.add_comm]
theorem Reps.one : ∀ {xs : List α} {cs : List Value}, Reps T ok w xs cs → ∀ u ∈ cs, u.oneCell' = true
 | [], _, h, u, hu => by rw [show _ = [] from h] at hu; cases hu
 | x :: xs, _, ⟨c, d, e, hc, hd⟩, u, hu => by
  rw [e] at hu
  rcases List.mem_append.1 hu with h | h
  ·exact T.one hc u h
  ·exact Reps.one hd u h
theorem Reps.imp (hi : ∀ x c, T.R ok w x c → T.R ok' w' x c) : ∀ {xs : List α} {cs : List Value}, Reps T ok w xs cs → Reps T ok' w' xs cs
 | [], _, h => h
 | x :: xs, _, ⟨c, d, e, hc, hd⟩ => ⟨c, d, e, hi _ _ hc, Reps.imp hi hd⟩
theorem Reps.append : ∀ {xs ys : List α} {cs ds : List Value}, Reps T ok w xs cs → Reps T ok w ys ds → Reps T ok w (xs ++ ys) (cs ++ ds)
 | [], ys, cs, ds, h, h' => by rw [show cs = [] from h]; exact h'
 | x :: xs, ys, cs, ds, ⟨c, d, e, hc, hd⟩, h' => ⟨c, d ++ ds, by rw [e, List.append_assoc], hc, Reps.append hd h'⟩
theorem Reps.single {x : α} {c : List Value} (h : T.R ok w x c) : Reps T ok w [x] c := ⟨c, [], by simp, h, rfl⟩
theorem Reps.get : ∀ {xs : List α} {cs : List Value}, Reps T ok w xs cs → ∀ (i : Nat) (x : α), xs[i]? = some x → ∃ c, T.R ok w x c ∧ ∀ (j : Nat) (u : Value), c[j]? = some u → cs[i * T.sz + j]? = some u
 | [], _, _, i, x, hx => by simp at hx
 | y :: ys, cs, ⟨c, d, e, hc, hd⟩, 0, x, hx => by
  simp at hx; subst hx
  refine ⟨c, hc, fun j u hu => ?_⟩
  rw [e, Nat.zero_mul, Nat.zero_add, List.getElem?_append_left (List.getElem?_eq_some_iff.1 hu).1]; exact hu
 | y :: ys, cs, ⟨c, d, e, hc, hd⟩, i + 1, x, hx => by
  obtain ⟨c', hc', hk⟩ := Reps.get hd i x (by simpa using hx)
  refine ⟨c', hc', fun j u hu => ?_⟩
  have hl := T.len hc
  rw [e, List.getElem?_append_right (by rw [hl, Nat.add_mul]; omega), hl]
  rw [show (i + 1) * T.sz + j - T.sz = i * T.sz + j by rw [Nat.add_mul]; omega]
  exact hk j u hu
theorem Reps.of_cells {ad : Addr} : ∀ {xs : List α} (o : Nat), (∀ (i : Nat) (x : α), xs[i]? = some x → ∃ cs, T.R ok w x cs ∧ CellsAt w ad (o + i * T.sz) cs) → ∃ cs, Reps T ok w xs cs ∧ CellsAt w ad o cs
 | [], o, _ => ⟨[], rfl, fun j u hu => by simp at hu⟩
 | x :: xs, o, h => by
  obtain ⟨c, hc, hk⟩ := h 0 x rfl
  obtain ⟨d, hd, hk'⟩ := Reps.of_cells (xs := xs) (o + T.sz) (fun i y hy => by
   obtain ⟨c', hc', hk'⟩ := h (i + 1) y (by simpa using hy)
   exact ⟨c', hc', by rw [show o + T.sz + i * T.sz = o + (i + 1) * T.sz by rw [Nat.add_mul]; omega]; exact hk'⟩)
  refine ⟨c ++ d, ⟨c, d, rfl, hc, hd⟩, fun j u hu => ?_⟩
  rcases Nat.lt_or_ge j c.length with hj | hj
  ·rw [List.getElem?_append_left hj] at hu
   have := hk j u hu
   rwa [Nat.zero_mul, Nat.add_zero] at this
  ·rw [List.getElem?_append_right hj] at hu
   have := hk' (j - c.length) u hu
   rw [T.len hc] at this hj
   rwa [show o + T.sz + (j - T.sz) = o + j by omega] at this
theorem Row.reps {ad : Addr} {xs : List α} (h : Row T ok w (some ad) xs) : ∃ cs, Reps T ok w xs cs ∧ ∀ (j : Nat) (u : Value), cs[j]? = some u → w.cell? (ad.add j) = some u := by
 rcases Nat.eq_zero_or_pos xs.length with h0 | h0
 ·obtain rfl := List.eq_nil_of_length_eq_zero h0
  exact ⟨[], rfl, fun j u hu => by simp at hu⟩
 ·obtain ⟨ad', e, _, hc⟩ := h.2 h0
  injection e with e
  subst e
  obtain ⟨cs, hr, hk⟩ := Reps.of_cells (ad := ad) (o := 0) (fun i x hx => by rw [Nat.zero_add]; exact hc i x hx)
  exact ⟨cs, hr, fun j u hu => by have := hk j u hu; rwa [Nat.zero_add] at this⟩
end

/-- A row of the call's own (element type e, from block base on). M: the blocks that may still be written, this row's own among them: the elements' readings look at none of these. -/
def OwnR {α : Type} (T : Ty α) (e : TypeId) (base : Nat) (M : Nat → Prop) (w : World) (v : Value) (xs : List α) : Prop :=
 (∀ k, v.ownBlock = some k → M k) ∧ ∃ inner, w.ownsRow base e T.sz v xs.length inner ∧ Reps T (fun k => ¬ M k) w xs inner

section
variable {α : Type} {T : Ty α} {M M' : Nat → Prop} {w w' : World} {base : Nat} {e : TypeId} {v : Value} {xs : List α}
theorem OwnR.nil (T : Ty α) (e : TypeId) (base : Nat) (M : Nat → Prop) (w : World) : OwnR T e base M w (.slice none 0 0) [] :=
 ⟨fun k hk => by simp [Value.ownBlock] at hk, [], World.ownsRow_nil _ _ _ _, rfl⟩
theorem OwnR.lt (h : OwnR T e base M w v xs) : ∀ k, v.ownBlock = some k → base ≤ k ∧ k < w.heap.size := by
 obtain ⟨_, inner, ho, _⟩ := h
 exact ho.lt
theorem OwnR.mine (h : OwnR T e base M w v xs) : ∀ k, v.ownBlock = some k → M k := h.1
/-- Another choice of what may be written: new blocks, or fewer. -/
theorem OwnR.remut (h : OwnR T e base M w v xs) (hM : ∀ k, k < w.heap.size → M' k → M k) (hv : ∀ k, v.ownBlock = some k → M' k) : OwnR T e base M' w v xs := by
 obtain ⟨_, inner, ho, hr⟩ := h
 exact ⟨hv, inner, ho, hr.imp (fun x c hc => T.mono (fun k hk => fun hm => hk.1 (hM k hk.2 hm)) (T.bnd hc))⟩
/-- A world in which some other blocks that may be written have turned. -/
theorem OwnR.kept {S : Nat → Prop} (h : OwnR T e base M w v xs) (k : KeptS S w w') (hS : ∀ b, S b → M b) (hv : ∀ b, v.ownBlock = some b → ¬ S b) : OwnR T e base M w' v xs := by
 obtain ⟨h0, inner, ho, hr⟩ := h
 refine ⟨h0, inner, ?_, hr.imp (fun x c hc => T.step hc (fun b hb hlt => k.block b hlt (fun hs => hb (hS b hs))))⟩
 obtain ⟨h1, h2⟩ := ho
 refine ⟨h1, ?_⟩
 rcases h2 with h2 | ⟨g, cap, cur, rfl, hg, hh, r⟩
 ·exact .inl h2
 ·exact .inr ⟨g, cap, cur, rfl, hg, (k.block g (lt_of_block hh) (hv g rfl)).trans hh, r⟩
theorem OwnR.below (h : OwnR T e base M w v xs) (hb : Below w.heap.size w w') : OwnR T e base M w' v xs :=
 h.kept (S := fun _ => False) (kept_of_below hb) (fun _ hf => hf.elim) (fun _ _ hf => hf)
theorem OwnR.alloc (h : OwnR T e base M w v xs) (o : Obj) : OwnR T e base M (w.alloc o) v xs := h.below (below_alloc (Below.refl _ _) o)
theorem OwnR.drew (h : OwnR T e base M w v xs) : OwnR T e base M w.drew v xs := h.below (below_drew (Below.refl _ _))
theorem OwnR.drewN (h : OwnR T e base M w v xs) (n : Nat) : OwnR T e base M (w.drewN n) v xs := h.below (below_drewN (Below.refl _ _) n)
theorem OwnR.len (h : OwnR T e base M w v xs) : xs.length ≤ 9223372036854775807 := by
 obtain ⟨_, inner, ho, _⟩ := h
 rcases ho.2 with ⟨_, hn⟩ | ⟨g, cap, cur, _, _, _, h1, h2, _⟩
 ·omega
 ·simp only [maxLen] at h2; omega
/-- It reads. -/
theorem OwnR.reads (h : OwnR T e base M w v xs) : ∃ A c, v = .slice A xs.length c ∧ xs.length ≤ c ∧ Row T (fun k => ¬ M k ∨ v.ownBlock = some k) w A xs ∧ (0 < xs.length → ∃ g, A = some ⟨g, 0, none⟩ ∧ base ≤ g ∧ g < w.heap.size ∧ M g ∧ (∀ o, w.frozen? ⟨g, o, none⟩ = false)) := by
 have hl := h.len
 obtain ⟨h0, inner, ho, hr⟩ := h
 rcases ho.2 with ⟨rfl, hn⟩ | ⟨g, cap, cur, rfl, hg, hh, h1, h2, h3, h4⟩
 ·obtain rfl := List.eq_nil_of_length_eq_zero hn
  exact ⟨none, 0, by simp, by simp, Row.nil _ _ _ _, fun h => absurd h (by simp)⟩
 ·refine ⟨some ⟨g, 0, none⟩, cap, rfl, h1, ⟨hl, fun _ => ⟨_, rfl, .inr rfl, fun i x hx => ?_⟩⟩, fun _ => ⟨g, rfl, hg, lt_of_block hh, h0 g rfl, fun o => by simp [World.frozen?, hh]⟩⟩
  obtain ⟨c, hc, hk⟩ := hr.get i x hx
  exact ⟨c, T.mono (fun _ hk => .inl hk) hc, fun j u hu => ho.cells (g := g) rfl _ u (hk j u hu)⟩
end

section
variable {P : Program} {ops : Array Oper} {rest : List Oper} {o : Oper} {a : Act} {Q : Exit → Act → World → Prop} {α : Type}
theorem OwnR.appended {T : Ty α} {e : TypeId} {base : Nat} {M : Nat → Prop} {W w1 : World} {v v1 : Value} {xs ys : List α} {inner cs : List Value} (hr : Reps T (fun k => ¬ M k) W xs inner) (hp : Reps T (fun k => ¬ M k) W ys cs)
  (hown : w1.ownsRow base e T.sz v1 (xs.length + ys.length) (inner ++ cs)) (hv : ∀ k, v.ownBlock = some k → M k) (hg : W.grownBy w1 v.ownBlock) (hat : v1.ownBlock = v.ownBlock ∨ ∃ b, v1.ownBlock = some b ∧ W.heap.size ≤ b) :
  OwnR T e base (fun k => M k ∨ v1.ownBlock = some k) w1 v1 (xs ++ ys) := by
 have step : ∀ {q : α} {c : List Value}, T.R (fun k => ¬ M k) W q c → T.R (fun k => ¬ (M k ∨ v1.ownBlock = some k)) w1 q c := by
  intro q c hq
  have h1 := T.bnd hq
  have h2 := T.move (w' := w1) (fun k hk => hg.block k hk.2 (fun e => hk.1 (hv k e.symm))) h1
  refine T.mono (fun k hk => ?_) h2
  rintro (h | h)
  ·exact hk.1 h
  ·rcases hat with hat | ⟨b, hb, hle⟩
   ·exact hk.1 (hv k (hat ▸ h))
   ·rw [hb] at h; injection h with h; omega
 refine ⟨fun k hk => .inr hk, inner ++ cs, by rw [List.length_append]; exact hown, (hr.imp (fun _ _ hq => step hq)).append (hp.imp (fun _ _ hq => step hq))⟩

/-- append(v, x): behind 'at_builtin'; the goal's world is 'W.alloc' of the variadic's box. -/
theorem app_one (T : Ty α) {W : World} {g : Nat} (base : Nat) (hgd : o.guard = none) (s x : Operand) (t e : TypeId) (z : Value) (bytes : Nat)
  (ho : o.op = .call { callee := .builtin .append, args := #[s, x], argTypes := #[t, t] })
  (ht : P.underlying t = some (.slice e)) (hinfo : (P.info? e).map (fun i => (i.zero, i.size, i.bytes)) = some (some z, T.sz, bytes)) (hz : z.cells.size = T.sz) (hb0 : 0 < bytes)
  (v : Value) (xs : List α) (y : α) (cs : List Value) (M : Nat → Prop) (hs : a.eval s = v) (hx : a.eval x = .slice (some ⟨g, 0, none⟩) 1 1) (hgs : g = W.heap.size)
  (hp : T.R (fun k => ¬ M k) W y cs) (HO : OwnR T e base M W v xs) (hbase : base ≤ W.heap.size) (hl : (xs.length + 1) * bytes ≤ 140737488355328)
  (h : ∀ v1 w1, OwnR T e base (fun k => M k ∨ v1.ownBlock = some k) w1 v1 (xs ++ [y]) → W.grownBy w1 v.ownBlock → (v1.ownBlock = v.ownBlock ∨ ∃ b, v1.ownBlock = some b ∧ W.heap.size ≤ b) → wpList P ops Q rest (a.put o.dst v1) w1) :
  wpList P ops Q (o :: rest) a (W.alloc (.cells cs.toArray e)) := by
 subst hgs
 obtain ⟨h0, inner, hown, hr⟩ := HO
 obtain ⟨i0, hi, hzz⟩ := Option.map_eq_some_iff.1 hinfo
 simp only [Prod.mk.injEq] at hzz
 obtain ⟨hz0, hz1, hz2⟩ := hzz
 have hlen : xs.length + 1 ≤ 140737488355328 := Nat.le_trans (Nat.le_mul_of_pos_right _ hb0) hl
 refine wpList_append_own_at (W.alloc (.cells cs.toArray e)) hgd s x t ho base e i0 z T.sz bytes ht hi hz0 hz1 hz2 hz T.pos v xs.length inner hs (hown.alloc _) ⟨W.heap.size, 0, none⟩ 1 1 cs hx (by rw [T.len hp, Nat.one_mul])
  (by simpa using World.news_of_block (cs := cs.toArray) (t := e) (fr := (0, 0)) (heap_alloc_new W (.cells cs.toArray e))) (T.one hp) (by simp only [maxLen]; omega) hl (by simp; omega) ?_
 intro v1 w1 hown1 hg _ hat
 have hg' : W.grownBy w1 v.ownBlock := World.grownBy.trans (World.grownBy_alloc W _ _) hg
 have hat' : v1.ownBlock = v.ownBlock ∨ ∃ b, v1.ownBlock = some b ∧ W.heap.size ≤ b := by
  rcases hat with hat | hat
  ·exact .inl hat
  ·exact .inr ⟨_, hat, by simp⟩
 exact h v1 w1 (OwnR.appended (ys := [y]) hr (Reps.single hp) hown1 h0 hg' hat') hg' hat'

/-- append(v, ys...), ys a slice that is read, nil let in. -/
theorem app_row (T : Ty α) {W : World} (base : Nat) (hgd : o.guard = none) (s x : Operand) (t e : TypeId) (z : Value) (bytes : Nat)
  (ho : o.op = .call { callee := .builtin .append, args := #[s, x], argTypes := #[t, t] })
  (ht : P.underlying t = some (.slice e)) (hinfo : (P.info? e).map (fun i => (i.zero, i.size, i.bytes)) = some (some z, T.sz, bytes)) (hz : z.cells.size = T.sz) (hb0 : 0 < bytes)
  (v : Value) (xs ys : List α) (A : Option Addr) (m c : Nat) (M : Nat → Prop) (hs : a.eval s = v) (hx : a.eval x = .slice A m c) (hm : m = ys.length)
  (hp : Row T (fun k => ¬ M k) W A ys) (HO : OwnR T e base M W v xs) (hbase : base ≤ W.heap.size) (hl : (xs.length + m) * bytes ≤ 140737488355328)
  (h : ∀ v1 w1, OwnR T e base (fun k => M k ∨ v1.ownBlock = some k) w1 v1 (xs ++ ys) → W.grownBy w1 v.ownBlock → (v1.ownBlock = v.ownBlock ∨ ∃ b, v1.ownBlock = some b ∧ W.heap.size ≤ b) → wpList P ops Q rest (a.put o.dst v1) w1) :
  wpList P ops Q (o :: rest) a W := by
 subst hm
 obtain ⟨h0, inner, hown, hr⟩ := HO
 obtain ⟨i0, hi, hzz⟩ := Option.map_eq_some_iff.1 hinfo
 simp only [Prod.mk.injEq] at hzz
 obtain ⟨hz0, hz1, hz2⟩ := hzz
 have hlen : xs.length + ys.length ≤ 140737488355328 := Nat.le_trans (Nat.le_mul_of_pos_right _ hb0) hl
 rcases A with _ | ad
 ·have hy : ys = [] := by
   rcases Nat.eq_zero_or_pos ys.length with hy | hy
   ·exact List.eq_nil_of_length_eq_zero hy
   ·obtain ⟨ad, e, _⟩ := hp.2 hy
    cases e
  subst hy
  have hrun : (Builtin.append_ #[t, t] o.type #[v, .slice none 0 c]).run P W = .ok v W := by
   rcases hown.2 with ⟨rfl, hn⟩ | ⟨g, cap, cur, rfl, _, _, hnc, _⟩
   ·simp [Builtin.append_, run_underlying ht, sizeOf, typeInfo, hi, Builtin.lenOf, Builtin.firstCells]
   ·simp [Builtin.append_, run_underlying ht, sizeOf, typeInfo, hi, Builtin.lenOf, Builtin.firstCells, hnc, storeCells]
  refine wpList_plain hgd fun K hK => ?_
  unfold Oper.wp execOp
  simp only [ho, resolve, invoke, builtin, Sem.run_bind, Sem.run_pure, Result.andThen_ok, List.map_toArray, List.map_cons, List.map_nil, hs, hx, hrun, List.length_nil]
  exact hK _ _ (h v W (OwnR.appended (ys := []) hr rfl (by simpa using hown) h0 (grown_refl _ _) (.inl rfl)) (grown_refl _ _) (.inl rfl))
 ·obtain ⟨cs, hcs, hk⟩ := hp.reps
  refine wpList_append_own_at W hgd s x t ho base e i0 z T.sz bytes ht hi hz0 hz1 hz2 hz T.pos v xs.length inner hs hown ad ys.length c cs hx hcs.len hk hcs.one (by simp only [maxLen]; omega) hl hbase ?_
  intro v1 w1 hown1 hg _ hat
  have hat' : v1.ownBlock = v.ownBlock ∨ ∃ b, v1.ownBlock = some b ∧ W.heap.size ≤ b := by
   rcases hat with hat | hat
   ·exact .inl hat
   ·exact .inr ⟨_, hat, Nat.le_refl _⟩
  exact h v1 w1 (OwnR.appended hr hcs hown1 h0 hg hat') hg hat'
end
end
section
open Go.RowKit

/-! ### worlds that have drawn and grown, no more -/
def Gw (w w' : World) : Prop := ∃ (q : Nat) (os' : Array Obj), w' = Go.Sort.grow (w.drewN q) os'
theorem gw_refl (w : World) : Gw w w := ⟨0, #[], by rw [Go.Sort.grow_empty]; rfl⟩
theorem gw_grow {w W : World} (h : Gw w W) (os : Array Obj) : Gw w (Go.Sort.grow W os) := by
 obtain ⟨q, os', rfl⟩ := h
 exact ⟨q, os' ++ os, by rw [Go.Sort.grow_grow]⟩
theorem gw_alloc {w W : World} (h : Gw w W) (o : Obj) : Gw w (W.alloc o) := by rw [Go.Sort.alloc_eq_grow]; exact gw_grow h _
theorem gw_drewN {w W : World} (h : Gw w W) (n : Nat) : Gw w (W.drewN n) := by
 obtain ⟨q, os', rfl⟩ := h
 exact ⟨q + n, os', by show Go.Sort.grow ((w.drewN q).drewN n) os' = _; rw [World.drewN_drewN]⟩
theorem gw_drew {w W : World} (h : Gw w W) : Gw w W.drew := gw_drewN h 1
theorem gw_step {w W w2 : World} (h : Gw w W) (k : Gw W w2) : Gw w w2 := by
 obtain ⟨q, os', rfl⟩ := k
 exact gw_grow (gw_drewN h q) os'
theorem Gw.below {w W : World} (h : Gw w W) : Below w.heap.size w W := by
 obtain ⟨q, os', rfl⟩ := h
 exact ⟨rfl, rfl, rfl, by simp, fun k hk => Go.Sort.heap_grow_old (w.drewN q) os' hk⟩
end
section
open Go.RowKit

theorem grid_LessG (ax ay bx by_ : Int) (w : World) :
  Calls Tryz.prog 20 #[.agg #[.int .i64 ax, .int .i64 ay], .agg #[.int .i64 bx, .int .i64 by_]] w fun e w' => e = .returned (.bool (lessB (ax, ay) (bx, by_))) ∧ Gw w w' := by
 by_cases h : ax = bx
 ·subst h
  go_enter Tryz.func20, Tryz.ntmps20
  go_wp2
  go_ret
  exact ⟨ret_bool (by simp [lessB]), by (repeat (first | exact gw_refl _ | refine gw_alloc ?_ _ | refine gw_drewN ?_ _ | refine gw_drew ?_))⟩
 ·have h' : (ax != bx) = true := by simp [h]
  go_enter Tryz.func20, Tryz.ntmps20
  go_wp2
  go_ret
  exact ⟨ret_bool (by simp [lessB, h]), by (repeat (first | exact gw_refl _ | refine gw_alloc ?_ _ | refine gw_drewN ?_ _ | refine gw_drew ?_))⟩
abbrev sgA (a : Sg) : Value := .agg #[.int .i64 a.1.1, .int .i64 a.1.2, .int .i64 a.2.1, .int .i64 a.2.2]
abbrev ptA (a : Pt) : Value := .agg #[.int .i64 a.1, .int .i64 a.2]
theorem seg_Less (a b : Sg) (w : World) : Calls Tryz.prog 21 #[sgA a, sgA b] w fun e w' => e = .returned (.bool (lessS a b)) ∧ Gw w w' := by
 obtain ⟨⟨a1, a2⟩, ⟨a3, a4⟩⟩ := a
 obtain ⟨⟨b1, b2⟩, ⟨b3, b4⟩⟩ := b
 simp only [sgA]
 have main : ∀ (q : Bool), (if a1 = b1 then !decide (a2 = b2) else true) = q → lessS ((a1, a2), (a3, a4)) ((b1, b2), (b3, b4)) = (if q then lessB (a1, a2) (b1, b2) else lessB (a3, a4) (b3, b4)) := by
  intro q hq
  subst hq
  unfold lessS
  by_cases h1 : a1 = b1
  ·by_cases h2 : a2 = b2
   ·simp [h1, h2]
   ·simp [h1, h2]
  ·simp [h1]
 by_cases h1 : a1 = b1
 ·by_cases h2 : a2 = b2
  ·have HM := Lib.hid (main false (by simp [h1, h2]))
   subst h1 h2
   clear main
   go_enter Tryz.func21, Tryz.ntmps21
   go_wp2_with fail
   refine (grid_LessG _ _ _ _ _).mono ?_
   rintro e w1 ⟨rfl, hb1⟩
   go_wp2
   go_ret
   exact ⟨ret_bool HM.out.symm, by (repeat (first | exact gw_refl _ | refine gw_step ?_ hb1 | refine gw_alloc ?_ _ | refine gw_drewN ?_ _ | refine gw_drew ?_))⟩
  ·have HM := Lib.hid (main true (by simp [h1, h2]))
   subst h1
   clear main
   go_enter Tryz.func21, Tryz.ntmps21
   go_wp2_with fail
   refine (grid_LessG _ _ _ _ _).mono ?_
   rintro e w1 ⟨rfl, hb1⟩
   go_wp2
   go_ret
   exact ⟨ret_bool HM.out.symm, by (repeat (first | exact gw_refl _ | refine gw_step ?_ hb1 | refine gw_alloc ?_ _ | refine gw_drewN ?_ _ | refine gw_drew ?_))⟩
 ·have HM := Lib.hid (main true (by simp [h1]))
  clear main
  go_enter Tryz.func21, Tryz.ntmps21
  go_wp2_with fail
  refine (grid_LessG _ _ _ _ _).mono ?_
  rintro e w1 ⟨rfl, hb1⟩
  go_wp2
  go_ret
  exact ⟨ret_bool HM.out.symm, by (repeat (first | exact gw_refl _ | refine gw_step ?_ hb1 | refine gw_alloc ?_ _ | refine gw_drewN ?_ _ | refine gw_drew ?_))⟩
theorem noding_order (a b : Sg) (w : World) : Calls Tryz.prog 82 #[sgA a, sgA b] w fun e w' => e = .returned (.int .i64 (cmpS a b)) ∧ Gw w w' := by
 have NE := Lib.hid (fun W => seg_Less a b W)
 have HC : Hid (cmpS a b = if a = b then 0 else if lessS a b then -1 else 1) := rfl
 generalize cmpS a b = r at *
 generalize lessS a b = l at *
 obtain ⟨⟨a1, a2⟩, ⟨a3, a4⟩⟩ := a
 obtain ⟨⟨b1, b2⟩, ⟨b3, b4⟩⟩ := b
 simp only [sgA] at *
 by_cases h1 : a1 = b1
 ·by_cases h2 : a2 = b2
  ·by_cases h3 : a3 = b3
   ·by_cases h4 : a4 = b4
    ·subst h1 h2 h3 h4
     have HR : Hid (r = 0) := by have := HC.out; rwa [if_pos rfl] at this
     clear HC NE
     go_enter Tryz.func82, Tryz.ntmps82
     go_wp2
     go_ret
     exact ⟨ret_int HR.out.symm, by (repeat (first | exact gw_refl _ | refine gw_alloc ?_ _ | refine gw_drewN ?_ _ | refine gw_drew ?_))⟩
    ·have HN : Hid (¬ (((a1, a2), (a3, a4)) : Sg) = ((b1, b2), (b3, b4))) := by show ¬ _; simp [h4]
     subst h1 h2 h3
     cases hl : l
     ·have SL := Lib.hid (fun W => by have := NE.out W; rw [hl] at this; exact this)
      have HR : Hid (r = 1) := Lib.hid (by have := HC.out; rw [if_neg HN.out, hl] at this; simpa using this)
      clear NE HC HN hl
      go_enter Tryz.func82, Tryz.ntmps82
      go_wp2_with fail
      refine (SL.out _).mono ?_
      rintro e w1 ⟨rfl, hb1⟩
      go_wp2
      go_ret
      exact ⟨ret_int HR.out.symm, by (repeat (first | exact gw_refl _ | refine gw_step ?_ hb1 | refine gw_alloc ?_ _ | refine gw_drewN ?_ _ | refine gw_drew ?_))⟩
     ·have SL := Lib.hid (fun W => by have := NE.out W; rw [hl] at this; exact this)
      have HR : Hid (r = -1) := Lib.hid (by have := HC.out; rw [if_neg HN.out, hl] at this; simpa using this)
      clear NE HC HN hl
      go_enter Tryz.func82, Tryz.ntmps82
      go_wp2_with fail
      refine (SL.out _).mono ?_
      rintro e w1 ⟨rfl, hb1⟩
      go_wp2
      go_ret
      exact ⟨ret_int HR.out.symm, by (repeat (first | exact gw_refl _ | refine gw_step ?_ hb1 | refine gw_alloc ?_ _ | refine gw_drewN ?_ _ | refine gw_drew ?_))⟩
   ·have HN : Hid (¬ (((a1, a2), (a3, a4)) : Sg) = ((b1, b2), (b3, b4))) := by show ¬ _; simp [h3]
    subst h1 h2
    cases hl : l
    ·have SL := Lib.hid (fun W => by have := NE.out W; rw [hl] at this; exact this)
     have HR : Hid (r = 1) := Lib.hid (by have := HC.out; rw [if_neg HN.out, hl] at this; simpa using this)
     clear NE HC HN hl
     go_enter Tryz.func82, Tryz.ntmps82
     go_wp2_with fail
     refine (SL.out _).mono ?_
     rintro e w1 ⟨rfl, hb1⟩
     go_wp2
     go_ret
     exact ⟨ret_int HR.out.symm, by (repeat (first | exact gw_refl _ | refine gw_step ?_ hb1 | refine gw_alloc ?_ _ | refine gw_drewN ?_ _ | refine gw_drew ?_))⟩
    ·have SL := Lib.hid (fun W => by have := NE.out W; rw [hl] at this; exact this)
     have HR : Hid (r = -1) := Lib.hid (by have := HC.out; rw [if_neg HN.out, hl] at this; simpa using this)
     clear NE HC HN hl
     go_enter Tryz.func82, Tryz.ntmps82
     go_wp2_with fail
     refine (SL.out _).mono ?_
     rintro e w1 ⟨rfl, hb1⟩
     go_wp2
     go_ret
     exact ⟨ret_int HR.out.symm, by (repeat (first | exact gw_refl _ | refine gw_step ?_ hb1 | refine gw_alloc ?_ _ | refine gw_drewN ?_ _ | refine gw_drew ?_))⟩
  ·have HN : Hid (¬ (((a1, a2), (a3, a4)) : Sg) = ((b1, b2), (b3, b4))) := by show ¬ _; simp [h2]
   subst h1
   cases hl : l
   ·have SL := Lib.hid (fun W => by have := NE.out W; rw [hl] at this; exact this)
    have HR : Hid (r = 1) := Lib.hid (by have := HC.out; rw [if_neg HN.out, hl] at this; simpa using this)
    clear NE HC HN hl
    go_enter Tryz.func82, Tryz.ntmps82
    go_wp2_with fail
    refine (SL.out _).mono ?_
    rintro e w1 ⟨rfl, hb1⟩
    go_wp2
    go_ret
    exact ⟨ret_int HR.out.symm, by (repeat (first | exact gw_refl _ | refine gw_step ?_ hb1 | refine gw_alloc ?_ _ | refine gw_drewN ?_ _ | refine gw_drew ?_))⟩
   ·have SL := Lib.hid (fun W => by have := NE.out W; rw [hl] at this; exact this)
    have HR : Hid (r = -1) := Lib.hid (by have := HC.out; rw [if_neg HN.out, hl] at this; simpa using this)
    clear NE HC HN hl
    go_enter Tryz.func82, Tryz.ntmps82
    go_wp2_with fail
    refine (SL.out _).mono ?_
    rintro e w1 ⟨rfl, hb1⟩
    go_wp2
    go_ret
    exact ⟨ret_int HR.out.symm, by (repeat (first | exact gw_refl _ | refine gw_step ?_ hb1 | refine gw_alloc ?_ _ | refine gw_drewN ?_ _ | refine gw_drew ?_))⟩
 ·have HN : Hid (¬ (((a1, a2), (a3, a4)) : Sg) = ((b1, b2), (b3, b4))) := by show ¬ _; simp [h1]
  cases hl : l
  ·have SL := Lib.hid (fun W => by have := NE.out W; rw [hl] at this; exact this)
   have HR : Hid (r = 1) := Lib.hid (by have := HC.out; rw [if_neg HN.out, hl] at this; simpa using this)
   clear NE HC HN hl
   go_enter Tryz.func82, Tryz.ntmps82
   go_wp2_with fail
   refine (SL.out _).mono ?_
   rintro e w1 ⟨rfl, hb1⟩
   go_wp2
   go_ret
   exact ⟨ret_int HR.out.symm, by (repeat (first | exact gw_refl _ | refine gw_step ?_ hb1 | refine gw_alloc ?_ _ | refine gw_drewN ?_ _ | refine gw_drew ?_))⟩
  ·have SL := Lib.hid (fun W => by have := NE.out W; rw [hl] at this; exact this)
   have HR : Hid (r = -1) := Lib.hid (by have := HC.out; rw [if_neg HN.out, hl] at this; simpa using this)
   clear NE HC HN hl
   go_enter Tryz.func82, Tryz.ntmps82
   go_wp2_with fail
   refine (SL.out _).mono ?_
   rintro e w1 ⟨rfl, hb1⟩
   go_wp2
   go_ret
   exact ⟨ret_int HR.out.symm, by (repeat (first | exact gw_refl _ | refine gw_step ?_ hb1 | refine gw_alloc ?_ _ | refine gw_drewN ?_ _ | refine gw_drew ?_))⟩
theorem split_order (a b : Pt) (w : World) : Calls Tryz.prog 78 #[ptA a, ptA b] w fun e w' => e = .returned (.int .i64 (cmpP a b)) ∧ Gw w w' := by
 have NE := Lib.hid (fun W => grid_LessG a.1 a.2 b.1 b.2 W)
 have HC : Hid (cmpP a b = if a = b then 0 else if lessB (a.1, a.2) (b.1, b.2) then -1 else 1) := rfl
 generalize cmpP a b = r at *
 generalize lessB (a.1, a.2) (b.1, b.2) = l at *
 obtain ⟨a1, a2⟩ := a
 obtain ⟨b1, b2⟩ := b
 simp only [ptA] at *
 by_cases h1 : a1 = b1
 ·by_cases h2 : a2 = b2
  ·subst h1 h2
   have HR : Hid (r = 0) := by have := HC.out; rwa [if_pos rfl] at this
   clear HC NE
   go_enter Tryz.func78, Tryz.ntmps78
   go_wp2
   go_ret
   exact ⟨ret_int HR.out.symm, by (repeat (first | exact gw_refl _ | refine gw_alloc ?_ _ | refine gw_drewN ?_ _ | refine gw_drew ?_))⟩
  ·have HN : Hid (¬ ((a1, a2) : Pt) = (b1, b2)) := by show ¬ _; simp [h2]
   subst h1
   cases hl : l
   ·have SL := Lib.hid (fun W => by have := NE.out W; rw [hl] at this; exact this)
    have HR : Hid (r = 1) := Lib.hid (by have := HC.out; rw [if_neg HN.out, hl] at this; simpa using this)
    clear NE HC HN hl
    go_enter Tryz.func78, Tryz.ntmps78
    go_wp2_with fail
    refine (SL.out _).mono ?_
    rintro e w1 ⟨rfl, hb1⟩
    go_wp2
    go_ret
    exact ⟨ret_int HR.out.symm, by (repeat (first | exact gw_refl _ | refine gw_step ?_ hb1 | refine gw_alloc ?_ _ | refine gw_drewN ?_ _ | refine gw_drew ?_))⟩
   ·have SL := Lib.hid (fun W => by have := NE.out W; rw [hl] at this; exact this)
    have HR : Hid (r = -1) := Lib.hid (by have := HC.out; rw [if_neg HN.out, hl] at this; simpa using this)
    clear NE HC HN hl
    go_enter Tryz.func78, Tryz.ntmps78
    go_wp2_with fail
    refine (SL.out _).mono ?_
    rintro e w1 ⟨rfl, hb1⟩
    go_wp2
    go_ret
    exact ⟨ret_int HR.out.symm, by (repeat (first | exact gw_refl _ | refine gw_step ?_ hb1 | refine gw_alloc ?_ _ | refine gw_drewN ?_ _ | refine gw_drew ?_))⟩
 ·have HN : Hid (¬ ((a1, a2) : Pt) = (b1, b2)) := by show ¬ _; simp [h1]
  cases hl : l
  ·have SL := Lib.hid (fun W => by have := NE.out W; rw [hl] at this; exact this)
   have HR : Hid (r = 1) := Lib.hid (by have := HC.out; rw [if_neg HN.out, hl] at this; simpa using this)
   clear NE HC HN hl
   go_enter Tryz.func78, Tryz.ntmps78
   go_wp2_with fail
   refine (SL.out _).mono ?_
   rintro e w1 ⟨rfl, hb1⟩
   go_wp2
   go_ret
   exact ⟨ret_int HR.out.symm, by (repeat (first | exact gw_refl _ | refine gw_step ?_ hb1 | refine gw_alloc ?_ _ | refine gw_drewN ?_ _ | refine gw_drew ?_))⟩
  ·have SL := Lib.hid (fun W => by have := NE.out W; rw [hl] at this; exact this)
   have HR : Hid (r = -1) := Lib.hid (by have := HC.out; rw [if_neg HN.out, hl] at this; simpa using this)
   clear NE HC HN hl
   go_enter Tryz.func78, Tryz.ntmps78
   go_wp2_with fail
   refine (SL.out _).mono ?_
   rintro e w1 ⟨rfl, hb1⟩
   go_wp2
   go_ret
   exact ⟨ret_int HR.out.symm, by (repeat (first | exact gw_refl _ | refine gw_step ?_ hb1 | refine gw_alloc ?_ _ | refine gw_drewN ?_ _ | refine gw_drew ?_))⟩
theorem ltS (x y : Sg) : decide (cmpS x y < 0) = lessS x y := by
 unfold cmpS
 by_cases h : x = y
 ·subst h; rw [if_pos rfl, totS.irr]; rfl
 ·rw [if_neg h]; cases lessS x y <;> rfl
theorem ltP (x y : Pt) : decide (cmpP x y < 0) = lessB x y := by
 unfold cmpP
 by_cases h : x = y
 ·subst h; rw [if_pos rfl, totB.irr]; rfl
 ·rw [if_neg h]; cases lessB x y <;> rfl
theorem ltR (x y : Pts) : decide (cmpR x y < 0) = lessR x y := by
 unfold cmpR
 cases lessR x y
 ·cases lessR y x <;> rfl
 ·rfl
end
section
open Go.RowKit

theorem Row.of_reps {α : Type} {T : Ty α} {ok : Nat → Prop} {w : World} {g : Nat} {xs : List α} {cs : List Value} (hl : xs.length ≤ 9223372036854775807) (hg : ok g) (h : Reps T ok w xs cs) (hc : ∀ j u, cs[j]? = some u → w.cell? ⟨g, j, none⟩ = some u) : Row T ok w (some ⟨g, 0, none⟩) xs :=
 ⟨hl, fun _ => ⟨_, rfl, hg, fun i x hx => by
  obtain ⟨c, hr, hk⟩ := h.get i x hx
  exact ⟨c, hr, fun j u hu => by rw [add_at, Nat.zero_add]; exact hc _ _ (hk j u hu)⟩⟩⟩

/-- copy(dst, src) of n elements into a row that is known whole. -/
theorem wpList_copyT {P : Program} {ops : Array Oper} {rest : List Oper} {o : Oper} {a : Act} {Q : Exit → Act → World → Prop} {α : Type} (T : Ty α) {W : World} (hgd : o.guard = none) (d s : Operand) (dT sT elem : TypeId)
  (ho : o.op = .call { callee := .builtin .copy, args := #[d, s], argTypes := #[dT, sT] }) (hu : P.underlying dT = some (.slice elem)) (hsz : (P.info? elem).map (·.size) = some T.sz)
  (g n m dCap sCap : Nat) (A : Option Addr) (hd : a.eval d = .slice (some ⟨g, 0, none⟩) m dCap) (hs : a.eval s = .slice A n sCap) (hm : m = n)
  (cur : Array Value) (t : TypeId) (hg : W.heap[g]? = some (.cells cur t (0, 0))) (xs : List α) (hn : n = xs.length) (ok : Nat → Prop) (hr : Row T ok W A xs) (hok : ¬ ok g) (hfit : n * T.sz ≤ cur.size)
  (h : ∀ w', KeptS (fun k => k = g) W w' → w'.heap.size = W.heap.size → Row T (fun k => k = g ∨ ok k) w' (some ⟨g, 0, none⟩) xs → wpList P ops Q rest (a.put o.dst (goInt n)) w') :
  wpList P ops Q (o :: rest) a W := by
 subst hm hn
 obtain ⟨i, hi, hz⟩ := Option.map_eq_some_iff.1 hsz
 have main : ∀ cs : List Value, Reps T ok W xs cs → (Builtin.firstCells T.sz xs.length (.slice A xs.length sCap)).run P W = .ok cs.toArray W → wpList P ops Q (o :: rest) a W := by
  intro cs hcs hload
  have hl := hcs.len
  have hst := run_storeCells_at P g 0 t cs 0 cur W hg (by simp; omega) hcs.one
  have hrun : (Builtin.copy_ #[dT, sT] o.type #[.slice (some ⟨g, 0, none⟩) xs.length dCap, .slice A xs.length sCap]).run P W = .ok (goInt xs.length) (W.setRow g (cur.toList.take 0 ++ cs ++ cur.toList.drop (0 + 0 + cs.length)).toArray) := by
   have hmin : Nat.min xs.length xs.length = xs.length := Nat.min_self _
   simp [Builtin.copy_, run_underlying hu, Builtin.lenOf, sizeOf, typeInfo, hi, hz, hmin, hload] at hst ⊢
   simp [hst]
  refine wpList_plain hgd fun K hK => ?_
  unfold Oper.wp
  simp only [execOp, ho, resolve, invoke, builtin, Sem.run_bind, Sem.run_pure, Result.andThen_ok, List.map_toArray, List.map_cons, List.map_nil, hd, hs, hrun]
  have hk : KeptS (fun k => k = g) W (W.setRow g (cur.toList.take 0 ++ cs ++ cur.toList.drop (0 + 0 + cs.length)).toArray) :=
   ⟨rfl, rfl, rfl, by simp, fun k _ hk => setRow_other W g k _ hk⟩
  refine hK _ _ (h _ hk (by simp) (Row.of_reps hr.len (.inl rfl) (hcs.imp (fun x c hc => T.mono (fun k hk => .inr hk) (T.step hc (fun k hk _ => setRow_other W g k _ (fun e => hok (e ▸ hk)))))) (fun j u hu => ?_)))
  rw [cell_setRow_same W g j cur _ t (0, 0) hg]
  have hj := (List.getElem?_eq_some_iff.1 hu).1
  simp only [List.take_zero, List.nil_append, List.getElem?_toArray]
  rw [List.getElem?_append_left hj]; exact hu
 rcases A with _ | ad
 ·have hx : xs = [] := by
   rcases Nat.eq_zero_or_pos xs.length with hy | hy
   ·exact List.eq_nil_of_length_eq_zero hy
   ·obtain ⟨ad, e, _⟩ := hr.2 hy
    cases e
  subst hx
  exact main [] rfl (by simp [Builtin.firstCells])
 ·obtain ⟨cs, hcs, hk⟩ := hr.reps
  refine main cs hcs ?_
  have := run_loadCells_list (P := P) W ad cs hk
  rw [hcs.len] at this
  simpa [Builtin.firstCells] using this

/-- append(v, x) at a step of a region that draws its order. -/
theorem step_one {P : Program} {ops : Array Oper} {o : Oper} {a : Act} {Q : Exit → Act → World → Prop} {K : Act → World → Prop} {E : Prop} {α : Type} (T : Ty α) {W : World} {g : Nat} (base : Nat) (hgd : o.guard = none) (s x : Operand) (t e : TypeId) (z : Value) (bytes : Nat)
  (ho : o.op = .call { callee := .builtin .append, args := #[s, x], argTypes := #[t, t] })
  (ht : P.underlying t = some (.slice e)) (hinfo : (P.info? e).map (fun i => (i.zero, i.size, i.bytes)) = some (some z, T.sz, bytes)) (hz : z.cells.size = T.sz) (hb0 : 0 < bytes)
  (v : Value) (xs : List α) (y : α) (cs : List Value) (M : Nat → Prop) (hs : a.eval s = v) (hx : a.eval x = .slice (some ⟨g, 0, none⟩) 1 1) (hgs : g = W.heap.size)
  (hp : T.R (fun k => ¬ M k) W y cs) (HO : OwnR T e base M W v xs) (hbase : base ≤ W.heap.size) (hl : (xs.length + 1) * bytes ≤ 140737488355328)
  (h : ∀ v1 w1, OwnR T e base (fun k => M k ∨ v1.ownBlock = some k) w1 v1 (xs ++ [y]) → W.grownBy w1 v.ownBlock → (v1.ownBlock = v.ownBlock ∨ ∃ b, v1.ownBlock = some b ∧ W.heap.size ≤ b) → K (a.put o.dst v1) w1) :
  if Region.wanted o (yielded ops a.tmps) = true then Oper.wp P o a (W.alloc (.cells cs.toArray e)) K Q else E := by
 subst hgs
 obtain ⟨h0, inner, hown, hr⟩ := HO
 obtain ⟨i0, hi, hzz⟩ := Option.map_eq_some_iff.1 hinfo
 simp only [Prod.mk.injEq] at hzz
 obtain ⟨hz0, hz1, hz2⟩ := hzz
 have hlen : xs.length + 1 ≤ 140737488355328 := Nat.le_trans (Nat.le_mul_of_pos_right _ hb0) hl
 refine step_append_lies (w := W.alloc (.cells cs.toArray e)) hgd s x t ho base e i0 z T.sz bytes ht hi hz0 hz1 hz2 hz T.pos v xs.length inner hs (hown.alloc _) ⟨W.heap.size, 0, none⟩ 1 1 cs hx (by rw [T.len hp, Nat.one_mul])
  (by simpa using World.news_of_block (cs := cs.toArray) (t := e) (fr := (0, 0)) (heap_alloc_new W (.cells cs.toArray e))) (T.one hp) (by decide) (by simp only [maxLen]; omega) hl (by simp; omega) _ rfl ?_
 intro b cap w1 hown1 hg hat _
 have hg' : W.grownBy w1 v.ownBlock := World.grownBy.trans (World.grownBy_alloc W _ _) hg
 have hat' : (Value.slice (some ⟨b, 0, none⟩) (xs.length + 1) cap).ownBlock = v.ownBlock ∨ ∃ b', (Value.slice (some ⟨b, 0, none⟩) (xs.length + 1) cap).ownBlock = some b' ∧ W.heap.size ≤ b' := by
  rcases hat with hat | hat
  ·exact .inl (by rw [hat]; rfl)
  ·exact .inr ⟨_, rfl, by rw [hat]; simp⟩
 exact h _ w1 (OwnR.appended (ys := [y]) hr (Reps.single hp) hown1 h0 hg' hat') hg' hat'
end
section
open Go.RowKit Go.Proofs.YtaeflnbjeaoapaaGreatW.PrintLast
set_option linter.unusedSectionVars false

/-- A row of the call's own, and no other that may still be written. -/
def Own1 {α : Type} (T : Ty α) (e : TypeId) (base : Nat) (w : World) (v : Value) (xs : List α) : Prop := OwnR T e base (fun k => v.ownBlock = some k) w v xs
theorem Own1.of {α : Type} {T : Ty α} {e : TypeId} {base : Nat} {M : Nat → Prop} {w : World} {v : Value} {xs : List α} (h : OwnR T e base M w v xs) : Own1 T e base w v xs :=
 h.remut (fun k _ hk => h.mine k hk) (fun k hk => hk)
theorem Own1.below {α : Type} {T : Ty α} {e : TypeId} {base : Nat} {w w' : World} {v : Value} {xs : List α} (h : Own1 T e base w v xs) (hb : Below w.heap.size w w') : Own1 T e base w' v xs := OwnR.below h hb
theorem Own1.reads {α : Type} {T : Ty α} {e : TypeId} {base : Nat} {w : World} {v : Value} {xs : List α} (h : Own1 T e base w v xs) : ∃ A c, v = .slice A xs.length c ∧ xs.length ≤ c ∧ Row T (fun _ => True) w A xs := by
 obtain ⟨A, c, e, hl, hr, _⟩ := OwnR.reads h
 exact ⟨A, c, e, hl, hr.mono (fun _ _ => trivial)⟩
theorem Own1.base {α : Type} {T : Ty α} {e : TypeId} {base base' : Nat} {w : World} {v : Value} {xs : List α} (h : Own1 T e base w v xs) (hb : base' ≤ base) : Own1 T e base' w v xs := by
 obtain ⟨h0, inner, ⟨h1, h2⟩, hr⟩ := h
 refine ⟨h0, inner, ⟨h1, ?_⟩, hr⟩
 rcases h2 with h2 | ⟨g, cap, cur, rfl, hg, hh, r⟩
 ·exact .inl h2
 ·exact .inr ⟨g, cap, cur, rfl, Nat.le_trans hb hg, hh, r⟩
theorem below_own {w W w1 : World} {v : Value} (hb : Below w.heap.size w W) (hg : W.grownBy w1 v.ownBlock) (ho : ∀ k, v.ownBlock = some k → w.heap.size ≤ k) : Below w.heap.size w w1 := below_grown hb hg (fun b e => ho b e)

section
variable {α : Type} {T : Ty α} {ok : Nat → Prop} {w : World}
theorem Reps.put : ∀ {xs : List α} {cs : List Value} (i : Nat) {y : α} {c : List Value}, Reps T ok w xs cs → T.R ok w y c → i < xs.length → Reps T ok w (xs.set i y) (cs.take (i * T.sz) ++ c ++ cs.drop (i * T.sz + T.sz))
 | [], _, i, _, _, _, _, hi => absurd hi (by simp)
 | x :: xs, cs, 0, y, c, ⟨c0, d, e, hc, hd⟩, hy, _ => by
  subst e
  refine ⟨c, d, ?_, hy, hd⟩
  rw [Nat.zero_mul, List.take_zero, List.nil_append, Nat.zero_add, List.drop_left' (T.len hc)]
 | x :: xs, cs, i + 1, y, c, ⟨c0, d, e, hc, hd⟩, hy, hi => by
  subst e
  refine ⟨c0, _, ?_, hc, Reps.put i hd hy (by simpa using hi)⟩
  have hl := T.len hc
  rw [show (i + 1) * T.sz = c0.length + i * T.sz by rw [Nat.add_mul]; omega, List.take_length_add_append, Nat.add_assoc, List.drop_length_add_append]
  simp
theorem Reps.take : ∀ {xs : List α} {cs : List Value} (i : Nat), Reps T ok w xs cs → Reps T ok w (xs.take i) (cs.take (i * T.sz))
 | [], cs, i, h => by rw [show cs = [] from h]; simp; exact rfl
 | x :: xs, cs, 0, h => by simp; exact rfl
 | x :: xs, cs, i + 1, ⟨c0, d, e, hc, hd⟩ => by
  subst e
  have hl := T.len hc
  exact ⟨c0, _, by rw [show (i + 1) * T.sz = c0.length + i * T.sz by rw [Nat.add_mul]; omega, List.take_length_add_append], hc, Reps.take i hd⟩
theorem take_mid {β : Type} (l c : List β) (a b n : Nat) (hc : c.length = b) (hn : a + b ≤ n) (hl : n ≤ l.length) : (l.take a ++ c ++ l.drop (a + b)).take n = (l.take n).take a ++ c ++ (l.take n).drop (a + b) := by
 have h1 : (l.take a ++ c).length = a + b := by simp; omega
 rw [List.take_append, List.take_of_length_le (by omega), h1, List.take_take, Nat.min_eq_left (by omega), List.take_drop, show a + b + (n - (a + b)) = n by omega]
end
section
variable {P : Program} {ops : Array Oper} {rest : List Oper} {o : Oper} {a : Act} {Q : Exit → Act → World → Prop} {α : Type} {T : Ty α} {e : TypeId} {base g n c : Nat} {M : Nat → Prop} {W : World} {xs : List α}
/-- Row cells of an own row are written: what stands behind it. -/
theorem OwnR.put {q : Nat} {y : α} {cs : List Value} (HO : OwnR T e base M W (.slice (some ⟨g, 0, none⟩) n c) xs) {i : Nat} (hi : i < xs.length) (hq : q = i * T.sz) (hy : T.R (fun k => ¬ M k) W y cs) :
  ∃ w', (storeCells ⟨g, q, none⟩ cs).run P W = .ok () w' ∧ OwnR T e base M w' (.slice (some ⟨g, 0, none⟩) n c) (xs.set i y) ∧ KeptS (fun k => k = g) W w' ∧ w'.heap.size = W.heap.size := by
 subst hq
 obtain ⟨h0, inner, ho, hr⟩ := HO
 have hg : M g := h0 g rfl
 obtain ⟨hlen, ho⟩ := ho
 rcases ho with ⟨h, _⟩ | ⟨g', cap, cur, hv, hb, hh, h1, h2, h3, h4⟩
 ·cases h
 injection hv with hv hvn hvc; injection hv with hv; injection hv with hv
 subst hv hvc hvn
 have hl := T.len hy
 have hfit : i * T.sz + T.sz ≤ xs.length * T.sz := by rw [← Nat.succ_mul]; exact Nat.mul_le_mul_right _ hi
 have hfit2 : xs.length * T.sz ≤ c * T.sz := Nat.mul_le_mul_right _ h1
 have hst := run_storeCells_at P g (i * T.sz) e cs 0 cur W hh (by omega) (T.one hy)
 simp only [Nat.add_zero, hl] at hst
 have hk : KeptS (fun k => k = g) W (W.setRow g (cur.toList.take (i * T.sz) ++ cs ++ cur.toList.drop (i * T.sz + T.sz)).toArray) :=
  ⟨rfl, rfl, rfl, by simp, fun k _ hk => setRow_other W g k _ hk⟩
 refine ⟨_, hst, ?_, hk, by simp⟩
 have step : ∀ {x : α} {d : List Value}, T.R (fun k => ¬ M k) W x d → T.R (fun k => ¬ M k) (W.setRow g (cur.toList.take (i * T.sz) ++ cs ++ cur.toList.drop (i * T.sz + T.sz)).toArray) x d :=
  fun hx => T.step hx (fun k hk' hlt => hk.block k hlt (fun e => hk' (e ▸ hg)))
 refine ⟨h0, inner.take (i * T.sz) ++ cs ++ inner.drop (i * T.sz + T.sz), ⟨?_, .inr ⟨g, c, _, by rw [List.length_set], hb, setRow_heap W g cur _ e (0, 0) hh, by rw [List.length_set]; exact h1, h2, ?_, ?_⟩⟩, (hr.imp (fun _ _ hx => step hx)).put i (step hy) hi⟩
 ·rw [List.length_append, List.length_append, List.length_take, List.length_drop, hl, hlen, Nat.min_eq_left (by omega), List.length_set]; omega
 ·rw [List.size_toArray, List.length_append, List.length_append, List.length_take, List.length_drop, hl, Array.length_toList, h3, Nat.min_eq_left (by omega)]; omega
 ·rw [List.length_set, ← h4]
  show ((cur.toList.take (i * T.sz) ++ cs ++ cur.toList.drop (i * T.sz + T.sz)).toArray.toList).take _ = _
  rw [List.toList_toArray]
  exact take_mid _ _ _ _ _ hl hfit (by simp [h3]; omega)
/-- *p = y at an element of an own row. -/
theorem wpList_storeT (hgd : o.guard = none) (p x : Operand) (e' : TypeId) (ho : o.op = .store e' p x) (hsz : P.info? e' |>.map (·.size) |> (· = some T.sz)) {q : Nat} {y : α} {cs : Array Value} {i : Nat} (hp : a.eval p = .pointer (some ⟨g, q, none⟩)) (hx : a.eval x = .agg cs)
  (HO : OwnR T e base M W (.slice (some ⟨g, 0, none⟩) n c) xs) (hi : i < xs.length) (hq : q = i * T.sz) (hy : T.R (fun k => ¬ M k) W y cs.toList)
  (h : ∀ w', OwnR T e base M w' (.slice (some ⟨g, 0, none⟩) n c) (xs.set i y) → KeptS (fun k => k = g) W w' → w'.heap.size = W.heap.size → wpList P ops Q rest (a.put o.dst undef) w') : wpList P ops Q (o :: rest) a W := by
 refine wpList_plain hgd fun K' hK' => ?_
 obtain ⟨w', hrun, r1, r2, r3⟩ := HO.put (P := P) hi hq hy
 obtain ⟨inf, hinf, hz⟩ := Option.map_eq_some_iff.1 hsz
 have hl : cs.size = T.sz := by rw [← Array.length_toList]; exact T.len hy
 unfold Oper.wp
 simp [execOp, ho, hp, hx, Instr.storeAt, storeVar, sizeOf, typeInfo, hinf, hz, hrun, Result.andThen, Value.cells, Instr.sureAddr, hl]
 exact hK' _ _ (h w' r1 r2 r3)
/-- clear of an own row's tail; the row shortened. -/
theorem wpList_clearT (hgd : o.guard = none) (s : Operand) (t : TypeId) (ho : o.op = .call { callee := .builtin .clear, args := #[s], argTypes := #[t] }) (ht : P.underlying t = some (.slice e)) {z : Value} (hz : ∀ w, (zeroValue e).run P w = .ok z w) (hzs : z.cells.size = T.sz) (hz1 : ∀ u ∈ z.cells, u.oneCell' = true)
  {i q m c' : Nat} (hs : a.eval s = .slice (some ⟨g, q, none⟩) m c') (HO : OwnR T e base M W (.slice (some ⟨g, 0, none⟩) n c) xs) (hq : q = i * T.sz) (hm : m = xs.length - i) (hi : i < xs.length)
  (h : ∀ w', OwnR T e base M w' (.slice (some ⟨g, 0, none⟩) i c) (xs.take i) → KeptS (fun k => k = g) W w' → w'.heap.size = W.heap.size → wpList P ops Q rest (a.put o.dst (.tuple #[])) w') : wpList P ops Q (o :: rest) a W := by
 subst hq hm
 refine wpList_plain hgd fun K' hK' => ?_
 obtain ⟨h0, inner, ho', hr⟩ := HO
 have hg : M g := h0 g rfl
 obtain ⟨hlen, ho'⟩ := ho'
 rcases ho' with ⟨h, _⟩ | ⟨g', cap, cur, hv, hb, hh, h1, h2, h3, h4⟩
 ·cases h
 injection hv with hv hvn hvc; injection hv with hv; injection hv with hv
 subst hv hvc hvn
 have hfit : i * T.sz + (xs.length - i) * T.sz ≤ xs.length * T.sz := by rw [← Nat.add_mul]; exact Nat.mul_le_mul_right _ (by omega)
 have hfit2 : xs.length * T.sz ≤ c * T.sz := Nat.mul_le_mul_right _ h1
 obtain ⟨zs, hzz⟩ : ∃ zs, zs = (Builtin.zeroCells z.cells (xs.length - i)).toList := ⟨_, rfl⟩
 have hzl : zs.length = (xs.length - i) * T.sz := by rw [hzz]; simp [Builtin.zeroCells, hzs]
 have hzo : ∀ u ∈ zs, u.oneCell' = true := by
  intro u hu
  rw [hzz] at hu
  simp only [Builtin.zeroCells, Array.toList_map, List.mem_map] at hu
  obtain ⟨j, _, rfl⟩ := hu
  have hj : j % z.cells.size < z.cells.size := Nat.mod_lt _ (by rw [hzs]; exact T.pos)
  rw [getElem!_pos z.cells _ hj]
  exact hz1 _ (Array.getElem_mem hj)
 have hst := run_storeCells_at P g (i * T.sz) e zs 0 cur W hh (by omega) hzo
 simp only [Nat.add_zero] at hst
 obtain ⟨W', hW'⟩ : ∃ W', W' = W.setRow g (cur.toList.take (i * T.sz) ++ zs ++ cur.toList.drop (i * T.sz + zs.length)).toArray := ⟨_, rfl⟩
 rw [← hW'] at hst
 have hk : KeptS (fun k => k = g) W W' := by rw [hW']; exact ⟨rfl, rfl, rfl, by simp, fun k _ hk => setRow_other W g k _ hk⟩
 have hO : OwnR T e base M W' (.slice (some ⟨g, 0, none⟩) i c) (xs.take i) := by
  have hti : (xs.take i).length = i := by rw [List.length_take]; omega
  refine ⟨h0, inner.take (i * T.sz), ⟨?_, .inr ⟨g, c, _, by rw [hti], hb, by rw [hW']; exact setRow_heap W g cur _ e (0, 0) hh, by rw [hti]; omega, h2, ?_, ?_⟩⟩, (hr.imp (fun x d hx => T.step hx (fun k hk' hlt => hk.block k hlt (fun e => hk' (e ▸ hg))))).take i⟩
  ·rw [List.length_take, hlen, hti, Nat.min_eq_left (by omega)]
  ·rw [List.size_toArray, List.length_append, List.length_append, List.length_take, List.length_drop, hzl, Array.length_toList, h3, Nat.min_eq_left (by omega)]; omega
  ·rw [hti, List.toList_toArray, List.append_assoc, List.take_append_of_le_length (by rw [List.length_take, Array.length_toList, h3]; omega), List.take_take, Nat.min_self, ← h4, List.take_take, Nat.min_eq_left (by omega)]
 have hrun : (Builtin.clear_ #[t] o.type #[.slice (some ⟨g, i * T.sz, none⟩) (xs.length - i) c']).run P W = .ok (.tuple #[]) W' := by
  obtain ⟨m, hm⟩ : ∃ m, xs.length - i = m + 1 := ⟨xs.length - i - 1, by omega⟩
  rw [hzz] at hst
  rw [hm] at hst ⊢
  simp [Builtin.clear_, run_underlying ht, hz, hst, Result.andThen]
 unfold Oper.wp
 simp only [execOp, ho, resolve, invoke, builtin, Sem.run_bind, Sem.run_pure, Result.andThen_ok, List.map_toArray, List.map_cons, List.map_nil, hs, hrun]
 exact hK' _ _ (h W' hO hk (by rw [hW']; simp))
end
section
variable {α : Type} {T : Ty α} {e : TypeId} {base : Nat} {w w' : World} {v : Value} {xs : List α}
theorem Own1.flat_kept {S : Nat → Prop} (hf : ∀ (ok ok' : Nat → Prop) (w w' : World) (x : α) (cs : List Value), T.R ok w x cs → T.R ok' w' x cs) (h : Own1 T e base w v xs) (k : KeptS S w w') (hv : ∀ b, v.ownBlock = some b → ¬ S b) : Own1 T e base w' v xs := by
 obtain ⟨h0, inner, ⟨h1, h2⟩, hr⟩ := h
 refine ⟨h0, inner, ⟨h1, ?_⟩, hr.imp (fun x c hc => hf _ _ _ _ _ _ hc)⟩
 rcases h2 with h2 | ⟨g, cap, cur, rfl, hg, hh, r⟩
 ·exact .inl h2
 ·exact .inr ⟨g, cap, cur, rfl, hg, (k.block g (lt_of_block hh) (hv g rfl)).trans hh, r⟩
/-- Own rows of different element types lie in different blocks. -/
theorem Own1.apart {β : Type} {U : Ty β} {e' : TypeId} {base' : Nat} {u : Value} {ys : List β} (h : Own1 T e base w v xs) (h' : Own1 U e' base' w u ys) (hne : e ≠ e') {k : Nat} (hk : v.ownBlock = some k) : u.ownBlock ≠ some k := by
 intro hk'
 obtain ⟨_, _, ⟨_, h2⟩, _⟩ := h
 obtain ⟨_, _, ⟨_, h2'⟩, _⟩ := h'
 rcases h2 with ⟨rfl, _⟩ | ⟨g, cap, cur, rfl, _, hh, _⟩
 ·cases hk
 rcases h2' with ⟨rfl, _⟩ | ⟨g', cap', cur', rfl, _, hh', _⟩
 ·cases hk'
 cases hk
 cases hk'
 rw [hh] at hh'
 injection hh' with hh'
 injection hh' with _ hh'
 exact hne hh'
end
theorem pt_flat (ok ok' : Nat → Prop) (w w' : World) (x : Pt) (cs : List Value) (h : Ty.pt.R ok w x cs) : Ty.pt.R ok' w' x cs := h
theorem sg_flat (ok ok' : Nat → Prop) (w w' : World) (x : Sg) (cs : List Value) (h : Ty.sg.R ok w x cs) : Ty.sg.R ok' w' x cs := h
theorem blk_set {w : World} {g i : Nat} {cs : Array Value} {t : TypeId} (h : w.heap[g]? = some (.cells cs t (0, 0))) (v : Value) : (w.setCell ⟨g, i, none⟩ v).heap[g]? = some (.cells (cs.setIfInBounds i v) t (0, 0)) := by
 have hlt : g < w.heap.size := (Array.getElem?_eq_some_iff.1 h).1
 have hv : w.heap[g] = .cells cs t (0, 0) := (Array.getElem?_eq_some_iff.1 h).2
 unfold World.setCell
 rw [Array.getElem?_eq_getElem (by simpa using hlt), Array.getElem_modify]
 simp [hv]
abbrev Ty.ring : Ty Pts := Ty.slice Ty.pt
def rgD (rs : Rgs) (k : Nat) : Pts := rs.getD k []
theorem Row.ring_at {ok : Nat → Prop} {w : World} {A : Option Addr} {rs : Rgs} (h : Row Ty.ring ok w A rs) (k : Nat) (hk : k < rs.length) :
  ∃ ad A0 c0, A = some ad ∧ w.cell? (ad.add k) = some (.slice A0 (rgD rs k).length c0) ∧ (rgD rs k).length ≤ c0 ∧ Row Ty.pt ok w A0 (rgD rs k) := by
 obtain ⟨ad, cs, e, _, ⟨A0, c0, rfl, hl, hr⟩, hc⟩ := h.get hk
 have e2 : rgD rs k = rs[k] := by simp [rgD, hk]
 rw [e2]
 exact ⟨ad, A0, c0, e, by have := hc.first; rwa [show Ty.ring.sz = 1 from rfl, Nat.mul_one] at this, hl, hr⟩
theorem take_eq_step {α : Type} {a b : List α} {k : Nat} (d : α) (h : a.take k = b.take k) (ha : k < a.length) (hb : k < b.length) (he : a.getD k d = b.getD k d) : a.take (k + 1) = b.take (k + 1) := by
 rw [take_snoc a k d ha, take_snoc b k d hb, h, he]
theorem take_ne {α : Type} {a b : List α} {k : Nat} (d : α) (he : a.getD k d ≠ b.getD k d) : a ≠ b := fun h => he (by rw [h])

theorem sgD_eq {xs : Sgs} {k : Nat} (h : k < xs.length) : sgD xs k = xs[k] := by simp [sgD, h]
theorem Row.sg_at {ok : Nat → Prop} {w : World} {A : Option Addr} {xs : Sgs} (h : Row Ty.sg ok w A xs) (k : Nat) (hk : k < xs.length) :
  ∃ ad, A = some ad ∧ w.cell? (ad.add (k * 4)) = some (.int .i64 (sgD xs k).1.1) ∧ w.cell? ⟨(ad.add (k * 4)).block, (ad.add (k * 4)).off + 1, none⟩ = some (.int .i64 (sgD xs k).1.2) ∧
   w.cell? ⟨(ad.add (k * 4)).block, (ad.add (k * 4)).off + 2, none⟩ = some (.int .i64 (sgD xs k).2.1) ∧ w.cell? ⟨(ad.add (k * 4)).block, (ad.add (k * 4)).off + 3, none⟩ = some (.int .i64 (sgD xs k).2.2) := by
 obtain ⟨ad, cs, e, _, hr, hc⟩ := h.get hk
 rw [sgD_eq hk]
 obtain rfl : cs = _ := hr
 exact ⟨ad, e, hc.first, hc.field 1 (by decide) rfl, hc.field 2 (by decide) rfl, hc.field 3 (by decide) rfl⟩
theorem infoSg : (Tryz.prog.info? 48).map (fun i => (i.zero, i.size, i.bytes)) = some (some (.agg #[.int .i64 0, .int .i64 0, .int .i64 0, .int .i64 0]), 4, 32) := by kernel_rfl
theorem infoPt : (Tryz.prog.info? 28).map (fun i => (i.zero, i.size, i.bytes)) = some (some (.agg #[.int .i64 0, .int .i64 0]), 2, 16) := by kernel_rfl
theorem infoRing : (Tryz.prog.info? 25).map (fun i => (i.zero, i.size, i.bytes)) = some (some (.slice none 0 0), 1, 24) := by kernel_rfl
end
section
open Go.RowKit Go.Proofs.YtaeflnbjeaoapaaGreatW.PrintLast

abbrev Ty.i64 : Ty Int := Ty.int .i64
abbrev Ty.ints : Ty (List Int) := Ty.slice Ty.i64
abbrev Ty.edge : Ty Edg := Ty.pair Ty.sg (Ty.pair Ty.ints Ty.ints)
def inD (l : List Int) (k : Nat) : Int := l.getD k 0
section
variable {ok : Nat → Prop} {w : World} {A : Option Addr}
theorem Row.int_at {l : List Int} (h : Row Ty.i64 ok w A l) (k : Nat) (hk : k < l.length) : ∃ ad, A = some ad ∧ w.cell? (ad.add k) = some (.int .i64 (inD l k)) := by
 obtain ⟨ad, cs, e, _, hr, hc⟩ := h.get hk
 have e1 : inD l k = l[k] := by simp [inD, hk]
 rw [e1]
 obtain rfl : cs = _ := hr
 exact ⟨ad, e, by have := hc.first; rwa [show Ty.i64.sz = 1 from rfl, Nat.mul_one] at this⟩
theorem egD_eq {m : Msh} {k : Nat} (h : k < m.length) : egD m k = m[k] := by simp [egD, h]
theorem Row.edge_at {m : Msh} (h : Row Ty.edge ok w A m) (k : Nat) (hk : k < m.length) :
  ∃ ad A1 c1 A2 c2, A = some ad ∧ w.cell? (ad.add (k * 6)) = some (.int .i64 (egD m k).1.1.1) ∧ w.cell? ⟨(ad.add (k * 6)).block, (ad.add (k * 6)).off + 1, none⟩ = some (.int .i64 (egD m k).1.1.2) ∧
   w.cell? ⟨(ad.add (k * 6)).block, (ad.add (k * 6)).off + 2, none⟩ = some (.int .i64 (egD m k).1.2.1) ∧ w.cell? ⟨(ad.add (k * 6)).block, (ad.add (k * 6)).off + 3, none⟩ = some (.int .i64 (egD m k).1.2.2) ∧
   w.cell? ⟨(ad.add (k * 6)).block, (ad.add (k * 6)).off + 4, none⟩ = some (.slice A1 (egD m k).2.1.length c1) ∧ w.cell? ⟨(ad.add (k * 6)).block, (ad.add (k * 6)).off + 5, none⟩ = some (.slice A2 (egD m k).2.2.length c2) ∧
   (egD m k).2.1.length ≤ c1 ∧ Row Ty.i64 ok w A1 (egD m k).2.1 ∧ (egD m k).2.2.length ≤ c2 ∧ Row Ty.i64 ok w A2 (egD m k).2.2 := by
 obtain ⟨ad, cs, e, _, ⟨c1, c2, rfl, h1, c3, c4, rfl, ⟨A1, cc1, rfl, hl1, hr1⟩, A2, cc2, rfl, hl2, hr2⟩, hc⟩ := h.get hk
 rw [egD_eq hk]
 obtain rfl : c1 = _ := h1
 exact ⟨ad, A1, cc1, A2, cc2, e, hc.first, hc.field 1 (by decide) rfl, hc.field 2 (by decide) rfl, hc.field 3 (by decide) rfl, hc.field 4 (by decide) rfl, hc.field 5 (by decide) rfl, hl1, hr1, hl2, hr2⟩
end
end
section
open Go.RowKit
section
variable {P : Program} {d : Nat} {xs ys : Array Value} {f : Field} {fs : List Field} {a b : Value} {r s : Bool} {w : World}
/-- The last field that counts. -/
theorem eqf_last (hn : (f.name == "_") = false) (ha : (part f.type xs f.offset).run P w = .ok a w) (hb : (part f.type ys f.offset).run P w = .ok b w) (he : (Op.equalIn d f.type a b).run P w = .ok r w) : (Op.eqFields d xs ys [f]).run P w = .ok r w := by
 have hn' : f.name ≠ "_" := by simpa using hn
 simp only [Op.eqFields, if_pos hn', Sem.run_bind, ha, hb, he, Result.andThen_ok]
 cases r <;> simp
theorem eqf_cons (hn : (f.name == "_") = false) (ha : (part f.type xs f.offset).run P w = .ok a w) (hb : (part f.type ys f.offset).run P w = .ok b w) (he : (Op.equalIn d f.type a b).run P w = .ok r w) (hr : (Op.eqFields d xs ys fs).run P w = .ok s w) : (Op.eqFields d xs ys (f :: fs)).run P w = .ok (r && s) w := by
 have hn' : f.name ≠ "_" := by simpa using hn
 rw [Op.eqFields]
 simp only [if_pos hn', Sem.run_bind, ha, hb, he, Result.andThen_ok]
 cases r
 ·simp
 ·simpa using hr
/-- The last that counts, behind it such as_ don't. -/
theorem eqf_end (hn : (f.name == "_") = false) (ha : (part f.type xs f.offset).run P w = .ok a w) (hb : (part f.type ys f.offset).run P w = .ok b w) (he : (Op.equalIn d f.type a b).run P w = .ok r w) (hr : (Op.eqFields d xs ys fs).run P w = .ok true w) : (Op.eqFields d xs ys (f :: fs)).run P w = .ok r w := by
 have h := eqf_cons hn ha hb he hr
 rwa [Bool.and_true] at h
/-- A field named _ doesn't count. -/
theorem eqf_skip (hn : (f.name == "_") = true) (hr : (Op.eqFields d xs ys fs).run P w = .ok s w) : (Op.eqFields d xs ys (f :: fs)).run P w = .ok s w := by
 have hn' : ¬ (f.name ≠ "_") := by simpa using hn
 rw [Op.eqFields, if_neg hn']
 exact hr
theorem eqf_nil : (Op.eqFields d xs ys []).run P w = .ok true w := by simp [Op.eqFields]
theorem eqA_of {t : TypeId} {fs : Array Field} (hu : P.underlying t = some (.struct fs)) (hp : P.stoodInHeld t = false) (h : (Op.eqFields d xs ys fs.toList).run P w = .ok r w) : (Op.equalIn (d + 1) t (.agg xs) (.agg ys)).run P w = .ok r w := by
 have hf : P.fieldsOf t = fs := by simp [Program.fieldsOf, hu]
 rw [run_equalIn_struct (P := P) w d t xs ys (by rw [hf]; exact hu) hp, hf]
 exact h
end
end
section
open Go.RowKit
set_option linter.unusedSectionVars false

theorem eqPt0 (d : Nat) (w : World) (x0 y0 x1 y1 : Int) :
  (Op.equalIn (d + 2) 28 (.agg #[.int .i64 x0, .int .i64 x1]) (.agg #[.int .i64 y0, .int .i64 y1])).run Tryz.prog w = .ok (x0 == y0 && (x1 == y1)) w := by
 refine eqA_of Tryz.underlying28 (by kernel_rfl) ?_
 refine eqf_cons (by rfl) (by go_simp; rfl) (by go_simp; rfl) (by go_simp) ?_
 exact eqf_last (by rfl) (by go_simp; rfl) (by go_simp; rfl) (by go_simp)
theorem eqSg0 (d : Nat) (w : World) (x0 y0 x1 y1 x2 y2 x3 y3 : Int) :
  (Op.equalIn (d + 3) 48 (.agg #[.int .i64 x0, .int .i64 x1, .int .i64 x2, .int .i64 x3]) (.agg #[.int .i64 y0, .int .i64 y1, .int .i64 y2, .int .i64 y3])).run Tryz.prog w = .ok ((x0 == y0 && (x1 == y1)) && ((x2 == y2 && (x3 == y3)))) w := by
 refine eqA_of Tryz.underlying48 (by kernel_rfl) ?_
 refine eqf_cons (by rfl) (by go_simp) (by go_simp) (eqPt0 (d + 0) w _ _ _ _) ?_
 exact eqf_last (by rfl) (by go_simp) (by go_simp) (eqPt0 (d + 0) w _ _ _ _)
theorem eqPt (d : Nat) (w : World) (x0 y0 x1 y1 : Int) :
  (Op.equalIn (d + 2) 28 (.agg #[.int .i64 x0, .int .i64 x1]) (.agg #[.int .i64 y0, .int .i64 y1])).run Tryz.prog w = .ok (decide (((x0, x1) : Pt) = (y0, y1))) w := by
 rw [eqPt0]; congr 1; rw [Bool.eq_iff_iff]; simp
theorem eqSg (d : Nat) (w : World) (x0 y0 x1 y1 x2 y2 x3 y3 : Int) :
  (Op.equalIn (d + 3) 48 (.agg #[.int .i64 x0, .int .i64 x1, .int .i64 x2, .int .i64 x3]) (.agg #[.int .i64 y0, .int .i64 y1, .int .i64 y2, .int .i64 y3])).run Tryz.prog w = .ok (decide ((((x0, x1), (x2, x3)) : Sg) = ((y0, y1), (y2, y3)))) w := by
 rw [eqSg0]; congr 1; rw [Bool.eq_iff_iff]; simp [and_assoc]
section
variable {α : Type} {k : Nat} {hn : 0 < k} {enc : α → List Value} {hk : ∀ x, (enc x).length = k} {h1 : ∀ x, ∀ u ∈ enc x, u.oneCell' = true}
theorem OwnR.flat_at {e : TypeId} {base g n c : Nat} {M : Nat → Prop} {w : World} {xs : List α} (h : OwnR (Ty.flat k hn enc hk h1) e base M w (.slice (some ⟨g, 0, none⟩) n c) xs) (i : Nat) (hi : i < xs.length) (j : Nat) (u : Value) (hu : (enc xs[i])[j]? = some u) :
  w.cell? ⟨g, i * k + j, none⟩ = some u := by
 obtain ⟨h0, inner, ho, hr⟩ := h
 obtain ⟨cs, hcs, hc⟩ := hr.get i xs[i] (by simp [hi])
 obtain rfl : cs = enc xs[i] := hcs
 have := ho.cells (g := g) rfl _ u (hc j u hu)
 rw [add_at, Nat.zero_add] at this
 exact this
end
theorem OwnR.sg_at {e : TypeId} {base g n c : Nat} {M : Nat → Prop} {w : World} {xs : Sgs} (h : OwnR Ty.sg e base M w (.slice (some ⟨g, 0, none⟩) n c) xs) (i : Nat) (hi : i < xs.length) :
  w.cell? ⟨g, i * 4, none⟩ = some (.int .i64 (sgD xs i).1.1) ∧ w.cell? ⟨g, i * 4 + 1, none⟩ = some (.int .i64 (sgD xs i).1.2) ∧ w.cell? ⟨g, i * 4 + 2, none⟩ = some (.int .i64 (sgD xs i).2.1) ∧ w.cell? ⟨g, i * 4 + 3, none⟩ = some (.int .i64 (sgD xs i).2.2) := by
 rw [sgD_eq hi]
 exact ⟨OwnR.flat_at h i hi 0 _ rfl, OwnR.flat_at h i hi 1 _ rfl, OwnR.flat_at h i hi 2 _ rfl, OwnR.flat_at h i hi 3 _ rfl⟩
theorem OwnR.pt_at {e : TypeId} {base g n c : Nat} {M : Nat → Prop} {w : World} {xs : Pts} (h : OwnR Ty.pt e base M w (.slice (some ⟨g, 0, none⟩) n c) xs) (i : Nat) (hi : i < xs.length) :
  w.cell? ⟨g, i * 2, none⟩ = some (.int .i64 (ptD xs i).1) ∧ w.cell? ⟨g, i * 2 + 1, none⟩ = some (.int .i64 (ptD xs i).2) := by
 rw [ptD_eq hi]
 exact ⟨OwnR.flat_at h i hi 0 _ rfl, OwnR.flat_at h i hi 1 _ rfl⟩
theorem Own1.form {α : Type} {T : Ty α} {e : TypeId} {base : Nat} {w : World} {v : Value} {xs : List α} (h : Own1 T e base w v xs) (hn : 0 < xs.length) : ∃ g c, v = .slice (some ⟨g, 0, none⟩) xs.length c ∧ xs.length ≤ c := by
 obtain ⟨A, c, e, hl, _, h2⟩ := OwnR.reads h
 obtain ⟨g, rfl, _⟩ := h2 hn
 exact ⟨g, c, e, hl⟩
/-! ### compactZ, step by step -/
section
variable {α : Type} [DecidableEq α]
theorem compA_snoc (x : α) : ∀ (l : List α) (p : α), compA p (l ++ [x]) = if x = (p :: l).getLast (by simp) then compA p l else compA p l ++ [x]
 | [], p => by
  show (if x = p then compA p [] else x :: compA x []) = if x = p then compA p [] else compA p [] ++ [x]
  split <;> rfl
 | y :: ys, p => by
  have ih := compA_snoc x ys y
  simp only [List.cons_append, compA]
  have e : (p :: y :: ys).getLast (by simp) = (y :: ys).getLast (by simp) := by simp
  rw [e]
  by_cases h : y = p
  ·subst h; rw [if_pos rfl, if_pos rfl, ih]
  ·rw [if_neg h, if_neg h, ih]
   split <;> rfl
theorem compact_take (xs : List α) (d : α) (k : Nat) (hk : 0 < k) (h : k < xs.length) : compactZ (xs.take (k + 1)) = if xs.getD k d = xs.getD (k - 1) d then compactZ (xs.take k) else compactZ (xs.take k) ++ [xs.getD k d] := by
 rw [take_snoc xs k d h]
 have hne : xs.take k ≠ [] := by intro e; have := congrArg List.length e; rw [List.length_take, List.length_nil] at this; omega
 obtain ⟨y, ys, hy⟩ := List.exists_cons_of_ne_nil hne
 have hl : (y :: ys).getLast (by simp) = xs.getD (k - 1) d := by
  have : (y :: ys).getLast (by simp) = (xs.take k).getLast hne := by simp [hy]
  rw [this, List.getLast_eq_getElem, List.getElem_take]
  simp only [List.length_take, Nat.min_eq_left (Nat.le_of_lt h)]
  simp [show k - 1 < xs.length by omega]
 rw [hy]
 show y :: compA y (ys ++ [_]) = _
 rw [compA_snoc, hl]
 simp only [compactZ]
 split <;> rfl
theorem compact_eq (xs : List α) (d : α) (k : Nat) (hk : 0 < k) (h : k < xs.length) (hq : xs.getD k d = xs.getD (k - 1) d) : compactZ (xs.take (k + 1)) = compactZ (xs.take k) := by
 rw [compact_take xs d k hk h, if_pos hq]
theorem compact_ne (xs : List α) (d : α) (k : Nat) (hk : 0 < k) (h : k < xs.length) (hq : ¬ xs.getD k d = xs.getD (k - 1) d) : compactZ (xs.take (k + 1)) = compactZ (xs.take k) ++ [xs.getD k d] := by
 rw [compact_take xs d k hk h, if_neg hq]
theorem compact_one {xs : List α} (h : xs.length < 2) : compactZ xs = xs := by
 match xs, h with
 | [], _ => rfl
 | [x], _ => rfl
theorem compact_take_len (xs : List α) : ∀ k, k ≤ xs.length → (compactZ (xs.take k)).length ≤ k := fun k hk => by
 have := compact_len (xs.take k)
 rw [List.length_take] at this; omega
theorem set_take_snoc {ys : List α} {i : Nat} (x : α) (h : i < ys.length) : (ys.set i x).take (i + 1) = ys.take i ++ [x] := by
 rw [List.take_succ_eq_append_getElem (by rw [List.length_set]; omega), List.take_set, List.set_eq_of_length_le (by rw [List.length_take]; omega), List.getElem_set_self]
end
theorem sgB (a b : Sg) : (decide (a.1.1 = b.1.1) && decide (a.1.2 = b.1.2) && (decide (a.2.1 = b.2.1) && decide (a.2.2 = b.2.2))) = decide (a = b) := by
 obtain ⟨⟨a1, a2⟩, ⟨a3, a4⟩⟩ := a
 obtain ⟨⟨b1, b2⟩, ⟨b3, b4⟩⟩ := b
 rw [Bool.eq_iff_iff]; simp [and_assoc]
theorem ptB (a b : Pt) : (decide (a.1 = b.1) && decide (a.2 = b.2)) = decide (a = b) := by
 obtain ⟨a1, a2⟩ := a
 obtain ⟨b1, b2⟩ := b
 rw [Bool.eq_iff_iff]; simp
end
end Go.Proofs.YtaeflnbjeaoapaaGreat
