/- Words of this session's own, second part: rows that a call owns; append's laws over kinds of values. No program is in sight. -/
import Derived.Test.YtlmjciajpjdilaaBase
import Derived.Maps.AppendAt
import Derived.Deep.AppendLies
namespace Go.Proofs.Ytlmjciajpjdilaa
open Go.RowKit
set_option linter.unusedVariables false

def Reps {α : Type} (T : Ty α) (ok : Nat → Prop) (w : World) : List α → List Value → Prop
  | [], cs => cs = []
  | x :: xs, cs => ∃ c d, cs = c ++ d ∧ T.R ok w x c ∧ Reps T ok w xs d
section
variable {α : Type} {T : Ty α} {ok ok' : Nat → Prop} {w w' : World}
theorem Reps.len : ∀ {xs : List α} {cs : List Value}, Reps T ok w xs cs → cs.length = xs.length * T.sz
  | [], _, h => by rw [show _ = [] from h]; simp
  | x :: xs, _, ⟨c, d, e, hc, hd⟩ => by rw [e, List.length_append, T.len hc, Reps.len hd, List.length_cons, Nat.add_mul, Nat.one_mul, Nat.add_comm]
theorem Reps.one : ∀ {xs : List α} {cs : List Value}, Reps T ok w xs cs → ∀ u ∈ cs, u.oneCell' = true
  | [], _, h, u, hu => by rw [show _ = [] from h] at hu; cases hu
  | x :: xs, _, ⟨c, d, e, hc, hd⟩, u, hu => by
    rw [e] at hu
    rcases List.mem_append.1 hu with h | h
    · exact T.one hc u h
    · exact Reps.one hd u h
theorem Reps.imp (hi : ∀ x c, T.R ok w x c → T.R ok' w' x c) : ∀ {xs : List α} {cs : List Value}, Reps T ok w xs cs → Reps T ok' w' xs cs
  | [], _, h => h
  | x :: xs, _, ⟨c, d, e, hc, hd⟩ => ⟨c, d, e, hi _ _ hc, Reps.imp hi hd⟩
theorem Reps.append : ∀ {xs ys : List α} {cs ds : List Value}, Reps T ok w xs cs → Reps T ok w ys ds → Reps T ok w (xs ++ ys) (cs ++ ds)
  | [], ys, cs, ds, h, h' => by rw [show cs = [] from h]; exact h'
  | x :: xs, ys, cs, ds, ⟨c, d, e, hc, hd⟩, h' => ⟨c, d ++ ds, by rw [e, List.append_assoc], hc, Reps.append hd h'⟩
theorem Reps.single {x : α} {c : List Value} (h : T.R ok w x c) : Reps T ok w [x] c := ⟨c, [], by simp, h, rfl⟩
theorem Reps.get : ∀ {xs : List α} {cs : List Value}, Reps T ok w xs cs → ∀ (i : Nat) (x : α), xs[i]? = some x → ∃ c, T.R ok w x c ∧ ∀ (j : Nat) (u : Value), c[j]? = some u → cs[i * T.sz + j]? = some u
  | [], _, _, i, x, hx => by simp at hx
  | y :: ys, cs, ⟨c, d, e, hc, hd⟩, 0, x, hx => by
    simp at hx; subst hx
    refine ⟨c, hc, fun j u hu => ?_⟩
    rw [e, Nat.zero_mul, Nat.zero_add, List.getElem?_append_left (List.getElem?_eq_some_iff.1 hu).1]; exact hu
  | y :: ys, cs, ⟨c, d, e, hc, hd⟩, i + 1, x, hx => by
    obtain ⟨c', hc', hk⟩ := Reps.get hd i x (by simpa using hx)
    refine ⟨c', hc', fun j u hu => ?_⟩
    have hl := T.len hc
    rw [e, List.getElem?_append_right (by rw [hl, Nat.add_mul]; omega), hl]
    rw [show (i + 1) * T.sz + j - T.sz = i * T.sz + j by rw [Nat.add_mul]; omega]
    exact hk j u hu
theorem Reps.of_cells {ad : Addr} : ∀ {xs : List α} (o : Nat), (∀ (i : Nat) (x : α), xs[i]? = some x → ∃ cs, T.R ok w x cs ∧ CellsAt w ad (o + i * T.sz) cs) → ∃ cs, Reps T ok w xs cs ∧ CellsAt w ad o cs
  | [], o, _ => ⟨[], rfl, fun j u hu => by simp at hu⟩
  | x :: xs, o, h => by
    obtain ⟨c, hc, hk⟩ := h 0 x rfl
    obtain ⟨d, hd, hk'⟩ := Reps.of_cells (xs := xs) (o + T.sz) (fun i y hy => by
      obtain ⟨c', hc', hk'⟩ := h (i + 1) y (by simpa using hy)
      exact ⟨c', hc', by rw [show o + T.sz + i * T.sz = o + (i + 1) * T.sz by rw [Nat.add_mul]; omega]; exact hk'⟩)
    refine ⟨c ++ d, ⟨c, d, rfl, hc, hd⟩, fun j u hu => ?_⟩
    rcases Nat.lt_or_ge j c.length with hj | hj
    · rw [List.getElem?_append_left hj] at hu
      have := hk j u hu
      rwa [Nat.zero_mul, Nat.add_zero] at this
    · rw [List.getElem?_append_right hj] at hu
      have := hk' (j - c.length) u hu
      rw [T.len hc] at this hj
      rwa [show o + T.sz + (j - T.sz) = o + j by omega] at this
theorem Row.reps {ad : Addr} {xs : List α} (h : Row T ok w (some ad) xs) : ∃ cs, Reps T ok w xs cs ∧ ∀ (j : Nat) (u : Value), cs[j]? = some u → w.cell? (ad.add j) = some u := by
  rcases Nat.eq_zero_or_pos xs.length with h0 | h0
  · obtain rfl := List.eq_nil_of_length_eq_zero h0
    exact ⟨[], rfl, fun j u hu => by simp at hu⟩
  · obtain ⟨ad', e, _, hc⟩ := h.2 h0
    injection e with e
    subst e
    obtain ⟨cs, hr, hk⟩ := Reps.of_cells (ad := ad) (o := 0) (fun i x hx => by rw [Nat.zero_add]; exact hc i x hx)
    exact ⟨cs, hr, fun j u hu => by have := hk j u hu; rwa [Nat.zero_add] at this⟩
end

/-- A row of the call's own (element type e, from block base on). M: the blocks that may still be written, this row's own among them: the elements' readings look at none of these. -/
def OwnR {α : Type} (T : Ty α) (e : TypeId) (base : Nat) (M : Nat → Prop) (w : World) (v : Value) (xs : List α) : Prop :=
  (∀ k, v.ownBlock = some k → M k) ∧ ∃ inner, w.ownsRow base e T.sz v xs.length inner ∧ Reps T (fun k => ¬ M k) w xs inner

section
variable {α : Type} {T : Ty α} {M M' : Nat → Prop} {w w' : World} {base : Nat} {e : TypeId} {v : Value} {xs : List α}
theorem OwnR.nil (T : Ty α) (e : TypeId) (base : Nat) (M : Nat → Prop) (w : World) : OwnR T e base M w (.slice none 0 0) [] :=
  ⟨fun k hk => by simp [Value.ownBlock] at hk, [], World.ownsRow_nil _ _ _ _, rfl⟩
theorem OwnR.lt (h : OwnR T e base M w v xs) : ∀ k, v.ownBlock = some k → base ≤ k ∧ k < w.heap.size := by
  obtain ⟨_, inner, ho, _⟩ := h
  exact ho.lt
theorem OwnR.mine (h : OwnR T e base M w v xs) : ∀ k, v.ownBlock = some k → M k := h.1
/-- Another choice of what may be written: new blocks, or fewer. -/
theorem OwnR.remut (h : OwnR T e base M w v xs) (hM : ∀ k, k < w.heap.size → M' k → M k) (hv : ∀ k, v.ownBlock = some k → M' k) : OwnR T e base M' w v xs := by
  obtain ⟨_, inner, ho, hr⟩ := h
  exact ⟨hv, inner, ho, hr.imp (fun x c hc => T.mono (fun k hk => fun hm => hk.1 (hM k hk.2 hm)) (T.bnd hc))⟩
/-- A world in which some other blocks that may be written have turned. -/
theorem OwnR.kept {S : Nat → Prop} (h : OwnR T e base M w v xs) (k : KeptS S w w') (hS : ∀ b, S b → M b) (hv : ∀ b, v.ownBlock = some b → ¬ S b) : OwnR T e base M w' v xs := by
  obtain ⟨h0, inner, ho, hr⟩ := h
  refine ⟨h0, inner, ?_, hr.imp (fun x c hc => T.step hc (fun b hb hlt => k.block b hlt (fun hs => hb (hS b hs))))⟩
  obtain ⟨h1, h2⟩ := ho
  refine ⟨h1, ?_⟩
  rcases h2 with h2 | ⟨g, cap, cur, rfl, hg, hh, r⟩
  · exact .inl h2
  · exact .inr ⟨g, cap, cur, rfl, hg, (k.block g (lt_of_block hh) (hv g rfl)).trans hh, r⟩
theorem OwnR.below (h : OwnR T e base M w v xs) (hb : Below w.heap.size w w') : OwnR T e base M w' v xs :=
  h.kept (S := fun _ => False) (kept_of_below hb) (fun _ hf => hf.elim) (fun _ _ hf => hf)
theorem OwnR.alloc (h : OwnR T e base M w v xs) (o : Obj) : OwnR T e base M (w.alloc o) v xs := h.below (below_alloc (Below.refl _ _) o)
theorem OwnR.drew (h : OwnR T e base M w v xs) : OwnR T e base M w.drew v xs := h.below (below_drew (Below.refl _ _))
theorem OwnR.drewN (h : OwnR T e base M w v xs) (n : Nat) : OwnR T e base M (w.drewN n) v xs := h.below (below_drewN (Below.refl _ _) n)
theorem OwnR.len (h : OwnR T e base M w v xs) : xs.length ≤ 9223372036854775807 := by
  obtain ⟨_, inner, ho, _⟩ := h
  rcases ho.2 with ⟨_, hn⟩ | ⟨g, cap, cur, _, _, _, h1, h2, _⟩
  · omega
  · simp only [maxLen] at h2; omega
/-- It reads. -/
theorem OwnR.reads (h : OwnR T e base M w v xs) : ∃ A c, v = .slice A xs.length c ∧ xs.length ≤ c ∧ Row T (fun k => ¬ M k ∨ v.ownBlock = some k) w A xs ∧ (0 < xs.length → ∃ g, A = some ⟨g, 0, none⟩ ∧ base ≤ g ∧ g < w.heap.size ∧ M g ∧ (∀ o, w.frozen? ⟨g, o, none⟩ = false)) := by
  have hl := h.len
  obtain ⟨h0, inner, ho, hr⟩ := h
  rcases ho.2 with ⟨rfl, hn⟩ | ⟨g, cap, cur, rfl, hg, hh, h1, h2, h3, h4⟩
  · obtain rfl := List.eq_nil_of_length_eq_zero hn
    exact ⟨none, 0, by simp, by simp, Row.nil _ _ _ _, fun h => absurd h (by simp)⟩
  · refine ⟨some ⟨g, 0, none⟩, cap, rfl, h1, ⟨hl, fun _ => ⟨_, rfl, .inr rfl, fun i x hx => ?_⟩⟩, fun _ => ⟨g, rfl, hg, lt_of_block hh, h0 g rfl, fun o => by simp [World.frozen?, hh]⟩⟩
    obtain ⟨c, hc, hk⟩ := hr.get i x hx
    exact ⟨c, T.mono (fun _ hk => .inl hk) hc, fun j u hu => ho.cells (g := g) rfl _ u (hk j u hu)⟩
end

section
variable {P : Program} {ops : Array Oper} {rest : List Oper} {o : Oper} {a : Act} {Q : Exit → Act → World → Prop} {α : Type}
theorem OwnR.appended {T : Ty α} {e : TypeId} {base : Nat} {M : Nat → Prop} {W w1 : World} {v v1 : Value} {xs ys : List α} {inner cs : List Value} (hr : Reps T (fun k => ¬ M k) W xs inner) (hp : Reps T (fun k => ¬ M k) W ys cs)
    (hown : w1.ownsRow base e T.sz v1 (xs.length + ys.length) (inner ++ cs)) (hv : ∀ k, v.ownBlock = some k → M k) (hg : W.grownBy w1 v.ownBlock) (hat : v1.ownBlock = v.ownBlock ∨ ∃ b, v1.ownBlock = some b ∧ W.heap.size ≤ b) :
    OwnR T e base (fun k => M k ∨ v1.ownBlock = some k) w1 v1 (xs ++ ys) := by
  have step : ∀ {q : α} {c : List Value}, T.R (fun k => ¬ M k) W q c → T.R (fun k => ¬ (M k ∨ v1.ownBlock = some k)) w1 q c := by
    intro q c hq
    have h1 := T.bnd hq
    have h2 := T.move (w' := w1) (fun k hk => hg.block k hk.2 (fun e => hk.1 (hv k e.symm))) h1
    refine T.mono (fun k hk => ?_) h2
    rintro (h | h)
    · exact hk.1 h
    · rcases hat with hat | ⟨b, hb, hle⟩
      · exact hk.1 (hv k (hat ▸ h))
      · rw [hb] at h; injection h with h; omega
  refine ⟨fun k hk => .inr hk, inner ++ cs, by rw [List.length_append]; exact hown, (hr.imp (fun _ _ hq => step hq)).append (hp.imp (fun _ _ hq => step hq))⟩

/-- append(v, x): behind 'at_builtin'; the goal's world is 'W.alloc' of the variadic's box. -/
theorem app_one (T : Ty α) {W : World} {g : Nat} (base : Nat) (hgd : o.guard = none) (s x : Operand) (t e : TypeId) (z : Value) (bytes : Nat)
    (ho : o.op = .call { callee := .builtin .append, args := #[s, x], argTypes := #[t, t] })
    (ht : P.underlying t = some (.slice e)) (hinfo : (P.info? e).map (fun i => (i.zero, i.size, i.bytes)) = some (some z, T.sz, bytes)) (hz : z.cells.size = T.sz) (hb0 : 0 < bytes)
    (v : Value) (xs : List α) (y : α) (cs : List Value) (M : Nat → Prop) (hs : a.eval s = v) (hx : a.eval x = .slice (some ⟨g, 0, none⟩) 1 1) (hgs : g = W.heap.size)
    (hp : T.R (fun k => ¬ M k) W y cs) (HO : OwnR T e base M W v xs) (hbase : base ≤ W.heap.size) (hl : (xs.length + 1) * bytes ≤ 140737488355328)
    (h : ∀ v1 w1, OwnR T e base (fun k => M k ∨ v1.ownBlock = some k) w1 v1 (xs ++ [y]) → W.grownBy w1 v.ownBlock → (v1.ownBlock = v.ownBlock ∨ ∃ b, v1.ownBlock = some b ∧ W.heap.size ≤ b) → wpList P ops Q rest (a.put o.dst v1) w1) :
    wpList P ops Q (o :: rest) a (W.alloc (.cells cs.toArray e)) := by
  subst hgs
  obtain ⟨h0, inner, hown, hr⟩ := HO
  obtain ⟨i0, hi, hzz⟩ := Option.map_eq_some_iff.1 hinfo
  simp only [Prod.mk.injEq] at hzz
  obtain ⟨hz0, hz1, hz2⟩ := hzz
  have hlen : xs.length + 1 ≤ 140737488355328 := Nat.le_trans (Nat.le_mul_of_pos_right _ hb0) hl
  refine wpList_append_own_at (W.alloc (.cells cs.toArray e)) hgd s x t ho base e i0 z T.sz bytes ht hi hz0 hz1 hz2 hz T.pos v xs.length inner hs (hown.alloc _) ⟨W.heap.size, 0, none⟩ 1 1 cs hx (by rw [T.len hp, Nat.one_mul])
    (by simpa using World.news_of_block (cs := cs.toArray) (t := e) (fr := (0, 0)) (heap_alloc_new W (.cells cs.toArray e))) (T.one hp) (by simp only [maxLen]; omega) hl (by simp; omega) ?_
  intro v1 w1 hown1 hg _ hat
  have hg' : W.grownBy w1 v.ownBlock := World.grownBy.trans (World.grownBy_alloc W _ _) hg
  have hat' : v1.ownBlock = v.ownBlock ∨ ∃ b, v1.ownBlock = some b ∧ W.heap.size ≤ b := by
    rcases hat with hat | hat
    · exact .inl hat
    · exact .inr ⟨_, hat, by simp⟩
  exact h v1 w1 (OwnR.appended (ys := [y]) hr (Reps.single hp) hown1 h0 hg' hat') hg' hat'

/-- append(v, ys...), ys a slice that is read, nil let in. -/
theorem app_row (T : Ty α) {W : World} (base : Nat) (hgd : o.guard = none) (s x : Operand) (t e : TypeId) (z : Value) (bytes : Nat)
    (ho : o.op = .call { callee := .builtin .append, args := #[s, x], argTypes := #[t, t] })
    (ht : P.underlying t = some (.slice e)) (hinfo : (P.info? e).map (fun i => (i.zero, i.size, i.bytes)) = some (some z, T.sz, bytes)) (hz : z.cells.size = T.sz) (hb0 : 0 < bytes)
    (v : Value) (xs ys : List α) (A : Option Addr) (m c : Nat) (M : Nat → Prop) (hs : a.eval s = v) (hx : a.eval x = .slice A m c) (hm : m = ys.length)
    (hp : Row T (fun k => ¬ M k) W A ys) (HO : OwnR T e base M W v xs) (hbase : base ≤ W.heap.size) (hl : (xs.length + m) * bytes ≤ 140737488355328)
    (h : ∀ v1 w1, OwnR T e base (fun k => M k ∨ v1.ownBlock = some k) w1 v1 (xs ++ ys) → W.grownBy w1 v.ownBlock → (v1.ownBlock = v.ownBlock ∨ ∃ b, v1.ownBlock = some b ∧ W.heap.size ≤ b) → wpList P ops Q rest (a.put o.dst v1) w1) :
    wpList P ops Q (o :: rest) a W := by
  subst hm
  obtain ⟨h0, inner, hown, hr⟩ := HO
  obtain ⟨i0, hi, hzz⟩ := Option.map_eq_some_iff.1 hinfo
  simp only [Prod.mk.injEq] at hzz
  obtain ⟨hz0, hz1, hz2⟩ := hzz
  have hlen : xs.length + ys.length ≤ 140737488355328 := Nat.le_trans (Nat.le_mul_of_pos_right _ hb0) hl
  rcases A with _ | ad
  · have hy : ys = [] := by
      rcases Nat.eq_zero_or_pos ys.length with hy | hy
      · exact List.eq_nil_of_length_eq_zero hy
      · obtain ⟨ad, e, _⟩ := hp.2 hy
        cases e
    subst hy
    have hrun : (Builtin.append_ #[t, t] o.type #[v, .slice none 0 c]).run P W = .ok v W := by
      rcases hown.2 with ⟨rfl, hn⟩ | ⟨g, cap, cur, rfl, _, _, hnc, _⟩
      · simp [Builtin.append_, run_underlying ht, sizeOf, typeInfo, hi, Builtin.lenOf, Builtin.firstCells]
      · simp [Builtin.append_, run_underlying ht, sizeOf, typeInfo, hi, Builtin.lenOf, Builtin.firstCells, hnc, storeCells]
    refine wpList_plain hgd fun K hK => ?_
    unfold Oper.wp execOp
    simp only [ho, resolve, invoke, builtin, Sem.run_bind, Sem.run_pure, Result.andThen_ok, List.map_toArray, List.map_cons, List.map_nil, hs, hx, hrun, List.length_nil]
    exact hK _ _ (h v W (OwnR.appended (ys := []) hr rfl (by simpa using hown) h0 (grown_refl _ _) (.inl rfl)) (grown_refl _ _) (.inl rfl))
  · obtain ⟨cs, hcs, hk⟩ := hp.reps
    refine wpList_append_own_at W hgd s x t ho base e i0 z T.sz bytes ht hi hz0 hz1 hz2 hz T.pos v xs.length inner hs hown ad ys.length c cs hx hcs.len hk hcs.one (by simp only [maxLen]; omega) hl hbase ?_
    intro v1 w1 hown1 hg _ hat
    have hat' : v1.ownBlock = v.ownBlock ∨ ∃ b, v1.ownBlock = some b ∧ W.heap.size ≤ b := by
      rcases hat with hat | hat
      · exact .inl hat
      · exact .inr ⟨_, hat, Nat.le_refl _⟩
    exact h v1 w1 (OwnR.appended hr hcs hown1 h0 hg hat') hg hat'
end
end Go.Proofs.Ytlmjciajpjdilaa
