/- Words of this session's own: rows out of cells; copy over elements of any size; append at a step of a region that draws. No program is in sight. -/
import Derived.Test.YtlmjciajpjdilaaOwn
import Derived.Laws.CopyRow
import Derived.Lib.SliceRun
namespace Go.Proofs.Ytlmjciajpjdilaa
open Go.RowKit
set_option linter.unusedVariables false
set_option linter.unusedSimpArgs false

theorem Row.of_reps {α : Type} {T : Ty α} {ok : Nat → Prop} {w : World} {g : Nat} {xs : List α} {cs : List Value} (hl : xs.length ≤ 9223372036854775807) (hg : ok g) (h : Reps T ok w xs cs) (hc : ∀ j u, cs[j]? = some u → w.cell? ⟨g, j, none⟩ = some u) : Row T ok w (some ⟨g, 0, none⟩) xs :=
  ⟨hl, fun _ => ⟨_, rfl, hg, fun i x hx => by
    obtain ⟨c, hr, hk⟩ := h.get i x hx
    exact ⟨c, hr, fun j u hu => by rw [add_at, Nat.zero_add]; exact hc _ _ (hk j u hu)⟩⟩⟩

/-- copy(dst, src) of n elements into a row that is known whole. -/
theorem wpList_copyT {P : Program} {ops : Array Oper} {rest : List Oper} {o : Oper} {a : Act} {Q : Exit → Act → World → Prop} {α : Type} (T : Ty α) {W : World} (hgd : o.guard = none) (d s : Operand) (dT sT elem : TypeId)
    (ho : o.op = .call { callee := .builtin .copy, args := #[d, s], argTypes := #[dT, sT] }) (hu : P.underlying dT = some (.slice elem)) (hsz : (P.info? elem).map (·.size) = some T.sz)
    (g n m dCap sCap : Nat) (A : Option Addr) (hd : a.eval d = .slice (some ⟨g, 0, none⟩) m dCap) (hs : a.eval s = .slice A n sCap) (hm : m = n)
    (cur : Array Value) (t : TypeId) (hg : W.heap[g]? = some (.cells cur t (0, 0))) (xs : List α) (hn : n = xs.length) (ok : Nat → Prop) (hr : Row T ok W A xs) (hok : ¬ ok g) (hfit : n * T.sz ≤ cur.size)
    (h : ∀ w', KeptS (fun k => k = g) W w' → w'.heap.size = W.heap.size → Row T (fun k => k = g ∨ ok k) w' (some ⟨g, 0, none⟩) xs → wpList P ops Q rest (a.put o.dst (goInt n)) w') :
    wpList P ops Q (o :: rest) a W := by
  subst hm hn
  obtain ⟨i, hi, hz⟩ := Option.map_eq_some_iff.1 hsz
  have main : ∀ cs : List Value, Reps T ok W xs cs → (Builtin.firstCells T.sz xs.length (.slice A xs.length sCap)).run P W = .ok cs.toArray W → wpList P ops Q (o :: rest) a W := by
    intro cs hcs hload
    have hl := hcs.len
    have hst := run_storeCells_at P g 0 t cs 0 cur W hg (by simp; omega) hcs.one
    have hrun : (Builtin.copy_ #[dT, sT] o.type #[.slice (some ⟨g, 0, none⟩) xs.length dCap, .slice A xs.length sCap]).run P W = .ok (goInt xs.length) (W.setRow g (cur.toList.take 0 ++ cs ++ cur.toList.drop (0 + 0 + cs.length)).toArray) := by
      have hmin : Nat.min xs.length xs.length = xs.length := Nat.min_self _
      simp [Builtin.copy_, run_underlying hu, Builtin.lenOf, sizeOf, typeInfo, hi, hz, hmin, hload] at hst ⊢
      simp [hst]
    refine wpList_plain hgd fun K hK => ?_
    unfold Oper.wp
    simp only [execOp, ho, resolve, invoke, builtin, Sem.run_bind, Sem.run_pure, Result.andThen_ok, List.map_toArray, List.map_cons, List.map_nil, hd, hs, hrun]
    have hk : KeptS (fun k => k = g) W (W.setRow g (cur.toList.take 0 ++ cs ++ cur.toList.drop (0 + 0 + cs.length)).toArray) :=
      ⟨rfl, rfl, rfl, by simp, fun k _ hk => setRow_other W g k _ hk⟩
    refine hK _ _ (h _ hk (by simp) (Row.of_reps hr.len (.inl rfl) (hcs.imp (fun x c hc => T.mono (fun k hk => .inr hk) (T.step hc (fun k hk _ => setRow_other W g k _ (fun e => hok (e ▸ hk)))))) (fun j u hu => ?_)))
    rw [cell_setRow_same W g j cur _ t (0, 0) hg]
    have hj := (List.getElem?_eq_some_iff.1 hu).1
    simp only [List.take_zero, List.nil_append, List.getElem?_toArray]
    rw [List.getElem?_append_left hj]; exact hu
  rcases A with _ | ad
  · have hx : xs = [] := by
      rcases Nat.eq_zero_or_pos xs.length with hy | hy
      · exact List.eq_nil_of_length_eq_zero hy
      · obtain ⟨ad, e, _⟩ := hr.2 hy
        cases e
    subst hx
    exact main [] rfl (by simp [Builtin.firstCells])
  · obtain ⟨cs, hcs, hk⟩ := hr.reps
    refine main cs hcs ?_
    have := run_loadCells_list (P := P) W ad cs hk
    rw [hcs.len] at this
    simpa [Builtin.firstCells] using this

/-- append(v, x) at a step of a region that draws its order. -/
theorem step_one {P : Program} {ops : Array Oper} {o : Oper} {a : Act} {Q : Exit → Act → World → Prop} {K : Act → World → Prop} {E : Prop} {α : Type} (T : Ty α) {W : World} {g : Nat} (base : Nat) (hgd : o.guard = none) (s x : Operand) (t e : TypeId) (z : Value) (bytes : Nat)
    (ho : o.op = .call { callee := .builtin .append, args := #[s, x], argTypes := #[t, t] })
    (ht : P.underlying t = some (.slice e)) (hinfo : (P.info? e).map (fun i => (i.zero, i.size, i.bytes)) = some (some z, T.sz, bytes)) (hz : z.cells.size = T.sz) (hb0 : 0 < bytes)
    (v : Value) (xs : List α) (y : α) (cs : List Value) (M : Nat → Prop) (hs : a.eval s = v) (hx : a.eval x = .slice (some ⟨g, 0, none⟩) 1 1) (hgs : g = W.heap.size)
    (hp : T.R (fun k => ¬ M k) W y cs) (HO : OwnR T e base M W v xs) (hbase : base ≤ W.heap.size) (hl : (xs.length + 1) * bytes ≤ 140737488355328)
    (h : ∀ v1 w1, OwnR T e base (fun k => M k ∨ v1.ownBlock = some k) w1 v1 (xs ++ [y]) → W.grownBy w1 v.ownBlock → (v1.ownBlock = v.ownBlock ∨ ∃ b, v1.ownBlock = some b ∧ W.heap.size ≤ b) → K (a.put o.dst v1) w1) :
    if Region.wanted o (yielded ops a.tmps) = true then Oper.wp P o a (W.alloc (.cells cs.toArray e)) K Q else E := by
  subst hgs
  obtain ⟨h0, inner, hown, hr⟩ := HO
  obtain ⟨i0, hi, hzz⟩ := Option.map_eq_some_iff.1 hinfo
  simp only [Prod.mk.injEq] at hzz
  obtain ⟨hz0, hz1, hz2⟩ := hzz
  have hlen : xs.length + 1 ≤ 140737488355328 := Nat.le_trans (Nat.le_mul_of_pos_right _ hb0) hl
  refine step_append_lies (w := W.alloc (.cells cs.toArray e)) hgd s x t ho base e i0 z T.sz bytes ht hi hz0 hz1 hz2 hz T.pos v xs.length inner hs (hown.alloc _) ⟨W.heap.size, 0, none⟩ 1 1 cs hx (by rw [T.len hp, Nat.one_mul])
    (by simpa using World.news_of_block (cs := cs.toArray) (t := e) (fr := (0, 0)) (heap_alloc_new W (.cells cs.toArray e))) (T.one hp) (by decide) (by simp only [maxLen]; omega) hl (by simp; omega) _ rfl ?_
  intro b cap w1 hown1 hg hat _
  have hg' : W.grownBy w1 v.ownBlock := World.grownBy.trans (World.grownBy_alloc W _ _) hg
  have hat' : (Value.slice (some ⟨b, 0, none⟩) (xs.length + 1) cap).ownBlock = v.ownBlock ∨ ∃ b', (Value.slice (some ⟨b, 0, none⟩) (xs.length + 1) cap).ownBlock = some b' ∧ W.heap.size ≤ b' := by
    rcases hat with hat | hat
    · exact .inl (by rw [hat]; rfl)
    · exact .inr ⟨_, rfl, by rw [hat]; simp⟩
  exact h _ w1 (OwnR.appended (ys := [y]) hr (Reps.single hp) hown1 h0 hg' hat') hg' hat'

end Go.Proofs.Ytlmjciajpjdilaa
