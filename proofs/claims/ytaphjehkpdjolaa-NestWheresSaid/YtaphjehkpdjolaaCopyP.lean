/- Words of this session's own: copy over elements of any size, and contracts of slices.Clone over rings and law22.square. -/
import Derived.Test.YtaphjehkpdjolaaPolyM
import Derived.Laws.CopyRow
import Derived.Lib.SliceRun
namespace Go.Proofs.Ytaphjehkpdjolaa
open Go.RowKit
set_option linter.unusedVariables false
set_option linter.unusedSimpArgs false

theorem Row.of_reps {α : Type} {T : Ty α} {ok : Nat → Prop} {w : World} {g : Nat} {xs : List α} {cs : List Value} (hl : xs.length ≤ 9223372036854775807) (hg : ok g) (h : Reps T ok w xs cs) (hc : ∀ j u, cs[j]? = some u → w.cell? ⟨g, j, none⟩ = some u) : Row T ok w (some ⟨g, 0, none⟩) xs :=
  ⟨hl, fun _ => ⟨_, rfl, hg, fun i x hx => by
    obtain ⟨c, hr, hk⟩ := h.get i x hx
    exact ⟨c, hr, fun j u hu => by rw [add_at, Nat.zero_add]; exact hc _ _ (hk j u hu)⟩⟩⟩

/-- copy(dst, src) of n elements into a row that is known whole. -/
theorem wpList_copyT {P : Program} {ops : Array Oper} {rest : List Oper} {o : Oper} {a : Act} {Q : Exit → Act → World → Prop} {α : Type} (T : Ty α) {W : World} (hgd : o.guard = none) (d s : Operand) (dT sT elem : TypeId)
    (ho : o.op = .call { callee := .builtin .copy, args := #[d, s], argTypes := #[dT, sT] }) (hu : P.underlying dT = some (.slice elem)) (hsz : (P.info? elem).map (·.size) = some T.sz)
    (g n m dCap sCap : Nat) (A : Option Addr) (hd : a.eval d = .slice (some ⟨g, 0, none⟩) m dCap) (hs : a.eval s = .slice A n sCap) (hm : m = n)
    (cur : Array Value) (t : TypeId) (hg : W.heap[g]? = some (.cells cur t (0, 0))) (xs : List α) (hn : n = xs.length) (ok : Nat → Prop) (hr : Row T ok W A xs) (hok : ¬ ok g) (hfit : n * T.sz ≤ cur.size)
    (h : ∀ w', KeptS (fun k => k = g) W w' → w'.heap.size = W.heap.size → Row T (fun k => k = g ∨ ok k) w' (some ⟨g, 0, none⟩) xs → wpList P ops Q rest (a.put o.dst (goInt n)) w') :
    wpList P ops Q (o :: rest) a W := by
  subst hm hn
  obtain ⟨i, hi, hz⟩ := Option.map_eq_some_iff.1 hsz
  have main : ∀ cs : List Value, Reps T ok W xs cs → (Builtin.firstCells T.sz xs.length (.slice A xs.length sCap)).run P W = .ok cs.toArray W → wpList P ops Q (o :: rest) a W := by
    intro cs hcs hload
    have hl := hcs.len
    have hst := run_storeCells_at P g 0 t cs 0 cur W hg (by simp; omega) hcs.one
    have hrun : (Builtin.copy_ #[dT, sT] o.type #[.slice (some ⟨g, 0, none⟩) xs.length dCap, .slice A xs.length sCap]).run P W = .ok (goInt xs.length) (W.setRow g (cur.toList.take 0 ++ cs ++ cur.toList.drop (0 + 0 + cs.length)).toArray) := by
      have hmin : Nat.min xs.length xs.length = xs.length := Nat.min_self _
      simp [Builtin.copy_, run_underlying hu, Builtin.lenOf, sizeOf, typeInfo, hi, hz, hmin, hload] at hst ⊢
      simp [hst]
    refine wpList_plain hgd fun K hK => ?_
    unfold Oper.wp
    simp only [execOp, ho, resolve, invoke, builtin, Sem.run_bind, Sem.run_pure, Result.andThen_ok, List.map_toArray, List.map_cons, List.map_nil, hd, hs, hrun]
    have hk : KeptS (fun k => k = g) W (W.setRow g (cur.toList.take 0 ++ cs ++ cur.toList.drop (0 + 0 + cs.length)).toArray) :=
      ⟨rfl, rfl, rfl, by simp, fun k _ hk => setRow_other W g k _ hk⟩
    refine hK _ _ (h _ hk (by simp) (Row.of_reps hr.len (.inl rfl) (hcs.imp (fun x c hc => T.mono (fun k hk => .inr hk) (T.step hc (fun k hk _ => setRow_other W g k _ (fun e => hok (e ▸ hk)))))) (fun j u hu => ?_)))
    rw [cell_setRow_same W g j cur _ t (0, 0) hg]
    have hj := (List.getElem?_eq_some_iff.1 hu).1
    simp only [List.take_zero, List.nil_append, List.getElem?_toArray]
    rw [List.getElem?_append_left hj]; exact hu
  rcases A with _ | ad
  · have hx : xs = [] := by
      rcases Nat.eq_zero_or_pos xs.length with hy | hy
      · exact List.eq_nil_of_length_eq_zero hy
      · obtain ⟨ad, e, _⟩ := hr.2 hy
        cases e
    subst hx
    exact main [] rfl (by simp [Builtin.firstCells])
  · obtain ⟨cs, hcs, hk⟩ := hr.reps
    refine main cs hcs ?_
    have := run_loadCells_list (P := P) W ad cs hk
    rw [hcs.len] at this
    simpa [Builtin.firstCells] using this

/-- append(v, x) at a step of a region that draws its order. -/
theorem step_one {P : Program} {ops : Array Oper} {o : Oper} {a : Act} {Q : Exit → Act → World → Prop} {K : Act → World → Prop} {E : Prop} {α : Type} (T : Ty α) {W : World} {g : Nat} (base : Nat) (hgd : o.guard = none) (s x : Operand) (t e : TypeId) (z : Value) (bytes : Nat)
    (ho : o.op = .call { callee := .builtin .append, args := #[s, x], argTypes := #[t, t] })
    (ht : P.underlying t = some (.slice e)) (hinfo : (P.info? e).map (fun i => (i.zero, i.size, i.bytes)) = some (some z, T.sz, bytes)) (hz : z.cells.size = T.sz) (hb0 : 0 < bytes)
    (v : Value) (xs : List α) (y : α) (cs : List Value) (M : Nat → Prop) (hs : a.eval s = v) (hx : a.eval x = .slice (some ⟨g, 0, none⟩) 1 1) (hgs : g = W.heap.size)
    (hp : T.R (fun k => ¬ M k) W y cs) (HO : OwnR T e base M W v xs) (hbase : base ≤ W.heap.size) (hl : (xs.length + 1) * bytes ≤ 140737488355328)
    (h : ∀ v1 w1, OwnR T e base (fun k => M k ∨ v1.ownBlock = some k) w1 v1 (xs ++ [y]) → W.grownBy w1 v.ownBlock → (v1.ownBlock = v.ownBlock ∨ ∃ b, v1.ownBlock = some b ∧ W.heap.size ≤ b) → K (a.put o.dst v1) w1) :
    if Region.wanted o (yielded ops a.tmps) = true then Oper.wp P o a (W.alloc (.cells cs.toArray e)) K Q else E := by
  subst hgs
  obtain ⟨h0, inner, hown, hr⟩ := HO
  obtain ⟨i0, hi, hzz⟩ := Option.map_eq_some_iff.1 hinfo
  simp only [Prod.mk.injEq] at hzz
  obtain ⟨hz0, hz1, hz2⟩ := hzz
  have hlen : xs.length + 1 ≤ 140737488355328 := Nat.le_trans (Nat.le_mul_of_pos_right _ hb0) hl
  refine step_append_lies (w := W.alloc (.cells cs.toArray e)) hgd s x t ho base e i0 z T.sz bytes ht hi hz0 hz1 hz2 hz T.pos v xs.length inner hs (hown.alloc _) ⟨W.heap.size, 0, none⟩ 1 1 cs hx (by rw [T.len hp, Nat.one_mul])
    (by simpa using World.news_of_block (cs := cs.toArray) (t := e) (fr := (0, 0)) (heap_alloc_new W (.cells cs.toArray e))) (T.one hp) (by decide) (by simp only [maxLen]; omega) hl (by simp; omega) _ rfl ?_
  intro b cap w1 hown1 hg hat _
  have hg' : W.grownBy w1 v.ownBlock := World.grownBy.trans (World.grownBy_alloc W _ _) hg
  have hat' : (Value.slice (some ⟨b, 0, none⟩) (xs.length + 1) cap).ownBlock = v.ownBlock ∨ ∃ b', (Value.slice (some ⟨b, 0, none⟩) (xs.length + 1) cap).ownBlock = some b' ∧ W.heap.size ≤ b' := by
    rcases hat with hat | hat
    · exact .inl (by rw [hat]; rfl)
    · exact .inr ⟨_, rfl, by rw [hat]; simp⟩
  exact h _ w1 (OwnR.appended (ys := [y]) hr (Reps.single hp) hown1 h0 hg' hat') hg' hat'

/-- An element of an own row of rings is replaced by its copy. -/
theorem OwnR.replace {e : TypeId} {base : Nat} {M : Nat → Prop} {w w3 : World} {g n c : Nat} {rs : Rings} (h : OwnR Ty.ring e base M w (.slice (some ⟨g, 0, none⟩) n c) rs) {i : Nat} (hi : i < rs.length) {V : Value}
    (hk : KeptS (fun k => k = g) w w3) (hblk : w3.heap[g]? = (w.setCell ⟨g, i, none⟩ V).heap[g]?) (hV : Ty.ring.R (fun k => ¬ M k) w3 (rgD rs i) [V]) : OwnR Ty.ring e base M w3 (.slice (some ⟨g, 0, none⟩) n c) rs := by
  obtain ⟨A', c', e', _⟩ := OwnR.reads h
  injection e' with e1 e2 e3
  subst e2
  obtain ⟨h0, inner, ho, hr⟩ := h
  have hg : M g := h0 g rfl
  refine ⟨h0, inner.set i V, ?_, ?_⟩
  · have hst := (ho.stored i V).1
    refine ⟨hst.1, ?_⟩
    rcases hst.2 with ⟨h1, _⟩ | ⟨g', cap', cur, h1, h2, h3, h4⟩
    · cases h1
    · injection h1 with h1 _ h5; injection h1 with h1; injection h1 with h1
      subst h1 h5
      exact .inr ⟨_, c, cur, rfl, h2, hblk.trans h3, h4⟩
  · have e2 : rgD rs i = rs[i] := by simp [rgD, hi]
    have hrs : rs.set i (rgD rs i) = rs := by rw [e2]; exact List.set_getElem_self hi
    have := Reps.set1 rfl i (hr.imp (ok' := fun k => ¬ M k) (w' := w3) (fun x d hd => Ty.step _ hd (fun k hk' hlt => hk.block k hlt (fun e => hk' (e ▸ hg))))) hV
    rwa [hrs] at this

theorem Clone_rings {ok : Nat → Prop} (rs : Rings) (A : Option Addr) (n c : Nat) (w : World) (hr : Row Ty.ring ok w A rs) (hn : n = rs.length) (hlen : rs.length ≤ 1000) :
    Calls Try.prog 25 #[.slice A n c] w fun e w' => ∃ v, e = .returned v ∧ Own1 Ty.ring 32 w.heap.size w' v rs ∧ Below w.heap.size w w' := by
  subst hn
  have hr0 : Row Ty.ring (fun k => k < w.heap.size) w A rs := hr.bnd.mono (fun k hk => hk.2)
  clear hr
  have heq : ∀ (w : World) (a : Option Addr) (n c n' c' : Nat), (binOp .eql 22 (.slice a n c) (.slice none n' c')).run Try.prog w = .ok (.bool a.isNone) w := fun w a n c n' c' => Lib.run_eql_slice_nil w _ _ a n c n' c' Try.underlying22
  go_enter Try.func25, Try.ntmps25
  rcases A with _ | ad
  · have hx : rs = [] := by
      rcases Nat.eq_zero_or_pos rs.length with hy | hy
      · exact List.eq_nil_of_length_eq_zero hy
      · obtain ⟨ad, e, _⟩ := hr0.2 hy
        cases e
    subst hx
    go_wp2
    go_ret
    exact ⟨_, rfl, OwnR.nil _ _ _ _ _, Below.refl _ _⟩
  · have H0 : OwnR Ty.ring 32 w.heap.size (fun k => k = w.heap.size) (w.alloc (.cells #[] 32)) (.slice (some ⟨w.heap.size, 0, none⟩) 0 0) [] :=
      ⟨fun k hk => by simp [Value.ownBlock] at hk; exact hk.symm, [], by have := World.ownsRow_made (base := w.heap.size) (size := 1) (e := 32) w #[] 0 (Nat.le_refl _) (by decide) rfl; simpa [show Ty.ring.sz = 1 from rfl] using this, rfl⟩
    have R0 : Row Ty.ring (fun k => ¬ k = w.heap.size) (w.alloc (.cells #[] 32)) (some ad) rs := (hr0.alloc _).mono (fun k hk e => by omega)
    have h1000 : (([] : Rings).length + rs.length) * 24 ≤ 140737488355328 := by simp; omega
    clear hr0
    go_wp2_with (first | (at_builtin; refine app_row Ty.ring (W := w.alloc (.cells #[] 32)) w.heap.size rfl _ _ 22 32 _ 24 rfl Try.underlying22 infoRing rfl (by decide) _ [] rs (some ad) _ c _ rfl rfl rfl R0 H0 (by simp) h1000 ?_; intro v1 w1 HO1 hg1 hat1))
    have hb1 : Below w.heap.size w w1 := below_grown (below_alloc (Below.refl _ _) _) hg1 (fun b e => by cases e; exact Nat.le_refl _)
    have HO2 := Lib.hid (Own1.of HO1)
    clear HO1 hg1 hat1
    go_ret
    exact ⟨_, rfl, HO2.out, hb1⟩
end Go.Proofs.Ytaphjehkpdjolaa
