/- Words of this session's own for Trace: own rows, stores and clear in them, segments and rings as elements. -/
import Derived.Test.YtlmjciajpjdilaaTOrd
import Derived.Test.YtlmjciajpjdilaaStep
import Derived.Test.YtlmjciajpjdilaaWLast
namespace Go.Proofs.Ytlmjciajpjdilaa
open Go.RowKit Go.Proofs.YtlmjciajpjdilaaW.PrintLast
set_option linter.unusedVariables false
set_option linter.unusedSimpArgs false
set_option linter.unusedSectionVars false

/-- A row of the call's own, and no other that may still be written. -/
def Own1 {α : Type} (T : Ty α) (e : TypeId) (base : Nat) (w : World) (v : Value) (xs : List α) : Prop := OwnR T e base (fun k => v.ownBlock = some k) w v xs
theorem Own1.of {α : Type} {T : Ty α} {e : TypeId} {base : Nat} {M : Nat → Prop} {w : World} {v : Value} {xs : List α} (h : OwnR T e base M w v xs) : Own1 T e base w v xs :=
  h.remut (fun k _ hk => h.mine k hk) (fun k hk => hk)
theorem Own1.below {α : Type} {T : Ty α} {e : TypeId} {base : Nat} {w w' : World} {v : Value} {xs : List α} (h : Own1 T e base w v xs) (hb : Below w.heap.size w w') : Own1 T e base w' v xs := OwnR.below h hb
theorem Own1.reads {α : Type} {T : Ty α} {e : TypeId} {base : Nat} {w : World} {v : Value} {xs : List α} (h : Own1 T e base w v xs) : ∃ A c, v = .slice A xs.length c ∧ xs.length ≤ c ∧ Row T (fun _ => True) w A xs := by
  obtain ⟨A, c, e, hl, hr, _⟩ := OwnR.reads h
  exact ⟨A, c, e, hl, hr.mono (fun _ _ => trivial)⟩
theorem Own1.base {α : Type} {T : Ty α} {e : TypeId} {base base' : Nat} {w : World} {v : Value} {xs : List α} (h : Own1 T e base w v xs) (hb : base' ≤ base) : Own1 T e base' w v xs := by
  obtain ⟨h0, inner, ⟨h1, h2⟩, hr⟩ := h
  refine ⟨h0, inner, ⟨h1, ?_⟩, hr⟩
  rcases h2 with h2 | ⟨g, cap, cur, rfl, hg, hh, r⟩
  · exact .inl h2
  · exact .inr ⟨g, cap, cur, rfl, Nat.le_trans hb hg, hh, r⟩
theorem below_own {w W w1 : World} {v : Value} (hb : Below w.heap.size w W) (hg : W.grownBy w1 v.ownBlock) (ho : ∀ k, v.ownBlock = some k → w.heap.size ≤ k) : Below w.heap.size w w1 := below_grown hb hg (fun b e => ho b e)

section
variable {α : Type} {T : Ty α} {ok : Nat → Prop} {w : World}
theorem Reps.put : ∀ {xs : List α} {cs : List Value} (i : Nat) {y : α} {c : List Value}, Reps T ok w xs cs → T.R ok w y c → i < xs.length → Reps T ok w (xs.set i y) (cs.take (i * T.sz) ++ c ++ cs.drop (i * T.sz + T.sz))
  | [], _, i, _, _, _, _, hi => absurd hi (by simp)
  | x :: xs, cs, 0, y, c, ⟨c0, d, e, hc, hd⟩, hy, _ => by
    subst e
    refine ⟨c, d, ?_, hy, hd⟩
    rw [Nat.zero_mul, List.take_zero, List.nil_append, Nat.zero_add, List.drop_left' (T.len hc)]
  | x :: xs, cs, i + 1, y, c, ⟨c0, d, e, hc, hd⟩, hy, hi => by
    subst e
    refine ⟨c0, _, ?_, hc, Reps.put i hd hy (by simpa using hi)⟩
    have hl := T.len hc
    rw [show (i + 1) * T.sz = c0.length + i * T.sz by rw [Nat.add_mul]; omega, List.take_length_add_append, Nat.add_assoc, List.drop_length_add_append]
    simp
theorem Reps.take : ∀ {xs : List α} {cs : List Value} (i : Nat), Reps T ok w xs cs → Reps T ok w (xs.take i) (cs.take (i * T.sz))
  | [], cs, i, h => by rw [show cs = [] from h]; simp; exact rfl
  | x :: xs, cs, 0, h => by simp; exact rfl
  | x :: xs, cs, i + 1, ⟨c0, d, e, hc, hd⟩ => by
    subst e
    have hl := T.len hc
    exact ⟨c0, _, by rw [show (i + 1) * T.sz = c0.length + i * T.sz by rw [Nat.add_mul]; omega, List.take_length_add_append], hc, Reps.take i hd⟩
theorem take_mid {β : Type} (l c : List β) (a b n : Nat) (hc : c.length = b) (hn : a + b ≤ n) (hl : n ≤ l.length) : (l.take a ++ c ++ l.drop (a + b)).take n = (l.take n).take a ++ c ++ (l.take n).drop (a + b) := by
  have h1 : (l.take a ++ c).length = a + b := by simp; omega
  rw [List.take_append, List.take_of_length_le (by omega), h1, List.take_take, Nat.min_eq_left (by omega), List.take_drop, show a + b + (n - (a + b)) = n by omega]
end
section
variable {P : Program} {ops : Array Oper} {rest : List Oper} {o : Oper} {a : Act} {Q : Exit → Act → World → Prop} {α : Type} {T : Ty α} {e : TypeId} {base g n c : Nat} {M : Nat → Prop} {W : World} {xs : List α}
/-- Row cells of an own row are written: what stands behind it. -/
theorem OwnR.put {q : Nat} {y : α} {cs : List Value} (HO : OwnR T e base M W (.slice (some ⟨g, 0, none⟩) n c) xs) {i : Nat} (hi : i < xs.length) (hq : q = i * T.sz) (hy : T.R (fun k => ¬ M k) W y cs) :
    ∃ w', (storeCells ⟨g, q, none⟩ cs).run P W = .ok () w' ∧ OwnR T e base M w' (.slice (some ⟨g, 0, none⟩) n c) (xs.set i y) ∧ KeptS (fun k => k = g) W w' ∧ w'.heap.size = W.heap.size := by
  subst hq
  obtain ⟨h0, inner, ho, hr⟩ := HO
  have hg : M g := h0 g rfl
  obtain ⟨hlen, ho⟩ := ho
  rcases ho with ⟨h, _⟩ | ⟨g', cap, cur, hv, hb, hh, h1, h2, h3, h4⟩
  · cases h
  injection hv with hv hvn hvc; injection hv with hv; injection hv with hv
  subst hv hvc hvn
  have hl := T.len hy
  have hfit : i * T.sz + T.sz ≤ xs.length * T.sz := by rw [← Nat.succ_mul]; exact Nat.mul_le_mul_right _ hi
  have hfit2 : xs.length * T.sz ≤ c * T.sz := Nat.mul_le_mul_right _ h1
  have hst := run_storeCells_at P g (i * T.sz) e cs 0 cur W hh (by omega) (T.one hy)
  simp only [Nat.add_zero, hl] at hst
  have hk : KeptS (fun k => k = g) W (W.setRow g (cur.toList.take (i * T.sz) ++ cs ++ cur.toList.drop (i * T.sz + T.sz)).toArray) :=
    ⟨rfl, rfl, rfl, by simp, fun k _ hk => setRow_other W g k _ hk⟩
  refine ⟨_, hst, ?_, hk, by simp⟩
  have step : ∀ {x : α} {d : List Value}, T.R (fun k => ¬ M k) W x d → T.R (fun k => ¬ M k) (W.setRow g (cur.toList.take (i * T.sz) ++ cs ++ cur.toList.drop (i * T.sz + T.sz)).toArray) x d :=
    fun hx => T.step hx (fun k hk' hlt => hk.block k hlt (fun e => hk' (e ▸ hg)))
  refine ⟨h0, inner.take (i * T.sz) ++ cs ++ inner.drop (i * T.sz + T.sz), ⟨?_, .inr ⟨g, c, _, by rw [List.length_set], hb, setRow_heap W g cur _ e (0, 0) hh, by rw [List.length_set]; exact h1, h2, ?_, ?_⟩⟩, (hr.imp (fun _ _ hx => step hx)).put i (step hy) hi⟩
  · rw [List.length_append, List.length_append, List.length_take, List.length_drop, hl, hlen, Nat.min_eq_left (by omega), List.length_set]; omega
  · rw [List.size_toArray, List.length_append, List.length_append, List.length_take, List.length_drop, hl, Array.length_toList, h3, Nat.min_eq_left (by omega)]; omega
  · rw [List.length_set, ← h4]
    show ((cur.toList.take (i * T.sz) ++ cs ++ cur.toList.drop (i * T.sz + T.sz)).toArray.toList).take _ = _
    rw [List.toList_toArray]
    exact take_mid _ _ _ _ _ hl hfit (by simp [h3]; omega)
/-- *p = y at an element of an own row. -/
theorem wpList_storeT (hgd : o.guard = none) (p x : Operand) (e' : TypeId) (ho : o.op = .store e' p x) (hsz : P.info? e' |>.map (·.size) |> (· = some T.sz)) {q : Nat} {y : α} {cs : Array Value} {i : Nat} (hp : a.eval p = .pointer (some ⟨g, q, none⟩)) (hx : a.eval x = .agg cs)
    (HO : OwnR T e base M W (.slice (some ⟨g, 0, none⟩) n c) xs) (hi : i < xs.length) (hq : q = i * T.sz) (hy : T.R (fun k => ¬ M k) W y cs.toList)
    (h : ∀ w', OwnR T e base M w' (.slice (some ⟨g, 0, none⟩) n c) (xs.set i y) → KeptS (fun k => k = g) W w' → w'.heap.size = W.heap.size → wpList P ops Q rest (a.put o.dst undef) w') : wpList P ops Q (o :: rest) a W := by
  refine wpList_plain hgd fun K' hK' => ?_
  obtain ⟨w', hrun, r1, r2, r3⟩ := HO.put (P := P) hi hq hy
  obtain ⟨inf, hinf, hz⟩ := Option.map_eq_some_iff.1 hsz
  have hl : cs.size = T.sz := by rw [← Array.length_toList]; exact T.len hy
  unfold Oper.wp
  simp [execOp, ho, hp, hx, Instr.storeAt, storeVar, sizeOf, typeInfo, hinf, hz, hrun, Result.andThen, Value.cells, Instr.sureAddr, hl]
  exact hK' _ _ (h w' r1 r2 r3)
/-- clear of an own row's tail; the row shortened. -/
theorem wpList_clearT (hgd : o.guard = none) (s : Operand) (t : TypeId) (ho : o.op = .call { callee := .builtin .clear, args := #[s], argTypes := #[t] }) (ht : P.underlying t = some (.slice e)) {z : Value} (hz : ∀ w, (zeroValue e).run P w = .ok z w) (hzs : z.cells.size = T.sz) (hz1 : ∀ u ∈ z.cells, u.oneCell' = true)
    {i q m c' : Nat} (hs : a.eval s = .slice (some ⟨g, q, none⟩) m c') (HO : OwnR T e base M W (.slice (some ⟨g, 0, none⟩) n c) xs) (hq : q = i * T.sz) (hm : m = xs.length - i) (hi : i < xs.length)
    (h : ∀ w', OwnR T e base M w' (.slice (some ⟨g, 0, none⟩) i c) (xs.take i) → KeptS (fun k => k = g) W w' → w'.heap.size = W.heap.size → wpList P ops Q rest (a.put o.dst (.tuple #[])) w') : wpList P ops Q (o :: rest) a W := by
  subst hq hm
  refine wpList_plain hgd fun K' hK' => ?_
  obtain ⟨h0, inner, ho', hr⟩ := HO
  have hg : M g := h0 g rfl
  obtain ⟨hlen, ho'⟩ := ho'
  rcases ho' with ⟨h, _⟩ | ⟨g', cap, cur, hv, hb, hh, h1, h2, h3, h4⟩
  · cases h
  injection hv with hv hvn hvc; injection hv with hv; injection hv with hv
  subst hv hvc hvn
  have hfit : i * T.sz + (xs.length - i) * T.sz ≤ xs.length * T.sz := by rw [← Nat.add_mul]; exact Nat.mul_le_mul_right _ (by omega)
  have hfit2 : xs.length * T.sz ≤ c * T.sz := Nat.mul_le_mul_right _ h1
  obtain ⟨zs, hzz⟩ : ∃ zs, zs = (Builtin.zeroCells z.cells (xs.length - i)).toList := ⟨_, rfl⟩
  have hzl : zs.length = (xs.length - i) * T.sz := by rw [hzz]; simp [Builtin.zeroCells, hzs]
  have hzo : ∀ u ∈ zs, u.oneCell' = true := by
    intro u hu
    rw [hzz] at hu
    simp only [Builtin.zeroCells, Array.toList_map, List.mem_map] at hu
    obtain ⟨j, _, rfl⟩ := hu
    have hj : j % z.cells.size < z.cells.size := Nat.mod_lt _ (by rw [hzs]; exact T.pos)
    rw [getElem!_pos z.cells _ hj]
    exact hz1 _ (Array.getElem_mem hj)
  have hst := run_storeCells_at P g (i * T.sz) e zs 0 cur W hh (by omega) hzo
  simp only [Nat.add_zero] at hst
  obtain ⟨W', hW'⟩ : ∃ W', W' = W.setRow g (cur.toList.take (i * T.sz) ++ zs ++ cur.toList.drop (i * T.sz + zs.length)).toArray := ⟨_, rfl⟩
  rw [← hW'] at hst
  have hk : KeptS (fun k => k = g) W W' := by rw [hW']; exact ⟨rfl, rfl, rfl, by simp, fun k _ hk => setRow_other W g k _ hk⟩
  have hO : OwnR T e base M W' (.slice (some ⟨g, 0, none⟩) i c) (xs.take i) := by
    have hti : (xs.take i).length = i := by rw [List.length_take]; omega
    refine ⟨h0, inner.take (i * T.sz), ⟨?_, .inr ⟨g, c, _, by rw [hti], hb, by rw [hW']; exact setRow_heap W g cur _ e (0, 0) hh, by rw [hti]; omega, h2, ?_, ?_⟩⟩, (hr.imp (fun x d hx => T.step hx (fun k hk' hlt => hk.block k hlt (fun e => hk' (e ▸ hg))))).take i⟩
    · rw [List.length_take, hlen, hti, Nat.min_eq_left (by omega)]
    · rw [List.size_toArray, List.length_append, List.length_append, List.length_take, List.length_drop, hzl, Array.length_toList, h3, Nat.min_eq_left (by omega)]; omega
    · rw [hti, List.toList_toArray, List.append_assoc, List.take_append_of_le_length (by rw [List.length_take, Array.length_toList, h3]; omega), List.take_take, Nat.min_self, ← h4, List.take_take, Nat.min_eq_left (by omega)]
  have hrun : (Builtin.clear_ #[t] o.type #[.slice (some ⟨g, i * T.sz, none⟩) (xs.length - i) c']).run P W = .ok (.tuple #[]) W' := by
    obtain ⟨m, hm⟩ : ∃ m, xs.length - i = m + 1 := ⟨xs.length - i - 1, by omega⟩
    rw [hzz] at hst
    rw [hm] at hst ⊢
    simp [Builtin.clear_, run_underlying ht, hz, hst, Result.andThen]
  unfold Oper.wp
  simp only [execOp, ho, resolve, invoke, builtin, Sem.run_bind, Sem.run_pure, Result.andThen_ok, List.map_toArray, List.map_cons, List.map_nil, hs, hrun]
  exact hK' _ _ (h W' hO hk (by rw [hW']; simp))
end
section
variable {α : Type} {T : Ty α} {e : TypeId} {base : Nat} {w w' : World} {v : Value} {xs : List α}
theorem Own1.flat_kept {S : Nat → Prop} (hf : ∀ (ok ok' : Nat → Prop) (w w' : World) (x : α) (cs : List Value), T.R ok w x cs → T.R ok' w' x cs) (h : Own1 T e base w v xs) (k : KeptS S w w') (hv : ∀ b, v.ownBlock = some b → ¬ S b) : Own1 T e base w' v xs := by
  obtain ⟨h0, inner, ⟨h1, h2⟩, hr⟩ := h
  refine ⟨h0, inner, ⟨h1, ?_⟩, hr.imp (fun x c hc => hf _ _ _ _ _ _ hc)⟩
  rcases h2 with h2 | ⟨g, cap, cur, rfl, hg, hh, r⟩
  · exact .inl h2
  · exact .inr ⟨g, cap, cur, rfl, hg, (k.block g (lt_of_block hh) (hv g rfl)).trans hh, r⟩
/-- Own rows of different element types lie in different blocks. -/
theorem Own1.apart {β : Type} {U : Ty β} {e' : TypeId} {base' : Nat} {u : Value} {ys : List β} (h : Own1 T e base w v xs) (h' : Own1 U e' base' w u ys) (hne : e ≠ e') {k : Nat} (hk : v.ownBlock = some k) : u.ownBlock ≠ some k := by
  intro hk'
  obtain ⟨_, _, ⟨_, h2⟩, _⟩ := h
  obtain ⟨_, _, ⟨_, h2'⟩, _⟩ := h'
  rcases h2 with ⟨rfl, _⟩ | ⟨g, cap, cur, rfl, _, hh, _⟩
  · cases hk
  rcases h2' with ⟨rfl, _⟩ | ⟨g', cap', cur', rfl, _, hh', _⟩
  · cases hk'
  cases hk
  cases hk'
  rw [hh] at hh'
  injection hh' with hh'
  injection hh' with _ hh'
  exact hne hh'
end
theorem pt_flat (ok ok' : Nat → Prop) (w w' : World) (x : Pt) (cs : List Value) (h : Ty.pt.R ok w x cs) : Ty.pt.R ok' w' x cs := h
theorem sg_flat (ok ok' : Nat → Prop) (w w' : World) (x : Sg) (cs : List Value) (h : Ty.sg.R ok w x cs) : Ty.sg.R ok' w' x cs := h
theorem blk_set {w : World} {g i : Nat} {cs : Array Value} {t : TypeId} (h : w.heap[g]? = some (.cells cs t (0, 0))) (v : Value) : (w.setCell ⟨g, i, none⟩ v).heap[g]? = some (.cells (cs.setIfInBounds i v) t (0, 0)) := by
  have hlt : g < w.heap.size := (Array.getElem?_eq_some_iff.1 h).1
  have hv : w.heap[g] = .cells cs t (0, 0) := (Array.getElem?_eq_some_iff.1 h).2
  unfold World.setCell
  rw [Array.getElem?_eq_getElem (by simpa using hlt), Array.getElem_modify]
  simp [hv]
abbrev Ty.ring : Ty Pts := Ty.slice Ty.pt
def rgD (rs : Rgs) (k : Nat) : Pts := rs.getD k []
theorem Row.ring_at {ok : Nat → Prop} {w : World} {A : Option Addr} {rs : Rgs} (h : Row Ty.ring ok w A rs) (k : Nat) (hk : k < rs.length) :
    ∃ ad A0 c0, A = some ad ∧ w.cell? (ad.add k) = some (.slice A0 (rgD rs k).length c0) ∧ (rgD rs k).length ≤ c0 ∧ Row Ty.pt ok w A0 (rgD rs k) := by
  obtain ⟨ad, cs, e, _, ⟨A0, c0, rfl, hl, hr⟩, hc⟩ := h.get hk
  have e2 : rgD rs k = rs[k] := by simp [rgD, hk]
  rw [e2]
  exact ⟨ad, A0, c0, e, by have := hc.first; rwa [show Ty.ring.sz = 1 from rfl, Nat.mul_one] at this, hl, hr⟩
theorem take_eq_step {α : Type} {a b : List α} {k : Nat} (d : α) (h : a.take k = b.take k) (ha : k < a.length) (hb : k < b.length) (he : a.getD k d = b.getD k d) : a.take (k + 1) = b.take (k + 1) := by
  rw [take_snoc a k d ha, take_snoc b k d hb, h, he]
theorem take_ne {α : Type} {a b : List α} {k : Nat} (d : α) (he : a.getD k d ≠ b.getD k d) : a ≠ b := fun h => he (by rw [h])

theorem sgD_eq {xs : Sgs} {k : Nat} (h : k < xs.length) : sgD xs k = xs[k] := by simp [sgD, h]
theorem Row.sg_at {ok : Nat → Prop} {w : World} {A : Option Addr} {xs : Sgs} (h : Row Ty.sg ok w A xs) (k : Nat) (hk : k < xs.length) :
    ∃ ad, A = some ad ∧ w.cell? (ad.add (k * 4)) = some (.int .i64 (sgD xs k).1.1) ∧ w.cell? ⟨(ad.add (k * 4)).block, (ad.add (k * 4)).off + 1, none⟩ = some (.int .i64 (sgD xs k).1.2) ∧
      w.cell? ⟨(ad.add (k * 4)).block, (ad.add (k * 4)).off + 2, none⟩ = some (.int .i64 (sgD xs k).2.1) ∧ w.cell? ⟨(ad.add (k * 4)).block, (ad.add (k * 4)).off + 3, none⟩ = some (.int .i64 (sgD xs k).2.2) := by
  obtain ⟨ad, cs, e, _, hr, hc⟩ := h.get hk
  rw [sgD_eq hk]
  obtain rfl : cs = _ := hr
  exact ⟨ad, e, hc.first, hc.field 1 (by decide) rfl, hc.field 2 (by decide) rfl, hc.field 3 (by decide) rfl⟩
theorem infoSg : (Try.prog.info? 27).map (fun i => (i.zero, i.size, i.bytes)) = some (some (.agg #[.int .i64 0, .int .i64 0, .int .i64 0, .int .i64 0]), 4, 32) := by kernel_rfl
theorem infoPt : (Try.prog.info? 25).map (fun i => (i.zero, i.size, i.bytes)) = some (some (.agg #[.int .i64 0, .int .i64 0]), 2, 16) := by kernel_rfl
theorem infoRing : (Try.prog.info? 36).map (fun i => (i.zero, i.size, i.bytes)) = some (some (.slice none 0 0), 1, 24) := by kernel_rfl
end Go.Proofs.Ytlmjciajpjdilaa
