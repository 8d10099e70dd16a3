/- Words of this session's own for Trace: own rows, stores and clear in them, segments and rings as elements. '==' of points and of segments as one test; slices of the call's own read at an index. Contracts of seg.Within, seg.sign, seg.flat and seg.Relate. -/
import Derived.Test.YtlmjciajpjdilaaGreatKC1
import Derived.Test.YtlmjciajpjdilaaGreatWLast
import Derived.Laws.StructEq
import Derived.Test.YtlmjciajpjdilaaGreatWEqStruct

section
namespace Go.Proofs.YtlmjciajpjdilaaGreat
open Go.RowKit Go.Proofs.YtlmjciajpjdilaaGreatW.PrintLast
set_option linter.unusedVariables false
set_option linter.unusedSimpArgs false
set_option linter.unusedSectionVars false

/-- A row of the call's own, and no other that may still be written. -/
def Own1 {α : Type} (T : Ty α) (e : TypeId) (base : Nat) (w : World) (v : Value) (xs : List α) : Prop := OwnR T e base (fun k => v.ownBlock = some k) w v xs
theorem Own1.of {α : Type} {T : Ty α} {e : TypeId} {base : Nat} {M : Nat → Prop} {w : World} {v : Value} {xs : List α} (h : OwnR T e base M w v xs) : Own1 T e base w v xs :=
  h.remut (fun k _ hk => h.mine k hk) (fun k hk => hk)
theorem Own1.below {α : Type} {T : Ty α} {e : TypeId} {base : Nat} {w w' : World} {v : Value} {xs : List α} (h : Own1 T e base w v xs) (hb : Below w.heap.size w w') : Own1 T e base w' v xs := OwnR.below h hb
theorem Own1.reads {α : Type} {T : Ty α} {e : TypeId} {base : Nat} {w : World} {v : Value} {xs : List α} (h : Own1 T e base w v xs) : ∃ A c, v = .slice A xs.length c ∧ xs.length ≤ c ∧ Row T (fun _ => True) w A xs := by
  obtain ⟨A, c, e, hl, hr, _⟩ := OwnR.reads h
  exact ⟨A, c, e, hl, hr.mono (fun _ _ => trivial)⟩
theorem Own1.base {α : Type} {T : Ty α} {e : TypeId} {base base' : Nat} {w : World} {v : Value} {xs : List α} (h : Own1 T e base w v xs) (hb : base' ≤ base) : Own1 T e base' w v xs := by
  obtain ⟨h0, inner, ⟨h1, h2⟩, hr⟩ := h
  refine ⟨h0, inner, ⟨h1, ?_⟩, hr⟩
  rcases h2 with h2 | ⟨g, cap, cur, rfl, hg, hh, r⟩
  · exact .inl h2
  · exact .inr ⟨g, cap, cur, rfl, Nat.le_trans hb hg, hh, r⟩
theorem below_own {w W w1 : World} {v : Value} (hb : Below w.heap.size w W) (hg : W.grownBy w1 v.ownBlock) (ho : ∀ k, v.ownBlock = some k → w.heap.size ≤ k) : Below w.heap.size w w1 := below_grown hb hg (fun b e => ho b e)

section
variable {α : Type} {T : Ty α} {ok : Nat → Prop} {w : World}
theorem Reps.put : ∀ {xs : List α} {cs : List Value} (i : Nat) {y : α} {c : List Value}, Reps T ok w xs cs → T.R ok w y c → i < xs.length → Reps T ok w (xs.set i y) (cs.take (i * T.sz) ++ c ++ cs.drop (i * T.sz + T.sz))
  | [], _, i, _, _, _, _, hi => absurd hi (by simp)
  | x :: xs, cs, 0, y, c, ⟨c0, d, e, hc, hd⟩, hy, _ => by
    subst e
    refine ⟨c, d, ?_, hy, hd⟩
    rw [Nat.zero_mul, List.take_zero, List.nil_append, Nat.zero_add, List.drop_left' (T.len hc)]
  | x :: xs, cs, i + 1, y, c, ⟨c0, d, e, hc, hd⟩, hy, hi => by
    subst e
    refine ⟨c0, _, ?_, hc, Reps.put i hd hy (by simpa using hi)⟩
    have hl := T.len hc
    rw [show (i + 1) * T.sz = c0.length + i * T.sz by rw [Nat.add_mul]; omega, List.take_length_add_append, Nat.add_assoc, List.drop_length_add_append]
    simp
theorem Reps.take : ∀ {xs : List α} {cs : List Value} (i : Nat), Reps T ok w xs cs → Reps T ok w (xs.take i) (cs.take (i * T.sz))
  | [], cs, i, h => by rw [show cs = [] from h]; simp; exact rfl
  | x :: xs, cs, 0, h => by simp; exact rfl
  | x :: xs, cs, i + 1, ⟨c0, d, e, hc, hd⟩ => by
    subst e
    have hl := T.len hc
    exact ⟨c0, _, by rw [show (i + 1) * T.sz = c0.length + i * T.sz by rw [Nat.add_mul]; omega, List.take_length_add_append], hc, Reps.take i hd⟩
theorem take_mid {β : Type} (l c : List β) (a b n : Nat) (hc : c.length = b) (hn : a + b ≤ n) (hl : n ≤ l.length) : (l.take a ++ c ++ l.drop (a + b)).take n = (l.take n).take a ++ c ++ (l.take n).drop (a + b) := by
  have h1 : (l.take a ++ c).length = a + b := by simp; omega
  rw [List.take_append, List.take_of_length_le (by omega), h1, List.take_take, Nat.min_eq_left (by omega), List.take_drop, show a + b + (n - (a + b)) = n by omega]
end
section
variable {P : Program} {ops : Array Oper} {rest : List Oper} {o : Oper} {a : Act} {Q : Exit → Act → World → Prop} {α : Type} {T : Ty α} {e : TypeId} {base g n c : Nat} {M : Nat → Prop} {W : World} {xs : List α}
/-- Row cells of an own row are written: what stands behind it. -/
theorem OwnR.put {q : Nat} {y : α} {cs : List Value} (HO : OwnR T e base M W (.slice (some ⟨g, 0, none⟩) n c) xs) {i : Nat} (hi : i < xs.length) (hq : q = i * T.sz) (hy : T.R (fun k => ¬ M k) W y cs) :
    ∃ w', (storeCells ⟨g, q, none⟩ cs).run P W = .ok () w' ∧ OwnR T e base M w' (.slice (some ⟨g, 0, none⟩) n c) (xs.set i y) ∧ KeptS (fun k => k = g) W w' ∧ w'.heap.size = W.heap.size := by
  subst hq
  obtain ⟨h0, inner, ho, hr⟩ := HO
  have hg : M g := h0 g rfl
  obtain ⟨hlen, ho⟩ := ho
  rcases ho with ⟨h, _⟩ | ⟨g', cap, cur, hv, hb, hh, h1, h2, h3, h4⟩
  · cases h
  injection hv with hv hvn hvc; injection hv with hv; injection hv with hv
  subst hv hvc hvn
  have hl := T.len hy
  have hfit : i * T.sz + T.sz ≤ xs.length * T.sz := by rw [← Nat.succ_mul]; exact Nat.mul_le_mul_right _ hi
  have hfit2 : xs.length * T.sz ≤ c * T.sz := Nat.mul_le_mul_right _ h1
  have hst := run_storeCells_at P g (i * T.sz) e cs 0 cur W hh (by omega) (T.one hy)
  simp only [Nat.add_zero, hl] at hst
  have hk : KeptS (fun k => k = g) W (W.setRow g (cur.toList.take (i * T.sz) ++ cs ++ cur.toList.drop (i * T.sz + T.sz)).toArray) :=
    ⟨rfl, rfl, rfl, by simp, fun k _ hk => setRow_other W g k _ hk⟩
  refine ⟨_, hst, ?_, hk, by simp⟩
  have step : ∀ {x : α} {d : List Value}, T.R (fun k => ¬ M k) W x d → T.R (fun k => ¬ M k) (W.setRow g (cur.toList.take (i * T.sz) ++ cs ++ cur.toList.drop (i * T.sz + T.sz)).toArray) x d :=
    fun hx => T.step hx (fun k hk' hlt => hk.block k hlt (fun e => hk' (e ▸ hg)))
  refine ⟨h0, inner.take (i * T.sz) ++ cs ++ inner.drop (i * T.sz + T.sz), ⟨?_, .inr ⟨g, c, _, by rw [List.length_set], hb, setRow_heap W g cur _ e (0, 0) hh, by rw [List.length_set]; exact h1, h2, ?_, ?_⟩⟩, (hr.imp (fun _ _ hx => step hx)).put i (step hy) hi⟩
  · rw [List.length_append, List.length_append, List.length_take, List.length_drop, hl, hlen, Nat.min_eq_left (by omega), List.length_set]; omega
  · rw [List.size_toArray, List.length_append, List.length_append, List.length_take, List.length_drop, hl, Array.length_toList, h3, Nat.min_eq_left (by omega)]; omega
  · rw [List.length_set, ← h4]
    show ((cur.toList.take (i * T.sz) ++ cs ++ cur.toList.drop (i * T.sz + T.sz)).toArray.toList).take _ = _
    rw [List.toList_toArray]
    exact take_mid _ _ _ _ _ hl hfit (by simp [h3]; omega)
/-- *p = y at an element of an own row. -/
theorem wpList_storeT (hgd : o.guard = none) (p x : Operand) (e' : TypeId) (ho : o.op = .store e' p x) (hsz : P.info? e' |>.map (·.size) |> (· = some T.sz)) {q : Nat} {y : α} {cs : Array Value} {i : Nat} (hp : a.eval p = .pointer (some ⟨g, q, none⟩)) (hx : a.eval x = .agg cs)
    (HO : OwnR T e base M W (.slice (some ⟨g, 0, none⟩) n c) xs) (hi : i < xs.length) (hq : q = i * T.sz) (hy : T.R (fun k => ¬ M k) W y cs.toList)
    (h : ∀ w', OwnR T e base M w' (.slice (some ⟨g, 0, none⟩) n c) (xs.set i y) → KeptS (fun k => k = g) W w' → w'.heap.size = W.heap.size → wpList P ops Q rest (a.put o.dst undef) w') : wpList P ops Q (o :: rest) a W := by
  refine wpList_plain hgd fun K' hK' => ?_
  obtain ⟨w', hrun, r1, r2, r3⟩ := HO.put (P := P) hi hq hy
  obtain ⟨inf, hinf, hz⟩ := Option.map_eq_some_iff.1 hsz
  have hl : cs.size = T.sz := by rw [← Array.length_toList]; exact T.len hy
  unfold Oper.wp
  simp [execOp, ho, hp, hx, Instr.storeAt, storeVar, sizeOf, typeInfo, hinf, hz, hrun, Result.andThen, Value.cells, Instr.sureAddr, hl]
  exact hK' _ _ (h w' r1 r2 r3)
/-- clear of an own row's tail; the row shortened. -/
theorem wpList_clearT (hgd : o.guard = none) (s : Operand) (t : TypeId) (ho : o.op = .call { callee := .builtin .clear, args := #[s], argTypes := #[t] }) (ht : P.underlying t = some (.slice e)) {z : Value} (hz : ∀ w, (zeroValue e).run P w = .ok z w) (hzs : z.cells.size = T.sz) (hz1 : ∀ u ∈ z.cells, u.oneCell' = true)
    {i q m c' : Nat} (hs : a.eval s = .slice (some ⟨g, q, none⟩) m c') (HO : OwnR T e base M W (.slice (some ⟨g, 0, none⟩) n c) xs) (hq : q = i * T.sz) (hm : m = xs.length - i) (hi : i < xs.length)
    (h : ∀ w', OwnR T e base M w' (.slice (some ⟨g, 0, none⟩) i c) (xs.take i) → KeptS (fun k => k = g) W w' → w'.heap.size = W.heap.size → wpList P ops Q rest (a.put o.dst (.tuple #[])) w') : wpList P ops Q (o :: rest) a W := by
  subst hq hm
  refine wpList_plain hgd fun K' hK' => ?_
  obtain ⟨h0, inner, ho', hr⟩ := HO
  have hg : M g := h0 g rfl
  obtain ⟨hlen, ho'⟩ := ho'
  rcases ho' with ⟨h, _⟩ | ⟨g', cap, cur, hv, hb, hh, h1, h2, h3, h4⟩
  · cases h
  injection hv with hv hvn hvc; injection hv with hv; injection hv with hv
  subst hv hvc hvn
  have hfit : i * T.sz + (xs.length - i) * T.sz ≤ xs.length * T.sz := by rw [← Nat.add_mul]; exact Nat.mul_le_mul_right _ (by omega)
  have hfit2 : xs.length * T.sz ≤ c * T.sz := Nat.mul_le_mul_right _ h1
  obtain ⟨zs, hzz⟩ : ∃ zs, zs = (Builtin.zeroCells z.cells (xs.length - i)).toList := ⟨_, rfl⟩
  have hzl : zs.length = (xs.length - i) * T.sz := by rw [hzz]; simp [Builtin.zeroCells, hzs]
  have hzo : ∀ u ∈ zs, u.oneCell' = true := by
    intro u hu
    rw [hzz] at hu
    simp only [Builtin.zeroCells, Array.toList_map, List.mem_map] at hu
    obtain ⟨j, _, rfl⟩ := hu
    have hj : j % z.cells.size < z.cells.size := Nat.mod_lt _ (by rw [hzs]; exact T.pos)
    rw [getElem!_pos z.cells _ hj]
    exact hz1 _ (Array.getElem_mem hj)
  have hst := run_storeCells_at P g (i * T.sz) e zs 0 cur W hh (by omega) hzo
  simp only [Nat.add_zero] at hst
  obtain ⟨W', hW'⟩ : ∃ W', W' = W.setRow g (cur.toList.take (i * T.sz) ++ zs ++ cur.toList.drop (i * T.sz + zs.length)).toArray := ⟨_, rfl⟩
  rw [← hW'] at hst
  have hk : KeptS (fun k => k = g) W W' := by rw [hW']; exact ⟨rfl, rfl, rfl, by simp, fun k _ hk => setRow_other W g k _ hk⟩
  have hO : OwnR T e base M W' (.slice (some ⟨g, 0, none⟩) i c) (xs.take i) := by
    have hti : (xs.take i).length = i := by rw [List.length_take]; omega
    refine ⟨h0, inner.take (i * T.sz), ⟨?_, .inr ⟨g, c, _, by rw [hti], hb, by rw [hW']; exact setRow_heap W g cur _ e (0, 0) hh, by rw [hti]; omega, h2, ?_, ?_⟩⟩, (hr.imp (fun x d hx => T.step hx (fun k hk' hlt => hk.block k hlt (fun e => hk' (e ▸ hg))))).take i⟩
    · rw [List.length_take, hlen, hti, Nat.min_eq_left (by omega)]
    · rw [List.size_toArray, List.length_append, List.length_append, List.length_take, List.length_drop, hzl, Array.length_toList, h3, Nat.min_eq_left (by omega)]; omega
    · rw [hti, List.toList_toArray, List.append_assoc, List.take_append_of_le_length (by rw [List.length_take, Array.length_toList, h3]; omega), List.take_take, Nat.min_self, ← h4, List.take_take, Nat.min_eq_left (by omega)]
  have hrun : (Builtin.clear_ #[t] o.type #[.slice (some ⟨g, i * T.sz, none⟩) (xs.length - i) c']).run P W = .ok (.tuple #[]) W' := by
    obtain ⟨m, hm⟩ : ∃ m, xs.length - i = m + 1 := ⟨xs.length - i - 1, by omega⟩
    rw [hzz] at hst
    rw [hm] at hst ⊢
    simp [Builtin.clear_, run_underlying ht, hz, hst, Result.andThen]
  unfold Oper.wp
  simp only [execOp, ho, resolve, invoke, builtin, Sem.run_bind, Sem.run_pure, Result.andThen_ok, List.map_toArray, List.map_cons, List.map_nil, hs, hrun]
  exact hK' _ _ (h W' hO hk (by rw [hW']; simp))
end
section
variable {α : Type} {T : Ty α} {e : TypeId} {base : Nat} {w w' : World} {v : Value} {xs : List α}
theorem Own1.flat_kept {S : Nat → Prop} (hf : ∀ (ok ok' : Nat → Prop) (w w' : World) (x : α) (cs : List Value), T.R ok w x cs → T.R ok' w' x cs) (h : Own1 T e base w v xs) (k : KeptS S w w') (hv : ∀ b, v.ownBlock = some b → ¬ S b) : Own1 T e base w' v xs := by
  obtain ⟨h0, inner, ⟨h1, h2⟩, hr⟩ := h
  refine ⟨h0, inner, ⟨h1, ?_⟩, hr.imp (fun x c hc => hf _ _ _ _ _ _ hc)⟩
  rcases h2 with h2 | ⟨g, cap, cur, rfl, hg, hh, r⟩
  · exact .inl h2
  · exact .inr ⟨g, cap, cur, rfl, hg, (k.block g (lt_of_block hh) (hv g rfl)).trans hh, r⟩
/-- Own rows of different element types lie in different blocks. -/
theorem Own1.apart {β : Type} {U : Ty β} {e' : TypeId} {base' : Nat} {u : Value} {ys : List β} (h : Own1 T e base w v xs) (h' : Own1 U e' base' w u ys) (hne : e ≠ e') {k : Nat} (hk : v.ownBlock = some k) : u.ownBlock ≠ some k := by
  intro hk'
  obtain ⟨_, _, ⟨_, h2⟩, _⟩ := h
  obtain ⟨_, _, ⟨_, h2'⟩, _⟩ := h'
  rcases h2 with ⟨rfl, _⟩ | ⟨g, cap, cur, rfl, _, hh, _⟩
  · cases hk
  rcases h2' with ⟨rfl, _⟩ | ⟨g', cap', cur', rfl, _, hh', _⟩
  · cases hk'
  cases hk
  cases hk'
  rw [hh] at hh'
  injection hh' with hh'
  injection hh' with _ hh'
  exact hne hh'
end
theorem pt_flat (ok ok' : Nat → Prop) (w w' : World) (x : Pt) (cs : List Value) (h : Ty.pt.R ok w x cs) : Ty.pt.R ok' w' x cs := h
theorem sg_flat (ok ok' : Nat → Prop) (w w' : World) (x : Sg) (cs : List Value) (h : Ty.sg.R ok w x cs) : Ty.sg.R ok' w' x cs := h
theorem blk_set {w : World} {g i : Nat} {cs : Array Value} {t : TypeId} (h : w.heap[g]? = some (.cells cs t (0, 0))) (v : Value) : (w.setCell ⟨g, i, none⟩ v).heap[g]? = some (.cells (cs.setIfInBounds i v) t (0, 0)) := by
  have hlt : g < w.heap.size := (Array.getElem?_eq_some_iff.1 h).1
  have hv : w.heap[g] = .cells cs t (0, 0) := (Array.getElem?_eq_some_iff.1 h).2
  unfold World.setCell
  rw [Array.getElem?_eq_getElem (by simpa using hlt), Array.getElem_modify]
  simp [hv]
abbrev Ty.ring : Ty Pts := Ty.slice Ty.pt
def rgD (rs : Rgs) (k : Nat) : Pts := rs.getD k []
theorem Row.ring_at {ok : Nat → Prop} {w : World} {A : Option Addr} {rs : Rgs} (h : Row Ty.ring ok w A rs) (k : Nat) (hk : k < rs.length) :
    ∃ ad A0 c0, A = some ad ∧ w.cell? (ad.add k) = some (.slice A0 (rgD rs k).length c0) ∧ (rgD rs k).length ≤ c0 ∧ Row Ty.pt ok w A0 (rgD rs k) := by
  obtain ⟨ad, cs, e, _, ⟨A0, c0, rfl, hl, hr⟩, hc⟩ := h.get hk
  have e2 : rgD rs k = rs[k] := by simp [rgD, hk]
  rw [e2]
  exact ⟨ad, A0, c0, e, by have := hc.first; rwa [show Ty.ring.sz = 1 from rfl, Nat.mul_one] at this, hl, hr⟩
theorem take_eq_step {α : Type} {a b : List α} {k : Nat} (d : α) (h : a.take k = b.take k) (ha : k < a.length) (hb : k < b.length) (he : a.getD k d = b.getD k d) : a.take (k + 1) = b.take (k + 1) := by
  rw [take_snoc a k d ha, take_snoc b k d hb, h, he]
theorem take_ne {α : Type} {a b : List α} {k : Nat} (d : α) (he : a.getD k d ≠ b.getD k d) : a ≠ b := fun h => he (by rw [h])

theorem sgD_eq {xs : Sgs} {k : Nat} (h : k < xs.length) : sgD xs k = xs[k] := by simp [sgD, h]
theorem Row.sg_at {ok : Nat → Prop} {w : World} {A : Option Addr} {xs : Sgs} (h : Row Ty.sg ok w A xs) (k : Nat) (hk : k < xs.length) :
    ∃ ad, A = some ad ∧ w.cell? (ad.add (k * 4)) = some (.int .i64 (sgD xs k).1.1) ∧ w.cell? ⟨(ad.add (k * 4)).block, (ad.add (k * 4)).off + 1, none⟩ = some (.int .i64 (sgD xs k).1.2) ∧
      w.cell? ⟨(ad.add (k * 4)).block, (ad.add (k * 4)).off + 2, none⟩ = some (.int .i64 (sgD xs k).2.1) ∧ w.cell? ⟨(ad.add (k * 4)).block, (ad.add (k * 4)).off + 3, none⟩ = some (.int .i64 (sgD xs k).2.2) := by
  obtain ⟨ad, cs, e, _, hr, hc⟩ := h.get hk
  rw [sgD_eq hk]
  obtain rfl : cs = _ := hr
  exact ⟨ad, e, hc.first, hc.field 1 (by decide) rfl, hc.field 2 (by decide) rfl, hc.field 3 (by decide) rfl⟩
theorem infoSg : (Tryz.prog.info? 32).map (fun i => (i.zero, i.size, i.bytes)) = some (some (.agg #[.int .i64 0, .int .i64 0, .int .i64 0, .int .i64 0]), 4, 32) := by kernel_rfl
theorem infoPt : (Tryz.prog.info? 24).map (fun i => (i.zero, i.size, i.bytes)) = some (some (.agg #[.int .i64 0, .int .i64 0]), 2, 16) := by kernel_rfl
theorem infoRing : (Tryz.prog.info? 41).map (fun i => (i.zero, i.size, i.bytes)) = some (some (.slice none 0 0), 1, 24) := by kernel_rfl
end Go.Proofs.YtlmjciajpjdilaaGreat
end

section
namespace Go.Proofs.YtlmjciajpjdilaaGreat
open Go.RowKit Go.Proofs.YtlmjciajpjdilaaGreatW.PrintWords
set_option linter.unusedVariables false
set_option linter.unusedSimpArgs false
set_option linter.unusedSectionVars false

theorem eqPt0 (d : Nat) (w : World) (x0 y0 x1 y1 : Int) :
    (Op.equalIn (d + 2) 24 (.agg #[.int .i64 x0, .int .i64 x1]) (.agg #[.int .i64 y0, .int .i64 y1])).run Tryz.prog w = .ok (x0 == y0 && (x1 == y1)) w := by
  refine eqA_of Tryz.underlying24 (by kernel_rfl) ?_
  refine eqf_cons (by rfl) (by go_simp; rfl) (by go_simp; rfl) (by go_simp) ?_
  exact eqf_last (by rfl) (by go_simp; rfl) (by go_simp; rfl) (by go_simp)
theorem eqSg0 (d : Nat) (w : World) (x0 y0 x1 y1 x2 y2 x3 y3 : Int) :
    (Op.equalIn (d + 3) 32 (.agg #[.int .i64 x0, .int .i64 x1, .int .i64 x2, .int .i64 x3]) (.agg #[.int .i64 y0, .int .i64 y1, .int .i64 y2, .int .i64 y3])).run Tryz.prog w = .ok ((x0 == y0 && (x1 == y1)) && ((x2 == y2 && (x3 == y3)))) w := by
  refine eqA_of Tryz.underlying32 (by kernel_rfl) ?_
  refine eqf_cons (by rfl) (by go_simp) (by go_simp) (eqPt0 (d + 0) w _ _ _ _) ?_
  exact eqf_last (by rfl) (by go_simp) (by go_simp) (eqPt0 (d + 0) w _ _ _ _)
theorem eqPt (d : Nat) (w : World) (x0 y0 x1 y1 : Int) :
    (Op.equalIn (d + 2) 24 (.agg #[.int .i64 x0, .int .i64 x1]) (.agg #[.int .i64 y0, .int .i64 y1])).run Tryz.prog w = .ok (decide (((x0, x1) : Pt) = (y0, y1))) w := by
  rw [eqPt0]; congr 1; rw [Bool.eq_iff_iff]; simp
theorem eqSg (d : Nat) (w : World) (x0 y0 x1 y1 x2 y2 x3 y3 : Int) :
    (Op.equalIn (d + 3) 32 (.agg #[.int .i64 x0, .int .i64 x1, .int .i64 x2, .int .i64 x3]) (.agg #[.int .i64 y0, .int .i64 y1, .int .i64 y2, .int .i64 y3])).run Tryz.prog w = .ok (decide ((((x0, x1), (x2, x3)) : Sg) = ((y0, y1), (y2, y3)))) w := by
  rw [eqSg0]; congr 1; rw [Bool.eq_iff_iff]; simp [and_assoc]
section
variable {α : Type} {k : Nat} {hn : 0 < k} {enc : α → List Value} {hk : ∀ x, (enc x).length = k} {h1 : ∀ x, ∀ u ∈ enc x, u.oneCell' = true}
theorem OwnR.flat_at {e : TypeId} {base g n c : Nat} {M : Nat → Prop} {w : World} {xs : List α} (h : OwnR (Ty.flat k hn enc hk h1) e base M w (.slice (some ⟨g, 0, none⟩) n c) xs) (i : Nat) (hi : i < xs.length) (j : Nat) (u : Value) (hu : (enc xs[i])[j]? = some u) :
    w.cell? ⟨g, i * k + j, none⟩ = some u := by
  obtain ⟨h0, inner, ho, hr⟩ := h
  obtain ⟨cs, hcs, hc⟩ := hr.get i xs[i] (by simp [hi])
  obtain rfl : cs = enc xs[i] := hcs
  have := ho.cells (g := g) rfl _ u (hc j u hu)
  rw [add_at, Nat.zero_add] at this
  exact this
end
theorem OwnR.sg_at {e : TypeId} {base g n c : Nat} {M : Nat → Prop} {w : World} {xs : Sgs} (h : OwnR Ty.sg e base M w (.slice (some ⟨g, 0, none⟩) n c) xs) (i : Nat) (hi : i < xs.length) :
    w.cell? ⟨g, i * 4, none⟩ = some (.int .i64 (sgD xs i).1.1) ∧ w.cell? ⟨g, i * 4 + 1, none⟩ = some (.int .i64 (sgD xs i).1.2) ∧ w.cell? ⟨g, i * 4 + 2, none⟩ = some (.int .i64 (sgD xs i).2.1) ∧ w.cell? ⟨g, i * 4 + 3, none⟩ = some (.int .i64 (sgD xs i).2.2) := by
  rw [sgD_eq hi]
  exact ⟨OwnR.flat_at h i hi 0 _ rfl, OwnR.flat_at h i hi 1 _ rfl, OwnR.flat_at h i hi 2 _ rfl, OwnR.flat_at h i hi 3 _ rfl⟩
theorem OwnR.pt_at {e : TypeId} {base g n c : Nat} {M : Nat → Prop} {w : World} {xs : Pts} (h : OwnR Ty.pt e base M w (.slice (some ⟨g, 0, none⟩) n c) xs) (i : Nat) (hi : i < xs.length) :
    w.cell? ⟨g, i * 2, none⟩ = some (.int .i64 (ptD xs i).1) ∧ w.cell? ⟨g, i * 2 + 1, none⟩ = some (.int .i64 (ptD xs i).2) := by
  rw [ptD_eq hi]
  exact ⟨OwnR.flat_at h i hi 0 _ rfl, OwnR.flat_at h i hi 1 _ rfl⟩
theorem Own1.form {α : Type} {T : Ty α} {e : TypeId} {base : Nat} {w : World} {v : Value} {xs : List α} (h : Own1 T e base w v xs) (hn : 0 < xs.length) : ∃ g c, v = .slice (some ⟨g, 0, none⟩) xs.length c ∧ xs.length ≤ c := by
  obtain ⟨A, c, e, hl, _, h2⟩ := OwnR.reads h
  obtain ⟨g, rfl, _⟩ := h2 hn
  exact ⟨g, c, e, hl⟩
/-! ### compactZ, step by step -/
section
variable {α : Type} [DecidableEq α]
theorem compA_snoc (x : α) : ∀ (l : List α) (p : α), compA p (l ++ [x]) = if x = (p :: l).getLast (by simp) then compA p l else compA p l ++ [x]
  | [], p => by
    show (if x = p then compA p [] else x :: compA x []) = if x = p then compA p [] else compA p [] ++ [x]
    split <;> rfl
  | y :: ys, p => by
    have ih := compA_snoc x ys y
    simp only [List.cons_append, compA]
    have e : (p :: y :: ys).getLast (by simp) = (y :: ys).getLast (by simp) := by simp
    rw [e]
    by_cases h : y = p
    · subst h; rw [if_pos rfl, if_pos rfl, ih]
    · rw [if_neg h, if_neg h, ih]
      split <;> rfl
theorem compact_take (xs : List α) (d : α) (k : Nat) (hk : 0 < k) (h : k < xs.length) : compactZ (xs.take (k + 1)) = if xs.getD k d = xs.getD (k - 1) d then compactZ (xs.take k) else compactZ (xs.take k) ++ [xs.getD k d] := by
  rw [take_snoc xs k d h]
  have hne : xs.take k ≠ [] := by intro e; have := congrArg List.length e; rw [List.length_take, List.length_nil] at this; omega
  obtain ⟨y, ys, hy⟩ := List.exists_cons_of_ne_nil hne
  have hl : (y :: ys).getLast (by simp) = xs.getD (k - 1) d := by
    have : (y :: ys).getLast (by simp) = (xs.take k).getLast hne := by simp [hy]
    rw [this, List.getLast_eq_getElem, List.getElem_take]
    simp only [List.length_take, Nat.min_eq_left (Nat.le_of_lt h)]
    simp [show k - 1 < xs.length by omega]
  rw [hy]
  show y :: compA y (ys ++ [_]) = _
  rw [compA_snoc, hl]
  simp only [compactZ]
  split <;> rfl
theorem compact_eq (xs : List α) (d : α) (k : Nat) (hk : 0 < k) (h : k < xs.length) (hq : xs.getD k d = xs.getD (k - 1) d) : compactZ (xs.take (k + 1)) = compactZ (xs.take k) := by
  rw [compact_take xs d k hk h, if_pos hq]
theorem compact_ne (xs : List α) (d : α) (k : Nat) (hk : 0 < k) (h : k < xs.length) (hq : ¬ xs.getD k d = xs.getD (k - 1) d) : compactZ (xs.take (k + 1)) = compactZ (xs.take k) ++ [xs.getD k d] := by
  rw [compact_take xs d k hk h, if_neg hq]
theorem compact_one {xs : List α} (h : xs.length < 2) : compactZ xs = xs := by
  match xs, h with
  | [], _ => rfl
  | [x], _ => rfl
theorem compact_take_len (xs : List α) : ∀ k, k ≤ xs.length → (compactZ (xs.take k)).length ≤ k := fun k hk => by
  have := compact_len (xs.take k)
  rw [List.length_take] at this; omega
theorem set_take_snoc {ys : List α} {i : Nat} (x : α) (h : i < ys.length) : (ys.set i x).take (i + 1) = ys.take i ++ [x] := by
  rw [List.take_succ_eq_append_getElem (by rw [List.length_set]; omega), List.take_set, List.set_eq_of_length_le (by rw [List.length_take]; omega), List.getElem_set_self]
end
theorem sgB (a b : Sg) : (decide (a.1.1 = b.1.1) && decide (a.1.2 = b.1.2) && (decide (a.2.1 = b.2.1) && decide (a.2.2 = b.2.2))) = decide (a = b) := by
  obtain ⟨⟨a1, a2⟩, ⟨a3, a4⟩⟩ := a
  obtain ⟨⟨b1, b2⟩, ⟨b3, b4⟩⟩ := b
  rw [Bool.eq_iff_iff]; simp [and_assoc]
theorem ptB (a b : Pt) : (decide (a.1 = b.1) && decide (a.2 = b.2)) = decide (a = b) := by
  obtain ⟨a1, a2⟩ := a
  obtain ⟨b1, b2⟩ := b
  rw [Bool.eq_iff_iff]; simp
end Go.Proofs.YtlmjciajpjdilaaGreat
end

section
namespace Go.Proofs.YtlmjciajpjdilaaGreat
open Go.RowKit Go.Proofs.YtlmjciajpjdilaaGreatW.PrintLast
set_option linter.unusedVariables false
set_option linter.unusedSimpArgs false

attribute [local go_sem high] eqPt eqSg
theorem blk_cell {w : World} {g : Nat} {cs : Array Value} {t : TypeId} (h : w.heap[g]? = some (.cells cs t (0, 0))) (i : Nat) {v : Value} (hv : cs[i]? = some v) : w.cell? ⟨g, i, none⟩ = some v := by
  simp [World.cell?, h, hv]
theorem blk_free {w : World} {g : Nat} {cs : Array Value} {t : TypeId} (h : w.heap[g]? = some (.cells cs t (0, 0))) (i : Nat) : w.frozen? ⟨g, i, none⟩ = false := by
  simp [World.frozen?, h]
theorem blk_below {W w1 : World} {g : Nat} {o : Obj} (h : W.heap[g]? = some o) (hb : Below W.heap.size W w1) : w1.heap[g]? = some o := (hb.block g (lt_of_block h)).trans h
theorem blk_alloc {W : World} {g : Nat} {o : Obj} (h : W.heap[g]? = some o) (q : Obj) : (W.alloc q).heap[g]? = some o := blk_below h (below_alloc (Below.refl _ _) q)
theorem blk_drewN {W : World} {g : Nat} {o : Obj} (h : W.heap[g]? = some o) (n : Nat) : (W.drewN n).heap[g]? = some o := h
theorem blk_far {W : World} {g b i : Nat} {o : Obj} (h : W.heap[g]? = some o) (hne : g ≠ b) (v : Value) : (W.setCell ⟨b, i, none⟩ v).heap[g]? = some o := by
  rw [Below.heap_setCell W _ v g hne]; exact h
theorem ofS_eq (s : Sg) : ofS s = ofB s.1 s.2 := rfl
theorem withinB_off {p a b : Pt} (h : onB p a b = false) : withinB p a b = false := by simp [withinB, h]
theorem withinB_at {p a b : Pt} (h : onB p a b = true) (h1 : p = a) : withinB p a b = false := by simp [withinB, h, h1]
theorem withinB_end {p a b : Pt} (h : onB p a b = true) (h1 : p = b) : withinB p a b = false := by simp [withinB, h, h1]
theorem withinB_in {p a b : Pt} (h : onB p a b = true) (h1 : ¬ p = a) (h2 : ¬ p = b) : withinB p a b = true := by simp [withinB, h, h1, h2]
theorem seg_Within (q a b : Pt) (w : World) : Calls Tryz.prog 110 #[ptA q, ptA a, ptA b] w fun e w' => e = .returned (.bool (withinB q a b)) ∧ Below w.heap.size w w' := by
  have HS := Lib.hid (fun W => seg_On q.1 q.2 a.1 a.2 b.1 b.2 W)
  cases hv : onB q a b
  · have HR : Hid (withinB q a b = false) := withinB_off hv
    have HV : Hid (onB (q.1, q.2) (a.1, a.2) (b.1, b.2) = false) := hv
    go_enter Tryz.func110, Tryz.ntmps110
    go_wp2_with fail
    (refine (HS.out _).mono ?_; rintro e w1 ⟨rfl, hb1⟩; obtain ⟨c_hb1, f_hb1⟩ := bcell hb1; have z_hb1 := hb1.size; (try simp at z_hb1); (try have y0_hb1 : w.heap.size < w1.heap.size := by omega); (try have y1_hb1 : w.heap.size + 1 < w1.heap.size := by omega); (try have y2_hb1 : w.heap.size + 1 + 1 < w1.heap.size := by omega); (try have y3_hb1 : w.heap.size + 1 + 1 + 1 < w1.heap.size := by omega); (try have y4_hb1 : w.heap.size + 1 + 1 + 1 + 1 < w1.heap.size := by omega))
    rw [HV.out]
    go_wp2
    go_ret
    exact ⟨ret_bool HR.out.symm, (by repeat (first | exact Below.refl _ _ | apply below_alloc | apply below_drewN | apply below_drew | (refine below_set2 ?_ ?_; (first | (simp; done) | (simp; omega))) | (refine below_step ?_ hb1)))⟩
  · have HV : Hid (onB (q.1, q.2) (a.1, a.2) (b.1, b.2) = true) := hv
    by_cases h1 : q = a
    · have HR : Hid (withinB q a b = false) := withinB_at hv h1
      have hd := (ptB q a).trans (decide_eq_true h1)
      clear h1 hv
      go_enter Tryz.func110, Tryz.ntmps110
      go_wp2_with fail
      (refine (HS.out _).mono ?_; rintro e w1 ⟨rfl, hb1⟩; obtain ⟨c_hb1, f_hb1⟩ := bcell hb1; have z_hb1 := hb1.size; (try simp at z_hb1); (try have y0_hb1 : w.heap.size < w1.heap.size := by omega); (try have y1_hb1 : w.heap.size + 1 < w1.heap.size := by omega); (try have y2_hb1 : w.heap.size + 1 + 1 < w1.heap.size := by omega); (try have y3_hb1 : w.heap.size + 1 + 1 + 1 < w1.heap.size := by omega); (try have y4_hb1 : w.heap.size + 1 + 1 + 1 + 1 < w1.heap.size := by omega))
      rw [HV.out]
      go_wp2
      go_ret
      exact ⟨ret_bool HR.out.symm, (by repeat (first | exact Below.refl _ _ | apply below_alloc | apply below_drewN | apply below_drew | (refine below_set2 ?_ ?_; (first | (simp; done) | (simp; omega))) | (refine below_step ?_ hb1)))⟩
    · have hd := (ptB q a).trans (decide_eq_false h1)
      by_cases h2 : q = b
      · have HR : Hid (withinB q a b = false) := withinB_end hv h2
        have hd2 := (ptB q b).trans (decide_eq_true h2)
        clear h1 h2 hv
        go_enter Tryz.func110, Tryz.ntmps110
        go_wp2_with fail
        (refine (HS.out _).mono ?_; rintro e w1 ⟨rfl, hb1⟩; obtain ⟨c_hb1, f_hb1⟩ := bcell hb1; have z_hb1 := hb1.size; (try simp at z_hb1); (try have y0_hb1 : w.heap.size < w1.heap.size := by omega); (try have y1_hb1 : w.heap.size + 1 < w1.heap.size := by omega); (try have y2_hb1 : w.heap.size + 1 + 1 < w1.heap.size := by omega); (try have y3_hb1 : w.heap.size + 1 + 1 + 1 < w1.heap.size := by omega); (try have y4_hb1 : w.heap.size + 1 + 1 + 1 + 1 < w1.heap.size := by omega))
        rw [HV.out]
        go_wp2
        go_ret
        exact ⟨ret_bool HR.out.symm, (by repeat (first | exact Below.refl _ _ | apply below_alloc | apply below_drewN | apply below_drew | (refine below_set2 ?_ ?_; (first | (simp; done) | (simp; omega))) | (refine below_step ?_ hb1)))⟩
      · have HR : Hid (withinB q a b = true) := withinB_in hv h1 h2
        have hd2 := (ptB q b).trans (decide_eq_false h2)
        clear h1 h2 hv
        go_enter Tryz.func110, Tryz.ntmps110
        go_wp2_with fail
        (refine (HS.out _).mono ?_; rintro e w1 ⟨rfl, hb1⟩; obtain ⟨c_hb1, f_hb1⟩ := bcell hb1; have z_hb1 := hb1.size; (try simp at z_hb1); (try have y0_hb1 : w.heap.size < w1.heap.size := by omega); (try have y1_hb1 : w.heap.size + 1 < w1.heap.size := by omega); (try have y2_hb1 : w.heap.size + 1 + 1 < w1.heap.size := by omega); (try have y3_hb1 : w.heap.size + 1 + 1 + 1 < w1.heap.size := by omega); (try have y4_hb1 : w.heap.size + 1 + 1 + 1 + 1 < w1.heap.size := by omega))
        rw [HV.out]
        go_wp2
        go_ret
        exact ⟨ret_bool HR.out.symm, (by repeat (first | exact Below.refl _ _ | apply below_alloc | apply below_drewN | apply below_drew | (refine below_set2 ?_ ?_; (first | (simp; done) | (simp; omega))) | (refine below_step ?_ hb1)))⟩
theorem seg_sign (n : Int) (w : World) : Calls Tryz.prog 131 #[.int .i64 n] w fun e w' => e = .returned (.int .i64 (signZ n)) ∧ Below w.heap.size w w' := by
  go_enter Tryz.func131, Tryz.ntmps131
  go_wp2
  all_goals go_ret
  all_goals exact ⟨ret_int (by unfold signZ; omega), (by repeat (first | exact Below.refl _ _ | apply below_alloc | apply below_drewN | apply below_drew | (refine below_set2 ?_ ?_; (first | (simp; done) | (simp; omega)))))⟩
theorem two_alloc (W : World) (o1 o2 : Obj) : ((W.alloc o1).alloc o2).heap[W.heap.size]? = some o1 ∧ ((W.alloc o1).alloc o2).heap[W.heap.size + 1]? = some o2 := by
  constructor
  · exact blk_alloc (heap_alloc_new W o1) o2
  · have := heap_alloc_new (W.alloc o1) o2
    rwa [show (W.alloc o1).heap.size = W.heap.size + 1 by simp] at this
set_option maxRecDepth 100000 in
set_option maxHeartbeats 1000000 in
theorem seg_flat (s1 s2 s3 s4 t1 t2 t3 t4 : Int) (w : World) : Calls Tryz.prog 132 #[.agg #[.int .i64 s1, .int .i64 s2, .int .i64 s3, .int .i64 s4], .agg #[.int .i64 t1, .int .i64 t2, .int .i64 t3, .int .i64 t4]] w fun e w' => e = .returned (.int .i64 (flatZ ((s1, s2), (s3, s4)) ((t1, t2), (t3, t4)))) ∧ Below w.heap.size w w' := by
  obtain ⟨r, hr⟩ : ∃ r, r = flatZ ((s1, s2), (s3, s4)) ((t1, t2), (t3, t4)) := ⟨_, rfl⟩
  rw [← hr]
  have HF := Lib.hid hr
  clear hr
  go_enter Tryz.func132, Tryz.ntmps132
  go_wp2_with fail
  obtain ⟨W0, hW0⟩ : ∃ W0, W0 = (w.alloc (.cells #[.int .i64 s1, .int .i64 s2, .int .i64 s3, .int .i64 s4] 32)).alloc (.cells #[.int .i64 t1, .int .i64 t2, .int .i64 t3, .int .i64 t4] 32) := ⟨_, rfl⟩
  have HA : W0.heap[w.heap.size]? = some (.cells #[.int .i64 s1, .int .i64 s2, .int .i64 s3, .int .i64 s4] 32 (0, 0)) := by rw [hW0]; exact (two_alloc w _ _).1
  have HT : W0.heap[w.heap.size + 1]? = some (.cells #[.int .i64 t1, .int .i64 t2, .int .i64 t3, .int .i64 t4] 32 (0, 0)) := by rw [hW0]; exact (two_alloc w _ _).2
  have HB0 : Below w.heap.size w W0 := by rw [hW0]; exact below_alloc (below_alloc (Below.refl _ _) _) _
  have hsz0 := lt_of_block HT
  rw [← hW0]
  clear hW0
  refine start_ (n := 8) (S := fun w' => w'.cell? ⟨w.heap.size, 0, none⟩ = some (.int .i64 s1) ∧ w'.cell? ⟨w.heap.size, 1, none⟩ = some (.int .i64 s2) ∧ w'.cell? ⟨w.heap.size, 2, none⟩ = some (.int .i64 s3) ∧ w'.cell? ⟨w.heap.size, 3, none⟩ = some (.int .i64 s4)) (ds := [7]) #[false, false, false, false, false, false, false, false] (by kernel_rfl) rfl rfl ⟨blk_cell HA 0 rfl, blk_cell HA 1 rfl, blk_cell HA 2 rfl, blk_cell HA 3 rfl⟩ (fun hHeld => ?_)
  refine pure_ (i := 0) (N := some 7) (v := ?_) (a' := ?_) #[true, false, false, false, false, false, false, false] rfl rfl (by kernel_rfl) (fun _ _ _ h => h) (Or.inl ⟨by rfl, ?_⟩) ?_ ?_
  rotate_left
  · intro w'
    go_simp
    with_reducible rfl
  rotate_left
  · simp only [Act.put, List.setIfInBounds_toArray, List.set_cons_zero, List.set_cons_succ, i64_w, i32_w]
    rfl
  refine pure_ (i := 2) (N := some 9) (v := ?_) (a' := ?_) #[true, false, true, false, false, false, false, false] rfl rfl (by kernel_rfl) (fun _ _ _ h => h) (Or.inl ⟨by rfl, ?_⟩) ?_ ?_
  rotate_left
  · intro w'
    go_simp
    with_reducible rfl
  rotate_left
  · simp only [Act.put, List.setIfInBounds_toArray, List.set_cons_zero, List.set_cons_succ, i64_w, i32_w]
    rfl
  refine take_ (i := 1) (N := some 8) (v := ?_) (a' := ?_) #[true, true, true, false, false, false, false, false] rfl rfl (by kernel_rfl) (fun _ _ _ h => h) (Or.inl ⟨by rfl, ?_⟩) hHeld ?_ ?_
  rotate_left
  · rintro w' ⟨s0, s1, s2, s3⟩
    go_simp
    with_reducible rfl
  rotate_left
  · simp only [Act.put, List.setIfInBounds_toArray, List.set_cons_zero, List.set_cons_succ, i64_w, i32_w]
    rfl
  refine take_ (i := 3) (N := some 10) (v := ?_) (a' := ?_) #[true, true, true, true, false, false, false, false] rfl rfl (by kernel_rfl) (fun _ _ _ h => h) (Or.inl ⟨by rfl, ?_⟩) hHeld ?_ ?_
  rotate_left
  · rintro w' ⟨s0, s1, s2, s3⟩
    go_simp
    with_reducible rfl
  rotate_left
  · simp only [Act.put, List.setIfInBounds_toArray, List.set_cons_zero, List.set_cons_succ, i64_w, i32_w]
    rfl
  refine join_ (σ := Nat × Nat) 2 #[true, true, true, true, true, true, false, false] (fun s => [(5, .pointer (some ⟨s.1, 0, none⟩)), (6, .pointer (some ⟨s.2, 0, none⟩))]) (fun s w' => W0.heap.size ≤ s.1 ∧ W0.heap.size ≤ s.2 ∧ s.1 ≠ s.2 ∧ w'.heap[s.1]? = some (.cells #[.int .i64 0, .int .i64 0] 24 (0, 0)) ∧ w'.heap[s.2]? = some (.cells #[.int .i64 0, .int .i64 0] 24 (0, 0)) ∧ Below W0.heap.size W0 w') ?_ ?_
  rotate_left
  · intro hCont
    refine two_ (i := 4) (j := 5) (Ni := some 5) (Nj := some 6) #[true, true, true, true, true, false, false, false] #[true, true, true, true, false, true, false, false] rfl rfl rfl rfl (by kernel_rfl) (by decide) (by decide) (fun K hK => ?_) (fun K hK => ?_)
    · skip
      refine value_ (w1 := ?_) (v := ?_) (by rfl) rfl ?_ ?_
      rotate_left 2
      · go_simp
        constructor
        · rfl
        · rfl
      refine hK.out _ _ ⟨blk_cell (blk_alloc HA _) 0 rfl, blk_cell (blk_alloc HA _) 1 rfl, blk_cell (blk_alloc HA _) 2 rfl, blk_cell (blk_alloc HA _) 3 rfl⟩ (fun hHeld => ?_)
      clear hK K
      refine norm_ (a' := ?_) ?_ ?_
      rotate_left
      · show Act.put _ (some 5) _ = _
        simp only [Act.put, List.setIfInBounds_toArray, List.set_cons_zero, List.set_cons_succ, i64_w, i32_w]
        rfl
      refine one_ (i := 5) (N := some 6) #[true, true, true, true, true, true, false, false] rfl rfl (by kernel_rfl) (by decide) (fun K hK => ?_)
      refine value_ (w1 := ?_) (v := ?_) (by rfl) rfl ?_ ?_
      rotate_left 2
      · go_simp
        constructor
        · rfl
        · rfl
      refine hK.out _ _ ⟨blk_cell (blk_alloc (blk_alloc HA _) _) 0 rfl, blk_cell (blk_alloc (blk_alloc HA _) _) 1 rfl, blk_cell (blk_alloc (blk_alloc HA _) _) 2 rfl, blk_cell (blk_alloc (blk_alloc HA _) _) 3 rfl⟩ (fun hHeld => ?_)
      clear hK K
      refine norm_ (a' := ?_) ?_ ?_
      rotate_left
      · show Act.put _ (some 6) _ = _
        simp only [Act.put, List.setIfInBounds_toArray, List.set_cons_zero, List.set_cons_succ, i64_w, i32_w]
        rfl
      exact norm_ (by simp only [putAll, Act.put, List.setIfInBounds_toArray, List.set_cons_zero, List.set_cons_succ]) (hCont (W0.heap.size, W0.heap.size + 1) _ ⟨Nat.le_refl _, Nat.le_succ _, by simp, (two_alloc W0.drew _ _).1, (two_alloc W0.drew _ _).2, below_alloc (below_alloc (below_drew (Below.refl _ _)) _) _⟩)
    · skip
      refine value_ (w1 := ?_) (v := ?_) (by rfl) rfl ?_ ?_
      rotate_left 2
      · go_simp
        constructor
        · rfl
        · rfl
      refine hK.out _ _ ⟨blk_cell (blk_alloc HA _) 0 rfl, blk_cell (blk_alloc HA _) 1 rfl, blk_cell (blk_alloc HA _) 2 rfl, blk_cell (blk_alloc HA _) 3 rfl⟩ (fun hHeld => ?_)
      clear hK K
      refine norm_ (a' := ?_) ?_ ?_
      rotate_left
      · show Act.put _ (some 6) _ = _
        simp only [Act.put, List.setIfInBounds_toArray, List.set_cons_zero, List.set_cons_succ, i64_w, i32_w]
        rfl
      refine one_ (i := 4) (N := some 5) #[true, true, true, true, true, true, false, false] rfl rfl (by kernel_rfl) (by decide) (fun K hK => ?_)
      refine value_ (w1 := ?_) (v := ?_) (by rfl) rfl ?_ ?_
      rotate_left 2
      · go_simp
        constructor
        · rfl
        · rfl
      refine hK.out _ _ ⟨blk_cell (blk_alloc (blk_alloc HA _) _) 0 rfl, blk_cell (blk_alloc (blk_alloc HA _) _) 1 rfl, blk_cell (blk_alloc (blk_alloc HA _) _) 2 rfl, blk_cell (blk_alloc (blk_alloc HA _) _) 3 rfl⟩ (fun hHeld => ?_)
      clear hK K
      refine norm_ (a' := ?_) ?_ ?_
      rotate_left
      · show Act.put _ (some 5) _ = _
        simp only [Act.put, List.setIfInBounds_toArray, List.set_cons_zero, List.set_cons_succ, i64_w, i32_w]
        rfl
      exact norm_ (by simp only [putAll, Act.put, List.setIfInBounds_toArray, List.set_cons_zero, List.set_cons_succ]) (hCont (W0.heap.size + 1, W0.heap.size) _ ⟨Nat.le_succ _, Nat.le_refl _, by simp, (two_alloc W0.drew _ _).2, (two_alloc W0.drew _ _).1, below_alloc (below_alloc (below_drew (Below.refl _ _)) _) _⟩)
  rintro ⟨p, q⟩ w1 ⟨hp, hq, hpq, hP, hQ, hW1⟩
  have hAp : ¬ w.heap.size = p := by have := lt_of_block HA; omega
  have hAq : ¬ w.heap.size = q := by have := lt_of_block HA; omega
  have hpqn : ¬ p = q := hpq
  have hqpn : ¬ q = p := fun e => hpq e.symm
  have hA1 := blk_below HA hW1
  have hHeld := And.intro (blk_cell hA1 0 rfl) (And.intro (blk_cell hA1 1 rfl) (And.intro (blk_cell hA1 2 rfl) (blk_cell hA1 3 rfl)))
  have pf0 := blk_free hP 0
  have pc0 := blk_cell hP 0 rfl
  have pf1 := blk_free hP 1
  have pc1 := blk_cell hP 1 rfl
  have qf0 := blk_free hQ 0
  have qc0 := blk_cell hQ 0 rfl
  have qf1 := blk_free hQ 1
  have qc1 := blk_cell hQ 1 rfl
  refine norm_ (a' := ?_) ?_ ?_
  rotate_left
  · simp only [putAll, Act.put, List.setIfInBounds_toArray, List.set_cons_zero, List.set_cons_succ]
    rfl
  refine one_ (i := 6) (N := none) #[true, true, true, true, true, true, true, false] rfl rfl (by kernel_rfl) (by decide) (fun K hK => ?_)
  refine skip_ (w1 := ?_) (by rfl) rfl ?_ ?_
  rotate_left
  · go_simp
    rfl
  refine hK.out _ _ ⟨blk_cell (blk_far (blk_far hA1 hAp _) hAp _) 0 rfl, blk_cell (blk_far (blk_far hA1 hAp _) hAp _) 1 rfl, blk_cell (blk_far (blk_far hA1 hAp _) hAp _) 2 rfl, blk_cell (blk_far (blk_far hA1 hAp _) hAp _) 3 rfl⟩ (fun hHeld => ?_)
  clear hK K
  refine last_ (i := 7) (N := none) #[true, true, true, true, true, true, true, true] rfl rfl (by kernel_rfl) (by decide) (fun K hK => ?_)
  refine skip_ (w1 := ?_) (by rfl) rfl ?_ ?_
  rotate_left
  · go_simp
    rfl
  refine hK.out _ _ ?_
  clear hK K
  refine done_ (by kernel_rfl) ?_
  clear hHeld pf0 pf1 qf0 qf1 pc0 pc1 qc0 qc1
  obtain ⟨W3, hW3⟩ : ∃ W3, W3 = (((w1.setCell ⟨p, 0, none⟩ (.int .i64 s1)).setCell ⟨p, 1, none⟩ (.int .i64 s2)).setCell ⟨q, 0, none⟩ (.int .i64 s3)).setCell ⟨q, 1, none⟩ (.int .i64 s4) := ⟨_, rfl⟩
  have HP : W3.heap[p]? = some (.cells #[(.int .i64 s1), (.int .i64 s2)] 24 (0, 0)) := by rw [hW3]; exact blk_far (blk_far (blk_set (blk_set hP _) _) hpqn _) hpqn _
  have HQ : W3.heap[q]? = some (.cells #[(.int .i64 s3), (.int .i64 s4)] 24 (0, 0)) := by rw [hW3]; exact blk_set (blk_set (blk_far (blk_far hQ hqpn _) hqpn _) _) _
  have HA3 : W3.heap[w.heap.size]? = some (.cells #[(.int .i64 s1), (.int .i64 s2), (.int .i64 s3), (.int .i64 s4)] 32 (0, 0)) := by rw [hW3]; exact blk_far (blk_far (blk_far (blk_far hA1 hAp _) hAp _) hAq _) hAq _
  have hbp : ¬ w.heap.size + 1 = p := by have := lt_of_block HT; omega
  have hbq : ¬ w.heap.size + 1 = q := by have := lt_of_block HT; omega
  have HT3 : W3.heap[w.heap.size + 1]? = some (.cells #[.int .i64 t1, .int .i64 t2, .int .i64 t3, .int .i64 t4] 32 (0, 0)) := by rw [hW3]; exact blk_far (blk_far (blk_far (blk_far (blk_below HT hW1) hbp _) hbp _) hbq _) hbq _
  clear hbp hbq
  have HB3 : Below W0.heap.size W0 W3 := by rw [hW3]; exact below_set2 hq (below_set2 hq (below_set2 hp (below_set2 hp hW1)))
  rw [← hW3]
  clear hP hQ hA1 hW1 hAp hAq hW3
  have HBw : Hid (Below w.heap.size w W3) := below_step HB0 HB3
  clear HB0 HB3 HA HT
  have pc0 := blk_cell HP 0 rfl
  have pc1 := blk_cell HP 1 rfl
  have qc0 := blk_cell HQ 0 rfl
  have qc1 := blk_cell HQ 1 rfl
  have tc0 := blk_cell HT3 0 rfl
  have tc1 := blk_cell HT3 1 rfl
  have tc2 := blk_cell HT3 2 rfl
  have tc3 := blk_cell HT3 3 rfl
  go_wp2_with fail
  refine (grid_Less _ _ _ _ _).mono ?_
  rintro e w2 ⟨rfl, hb2⟩
  clear pc0 pc1 qc0 qc1 tc0 tc1 tc2 tc3
  have HP2 := blk_below HP hb2
  have HQ2 := blk_below HQ hb2
  have HT2 := blk_below HT3 hb2
  have htp : ¬ w.heap.size + 1 = p := by omega
  have htq : ¬ w.heap.size + 1 = q := by omega
  have HBw2 : Hid (Below w.heap.size w w2) := below_step HBw.out hb2
  clear HP HQ HT3 HBw hb2
  have hpw : w.heap.size ≤ p := by omega
  have hqw : w.heap.size ≤ q := by omega
  cases h1 : lessB (s1, s2) (t1, t2)
  · have H1 := Lib.hid h1
    clear h1
    have pc0 := blk_cell HP2 0 rfl
    have pc1 := blk_cell HP2 1 rfl
    have qc0 := blk_cell HQ2 0 rfl
    have qc1 := blk_cell HQ2 1 rfl
    have tc0 := blk_cell HT2 0 rfl
    have tc1 := blk_cell HT2 1 rfl
    have tc2 := blk_cell HT2 2 rfl
    have tc3 := blk_cell HT2 3 rfl
    go_wp2_with fail
    refine (grid_Less _ _ _ _ _).mono ?_
    rintro e w4 ⟨rfl, hb4⟩
    clear pc0 pc1 qc0 qc1 tc0 tc1 tc2 tc3
    have HP4 := blk_below HP2 hb4
    have HQ4 := blk_below HQ2 hb4
    have HT4 := blk_below HT2 hb4
    have HBw4 : Hid (Below w.heap.size w w4) := below_step HBw2.out hb4
    clear HP2 HQ2 HT2 HBw2 hb4
    cases h2 : lessB (t3, t4) (s3, s4)
    · have H2 := Lib.hid h2
      have pc0 := blk_cell HP4 0 rfl
      have pc1 := blk_cell HP4 1 rfl
      have qc0 := blk_cell HQ4 0 rfl
      have qc1 := blk_cell HQ4 1 rfl
      have tc0 := blk_cell HT4 0 rfl
      have tc1 := blk_cell HT4 1 rfl
      have tc2 := blk_cell HT4 2 rfl
      have tc3 := blk_cell HT4 3 rfl
      go_wp2_with fail
      refine (grid_Less _ _ _ _ _).mono ?_
      rintro e w5 ⟨rfl, hb5⟩
      clear pc0 pc1 qc0 qc1 tc0 tc1 tc2 tc3
      have HP5 := blk_below HP4 hb5
      have HQ5 := blk_below HQ4 hb5
      have pc0 : w5.cell? ⟨p, 0, none⟩ = some (.int .i64 s1) := blk_cell HP5 0 rfl
      have pc1 : w5.cell? ⟨p, 1, none⟩ = some (.int .i64 s2) := blk_cell HP5 1 rfl
      have qc0 : w5.cell? ⟨q, 0, none⟩ = some (.int .i64 s3) := blk_cell HQ5 0 rfl
      have qc1 : w5.cell? ⟨q, 1, none⟩ = some (.int .i64 s4) := blk_cell HQ5 1 rfl
      have HB5 : Hid (Below w.heap.size w w5) := below_step HBw4.out hb5
      clear HP5 HQ5 HP4 HQ4 HT4 HBw4 hb5
      cases h3 : lessB (s1, s2) (s3, s4)
      · by_cases h4 : ((s1, s2) : Pt) = (s3, s4)
        · have hd := (ptB (s1, s2) (s3, s4)).trans (decide_eq_true h4)
          have HR : Hid (r = 1) := by show r = _; rw [HF.out]; simp only [flatZ, H1.out, H2.out, h3, Bool.false_eq_true, if_true, if_false]; rw [if_pos h4]
          clear HF H1 H2 h2 h3 h4
          go_wp2
          go_ret
          exact ⟨ret_int HR.out.symm, HB5.out⟩
        · have hd := (ptB (s1, s2) (s3, s4)).trans (decide_eq_false h4)
          have HR : Hid (r = 0) := by show r = _; rw [HF.out]; simp only [flatZ, H1.out, H2.out, h3, Bool.false_eq_true, if_true, if_false]; rw [if_neg h4]
          clear HF H1 H2 h2 h3 h4
          go_wp2
          go_ret
          exact ⟨ret_int HR.out.symm, HB5.out⟩
      · have HR : Hid (r = 3) := by show r = _; rw [HF.out]; simp [flatZ, H1.out, H2.out, h3]
        clear HF H1 H2 h2 h3
        go_wp2
        go_ret
        exact ⟨ret_int HR.out.symm, HB5.out⟩
    · have H2 := Lib.hid h2
      have pc0 := blk_cell HP4 0 rfl
      have pc1 := blk_cell HP4 1 rfl
      have qc0 := blk_cell HQ4 0 rfl
      have qc1 := blk_cell HQ4 1 rfl
      have tc0 := blk_cell HT4 0 rfl
      have tc1 := blk_cell HT4 1 rfl
      have tc2 := blk_cell HT4 2 rfl
      have tc3 := blk_cell HT4 3 rfl
      have pf0 := blk_free HP4 0
      have pf1 := blk_free HP4 1
      have qf0 := blk_free HQ4 0
      have qf1 := blk_free HQ4 1
      go_wp2_with fail
      refine (grid_Less _ _ _ _ _).mono ?_
      rintro e w5 ⟨rfl, hb5⟩
      clear pc0 pc1 qc0 qc1 tc0 tc1 tc2 tc3
      clear pf0 pf1 qf0 qf1
      have HP5 := blk_below (blk_far (blk_far HP4 hpqn (.int .i64 t3)) hpqn (.int .i64 t4)) hb5
      have HQ5 := blk_below (blk_set (blk_set HQ4 (i := 0) (.int .i64 t3)) (i := 1) (.int .i64 t4)) hb5
      have pc0 : w5.cell? ⟨p, 0, none⟩ = some (.int .i64 s1) := blk_cell HP5 0 rfl
      have pc1 : w5.cell? ⟨p, 1, none⟩ = some (.int .i64 s2) := blk_cell HP5 1 rfl
      have qc0 : w5.cell? ⟨q, 0, none⟩ = some (.int .i64 t3) := blk_cell HQ5 0 rfl
      have qc1 : w5.cell? ⟨q, 1, none⟩ = some (.int .i64 t4) := blk_cell HQ5 1 rfl
      have HB5 : Hid (Below w.heap.size w w5) := below_step (below_set2 hqw (below_set2 hqw HBw4.out)) hb5
      clear HP5 HQ5 HP4 HQ4 HT4 HBw4 hb5
      cases h3 : lessB (s1, s2) (t3, t4)
      · by_cases h4 : ((s1, s2) : Pt) = (t3, t4)
        · have hd := (ptB (s1, s2) (t3, t4)).trans (decide_eq_true h4)
          have HR : Hid (r = 1) := by show r = _; rw [HF.out]; simp only [flatZ, H1.out, H2.out, h3, Bool.false_eq_true, if_true, if_false]; rw [if_pos h4]
          clear HF H1 H2 h2 h3 h4
          go_wp2
          go_ret
          exact ⟨ret_int HR.out.symm, HB5.out⟩
        · have hd := (ptB (s1, s2) (t3, t4)).trans (decide_eq_false h4)
          have HR : Hid (r = 0) := by show r = _; rw [HF.out]; simp only [flatZ, H1.out, H2.out, h3, Bool.false_eq_true, if_true, if_false]; rw [if_neg h4]
          clear HF H1 H2 h2 h3 h4
          go_wp2
          go_ret
          exact ⟨ret_int HR.out.symm, HB5.out⟩
      · have HR : Hid (r = 3) := by show r = _; rw [HF.out]; simp [flatZ, H1.out, H2.out, h3]
        clear HF H1 H2 h2 h3
        go_wp2
        go_ret
        exact ⟨ret_int HR.out.symm, HB5.out⟩
  · have H1 := Lib.hid h1
    clear h1
    have pc0 := blk_cell HP2 0 rfl
    have pc1 := blk_cell HP2 1 rfl
    have qc0 := blk_cell HQ2 0 rfl
    have qc1 := blk_cell HQ2 1 rfl
    have tc0 := blk_cell HT2 0 rfl
    have tc1 := blk_cell HT2 1 rfl
    have tc2 := blk_cell HT2 2 rfl
    have tc3 := blk_cell HT2 3 rfl
    have pf0 := blk_free HP2 0
    have pf1 := blk_free HP2 1
    have qf0 := blk_free HQ2 0
    have qf1 := blk_free HQ2 1
    go_wp2_with fail
    clear pc0 pc1 qc0 qc1 tc0 tc1 tc2 tc3
    clear pf0 pf1 qf0 qf1
    obtain ⟨W6, hW6⟩ : ∃ W6, W6 = (w2.setCell ⟨p, 0, none⟩ (.int .i64 t1)).setCell ⟨p, 1, none⟩ (.int .i64 t2) := ⟨_, rfl⟩
    have HP6 : W6.heap[p]? = some (.cells #[.int .i64 t1, .int .i64 t2] 24 (0, 0)) := by rw [hW6]; exact blk_set (blk_set HP2 _) _
    have HQ6 : W6.heap[q]? = some (.cells #[.int .i64 s3, .int .i64 s4] 24 (0, 0)) := by rw [hW6]; exact blk_far (blk_far HQ2 hqpn _) hqpn _
    have HT6 : W6.heap[w.heap.size + 1]? = some (.cells #[.int .i64 t1, .int .i64 t2, .int .i64 t3, .int .i64 t4] 32 (0, 0)) := by rw [hW6]; exact blk_far (blk_far HT2 htp _) htp _
    have HB6 : Hid (Below w.heap.size w W6) := by rw [hW6]; exact below_set2 hpw (below_set2 hpw HBw2.out)
    clear HP2 HQ2 HT2 HBw2
    rw [← hW6]
    clear hW6
    have pc0 := blk_cell HP6 0 rfl
    have pc1 := blk_cell HP6 1 rfl
    have qc0 := blk_cell HQ6 0 rfl
    have qc1 := blk_cell HQ6 1 rfl
    have tc0 := blk_cell HT6 0 rfl
    have tc1 := blk_cell HT6 1 rfl
    have tc2 := blk_cell HT6 2 rfl
    have tc3 := blk_cell HT6 3 rfl
    go_wp2_with fail
    refine (grid_Less _ _ _ _ _).mono ?_
    rintro e w4 ⟨rfl, hb4⟩
    clear pc0 pc1 qc0 qc1 tc0 tc1 tc2 tc3
    have HP4 := blk_below HP6 hb4
    have HQ4 := blk_below HQ6 hb4
    have HT4 := blk_below HT6 hb4
    have HBw4 : Hid (Below w.heap.size w w4) := below_step HB6.out hb4
    clear HP6 HQ6 HT6 HB6 hb4
    cases h2 : lessB (t3, t4) (s3, s4)
    · have H2 := Lib.hid h2
      have pc0 := blk_cell HP4 0 rfl
      have pc1 := blk_cell HP4 1 rfl
      have qc0 := blk_cell HQ4 0 rfl
      have qc1 := blk_cell HQ4 1 rfl
      have tc0 := blk_cell HT4 0 rfl
      have tc1 := blk_cell HT4 1 rfl
      have tc2 := blk_cell HT4 2 rfl
      have tc3 := blk_cell HT4 3 rfl
      go_wp2_with fail
      refine (grid_Less _ _ _ _ _).mono ?_
      rintro e w5 ⟨rfl, hb5⟩
      clear pc0 pc1 qc0 qc1 tc0 tc1 tc2 tc3
      have HP5 := blk_below HP4 hb5
      have HQ5 := blk_below HQ4 hb5
      have pc0 : w5.cell? ⟨p, 0, none⟩ = some (.int .i64 t1) := blk_cell HP5 0 rfl
      have pc1 : w5.cell? ⟨p, 1, none⟩ = some (.int .i64 t2) := blk_cell HP5 1 rfl
      have qc0 : w5.cell? ⟨q, 0, none⟩ = some (.int .i64 s3) := blk_cell HQ5 0 rfl
      have qc1 : w5.cell? ⟨q, 1, none⟩ = some (.int .i64 s4) := blk_cell HQ5 1 rfl
      have HB5 : Hid (Below w.heap.size w w5) := below_step HBw4.out hb5
      clear HP5 HQ5 HP4 HQ4 HT4 HBw4 hb5
      cases h3 : lessB (t1, t2) (s3, s4)
      · by_cases h4 : ((t1, t2) : Pt) = (s3, s4)
        · have hd := (ptB (t1, t2) (s3, s4)).trans (decide_eq_true h4)
          have HR : Hid (r = 1) := by show r = _; rw [HF.out]; simp only [flatZ, H1.out, H2.out, h3, Bool.false_eq_true, if_true, if_false]; rw [if_pos h4]
          clear HF H1 H2 h2 h3 h4
          go_wp2
          go_ret
          exact ⟨ret_int HR.out.symm, HB5.out⟩
        · have hd := (ptB (t1, t2) (s3, s4)).trans (decide_eq_false h4)
          have HR : Hid (r = 0) := by show r = _; rw [HF.out]; simp only [flatZ, H1.out, H2.out, h3, Bool.false_eq_true, if_true, if_false]; rw [if_neg h4]
          clear HF H1 H2 h2 h3 h4
          go_wp2
          go_ret
          exact ⟨ret_int HR.out.symm, HB5.out⟩
      · have HR : Hid (r = 3) := by show r = _; rw [HF.out]; simp [flatZ, H1.out, H2.out, h3]
        clear HF H1 H2 h2 h3
        go_wp2
        go_ret
        exact ⟨ret_int HR.out.symm, HB5.out⟩
    · have H2 := Lib.hid h2
      have pc0 := blk_cell HP4 0 rfl
      have pc1 := blk_cell HP4 1 rfl
      have qc0 := blk_cell HQ4 0 rfl
      have qc1 := blk_cell HQ4 1 rfl
      have tc0 := blk_cell HT4 0 rfl
      have tc1 := blk_cell HT4 1 rfl
      have tc2 := blk_cell HT4 2 rfl
      have tc3 := blk_cell HT4 3 rfl
      have pf0 := blk_free HP4 0
      have pf1 := blk_free HP4 1
      have qf0 := blk_free HQ4 0
      have qf1 := blk_free HQ4 1
      go_wp2_with fail
      refine (grid_Less _ _ _ _ _).mono ?_
      rintro e w5 ⟨rfl, hb5⟩
      clear pc0 pc1 qc0 qc1 tc0 tc1 tc2 tc3
      clear pf0 pf1 qf0 qf1
      have HP5 := blk_below (blk_far (blk_far HP4 hpqn (.int .i64 t3)) hpqn (.int .i64 t4)) hb5
      have HQ5 := blk_below (blk_set (blk_set HQ4 (i := 0) (.int .i64 t3)) (i := 1) (.int .i64 t4)) hb5
      have pc0 : w5.cell? ⟨p, 0, none⟩ = some (.int .i64 t1) := blk_cell HP5 0 rfl
      have pc1 : w5.cell? ⟨p, 1, none⟩ = some (.int .i64 t2) := blk_cell HP5 1 rfl
      have qc0 : w5.cell? ⟨q, 0, none⟩ = some (.int .i64 t3) := blk_cell HQ5 0 rfl
      have qc1 : w5.cell? ⟨q, 1, none⟩ = some (.int .i64 t4) := blk_cell HQ5 1 rfl
      have HB5 : Hid (Below w.heap.size w w5) := below_step (below_set2 hqw (below_set2 hqw HBw4.out)) hb5
      clear HP5 HQ5 HP4 HQ4 HT4 HBw4 hb5
      cases h3 : lessB (t1, t2) (t3, t4)
      · by_cases h4 : ((t1, t2) : Pt) = (t3, t4)
        · have hd := (ptB (t1, t2) (t3, t4)).trans (decide_eq_true h4)
          have HR : Hid (r = 1) := by show r = _; rw [HF.out]; simp only [flatZ, H1.out, H2.out, h3, Bool.false_eq_true, if_true, if_false]; rw [if_pos h4]
          clear HF H1 H2 h2 h3 h4
          go_wp2
          go_ret
          exact ⟨ret_int HR.out.symm, HB5.out⟩
        · have hd := (ptB (t1, t2) (t3, t4)).trans (decide_eq_false h4)
          have HR : Hid (r = 0) := by show r = _; rw [HF.out]; simp only [flatZ, H1.out, H2.out, h3, Bool.false_eq_true, if_true, if_false]; rw [if_neg h4]
          clear HF H1 H2 h2 h3 h4
          go_wp2
          go_ret
          exact ⟨ret_int HR.out.symm, HB5.out⟩
      · have HR : Hid (r = 3) := by show r = _; rw [HF.out]; simp [flatZ, H1.out, H2.out, h3]
        clear HF H1 H2 h2 h3
        go_wp2
        go_ret
        exact ⟨ret_int HR.out.symm, HB5.out⟩
end Go.Proofs.YtlmjciajpjdilaaGreat
end
