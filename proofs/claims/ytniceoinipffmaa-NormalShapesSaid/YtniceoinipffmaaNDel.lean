/- Words of this session's own: a store of an element into an own row, clear of an own row's tail; contracts of slices.IndexFunc and slices.DeleteFunc at places. -/
import Derived.Test.YtniceoinipffmaaNPts
import Derived.Test.YtniceoinipffmaaNTheme
namespace Go.Proofs.Ytniceoinipffmaa
open Go.RowKit Go.Proofs.YtniceoinipffmaaW.PrintLast
set_option linter.unusedVariables false
set_option linter.unusedSimpArgs false

section
variable {α : Type} {T : Ty α} {ok : Nat → Prop} {w : World}
theorem Reps.put : ∀ {xs : List α} {cs : List Value} (i : Nat) {y : α} {c : List Value}, Reps T ok w xs cs → T.R ok w y c → i < xs.length → Reps T ok w (xs.set i y) (cs.take (i * T.sz) ++ c ++ cs.drop (i * T.sz + T.sz))
  | [], _, i, _, _, _, _, hi => absurd hi (by simp)
  | x :: xs, cs, 0, y, c, ⟨c0, d, e, hc, hd⟩, hy, _ => by
    subst e
    refine ⟨c, d, ?_, hy, hd⟩
    rw [Nat.zero_mul, List.take_zero, List.nil_append, Nat.zero_add, List.drop_left' (T.len hc)]
  | x :: xs, cs, i + 1, y, c, ⟨c0, d, e, hc, hd⟩, hy, hi => by
    subst e
    refine ⟨c0, _, ?_, hc, Reps.put i hd hy (by simpa using hi)⟩
    have hl := T.len hc
    rw [show (i + 1) * T.sz = c0.length + i * T.sz by rw [Nat.add_mul]; omega, List.take_length_add_append, Nat.add_assoc, List.drop_length_add_append]
    simp
theorem Reps.take : ∀ {xs : List α} {cs : List Value} (i : Nat), Reps T ok w xs cs → Reps T ok w (xs.take i) (cs.take (i * T.sz))
  | [], cs, i, h => by rw [show cs = [] from h]; simp; exact rfl
  | x :: xs, cs, 0, h => by simp; exact rfl
  | x :: xs, cs, i + 1, ⟨c0, d, e, hc, hd⟩ => by
    subst e
    have hl := T.len hc
    exact ⟨c0, _, by rw [show (i + 1) * T.sz = c0.length + i * T.sz by rw [Nat.add_mul]; omega, List.take_length_add_append], hc, Reps.take i hd⟩
theorem take_mid {β : Type} (l c : List β) (a b n : Nat) (hc : c.length = b) (hn : a + b ≤ n) (hl : n ≤ l.length) : (l.take a ++ c ++ l.drop (a + b)).take n = (l.take n).take a ++ c ++ (l.take n).drop (a + b) := by
  have h1 : (l.take a ++ c).length = a + b := by simp; omega
  rw [List.take_append, List.take_of_length_le (by omega), h1, List.take_take, Nat.min_eq_left (by omega), List.take_drop, show a + b + (n - (a + b)) = n by omega]
end
section
variable {P : Program} {ops : Array Oper} {rest : List Oper} {o : Oper} {a : Act} {Q : Exit → Act → World → Prop} {α : Type} {T : Ty α} {e : TypeId} {base g n c : Nat} {M : Nat → Prop} {W : World} {xs : List α}
/-- Row cells of an own row are written: what stands behind it. -/
theorem OwnR.put {q : Nat} {y : α} {cs : List Value} (HO : OwnR T e base M W (.slice (some ⟨g, 0, none⟩) n c) xs) {i : Nat} (hi : i < xs.length) (hq : q = i * T.sz) (hy : T.R (fun k => ¬ M k) W y cs) :
    ∃ w', (storeCells ⟨g, q, none⟩ cs).run P W = .ok () w' ∧ OwnR T e base M w' (.slice (some ⟨g, 0, none⟩) n c) (xs.set i y) ∧ KeptS (fun k => k = g) W w' ∧ w'.heap.size = W.heap.size := by
  subst hq
  obtain ⟨h0, inner, ho, hr⟩ := HO
  have hg : M g := h0 g rfl
  obtain ⟨hlen, ho⟩ := ho
  rcases ho with ⟨h, _⟩ | ⟨g', cap, cur, hv, hb, hh, h1, h2, h3, h4⟩
  · cases h
  injection hv with hv hvn hvc; injection hv with hv; injection hv with hv
  subst hv hvc hvn
  have hl := T.len hy
  have hfit : i * T.sz + T.sz ≤ xs.length * T.sz := by rw [← Nat.succ_mul]; exact Nat.mul_le_mul_right _ hi
  have hfit2 : xs.length * T.sz ≤ c * T.sz := Nat.mul_le_mul_right _ h1
  have hst := run_storeCells_at P g (i * T.sz) e cs 0 cur W hh (by omega) (T.one hy)
  simp only [Nat.add_zero, hl] at hst
  have hk : KeptS (fun k => k = g) W (W.setRow g (cur.toList.take (i * T.sz) ++ cs ++ cur.toList.drop (i * T.sz + T.sz)).toArray) :=
    ⟨rfl, rfl, rfl, by simp, fun k _ hk => setRow_other W g k _ hk⟩
  refine ⟨_, hst, ?_, hk, by simp⟩
  have step : ∀ {x : α} {d : List Value}, T.R (fun k => ¬ M k) W x d → T.R (fun k => ¬ M k) (W.setRow g (cur.toList.take (i * T.sz) ++ cs ++ cur.toList.drop (i * T.sz + T.sz)).toArray) x d :=
    fun hx => T.step hx (fun k hk' hlt => hk.block k hlt (fun e => hk' (e ▸ hg)))
  refine ⟨h0, inner.take (i * T.sz) ++ cs ++ inner.drop (i * T.sz + T.sz), ⟨?_, .inr ⟨g, c, _, by rw [List.length_set], hb, setRow_heap W g cur _ e (0, 0) hh, by rw [List.length_set]; exact h1, h2, ?_, ?_⟩⟩, (hr.imp (fun _ _ hx => step hx)).put i (step hy) hi⟩
  · rw [List.length_append, List.length_append, List.length_take, List.length_drop, hl, hlen, Nat.min_eq_left (by omega), List.length_set]; omega
  · rw [List.size_toArray, List.length_append, List.length_append, List.length_take, List.length_drop, hl, Array.length_toList, h3, Nat.min_eq_left (by omega)]; omega
  · rw [List.length_set, ← h4]
    show ((cur.toList.take (i * T.sz) ++ cs ++ cur.toList.drop (i * T.sz + T.sz)).toArray.toList).take _ = _
    rw [List.toList_toArray]
    exact take_mid _ _ _ _ _ hl hfit (by simp [h3]; omega)
/-- *p = y at an element of an own row. -/
theorem wpList_storeT (hgd : o.guard = none) (p x : Operand) (e' : TypeId) (ho : o.op = .store e' p x) (hsz : P.info? e' |>.map (·.size) |> (· = some T.sz)) {q : Nat} {y : α} {cs : Array Value} {i : Nat} (hp : a.eval p = .pointer (some ⟨g, q, none⟩)) (hx : a.eval x = .agg cs)
    (HO : OwnR T e base M W (.slice (some ⟨g, 0, none⟩) n c) xs) (hi : i < xs.length) (hq : q = i * T.sz) (hy : T.R (fun k => ¬ M k) W y cs.toList)
    (h : ∀ w', OwnR T e base M w' (.slice (some ⟨g, 0, none⟩) n c) (xs.set i y) → KeptS (fun k => k = g) W w' → w'.heap.size = W.heap.size → wpList P ops Q rest (a.put o.dst undef) w') : wpList P ops Q (o :: rest) a W := by
  refine wpList_plain hgd fun K' hK' => ?_
  obtain ⟨w', hrun, r1, r2, r3⟩ := HO.put (P := P) hi hq hy
  obtain ⟨inf, hinf, hz⟩ := Option.map_eq_some_iff.1 hsz
  have hl : cs.size = T.sz := by rw [← Array.length_toList]; exact T.len hy
  unfold Oper.wp
  simp [execOp, ho, hp, hx, Instr.storeAt, storeVar, sizeOf, typeInfo, hinf, hz, hrun, Result.andThen, Value.cells, Instr.sureAddr, hl]
  exact hK' _ _ (h w' r1 r2 r3)
/-- clear of an own row's tail; the row shortened. -/
theorem wpList_clearT (hgd : o.guard = none) (s : Operand) (t : TypeId) (ho : o.op = .call { callee := .builtin .clear, args := #[s], argTypes := #[t] }) (ht : P.underlying t = some (.slice e)) {z : Value} (hz : ∀ w, (zeroValue e).run P w = .ok z w) (hzs : z.cells.size = T.sz) (hz1 : ∀ u ∈ z.cells, u.oneCell' = true)
    {i q m c' : Nat} (hs : a.eval s = .slice (some ⟨g, q, none⟩) m c') (HO : OwnR T e base M W (.slice (some ⟨g, 0, none⟩) n c) xs) (hq : q = i * T.sz) (hm : m = xs.length - i) (hi : i < xs.length)
    (h : ∀ w', OwnR T e base M w' (.slice (some ⟨g, 0, none⟩) i c) (xs.take i) → KeptS (fun k => k = g) W w' → w'.heap.size = W.heap.size → wpList P ops Q rest (a.put o.dst (.tuple #[])) w') : wpList P ops Q (o :: rest) a W := by
  subst hq hm
  refine wpList_plain hgd fun K' hK' => ?_
  obtain ⟨h0, inner, ho', hr⟩ := HO
  have hg : M g := h0 g rfl
  obtain ⟨hlen, ho'⟩ := ho'
  rcases ho' with ⟨h, _⟩ | ⟨g', cap, cur, hv, hb, hh, h1, h2, h3, h4⟩
  · cases h
  injection hv with hv hvn hvc; injection hv with hv; injection hv with hv
  subst hv hvc hvn
  have hfit : i * T.sz + (xs.length - i) * T.sz ≤ xs.length * T.sz := by rw [← Nat.add_mul]; exact Nat.mul_le_mul_right _ (by omega)
  have hfit2 : xs.length * T.sz ≤ c * T.sz := Nat.mul_le_mul_right _ h1
  obtain ⟨zs, hzz⟩ : ∃ zs, zs = (Builtin.zeroCells z.cells (xs.length - i)).toList := ⟨_, rfl⟩
  have hzl : zs.length = (xs.length - i) * T.sz := by rw [hzz]; simp [Builtin.zeroCells, hzs]
  have hzo : ∀ u ∈ zs, u.oneCell' = true := by
    intro u hu
    rw [hzz] at hu
    simp only [Builtin.zeroCells, Array.toList_map, List.mem_map] at hu
    obtain ⟨j, _, rfl⟩ := hu
    have hj : j % z.cells.size < z.cells.size := Nat.mod_lt _ (by rw [hzs]; exact T.pos)
    rw [getElem!_pos z.cells _ hj]
    exact hz1 _ (Array.getElem_mem hj)
  have hst := run_storeCells_at P g (i * T.sz) e zs 0 cur W hh (by omega) hzo
  simp only [Nat.add_zero] at hst
  obtain ⟨W', hW'⟩ : ∃ W', W' = W.setRow g (cur.toList.take (i * T.sz) ++ zs ++ cur.toList.drop (i * T.sz + zs.length)).toArray := ⟨_, rfl⟩
  rw [← hW'] at hst
  have hk : KeptS (fun k => k = g) W W' := by rw [hW']; exact ⟨rfl, rfl, rfl, by simp, fun k _ hk => setRow_other W g k _ hk⟩
  have hO : OwnR T e base M W' (.slice (some ⟨g, 0, none⟩) i c) (xs.take i) := by
    have hti : (xs.take i).length = i := by rw [List.length_take]; omega
    refine ⟨h0, inner.take (i * T.sz), ⟨?_, .inr ⟨g, c, _, by rw [hti], hb, by rw [hW']; exact setRow_heap W g cur _ e (0, 0) hh, by rw [hti]; omega, h2, ?_, ?_⟩⟩, (hr.imp (fun x d hx => T.step hx (fun k hk' hlt => hk.block k hlt (fun e => hk' (e ▸ hg))))).take i⟩
    · rw [List.length_take, hlen, hti, Nat.min_eq_left (by omega)]
    · rw [List.size_toArray, List.length_append, List.length_append, List.length_take, List.length_drop, hzl, Array.length_toList, h3, Nat.min_eq_left (by omega)]; omega
    · rw [hti, List.toList_toArray, List.append_assoc, List.take_append_of_le_length (by rw [List.length_take, Array.length_toList, h3]; omega), List.take_take, Nat.min_self, ← h4, List.take_take, Nat.min_eq_left (by omega)]
  have hrun : (Builtin.clear_ #[t] o.type #[.slice (some ⟨g, i * T.sz, none⟩) (xs.length - i) c']).run P W = .ok (.tuple #[]) W' := by
    obtain ⟨m, hm⟩ : ∃ m, xs.length - i = m + 1 := ⟨xs.length - i - 1, by omega⟩
    rw [hzz] at hst
    rw [hm] at hst ⊢
    simp [Builtin.clear_, run_underlying ht, hz, hst, Result.andThen]
  unfold Oper.wp
  simp only [execOp, ho, resolve, invoke, builtin, Sem.run_bind, Sem.run_pure, Result.andThen_ok, List.map_toArray, List.map_cons, List.map_nil, hs, hrun]
  exact hK' _ _ (h W' hO hk (by rw [hW']; simp))
end
theorem idxP_cases {α : Type} (xs : List α) (p : α → Bool) (d : α) : (idxP xs p = -1 ∧ ∀ j, j < xs.length → p (xs.getD j d) = false) ∨ ∃ k : Nat, idxP xs p = (k : Int) ∧ k < xs.length ∧ p (xs.getD k d) = true ∧ ∀ j, j < k → p (xs.getD j d) = false := by
  unfold idxP
  split
  · rename_i h
    refine .inr ⟨_, rfl, h, ?_, fun j hj => ?_⟩
    · have := List.findIdx_getElem (w := h)
      simpa [h] using this
    · have := List.not_of_lt_findIdx hj
      simpa [show j < xs.length by omega] using this
  · rename_i h
    refine .inl ⟨rfl, fun j hj => ?_⟩
    have := List.not_of_lt_findIdx (xs := xs) (p := p) (i := j) (by omega)
    simpa [hj] using this
def PredL (K : Nat) (p : Place → Bool) : Prop :=
  ∀ (ok : Nat → Prop) (W : World) (x : Place) (A : Option Addr) (c : Nat), Row Ty.tag ok W A x.2.2 → Calls Try.prog K #[.agg #[.int .i64 x.1, .int .i64 x.2.1.1, .int .i64 x.2.1.2, .slice A x.2.2.length c]] W fun e w' => e = .returned (.bool (p x)) ∧ Below W.heap.size W w'
theorem IndexFunc_place {ok : Nat → Prop} (xs : List Place) (A : Option Addr) (n c : Nat) (w : World) (K : Nat) (p : Place → Bool) (hr : Row Ty.place ok w A xs) (hn : n = xs.length) (hp : PredL K p) (hK : EntersP K) :
    Calls Try.prog 55 #[.slice A n c, .func (.func K) #[] #[]] w fun e w' => e = .returned (.int .i64 (idxP xs p)) ∧ Below w.heap.size w w' := by
  subst hn
  have hm := hr.len
  have HP := Lib.hid hp
  have HR := Lib.hid hr
  clear hp hr
  unfold EntersP at hK
  go_enter Try.func55, Try.ntmps55
  go_wp2
  go_loopw [8] (fun i wr => ∃ k : Nat, k ≤ xs.length ∧ i = .int .i64 k ∧ Below w.heap.size w wr ∧ Hid (∀ j, j < k → p (ndD xs j) = false)) (fun i _ => xs.length - (intOf i).toNat)
  case atStart => exact ⟨0, Nat.zero_le _, rfl, Below.refl _ _, fun j hj => absurd hj (Nat.not_lt_zero _)⟩
  case round =>
    obtain ⟨k, hk, rfl, hb, hall⟩ := hrel
    by_cases hlt : k < xs.length
    · obtain ⟨ad, A4, c4, rfl, hx1, hx2, hx3, hx4, hl4, hr4⟩ := (HR.out.below hb).node_at k hlt
      have R4 := Lib.hid hr4
      have hz := hb.size
      clear hr4
      cases hv : p (ndD xs k)
      · have HV := Lib.hid hv
        go_wp2_with fail
        (refine (HP.out _ _ (ndD xs k) A4 c4 R4.out).mono ?_; rintro e w1 ⟨rfl, hb1⟩)
        rw [HV.out]
        go_wp2
        go_roundw
        case rel => exact ⟨k + 1, by omega, by go_num, (by repeat (first | exact Below.refl _ _ | apply below_alloc | apply below_drewN | apply below_drew | (refine below_set2 ?_ ?_; (first | (simp; done) | (simp; omega))) | (refine below_step ?_ hb1) | (refine below_step ?_ hb))), all_succ hall.out HV.out⟩
        case measure => simp [intOf]; omega
      · have HV := Lib.hid hv
        go_wp2_with fail
        (refine (HP.out _ _ (ndD xs k) A4 c4 R4.out).mono ?_; rintro e w1 ⟨rfl, hb1⟩)
        rw [HV.out]
        go_wp2
        go_ret
        exact ⟨ret_int (idxP_hit (0, ((0, 0), [])) hlt hall.out HV.out).symm, (by repeat (first | exact Below.refl _ _ | apply below_alloc | apply below_drewN | apply below_drew | (refine below_set2 ?_ ?_; (first | (simp; done) | (simp; omega))) | (refine below_step ?_ hb1) | (refine below_step ?_ hb)))⟩
    · obtain rfl : k = xs.length := by omega
      go_wp2
      go_ret
      exact ⟨ret_int (idxP_none (0, ((0, 0), [])) hall.out).symm, hb⟩
theorem Own1.form {α : Type} {T : Ty α} {e : TypeId} {base : Nat} {w : World} {v : Value} {xs : List α} (h : Own1 T e base w v xs) (hn : 0 < xs.length) : ∃ g c, v = .slice (some ⟨g, 0, none⟩) xs.length c ∧ xs.length ≤ c := by
  obtain ⟨A, c, e, hl, _, h2⟩ := OwnR.reads h
  obtain ⟨g, rfl, _⟩ := h2 hn
  exact ⟨g, c, e, hl⟩
theorem filter_keep {α : Type} {xs ys : List α} {p : α → Bool} {i j : Nat} {d : α} (h1 : ys.length = xs.length) (h2 : ys.take i = (xs.take j).filter (fun x => !p x)) (hi : i < j) (hj : j < xs.length) (hp : p (xs.getD j d) = false) : (ys.set i (xs.getD j d)).take (i + 1) = (xs.take (j + 1)).filter (fun x => !p x) := by
  rw [take_snoc xs j d hj, List.filter_append, ← h2, List.take_succ_eq_append_getElem (by rw [List.length_set]; omega)]
  have e1 : (ys.set i (xs.getD j d)).take i = ys.take i := by rw [List.take_set, List.set_eq_of_length_le (by rw [List.length_take]; omega)]
  have e2 : [xs.getD j d].filter (fun x => !p x) = [xs.getD j d] := by rw [List.filter_cons_of_pos (by rw [hp]; rfl)]; rfl
  rw [e1, e2, List.getElem_set_self]
theorem filter_skip {α : Type} {xs : List α} {p : α → Bool} {j : Nat} {d : α} (hj : j < xs.length) (hp : p (xs.getD j d) = true) : (xs.take (j + 1)).filter (fun x => !p x) = (xs.take j).filter (fun x => !p x) := by
  have e2 : [xs.getD j d].filter (fun x => !p x) = [] := by rw [List.filter_cons_of_neg (by rw [hp]; simp)]; rfl
  rw [take_snoc xs j d hj, List.filter_append, e2, List.append_nil]
theorem filter_all {α : Type} {xs : List α} {p : α → Bool} {j : Nat} {d : α} (hj : j ≤ xs.length) (h : ∀ m, m < j → p (xs.getD m d) = false) : (xs.take j).filter (fun x => !p x) = xs.take j := by
  rw [List.filter_eq_self]
  intro x hx
  obtain ⟨m, hm, rfl⟩ := List.getElem_of_mem hx
  have hm' : m < j := by rw [List.length_take] at hm; omega
  have := h m hm'
  simp [show m < xs.length by omega] at this
  simp [this]
theorem OwnR.place_at {e : TypeId} {base g n c : Nat} {M : Nat → Prop} {w : World} {xs : List Place} (h : OwnR Ty.place e base M w (.slice (some ⟨g, 0, none⟩) n c) xs) (k : Nat) (hk : k < xs.length) :
    ∃ A1 c1, w.cell? ⟨g, k * 4, none⟩ = some (.int .i64 (ndD xs k).1) ∧ w.cell? ⟨g, k * 4 + 1, none⟩ = some (.int .i64 (ndD xs k).2.1.1) ∧ w.cell? ⟨g, k * 4 + 2, none⟩ = some (.int .i64 (ndD xs k).2.1.2) ∧ w.cell? ⟨g, k * 4 + 3, none⟩ = some (.slice A1 (ndD xs k).2.2.length c1) ∧
      (ndD xs k).2.2.length ≤ c1 ∧ Row Ty.tag (fun b => ¬ M b) w A1 (ndD xs k).2.2 := by
  obtain ⟨h0, inner, ho, hr⟩ := h
  obtain ⟨cs, ⟨d1, d2, rfl, h1, d3, d4, rfl, h2, A1, cc, rfl, hl, hrr⟩, hc⟩ := hr.get k xs[k] (by simp [hk])
  have e1 : ndD xs k = xs[k] := by simp [ndD, hk]
  rw [e1]
  obtain rfl : d1 = _ := h1
  obtain rfl : d3 = _ := h2
  have cell : ∀ (j : Nat) (u : Value), ([Value.int .i64 xs[k].1] ++ ([.int .i64 xs[k].2.1.1, .int .i64 xs[k].2.1.2] ++ [.slice A1 xs[k].2.2.length cc]))[j]? = some u → w.cell? ⟨g, k * 4 + j, none⟩ = some u := fun j u hu => by
    have := ho.cells (g := g) rfl _ u (hc j u hu)
    rw [add_at, Nat.zero_add] at this
    exact this
  exact ⟨A1, cc, cell 0 _ rfl, cell 1 _ rfl, cell 2 _ rfl, cell 3 _ rfl, hl, hrr⟩
theorem placeR4 {ok : Nat → Prop} {w : World} {A : Option Addr} {x : Place} {c : Nat} (hl : x.2.2.length ≤ c) (h : Row Ty.tag ok w A x.2.2) :
    Ty.place.R ok w x #[.int .i64 x.1, .int .i64 x.2.1.1, .int .i64 x.2.1.2, .slice A x.2.2.length c].toList :=
  ⟨[_], [_, _, _], rfl, rfl, [_, _], [_], rfl, rfl, A, c, rfl, hl, h⟩
theorem ndD_of {xs ys : List Place} {j : Nat} (h : ys[j]? = xs[j]?) : ndD ys j = ndD xs j := by simp only [ndD, List.getD_eq_getElem?_getD, h]
set_option maxHeartbeats 4000000 in
theorem DeleteFunc_place (xs : List Place) (v : Value) (base : Nat) (w : World) (K : Nat) (p : Place → Bool) (ho : Own1 Ty.place 48 base w v xs) (hp : PredL K p) (hK : EntersP K) :
    Calls Try.prog 35 #[v, .func (.func K) #[] #[]] w fun e w' => ∃ v', e = .returned v' ∧ Own1 Ty.place 48 base w' v' (xs.filter (fun x => !p x)) ∧ KeptS (fun b => v.ownBlock = some b) w w' := by
  obtain ⟨A, c, rfl, hlc, hr⟩ := ho.reads
  have HO := Lib.hid ho
  have HP := Lib.hid hp
  have HK := Lib.hid hK
  have hmx := hr.len
  clear ho hp
  unfold EntersP at hK
  go_enter Try.func35, Try.ntmps35
  go_wp2_with fail
  refine (IndexFunc_place xs A _ c w K p hr rfl HP.out HK.out).mono ?_
  rintro e w1 ⟨rfl, hb1⟩
  clear hr
  rcases idxP_cases xs p (0, ((0, 0), [])) with ⟨hi, hall⟩ | ⟨k0, hi, hk0, ht, hall⟩
  · rw [hi]
    have HE : Hid (xs.filter (fun x => !p x) = xs) := by
      show _ = _
      rw [List.filter_eq_self]
      intro x hx
      obtain ⟨j, hj, rfl⟩ := List.getElem_of_mem hx
      have := hall j hj
      simp [hj] at this
      simp [this]
    clear hi hall
    go_wp2
    go_ret
    exact ⟨_, rfl, by rw [HE.out]; exact Own1.below HO.out hb1, kept_of_below hb1⟩
  · rw [hi]
    obtain ⟨g, c', hv, _⟩ := HO.out.form (by omega)
    injection hv with hv _ hc'
    subst hv hc'
    have HA : Hid (∀ j, j < k0 → p (ndD xs j) = false) := hall
    have HT : Hid (p (ndD xs k0) = true) := ht
    have HO1 := Lib.hid (Own1.below HO.out hb1)
    have HBw : Hid (KeptS (fun b => b = g) w w1) := kept_of_below hb1
    have hne : ((k0 : Int) == -1) = false := by simp
    clear hi hall ht hb1
    go_wp2
    go_loopw [5, 6] (fun i j wr => ∃ (i' j' : Nat) (ys : List Place), i = .int .i64 i' ∧ j = .int .i64 j' ∧ i' < j' ∧ j' ≤ xs.length ∧ ys.length = xs.length ∧ Hid (KeptS (fun b => b = g) w wr) ∧ Hid (Own1 Ty.place 48 base wr (.slice (some ⟨g, 0, none⟩) xs.length c) ys) ∧
      Hid (ys.take i' = (xs.take j').filter (fun x => !p x)) ∧ Hid (∀ m, j' ≤ m → ys[m]? = xs[m]?)) (fun _ j _ => xs.length - (intOf j).toNat)
    case atStart => exact ⟨k0, k0 + 1, xs, rfl, by go_num, by omega, by omega, rfl, HBw, HO1, by show _ = _; rw [filter_skip hk0 HT.out, filter_all (by omega) HA.out], fun m _ => rfl⟩
    case round =>
      obtain ⟨i, j, ys, rfl, rfl, hij, hjn, hyl, HB, HOy, HI, HJ⟩ := hrel
      by_cases hlt : j < xs.length
      · obtain ⟨A4, c4, hx1, hx2, hx3, hx4, hl4, hr4⟩ := OwnR.place_at HOy.out j (by omega)
        rw [ndD_of (HJ.out j (Nat.le_refl _))] at hx1 hx2 hx3 hx4 hl4 hr4
        have R4 := Lib.hid hr4
        have hgl : g < wr.heap.size := by have := World.block_lt_of_cell? wr _ hx1; exact this
        clear hr4 HO1 HBw
        go_wp2_with fail
        refine (HP.out _ _ (ndD xs j) A4 c4 (R4.out.alloc _)).mono ?_
        rintro e w2 ⟨rfl, hb2⟩
        have BV : Below wr.heap.size wr w2 := (by repeat (first | exact Below.refl _ _ | apply below_alloc | apply below_drewN | apply below_drew | (refine below_set2 ?_ ?_; (first | (simp; done) | (simp; omega))) | (refine below_step ?_ hb2)))
        have hbk := (hb2.block wr.heap.size (by simp)).trans (heap_alloc_new wr _)
        have hv0 := blk_cell hbk 0 rfl
        have hv1 := blk_cell hbk 1 rfl
        have hv2 := blk_cell hbk 2 rfl
        have hv3 := blk_cell hbk 3 rfl
        have HB2 := Lib.hid (kept_below HB.out BV)
        have HO2 := Lib.hid (Own1.below HOy.out BV)
        have RY := Lib.hid (placeR4 hl4 (R4.out.below BV))
        clear hb2 BV hbk HB HOy hx1 hx2 hx3 hx4 R4 HO
        cases hpv : p (ndD xs j)
        · have HV := Lib.hid hpv
          go_wp2_with (refine wpList_storeT (T := Ty.place) (y := ndD xs j) (i := i) rfl (.tmp 33) (.tmp 32) 48 rfl (by kernel_rfl) rfl rfl HO2.out (by omega) rfl RY.out ?_; intro w3 HO3 HK3 hs3)
          have HB3 := Lib.hid (kept_step HB2.out HK3)
          have HO3' := Lib.hid HO3
          clear HO3 HK3 hs3
          go_wp2
          go_roundw
          case rel => exact ⟨i + 1, j + 1, ys.set i (ndD xs j), by go_num, by go_num, by omega, by omega, by rw [List.length_set]; exact hyl, HB3, HO3', filter_keep hyl HI.out hij hlt HV.out, fun m hm => by rw [List.getElem?_set_ne (by omega)]; exact HJ.out m (by omega)⟩
          case measure => simp [intOf]; omega
        · have HV := Lib.hid hpv
          go_wp2
          go_roundw
          case rel => exact ⟨i, j + 1, ys, rfl, by go_num, by omega, by omega, hyl, HB2, HO2, by show _ = _; rw [HI.out]; exact (filter_skip hlt HV.out).symm, fun m hm => HJ.out m (by omega)⟩
          case measure => simp [intOf]; omega
      · obtain rfl : j = xs.length := by omega
        go_wp2_with (refine wpList_clearT (T := Ty.place) (i := i) rfl (.tmp 38) 30 rfl Try.underlying30 (z := .agg #[.int .i64 0, .int .i64 0, .int .i64 0, .slice none 0 0]) (fun w => by kernel_rfl) rfl (by decide) rfl HOy.out rfl (by omega) (by omega) ?_; intro w3 HO3 HK3 hs3)
        have HB3 := Lib.hid (kept_step HB.out HK3)
        have HO3' := Lib.hid HO3
        clear HO3 HK3 hs3
        go_wp2
        go_ret
        have e2 : ys.take i = xs.filter (fun x => !p x) := by rw [HI.out, List.take_length]
        rw [e2] at HO3'
        exact ⟨_, rfl, HO3'.out, kept_mono HB3.out (fun k _ hk => by rw [hk]; rfl)⟩
end Go.Proofs.Ytniceoinipffmaa
