/- Contracts of slices.Index at segments and points, of Contains and Equal at segments, of Clone at points; append of a row at a step of a region. -/
import Derived.Test.YtlmjciajpjdilaaTWhere
namespace Go.Proofs.Ytlmjciajpjdilaa
open Go.RowKit Go.Proofs.YtlmjciajpjdilaaW.PrintLast
set_option linter.unusedVariables false
set_option linter.unusedSimpArgs false

attribute [local go_sem high] eqPt eqSg
/-- append(v, ys...) at a step of a region that draws its order. -/
theorem step_row {P : Program} {ops : Array Oper} {o : Oper} {a : Act} {Q : Exit → Act → World → Prop} {K : Act → World → Prop} {E : Prop} {α : Type} (T : Ty α) {W : World} (base : Nat) (hgd : o.guard = none) (s x : Operand) (t e : TypeId) (z : Value) (bytes : Nat)
    (ho : o.op = .call { callee := .builtin .append, args := #[s, x], argTypes := #[t, t] })
    (ht : P.underlying t = some (.slice e)) (hinfo : (P.info? e).map (fun i => (i.zero, i.size, i.bytes)) = some (some z, T.sz, bytes)) (hz : z.cells.size = T.sz) (hb0 : 0 < bytes)
    (v : Value) (xs ys : List α) (A : Option Addr) (m c : Nat) (M : Nat → Prop) (hs : a.eval s = v) (hx : a.eval x = .slice A m c) (hm : m = ys.length)
    (hp : Row T (fun k => ¬ M k) W A ys) (HO : OwnR T e base M W v xs) (hbase : base ≤ W.heap.size) (hl : (xs.length + m) * bytes ≤ 140737488355328)
    (h : ∀ v1 w1, OwnR T e base (fun k => M k ∨ v1.ownBlock = some k) w1 v1 (xs ++ ys) → W.grownBy w1 v.ownBlock → (v1.ownBlock = v.ownBlock ∨ ∃ b, v1.ownBlock = some b ∧ W.heap.size ≤ b) → K (a.put o.dst v1) w1) :
    if Region.wanted o (yielded ops a.tmps) = true then Oper.wp P o a W K Q else E := by
  subst hm
  obtain ⟨h0, inner, hown, hr⟩ := HO
  obtain ⟨i0, hi, hzz⟩ := Option.map_eq_some_iff.1 hinfo
  simp only [Prod.mk.injEq] at hzz
  obtain ⟨hz0, hz1, hz2⟩ := hzz
  have hlen : xs.length + ys.length ≤ 140737488355328 := Nat.le_trans (Nat.le_mul_of_pos_right _ hb0) hl
  have hw : Region.wanted o (yielded ops a.tmps) = true := by simp [Region.wanted, hgd]
  rcases Nat.eq_zero_or_pos ys.length with hy | hy
  · have hy := List.eq_nil_of_length_eq_zero hy
    subst hy
    have hrun : (Builtin.append_ #[t, t] o.type #[v, .slice A 0 c]).run P W = .ok v W := by
      rcases hown.2 with ⟨rfl, hn⟩ | ⟨g, cap, cur, rfl, _, _, hnc, _⟩ <;> rcases A with _ | ad
      · simp [Builtin.append_, run_underlying ht, sizeOf, typeInfo, hi, Builtin.lenOf, Builtin.firstCells]
      · simp [Builtin.append_, run_underlying ht, sizeOf, typeInfo, hi, Builtin.lenOf, Builtin.firstCells, loadCells, loadCellsFrom]
      · simp [Builtin.append_, run_underlying ht, sizeOf, typeInfo, hi, Builtin.lenOf, Builtin.firstCells, hnc, storeCells]
      · simp [Builtin.append_, run_underlying ht, sizeOf, typeInfo, hi, Builtin.lenOf, Builtin.firstCells, hnc, storeCells, loadCells, loadCellsFrom]
    rw [if_pos hw]
    unfold Oper.wp execOp
    simp only [ho, resolve, invoke, builtin, Sem.run_bind, Sem.run_pure, Result.andThen_ok, List.map_toArray, List.map_cons, List.map_nil, hs, hx, hrun, List.length_nil]
    exact h v W (OwnR.appended (ys := []) hr rfl (by simpa using hown) h0 (grown_refl _ _) (.inl rfl)) (grown_refl _ _) (.inl rfl)
  · rcases A with _ | ad
    · obtain ⟨ad, e, _⟩ := hp.2 hy
      cases e
    obtain ⟨cs, hcs, hk⟩ := hp.reps
    refine step_append_lies (w := W) hgd s x t ho base e i0 z T.sz bytes ht hi hz0 hz1 hz2 hz T.pos v xs.length inner hs hown ad ys.length c cs hx hcs.len hk hcs.one hy (by simp only [maxLen]; omega) hl hbase _ rfl ?_
    intro g cap w1 hown1 hg hat _
    have hat' : (Value.slice (some ⟨g, 0, none⟩) (xs.length + ys.length) cap).ownBlock = v.ownBlock ∨ ∃ b, (Value.slice (some ⟨g, 0, none⟩) (xs.length + ys.length) cap).ownBlock = some b ∧ W.heap.size ≤ b := by
      rcases hat with hat | hat
      · exact .inl (by rw [hat]; rfl)
      · exact .inr ⟨_, rfl, by rw [hat]; exact Nat.le_refl _⟩
    exact h _ w1 (OwnR.appended hr hcs hown1 h0 hg hat') hg hat'
def ixZ {α : Type} [DecidableEq α] (xs : List α) (x : α) : Int := if x ∈ xs then (xs.idxOf x : Int) else -1
theorem ixZ_none {α : Type} [DecidableEq α] {xs : List α} {x : α} (h : x ∉ xs) : ixZ xs x = -1 := if_neg h
theorem ixZ_at {α : Type} [DecidableEq α] {xs : List α} {x d : α} {k : Nat} (hk : k < xs.length) (h0 : x ∉ xs.take k) (h : x = xs.getD k d) : ixZ xs x = k := by
  have e : xs = xs.take k ++ x :: xs.drop (k + 1) := by
    rw [h]
    have : xs.getD k d = xs[k] := by simp [hk]
    rw [this, ← List.drop_eq_getElem_cons hk, List.take_append_drop]
  have hm : x ∈ xs := by rw [e]; simp
  rw [ixZ, if_pos hm]
  have : xs.idxOf x = k := by
    rw [e, List.idxOf_append, if_neg h0]
    simp; omega
  rw [this]
theorem not_mem_snoc {α : Type} [DecidableEq α] {xs : List α} {x d : α} {k : Nat} (hk : k < xs.length) (h0 : x ∉ xs.take k) (h : ¬ x = xs.getD k d) : x ∉ xs.take (k + 1) := by
  rw [take_snoc xs k d hk]; simp [h0]; simpa using h
theorem ixZ_mem {α : Type} [DecidableEq α] (xs : List α) (x : α) : decide (0 ≤ ixZ xs x) = decide (x ∈ xs) := by
  unfold ixZ
  by_cases h : x ∈ xs
  · rw [if_pos h]; simp [h]
  · rw [if_neg h]; simp [h]
theorem Index_sg {ok : Nat → Prop} (xs : List Sg) (A : Option Addr) (n c : Nat) (x : Sg) (w : World) (hr : Row Ty.sg ok w A xs) (hn : n = xs.length) :
    Calls Try.prog 40 #[.slice A n c, sgA x] w fun e w' => e = .returned (.int .i64 (ixZ xs x)) ∧ Below w.heap.size w w' := by
  subst hn
  have HR := Lib.hid hr
  have hmx := hr.len
  clear hr
  go_enter Try.func40, Try.ntmps40
  go_wp2
  go_loopw [8] (fun i wr => ∃ k : Nat, k ≤ xs.length ∧ i = .int .i64 k ∧ wr.heap[w.heap.size]? = some (.cells #[.int .i64 x.1.1, .int .i64 x.1.2, .int .i64 x.2.1, .int .i64 x.2.2] 27 (0, 0)) ∧ Hid (Below w.heap.size w wr) ∧ Hid (x ∉ xs.take k)) (fun i _ => xs.length - (intOf i).toNat)
  case atStart => exact ⟨0, Nat.zero_le _, rfl, heap_alloc_new _ _, below_alloc (Below.refl _ _) _, by simp [Hid]⟩
  case round =>
    obtain ⟨k, hk, rfl, HX, HB, HN⟩ := hrel
    have hsz := lt_of_block HX
    by_cases hlt : k < xs.length
    · have HRk := Lib.hid (HR.out.below HB.out)
      obtain ⟨ad, rfl, hx0, hx1, hx2, hx3⟩ := HRk.out.sg_at k hlt
      have hc0 := blk_cell HX 0 rfl
      have hc1 := blk_cell HX 1 rfl
      have hc2 := blk_cell HX 2 rfl
      have hc3 := blk_cell HX 3 rfl
      by_cases hq : x = sgD xs k
      · have hd := (sgB x (sgD xs k)).trans (decide_eq_true hq)
        have HE : Hid (ixZ xs x = k) := ixZ_at (d := ((0, 0), (0, 0))) hlt HN.out hq
        clear hq HN
        go_wp2_with fail
        go_quiet (fail)
        go_wp2
        go_ret
        exact ⟨ret_int HE.out.symm, (by repeat (first | exact Below.refl _ _ | apply below_alloc | apply below_drewN | apply below_drew | (refine below_set2 ?_ ?_; (first | (simp; done) | (simp; omega))) | (refine below_step ?_ HB.out)))⟩
      · have hd := (sgB x (sgD xs k)).trans (decide_eq_false hq)
        have HN2 := Lib.hid (not_mem_snoc (d := ((0, 0), (0, 0))) hlt HN.out hq)
        clear hq HN
        go_wp2_with fail
        go_quiet (fail)
        go_wp2
        go_roundw
        case rel => exact ⟨k + 1, by omega, by go_num, HX, (by repeat (first | exact Below.refl _ _ | apply below_alloc | apply below_drewN | apply below_drew | (refine below_set2 ?_ ?_; (first | (simp; done) | (simp; omega))) | (refine below_step ?_ HB.out))), HN2⟩
        case measure => simp [intOf]; omega
    · obtain rfl : k = xs.length := by omega
      have HE : Hid (ixZ xs x = -1) := ixZ_none (by have := HN.out; rwa [List.take_length] at this)
      clear HN
      go_wp2
      go_ret
      exact ⟨ret_int HE.out.symm, HB.out⟩
theorem Index_pt {ok : Nat → Prop} (xs : List Pt) (A : Option Addr) (n c : Nat) (x : Pt) (w : World) (hr : Row Ty.pt ok w A xs) (hn : n = xs.length) :
    Calls Try.prog 25 #[.slice A n c, ptA x] w fun e w' => e = .returned (.int .i64 (ixZ xs x)) ∧ Below w.heap.size w w' := by
  subst hn
  have HR := Lib.hid hr
  have hmx := hr.len
  clear hr
  go_enter Try.func25, Try.ntmps25
  go_wp2
  go_loopw [8] (fun i wr => ∃ k : Nat, k ≤ xs.length ∧ i = .int .i64 k ∧ wr.heap[w.heap.size]? = some (.cells #[.int .i64 x.1, .int .i64 x.2] 25 (0, 0)) ∧ Hid (Below w.heap.size w wr) ∧ Hid (x ∉ xs.take k)) (fun i _ => xs.length - (intOf i).toNat)
  case atStart => exact ⟨0, Nat.zero_le _, rfl, heap_alloc_new _ _, below_alloc (Below.refl _ _) _, by simp [Hid]⟩
  case round =>
    obtain ⟨k, hk, rfl, HX, HB, HN⟩ := hrel
    have hsz := lt_of_block HX
    by_cases hlt : k < xs.length
    · have HRk := Lib.hid (HR.out.below HB.out)
      obtain ⟨ad, rfl, hx0, hx1⟩ := HRk.out.pt_at k hlt
      have hc0 := blk_cell HX 0 rfl
      have hc1 := blk_cell HX 1 rfl
      by_cases hq : x = ptD xs k
      · have hd := (ptB x (ptD xs k)).trans (decide_eq_true hq)
        have HE : Hid (ixZ xs x = k) := ixZ_at (d := (0, 0)) hlt HN.out hq
        clear hq HN
        go_wp2_with fail
        go_quiet (fail)
        go_wp2
        go_ret
        exact ⟨ret_int HE.out.symm, (by repeat (first | exact Below.refl _ _ | apply below_alloc | apply below_drewN | apply below_drew | (refine below_set2 ?_ ?_; (first | (simp; done) | (simp; omega))) | (refine below_step ?_ HB.out)))⟩
      · have hd := (ptB x (ptD xs k)).trans (decide_eq_false hq)
        have HN2 := Lib.hid (not_mem_snoc (d := (0, 0)) hlt HN.out hq)
        clear hq HN
        go_wp2_with fail
        go_quiet (fail)
        go_wp2
        go_roundw
        case rel => exact ⟨k + 1, by omega, by go_num, HX, (by repeat (first | exact Below.refl _ _ | apply below_alloc | apply below_drewN | apply below_drew | (refine below_set2 ?_ ?_; (first | (simp; done) | (simp; omega))) | (refine below_step ?_ HB.out))), HN2⟩
        case measure => simp [intOf]; omega
    · obtain rfl : k = xs.length := by omega
      have HE : Hid (ixZ xs x = -1) := ixZ_none (by have := HN.out; rwa [List.take_length] at this)
      clear HN
      go_wp2
      go_ret
      exact ⟨ret_int HE.out.symm, HB.out⟩
theorem Contains_sg {ok : Nat → Prop} (xs : Sgs) (A : Option Addr) (n c : Nat) (x : Sg) (w : World) (hr : Row Ty.sg ok w A xs) (hn : n = xs.length) :
    Calls Try.prog 23 #[.slice A n c, sgA x] w fun e w' => e = .returned (.bool (decide (x ∈ xs))) ∧ Below w.heap.size w w' := by
  subst hn
  have HR := Lib.hid hr
  clear hr
  go_enter Try.func23, Try.ntmps23
  go_wp2_with fail
  refine (Index_sg xs A _ c x _ (HR.out.alloc _) rfl).mono ?_
  rintro e w1 ⟨rfl, hb1⟩
  go_wp2
  go_ret
  exact ⟨ret_bool ((ixZ_mem xs x).trans (decide_eq_decide.2 Iff.rfl)), (by repeat (first | exact Below.refl _ _ | apply below_alloc | apply below_drewN | apply below_drew | (refine below_set2 ?_ ?_; (first | (simp; done) | (simp; omega))) | (refine below_step ?_ hb1)))⟩
theorem Equal_sg {ok ok' : Nat → Prop} (a b : Sgs) (A B : Option Addr) (n m c d : Nat) (w : World) (ha : Row Ty.sg ok w A a) (hb : Row Ty.sg ok' w B b) (hn : n = a.length) (hm : m = b.length) :
    Calls Try.prog 34 #[.slice A n c, .slice B m d] w fun e w' => e = .returned (.bool (decide (a = b))) ∧ Below w.heap.size w w' := by
  subst hn hm
  have hl1 := ha.len
  have hl2 := hb.len
  by_cases hl : a.length = b.length
  · have HL := Lib.hid hl
    have hlb : ((a.length : Int) != (b.length : Int)) = false := by simp [hl]
    have hlb2 : (a.length == b.length) = true := by simp [hl]
    clear hl
    go_enter Try.func34, Try.ntmps34
    go_wp2
    go_loopw [13] (fun i wr => ∃ k : Nat, k ≤ a.length ∧ i = .int .i64 k ∧ Below w.heap.size w wr ∧ Hid (a.take k = b.take k)) (fun i _ => a.length - (intOf i).toNat)
    case atStart => exact ⟨0, Nat.zero_le _, rfl, Below.refl _ _, by simp [Hid]⟩
    case round =>
      obtain ⟨k, hk, rfl, hbl, hall⟩ := hrel
      by_cases hlt : k < a.length
      · have hlt2 : k < b.length := by have := HL.out; omega
        obtain ⟨ad, rfl, hx0, hx1, hx2, hx3⟩ := (ha.below hbl).sg_at k hlt
        obtain ⟨bd, rfl, hy0, hy1, hy2, hy3⟩ := (hb.below hbl).sg_at k hlt2
        by_cases hq : sgD a k = sgD b k
        · have hd := (sgB (sgD a k) (sgD b k)).trans (decide_eq_true hq)
          have HQ := Lib.hid hq
          clear hq
          go_wp2_with fail
          go_quiet (fail)
          go_wp2
          go_roundw
          case rel => exact ⟨k + 1, by omega, by go_num, (by repeat (first | exact Below.refl _ _ | apply below_alloc | apply below_drewN | apply below_drew | (refine below_set2 ?_ ?_; (first | (simp; done) | (simp; omega))) | (refine below_step ?_ hbl))), take_eq_step ((0, 0), (0, 0)) hall.out hlt hlt2 HQ.out⟩
          case measure => simp [intOf]; omega
        · have hd := (sgB (sgD a k) (sgD b k)).trans (decide_eq_false hq)
          have HQ := Lib.hid hq
          clear hq
          go_wp2_with fail
          go_quiet (fail)
          go_wp2
          go_ret
          exact ⟨ret_bool (by rw [eq_comm, decide_eq_false_iff_not]; exact take_ne ((0, 0), (0, 0)) HQ.out), (by repeat (first | exact Below.refl _ _ | apply below_alloc | apply below_drewN | apply below_drew | (refine below_set2 ?_ ?_; (first | (simp; done) | (simp; omega))) | (refine below_step ?_ hbl)))⟩
      · go_wp2
        go_ret
        refine ⟨ret_bool ?_, hbl⟩
        have := hall.out
        rw [List.take_of_length_le (by omega), List.take_of_length_le (by have := HL.out; omega)] at this
        simp [this]
  · have HL := Lib.hid hl
    have hlb : ((a.length : Int) != (b.length : Int)) = true := by simp; omega
    have hlb2 : (a.length == b.length) = false := by simpa using hl
    clear hl
    go_enter Try.func34, Try.ntmps34
    go_wp2
    go_ret
    exact ⟨ret_bool (by rw [eq_comm, decide_eq_false_iff_not]; exact fun h => HL.out (by rw [h])), Below.refl _ _⟩
theorem Clone_pt {ok : Nat → Prop} (rs : Pts) (A : Option Addr) (n c : Nat) (w : World) (hr : Row Ty.pt ok w A rs) (hn : n = rs.length) (hlen : rs.length ≤ 1000000) :
    Calls Try.prog 27 #[.slice A n c] w fun e w' => ∃ v, e = .returned v ∧ Own1 Ty.pt 25 w.heap.size w' v rs ∧ Below w.heap.size w w' := by
  subst hn
  have hr0 : Row Ty.pt (fun k => k < w.heap.size) w A rs := hr.bnd.mono (fun k hk => hk.2)
  clear hr
  have heq : ∀ (w : World) (a : Option Addr) (n c n' c' : Nat), (binOp .eql 36 (.slice a n c) (.slice none n' c')).run Try.prog w = .ok (.bool a.isNone) w := fun w a n c n' c' => Lib.run_eql_slice_nil w _ _ a n c n' c' Try.underlying36
  go_enter Try.func27, Try.ntmps27
  rcases A with _ | ad
  · have hx : rs = [] := by
      rcases Nat.eq_zero_or_pos rs.length with hy | hy
      · exact List.eq_nil_of_length_eq_zero hy
      · obtain ⟨ad, e, _⟩ := hr0.2 hy
        cases e
    subst hx
    go_wp2
    go_ret
    exact ⟨_, rfl, OwnR.nil _ _ _ _ _, Below.refl _ _⟩
  · have H0 : OwnR Ty.pt 25 w.heap.size (fun k => k = w.heap.size) (w.alloc (.cells #[] 25)) (.slice (some ⟨w.heap.size, 0, none⟩) 0 0) [] :=
      ⟨fun k hk => by simp [Value.ownBlock] at hk; exact hk.symm, [], by have := World.ownsRow_made (base := w.heap.size) (size := 2) (e := 25) w #[] 0 (Nat.le_refl _) (by decide) rfl; simpa [show Ty.pt.sz = 2 from rfl] using this, rfl⟩
    have R0 : Row Ty.pt (fun k => ¬ k = w.heap.size) (w.alloc (.cells #[] 25)) (some ad) rs := (hr0.alloc _).mono (fun k hk e => by omega)
    have h1000 : (([] : Pts).length + rs.length) * 16 ≤ 140737488355328 := by simp; omega
    clear hr0
    go_wp2_with (first | (at_builtin; refine app_row Ty.pt (W := w.alloc (.cells #[] 25)) w.heap.size rfl _ _ 36 25 _ 16 rfl Try.underlying36 infoPt rfl (by decide) _ [] rs (some ad) _ c _ rfl rfl rfl R0 H0 (by simp) h1000 ?_; intro v1 w1 HO1 hg1 hat1))
    have hb1 : Below w.heap.size w w1 := below_grown (below_alloc (Below.refl _ _) _) hg1 (fun b e => by cases e; exact Nat.le_refl _)
    have HO2 := Lib.hid (Own1.of HO1)
    clear HO1 hg1 hat1
    go_ret
    exact ⟨_, rfl, HO2.out, hb1⟩
end Go.Proofs.Ytlmjciajpjdilaa
