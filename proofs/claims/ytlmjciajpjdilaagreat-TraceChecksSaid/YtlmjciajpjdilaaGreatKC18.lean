/- The law TraceChecks holds: whatever the input, it answers true, and each argument reads afterwards as it read before. -/
import Derived.Test.YtlmjciajpjdilaaGreatKC1
import Derived.Deep.Slices
import Derived.Test.YtlmjciajpjdilaaGreatRows
import Derived.Test.YtlmjciajpjdilaaGreatKC17
import Derived.WalkKit
import Derived.ProofKit
import Derived.OpenShut
import Derived.ShutString
import Derived.ChangeOld
import Derived.Below
import Derived.SizedLaws
import Derived.Lib.SmallJoins

section
namespace Go.Proofs.YtlmjciajpjdilaaGreat
open Go.RowKit Go.ChangeShapes Go.WideShapes
set_option linter.unusedVariables false
set_option linter.unusedSimpArgs false

/-- What reads by type t is a T. -/
def Opens {α : Type} (P : Program) (T : Ty α) (t : TypeId) : Prop := ∀ (H : Type) (enc : TypeId × Value → H) (w : World) (base : Nat) (spare : Nat → Bool) (held : Bool) (fuel : Nat) (cs : List Value) (x : DataW H × List MemPlace),
  DataW.trod enc P w base spare held fuel t cs = some x → ∃ a : α, T.R (fun _ => True) w a cs

section
variable {P : Program} {α β : Type}
theorem Opens.int {t : TypeId} {k : IntKind} (ht : P.underlying t = some (.int k)) : Opens P (Ty.int k) t := fun H enc w base spare held fuel cs x h => by
  obtain ⟨n, rfl, _⟩ := DataW.trod_int ht h
  exact ⟨n, rfl⟩
theorem Opens.slice [Inhabited α] {T : Ty α} {t e : TypeId} (ht : P.underlying t = some (.slice e)) (hs : P.cellsOf e = T.sz) (ho : Opens P T e) : Opens P (Ty.slice T) t := fun H enc w base spare held fuel cs x h => by
  rcases Deep.open_slice ht h with ⟨rfl, _⟩ | ⟨a, len, cap, m, n, D, Pl, rfl, hb, hl, hm, hmm, _, hx⟩
  · exact ⟨[], none, 0, rfl, Nat.le_refl _, Row.nil _ _ _ _⟩
  · have hlm : len ≤ m := by rw [hmm]; split <;> omega
    obtain ⟨f, hf⟩ := Deep.choose_lt (α := α) (n := len) (p := fun i y => ∃ cs', T.R (fun _ => True) w y cs' ∧ CellsAt w a (i * T.sz) cs') (fun i hi => by
      obtain ⟨cs', h1, h2⟩ := hx i (by omega)
      rw [hs] at h1
      obtain ⟨y, hy⟩ := ho H enc w base spare held n cs' _ h2
      obtain ⟨_, hlen, hc⟩ := World.cells?_some h1
      refine ⟨y, cs', hy, fun j u hu => ?_⟩
      have := hc j (by have := (List.getElem?_eq_some_iff.1 hu).1; omega)
      rw [← add_add, this, hu])
    have hlen : ((List.range len).map f).length = len := by simp
    refine ⟨(List.range len).map f, some a, cap, by rw [hlen], by rw [hlen]; exact hl, by rw [hlen]; simp only [maxLen] at hm; omega, fun _ => ⟨a, rfl, trivial, fun i y hy => ?_⟩⟩
    have hi : i < len := by have := (List.getElem?_eq_some_iff.1 hy).1; rwa [hlen] at this
    obtain ⟨cs', h1, h2⟩ := hf i hi
    have e : y = f i := by simp [hi] at hy; exact hy.symm
    rw [e]
    exact ⟨cs', h1, h2⟩
theorem Opens.pair {T : Ty α} {U : Ty β} {t : TypeId} {f0 f1 : Field} (ht : P.underlying t = some (.struct #[f0, f1])) (hs : P.cellsOf t = T.sz + U.sz) (h0 : f0.offset = 0) (h1 : f1.offset = T.sz)
    (c0 : P.cellsOf f0.type = T.sz) (c1 : P.cellsOf f1.type = U.sz) (o0 : Opens P T f0.type) (o1 : Opens P U f1.type) : Opens P (Ty.pair T U) t := fun H enc w base spare held fuel cs x h => by
  obtain ⟨xs, n, rfl, _, hl, hxl, hf⟩ := DataW.trod_struct ht h
  have g0 := hf 0 f0 rfl
  have g1 := hf 1 f1 rfl
  rw [h0, c0, List.drop_zero] at g0
  rw [h1, c1] at g1
  rw [hs] at hl
  match xs, hxl with
  | [y0, y1], _ =>
    obtain ⟨a, ha⟩ := o0 H enc w base spare held n _ y0 (by simpa using g0)
    obtain ⟨b, hb⟩ := o1 H enc w base spare held n _ y1 (by simpa using g1)
    refine ⟨(a, b), cs.take T.sz, (cs.drop T.sz).take U.sz, ?_, ha, hb⟩
    rw [List.take_of_length_le (l := cs.drop T.sz) (by rw [List.length_drop]; omega), List.take_append_drop]
theorem Opens.of_eq {T U : Ty α} {t : TypeId} (h : ∀ w x cs, T.R (fun _ => True) w x cs → U.R (fun _ => True) w x cs) (ho : Opens P T t) : Opens P U t := fun H enc w base spare held fuel cs x hx => by
  obtain ⟨a, ha⟩ := ho H enc w base spare held fuel cs x hx
  exact ⟨a, h w a cs ha⟩
theorem Opens.pt {t : TypeId} {f0 f1 : Field} (ht : P.underlying t = some (.struct #[f0, f1])) (hs : P.cellsOf t = 2) (h0 : f0.offset = 0) (h1 : f1.offset = 1)
    (c0 : P.cellsOf f0.type = 1) (c1 : P.cellsOf f1.type = 1) (o0 : P.underlying f0.type = some (.int .i64)) (o1 : P.underlying f1.type = some (.int .i64)) : Opens P Ty.pt t :=
  Opens.of_eq (T := Ty.pair (Ty.int .i64) (Ty.int .i64)) (fun w x cs h => by obtain ⟨c1, c2, rfl, h1, h2⟩ := h; rw [show c1 = _ from h1, show c2 = _ from h2]; rfl) (Opens.pair ht hs h0 h1 c0 c1 (Opens.int o0) (Opens.int o1))
theorem Opens.sg {t : TypeId} {f0 f1 : Field} (ht : P.underlying t = some (.struct #[f0, f1])) (hs : P.cellsOf t = 4) (h0 : f0.offset = 0) (h1 : f1.offset = 2)
    (c0 : P.cellsOf f0.type = 2) (c1 : P.cellsOf f1.type = 2) (o0 : Opens P Ty.pt f0.type) (o1 : Opens P Ty.pt f1.type) : Opens P Ty.sg t :=
  Opens.of_eq (T := Ty.pair Ty.pt Ty.pt) (fun w x cs h => by obtain ⟨c1, c2, rfl, h1, h2⟩ := h; rw [show c1 = _ from h1, show c2 = _ from h2]; rfl) (Opens.pair ht hs h0 h1 c0 c1 o0 o1)
/-- A slice that came as an argument. -/
theorem Opens.arg [Inhabited α] {T : Ty α} {t e : TypeId} (ht : P.underlying t = some (.slice e)) (hs : P.cellsOf e = T.sz) (ho : Opens P T e) {H : Type} {enc : TypeId × Value → H} {w : World} {base : Nat} {spare : Nat → Bool} {held : Bool} {A : Option Addr} {n c : Nat} {d : DataW H} {ps : List MemPlace}
    (h : DataW.Trod enc P w base spare held t (.slice A n c) d ps) : ∃ xs : List α, n = xs.length ∧ Row T (fun _ => True) w A xs := by
  obtain ⟨fuel, hf⟩ := h
  obtain ⟨xs, A', c', e1, _, hr⟩ := Opens.slice ht hs ho H enc w base spare held fuel _ _ hf
  simp only [Value.cells, List.cons.injEq, Value.slice.injEq, and_true] at e1
  obtain ⟨rfl, rfl, rfl⟩ := e1
  exact ⟨xs, rfl, hr⟩
/-- A point that came as an argument. -/
theorem Opens.ptArg {t : TypeId} {fs : Array Field} (hs : P.underlying t = some (.struct fs)) (ho : Opens P Ty.pt t) {H : Type} {enc : TypeId × Value → H} {w : World} {base b0 : Nat} {spare : Nat → Bool} {held : Bool} {r : Reach} {v : Value} {d : DataW H} {ps : List MemPlace}
    (hv : Value.okWide P w r b0 t v) (h : DataW.Trod enc P w base spare held t v d ps) : ∃ x y : Int, v = .agg #[.int .i64 x, .int .i64 y] := by
  obtain ⟨cs, rfl, hsz⟩ := okWide_struct hs hv
  obtain ⟨fuel, hf⟩ := h
  obtain ⟨a, ha⟩ := ho H enc w base spare held fuel _ _ hf
  have e : cs.toList = [.int .i64 a.1, .int .i64 a.2] := ha
  refine ⟨a.1, a.2, ?_⟩
  have := congrArg List.toArray e
  rw [Array.toArray_toList] at this
  rw [this]
end
end Go.Proofs.YtlmjciajpjdilaaGreat
end

section
namespace Go.Proofs.YtlmjciajpjdilaaGreat.traceChecks
open Go.ChangeShapes Go.WideShapes Go.ChangeAt Go.RowKit
set_option linter.unusedVariables false
set_option linter.unusedSimpArgs false
theorem own : ownKnob Tryz.prog.godebug = none := by kernel_rfl
theorem laidOut : laidOutB Tryz.prog = true := by kernel_rfl
theorem opens0 : Opens Tryz.prog Ty.sg 32 := Opens.sg Tryz.underlying32 (by kernel_rfl) rfl rfl (by kernel_rfl) (by kernel_rfl) (Opens.pt Tryz.underlying24 (by kernel_rfl) rfl rfl (by kernel_rfl) (by kernel_rfl) Tryz.underlying3 Tryz.underlying3) (Opens.pt Tryz.underlying24 (by kernel_rfl) rfl rfl (by kernel_rfl) (by kernel_rfl) Tryz.underlying3 Tryz.underlying3)
theorem opens1 : Opens Tryz.prog Ty.pt 24 := Opens.pt Tryz.underlying24 (by kernel_rfl) rfl rfl (by kernel_rfl) (by kernel_rfl) Tryz.underlying3 Tryz.underlying3
set_option maxRecDepth 100000 in
theorem lifted (os : Os) (started : os.Started) (H : Type) (enc : TypeId × Value → H) :
    ReturnsInHanded {} Tryz.checked os 3 .any (Rows.traceChecksSpec.pre6 enc Tryz.prog Tryz.f3 Rows.traceChecksRow.domain false) (Rows.traceChecksSpec.post enc Tryz.prog Tryz.f3 false true false false) := by
  refine returnsInHanded_of_change_sized (C := Tryz.checked) own started (by kernel_rfl) Tryz.func3
    (ChangeSpec.witness6 (enc := enc) (C := Tryz.checked) false ⟨#[], #[.slice none 0 0, .agg #[.int .i64 0, .int .i64 0]], []⟩ 8 (by kernel_rfl) (by kernel_rfl) (by kernel_rfl) (by kernel_rfl)) ?_
  intro W base args ds gs before hval0 hW hcnd hsz0 _
  have hval : ∀ (j : Nat) t v, Tryz.f3.params[j]? = some t → args[j]? = some v → Value.okWide Tryz.prog W .any base t v := hval0
  have hW' := hW
  obtain ⟨p, q, hA0, hV, rfl, hfz, hnd⟩ := hW
  have hA : DataW.TrodAll enc Tryz.prog W 0 (fun _ => true) true Tryz.f3.params.toList args.toList ds p := hA0
  rw [Tryz.params3] at hA hval
  obtain ⟨v0, vs0, d0, ds0, p0, q0, hargs, rfl, rfl, h0, r0⟩ := trodAll_cons hA
  obtain ⟨v1, vs1, d1, ds1, p1, q1, rfl, rfl, rfl, h1, r1⟩ := trodAll_cons r0
  obtain ⟨rfl, rfl, rfl⟩ := trodAll_nil r1
  obtain rfl : args = #[v0, v1] := by cases args; simp_all
  obtain ⟨rfl, rfl⟩ := trodVars_none hV
  obtain ⟨a0, len0, cap0, rfl⟩ := okWide_slice Tryz.underlying22 (hval 0 22 v0 rfl rfl)
  have k0 := h0
  have lt0 : ∀ x ∈ p0, x.block < W.heap.size := by obtain ⟨m, hm⟩ := k0; exact DataW.trod_lt m _ _ _ hm
  obtain ⟨xs0, hn0, hr0⟩ := Opens.arg (T := Ty.sg) Tryz.underlying22 (by kernel_rfl) opens0 h0
  have k1 := h1
  have lt1 : ∀ x ∈ p1, x.block < W.heap.size := by obtain ⟨m, hm⟩ := k1; exact DataW.trod_lt m _ _ _ hm
  obtain ⟨x1, y1, rfl⟩ := Opens.ptArg Tryz.underlying24 opens1 (hval 1 24 v1 rfl rfl) h1
  clear hA0 hval0 hsz0
  refine (law21_TraceChecks xs0 _ _ _ (x1, y1) W hr0 hn0).mono fun e W' ⟨he, bel⟩ => ?_
  subst he
  exact ⟨_, rfl, _, _, _, [], _, [], hW', trodAll_mk1 (shut_bool Tryz.underlying4 _), (trodAll_cons_mk (Below.trod laidOut (by kernel_rfl) (of_decide_eq_true (by kernel_rfl)) k0 bel lt0) (trodAll_cons_mk (Below.trod laidOut (by kernel_rfl) (of_decide_eq_true (by kernel_rfl)) k1 bel lt1) trodAll_mk0)), rfl, bel.frame _, fun h => by cases h⟩
theorem over : Rows.traceChecksRow.holds Tryz.pinned (OpenSpec.ofChange Rows.traceChecksSpec) :=
  OpenClaim.holds_of_wide 3 Tryz.f3 rfl rfl rfl rfl rfl rfl rfl ⟨rfl, rfl, rfl, rfl, rfl⟩ rfl rfl rfl rfl rfl (by kernel_rfl) Tryz.func3 (by kernel_rfl)
    (of_decide_eq_true (by kernel_rfl)) (by unfold Func.isWrapper; first | (rw [if_pos (by decide +kernel)]; kernel_rfl) | (rw [if_neg (by decide +kernel)]; exact ⟨rfl, rfl⟩))
    (fun os started H enc _ => lifted os started H enc)
theorem proved : Rows.TraceChecksSaid := over
#print axioms proved
end Go.Proofs.YtlmjciajpjdilaaGreat.traceChecks
namespace Go.Proofs.YtlmjciajpjdilaaGreat
theorem traceChecks_holds : Rows.TraceChecksSaid := traceChecks.proved
end Go.Proofs.YtlmjciajpjdilaaGreat
end
