/- Words of this session's own: arguments that read as data, opened as this session's kinds of values. No program is in sight. -/
import Derived.Test.YtlmjciajpjdilaaOwn
import Derived.Deep.Slices
namespace Go.Proofs.Ytlmjciajpjdilaa
open Go.RowKit Go.ChangeShapes Go.WideShapes
set_option linter.unusedVariables false
set_option linter.unusedSimpArgs false

/-- What reads by type t is a T. -/
def Opens {α : Type} (P : Program) (T : Ty α) (t : TypeId) : Prop := ∀ (H : Type) (enc : TypeId × Value → H) (w : World) (base : Nat) (spare : Nat → Bool) (held : Bool) (fuel : Nat) (cs : List Value) (x : DataW H × List MemPlace),
  DataW.trod enc P w base spare held fuel t cs = some x → ∃ a : α, T.R (fun _ => True) w a cs

section
variable {P : Program} {α β : Type}
theorem Opens.int {t : TypeId} {k : IntKind} (ht : P.underlying t = some (.int k)) : Opens P (Ty.int k) t := fun H enc w base spare held fuel cs x h => by
  obtain ⟨n, rfl, _⟩ := DataW.trod_int ht h
  exact ⟨n, rfl⟩
theorem Opens.slice [Inhabited α] {T : Ty α} {t e : TypeId} (ht : P.underlying t = some (.slice e)) (hs : P.cellsOf e = T.sz) (ho : Opens P T e) : Opens P (Ty.slice T) t := fun H enc w base spare held fuel cs x h => by
  rcases Deep.open_slice ht h with ⟨rfl, _⟩ | ⟨a, len, cap, m, n, D, Pl, rfl, hb, hl, hm, hmm, _, hx⟩
  · exact ⟨[], none, 0, rfl, Nat.le_refl _, Row.nil _ _ _ _⟩
  · have hlm : len ≤ m := by rw [hmm]; split <;> omega
    obtain ⟨f, hf⟩ := Deep.choose_lt (α := α) (n := len) (p := fun i y => ∃ cs', T.R (fun _ => True) w y cs' ∧ CellsAt w a (i * T.sz) cs') (fun i hi => by
      obtain ⟨cs', h1, h2⟩ := hx i (by omega)
      rw [hs] at h1
      obtain ⟨y, hy⟩ := ho H enc w base spare held n cs' _ h2
      obtain ⟨_, hlen, hc⟩ := World.cells?_some h1
      refine ⟨y, cs', hy, fun j u hu => ?_⟩
      have := hc j (by have := (List.getElem?_eq_some_iff.1 hu).1; omega)
      rw [← add_add, this, hu])
    have hlen : ((List.range len).map f).length = len := by simp
    refine ⟨(List.range len).map f, some a, cap, by rw [hlen], by rw [hlen]; exact hl, by rw [hlen]; simp only [maxLen] at hm; omega, fun _ => ⟨a, rfl, trivial, fun i y hy => ?_⟩⟩
    have hi : i < len := by have := (List.getElem?_eq_some_iff.1 hy).1; rwa [hlen] at this
    obtain ⟨cs', h1, h2⟩ := hf i hi
    have e : y = f i := by simp [hi] at hy; exact hy.symm
    rw [e]
    exact ⟨cs', h1, h2⟩
theorem Opens.pair {T : Ty α} {U : Ty β} {t : TypeId} {f0 f1 : Field} (ht : P.underlying t = some (.struct #[f0, f1])) (hs : P.cellsOf t = T.sz + U.sz) (h0 : f0.offset = 0) (h1 : f1.offset = T.sz)
    (c0 : P.cellsOf f0.type = T.sz) (c1 : P.cellsOf f1.type = U.sz) (o0 : Opens P T f0.type) (o1 : Opens P U f1.type) : Opens P (Ty.pair T U) t := fun H enc w base spare held fuel cs x h => by
  obtain ⟨xs, n, rfl, _, hl, hxl, hf⟩ := DataW.trod_struct ht h
  have g0 := hf 0 f0 rfl
  have g1 := hf 1 f1 rfl
  rw [h0, c0, List.drop_zero] at g0
  rw [h1, c1] at g1
  rw [hs] at hl
  match xs, hxl with
  | [y0, y1], _ =>
    obtain ⟨a, ha⟩ := o0 H enc w base spare held n _ y0 (by simpa using g0)
    obtain ⟨b, hb⟩ := o1 H enc w base spare held n _ y1 (by simpa using g1)
    refine ⟨(a, b), cs.take T.sz, (cs.drop T.sz).take U.sz, ?_, ha, hb⟩
    rw [List.take_of_length_le (l := cs.drop T.sz) (by rw [List.length_drop]; omega), List.take_append_drop]
theorem Opens.of_eq {T U : Ty α} {t : TypeId} (h : ∀ w x cs, T.R (fun _ => True) w x cs → U.R (fun _ => True) w x cs) (ho : Opens P T t) : Opens P U t := fun H enc w base spare held fuel cs x hx => by
  obtain ⟨a, ha⟩ := ho H enc w base spare held fuel cs x hx
  exact ⟨a, h w a cs ha⟩
theorem Opens.pt {t : TypeId} {f0 f1 : Field} (ht : P.underlying t = some (.struct #[f0, f1])) (hs : P.cellsOf t = 2) (h0 : f0.offset = 0) (h1 : f1.offset = 1)
    (c0 : P.cellsOf f0.type = 1) (c1 : P.cellsOf f1.type = 1) (o0 : P.underlying f0.type = some (.int .i64)) (o1 : P.underlying f1.type = some (.int .i64)) : Opens P Ty.pt t :=
  Opens.of_eq (T := Ty.pair (Ty.int .i64) (Ty.int .i64)) (fun w x cs h => by obtain ⟨c1, c2, rfl, h1, h2⟩ := h; rw [show c1 = _ from h1, show c2 = _ from h2]; rfl) (Opens.pair ht hs h0 h1 c0 c1 (Opens.int o0) (Opens.int o1))
theorem Opens.sg {t : TypeId} {f0 f1 : Field} (ht : P.underlying t = some (.struct #[f0, f1])) (hs : P.cellsOf t = 4) (h0 : f0.offset = 0) (h1 : f1.offset = 2)
    (c0 : P.cellsOf f0.type = 2) (c1 : P.cellsOf f1.type = 2) (o0 : Opens P Ty.pt f0.type) (o1 : Opens P Ty.pt f1.type) : Opens P Ty.sg t :=
  Opens.of_eq (T := Ty.pair Ty.pt Ty.pt) (fun w x cs h => by obtain ⟨c1, c2, rfl, h1, h2⟩ := h; rw [show c1 = _ from h1, show c2 = _ from h2]; rfl) (Opens.pair ht hs h0 h1 c0 c1 o0 o1)
/-- A slice that came as an argument. -/
theorem Opens.arg [Inhabited α] {T : Ty α} {t e : TypeId} (ht : P.underlying t = some (.slice e)) (hs : P.cellsOf e = T.sz) (ho : Opens P T e) {H : Type} {enc : TypeId × Value → H} {w : World} {base : Nat} {spare : Nat → Bool} {held : Bool} {A : Option Addr} {n c : Nat} {d : DataW H} {ps : List MemPlace}
    (h : DataW.Trod enc P w base spare held t (.slice A n c) d ps) : ∃ xs : List α, n = xs.length ∧ Row T (fun _ => True) w A xs := by
  obtain ⟨fuel, hf⟩ := h
  obtain ⟨xs, A', c', e1, _, hr⟩ := Opens.slice ht hs ho H enc w base spare held fuel _ _ hf
  simp only [Value.cells, List.cons.injEq, Value.slice.injEq, and_true] at e1
  obtain ⟨rfl, rfl, rfl⟩ := e1
  exact ⟨xs, rfl, hr⟩
/-- A point that came as an argument. -/
theorem Opens.ptArg {t : TypeId} {fs : Array Field} (hs : P.underlying t = some (.struct fs)) (ho : Opens P Ty.pt t) {H : Type} {enc : TypeId × Value → H} {w : World} {base b0 : Nat} {spare : Nat → Bool} {held : Bool} {r : Reach} {v : Value} {d : DataW H} {ps : List MemPlace}
    (hv : Value.okWide P w r b0 t v) (h : DataW.Trod enc P w base spare held t v d ps) : ∃ x y : Int, v = .agg #[.int .i64 x, .int .i64 y] := by
  obtain ⟨cs, rfl, hsz⟩ := okWide_struct hs hv
  obtain ⟨fuel, hf⟩ := h
  obtain ⟨a, ha⟩ := ho H enc w base spare held fuel _ _ hf
  have e : cs.toList = [.int .i64 a.1, .int .i64 a.2] := ha
  refine ⟨a.1, a.2, ?_⟩
  have := congrArg List.toArray e
  rw [Array.toArray_toList] at this
  rw [this]
end
end Go.Proofs.Ytlmjciajpjdilaa
