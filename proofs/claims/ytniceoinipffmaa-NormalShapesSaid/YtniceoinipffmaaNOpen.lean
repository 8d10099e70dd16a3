/- Words of this session's own: a dataset and a way that came as arguments, opened. -/
import Derived.Test.YtniceoinipffmaaOpen
import Derived.Test.YtniceoinipffmaaNTy
import Derived.Test.YtniceoinipffmaaProg
namespace Go.Proofs.Ytniceoinipffmaa
open Go.RowKit Go.ChangeShapes Go.WideShapes
set_option linter.unusedVariables false
set_option linter.unusedSimpArgs false

section
variable {P : Program} {α β γ : Type}
theorem Opens.str {t : TypeId} (ht : P.underlying t = some .string) : Opens P Ty.str t := fun H enc w base spare held fuel cs x h => by
  obtain ⟨s, rfl, _⟩ := DataW.trod_string ht h
  exact ⟨s, rfl⟩
theorem Opens.triple {T : Ty α} {U : Ty β} {V : Ty γ} {t : TypeId} {f0 f1 f2 : Field} (ht : P.underlying t = some (.struct #[f0, f1, f2])) (hs : P.cellsOf t = T.sz + (U.sz + V.sz)) (h0 : f0.offset = 0) (h1 : f1.offset = T.sz) (h2 : f2.offset = T.sz + U.sz)
    (c0 : P.cellsOf f0.type = T.sz) (c1 : P.cellsOf f1.type = U.sz) (c2 : P.cellsOf f2.type = V.sz) (o0 : Opens P T f0.type) (o1 : Opens P U f1.type) (o2 : Opens P V f2.type) : Opens P (Ty.pair T (Ty.pair U V)) t := fun H enc w base spare held fuel cs x h => by
  obtain ⟨xs, n, rfl, _, hl, hxl, hf⟩ := DataW.trod_struct ht h
  have g0 := hf 0 f0 rfl
  have g1 := hf 1 f1 rfl
  have g2 := hf 2 f2 rfl
  rw [h0, c0, List.drop_zero] at g0
  rw [h1, c1] at g1
  rw [h2, c2] at g2
  rw [hs] at hl
  match xs, hxl with
  | [y0, y1, y2], _ =>
    obtain ⟨a, ha⟩ := o0 H enc w base spare held n _ y0 (by simpa using g0)
    obtain ⟨b, hb⟩ := o1 H enc w base spare held n _ y1 (by simpa using g1)
    obtain ⟨c, hc⟩ := o2 H enc w base spare held n _ y2 (by simpa using g2)
    refine ⟨(a, (b, c)), cs.take T.sz, (cs.drop T.sz).take U.sz ++ (cs.drop (T.sz + U.sz)).take V.sz, ?_, ha, _, _, rfl, hb, hc⟩
    have e1 : (cs.drop (T.sz + U.sz)).take V.sz = cs.drop (T.sz + U.sz) := List.take_of_length_le (by rw [List.length_drop]; omega)
    rw [e1, ← List.drop_drop, List.take_append_drop, List.take_append_drop]
end
theorem opTag : Opens Try.prog Ty.tag 72 := Opens.pair Try.underlying72 (by kernel_rfl) rfl rfl (by kernel_rfl) (by kernel_rfl) (Opens.str Try.underlying9) (Opens.str Try.underlying9)
theorem opI : Opens Try.prog Ty.i64 3 := Opens.int Try.underlying3
theorem opCoord : Opens Try.prog Ty.pt 58 := Opens.pt Try.underlying58 (by kernel_rfl) rfl rfl (by kernel_rfl) (by kernel_rfl) Try.underlying3 Try.underlying3
theorem opRef : Opens Try.prog Ty.pt 65 := Opens.pt Try.underlying65 (by kernel_rfl) rfl rfl (by kernel_rfl) (by kernel_rfl) Try.underlying3 Try.underlying3
theorem opTags : Opens Try.prog (Ty.slice Ty.tag) 40 := Opens.slice Try.underlying40 (by kernel_rfl) opTag
theorem opInts : Opens Try.prog (Ty.slice Ty.i64) 39 := Opens.slice Try.underlying39 (by kernel_rfl) opI
theorem opNode : Opens Try.prog Ty.node 60 := Opens.triple Try.underlying60 (by kernel_rfl) rfl rfl rfl (by kernel_rfl) (by kernel_rfl) (by kernel_rfl) opI opCoord opTags
theorem opWay : Opens Try.prog Ty.way 50 := Opens.triple Try.underlying50 (by kernel_rfl) rfl rfl rfl (by kernel_rfl) (by kernel_rfl) (by kernel_rfl) opI opInts opTags
theorem opMem : Opens Try.prog Ty.mem 67 := Opens.pair Try.underlying67 (by kernel_rfl) rfl rfl (by kernel_rfl) (by kernel_rfl) opRef (Opens.str Try.underlying9)
theorem opMems : Opens Try.prog (Ty.slice Ty.mem) 61 := Opens.slice Try.underlying61 (by kernel_rfl) opMem
theorem opRel : Opens Try.prog Ty.rel 63 := Opens.triple Try.underlying63 (by kernel_rfl) rfl rfl rfl (by kernel_rfl) (by kernel_rfl) (by kernel_rfl) opI opMems opTags
abbrev Ty.data : Ty (List Node × (List Way × List Rel)) := Ty.pair (Ty.slice Ty.node) (Ty.pair (Ty.slice Ty.way) (Ty.slice Ty.rel))
theorem opData : Opens Try.prog Ty.data 26 := Opens.triple Try.underlying26 (by kernel_rfl) rfl rfl rfl (by kernel_rfl) (by kernel_rfl) (by kernel_rfl) (Opens.slice Try.underlying22 (by kernel_rfl) opNode) (Opens.slice Try.underlying23 (by kernel_rfl) opWay) (Opens.slice Try.underlying24 (by kernel_rfl) opRel)
theorem Opens.cells {P : Program} {α : Type} {T : Ty α} {t : TypeId} {fs : Array Field} (hs : P.underlying t = some (.struct fs)) (ho : Opens P T t) {H : Type} {enc : TypeId × Value → H} {w : World} {base b0 : Nat} {spare : Nat → Bool} {held : Bool} {r : Reach} {v : Value} {d : DataW H} {ps : List MemPlace}
    (hv : Value.okWide P w r b0 t v) (h : DataW.Trod enc P w base spare held t v d ps) : ∃ (a : α) (cs : Array Value), v = .agg cs ∧ T.R (fun _ => True) w a cs.toList := by
  obtain ⟨cs, rfl, hsz⟩ := okWide_struct hs hv
  obtain ⟨fuel, hf⟩ := h
  obtain ⟨a, ha⟩ := ho H enc w base spare held fuel _ _ hf
  exact ⟨a, cs, rfl, ha⟩
set_option maxRecDepth 100000 in
/-- A dataset that came as an argument. -/
theorem dataArg {H : Type} {enc : TypeId × Value → H} {w : World} {base b0 : Nat} {spare : Nat → Bool} {held : Bool} {r : Reach} {v : Value} {d : DataW H} {ps : List MemPlace}
    (hv : Value.okWide Try.prog w r b0 26 v) (h : DataW.Trod enc Try.prog w base spare held 26 v d ps) : ∃ (ns : List Node) (ws : List Way) (rs : List Rel) (A1 A2 A3 : Option Addr) (c1 c2 c3 : Nat), v = .agg #[.slice A1 ns.length c1, .slice A2 ws.length c2, .slice A3 rs.length c3] ∧ Row Ty.node (fun _ => True) w A1 ns ∧ Row Ty.way (fun _ => True) w A2 ws ∧ Row Ty.rel (fun _ => True) w A3 rs := by
  obtain ⟨a, cs, rfl, d1, d2, e, ⟨A1, c1, rfl, _, h1⟩, d3, d4, rfl, ⟨A2, c2, rfl, _, h2⟩, A3, c3, rfl, _, h3⟩ := Opens.cells Try.underlying26 opData hv h
  refine ⟨a.1, a.2.1, a.2.2, A1, A2, A3, c1, c2, c3, ?_, h1, h2, h3⟩
  have := congrArg List.toArray e
  rw [Array.toArray_toList] at this
  rw [this]; rfl
set_option maxRecDepth 100000 in
/-- The same, and the ways' room. -/
theorem dataArg2 {H : Type} {enc : TypeId × Value → H} {w : World} {base b0 : Nat} {spare : Nat → Bool} {held : Bool} {r : Reach} {v : Value} {d : DataW H} {ps : List MemPlace}
    (hv : Value.okWide Try.prog w r b0 26 v) (h : DataW.Trod enc Try.prog w base spare held 26 v d ps) : ∃ (ns : List Node) (ws : List Way) (rs : List Rel) (A1 A2 A3 : Option Addr) (c1 c2 c3 : Nat), v = .agg #[.slice A1 ns.length c1, .slice A2 ws.length c2, .slice A3 rs.length c3] ∧ Row Ty.node (fun _ => True) w A1 ns ∧ Row Ty.way (fun _ => True) w A2 ws ∧ Row Ty.rel (fun _ => True) w A3 rs ∧ ws.length ≤ c2 := by
  obtain ⟨a, cs, rfl, d1, d2, e, ⟨A1, c1, rfl, _, h1⟩, d3, d4, rfl, ⟨A2, c2, rfl, hcap, h2⟩, A3, c3, rfl, _, h3⟩ := Opens.cells Try.underlying26 opData hv h
  refine ⟨a.1, a.2.1, a.2.2, A1, A2, A3, c1, c2, c3, ?_, h1, h2, h3, hcap⟩
  have := congrArg List.toArray e
  rw [Array.toArray_toList] at this
  rw [this]; rfl
set_option maxRecDepth 100000 in
/-- A way that came as an argument. -/
theorem wayArg {H : Type} {enc : TypeId × Value → H} {w : World} {base b0 : Nat} {spare : Nat → Bool} {held : Bool} {r : Reach} {v : Value} {d : DataW H} {ps : List MemPlace}
    (hv : Value.okWide Try.prog w r b0 50 v) (h : DataW.Trod enc Try.prog w base spare held 50 v d ps) : ∃ (x : Way) (B1 B2 : Option Addr) (d1 d2 : Nat), v = .agg #[.int .i64 x.1, .slice B1 x.2.1.length d1, .slice B2 x.2.2.length d2] ∧ x.2.1.length ≤ d1 ∧ x.2.2.length ≤ d2 ∧ Row Ty.i64 (fun _ => True) w B1 x.2.1 ∧ Row Ty.tag (fun _ => True) w B2 x.2.2 := by
  obtain ⟨a, cs, rfl, e1, e2, e, h0, d3, d4, rfl, ⟨A1, c1, rfl, hl1, h1⟩, A2, c2, rfl, hl2, h2⟩ := Opens.cells Try.underlying50 opWay hv h
  obtain rfl : e1 = _ := h0
  refine ⟨a, A1, A2, c1, c2, ?_, hl1, hl2, h1, h2⟩
  have := congrArg List.toArray e
  rw [Array.toArray_toList] at this
  rw [this]; rfl
end Go.Proofs.Ytniceoinipffmaa
