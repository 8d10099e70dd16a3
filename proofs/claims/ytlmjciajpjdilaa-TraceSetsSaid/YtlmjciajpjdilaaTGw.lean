/- Worlds that have drawn and grown, no more. No program is in sight. -/
import Derived.Test.YtlmjciajpjdilaaOwn
import Derived.Sort.Grow
namespace Go.Proofs.Ytlmjciajpjdilaa
open Go.RowKit
set_option linter.unusedVariables false

/-! ### worlds that have drawn and grown, no more -/
def Gw (w w' : World) : Prop := ∃ (q : Nat) (os' : Array Obj), w' = Go.Sort.grow (w.drewN q) os'
theorem gw_refl (w : World) : Gw w w := ⟨0, #[], by rw [Go.Sort.grow_empty]; rfl⟩
theorem gw_grow {w W : World} (h : Gw w W) (os : Array Obj) : Gw w (Go.Sort.grow W os) := by
  obtain ⟨q, os', rfl⟩ := h
  exact ⟨q, os' ++ os, by rw [Go.Sort.grow_grow]⟩
theorem gw_alloc {w W : World} (h : Gw w W) (o : Obj) : Gw w (W.alloc o) := by rw [Go.Sort.alloc_eq_grow]; exact gw_grow h _
theorem gw_drewN {w W : World} (h : Gw w W) (n : Nat) : Gw w (W.drewN n) := by
  obtain ⟨q, os', rfl⟩ := h
  exact ⟨q + n, os', by show Go.Sort.grow ((w.drewN q).drewN n) os' = _; rw [World.drewN_drewN]⟩
theorem gw_drew {w W : World} (h : Gw w W) : Gw w W.drew := gw_drewN h 1
theorem gw_step {w W w2 : World} (h : Gw w W) (k : Gw W w2) : Gw w w2 := by
  obtain ⟨q, os', rfl⟩ := k
  exact gw_grow (gw_drewN h q) os'
theorem Gw.below {w W : World} (h : Gw w W) : Below w.heap.size w W := by
  obtain ⟨q, os', rfl⟩ := h
  exact ⟨rfl, rfl, rfl, by simp, fun k hk => Go.Sort.heap_grow_old (w.drewN q) os' hk⟩

end Go.Proofs.Ytlmjciajpjdilaa
