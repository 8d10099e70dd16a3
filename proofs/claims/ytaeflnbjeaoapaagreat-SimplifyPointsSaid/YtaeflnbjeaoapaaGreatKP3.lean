/- Bounds of products and sums of coordinates. -/
import Derived.Test.YtaeflnbjeaoapaaGreatKPW
import Derived.Test.YtaeflnbjeaoapaaGreatKP2
namespace Go.Proofs.YtaeflnbjeaoapaaGreat
set_option linter.unusedVariables false
set_option linter.unusedSimpArgs false
section
open Go.RowKit Go.Proofs.YtaeflnbjeaoapaaGreatW.PrintLast

theorem mul_bd2 {a b : Int} (h1 : -65535 ≤ a) (h2 : a ≤ 65535) (h3 : -65535 ≤ b) (h4 : b ≤ 65535) : -4294836225 ≤ a * b ∧ a * b ≤ 4294836225 := by
 have h : (a * b).natAbs ≤ 65535 * 65535 := by rw [Int.natAbs_mul]; exact Nat.mul_le_mul (by omega) (by omega)
 omega
theorem wr_in {x : Int} (h1 : -1000000000000 ≤ x) (h2 : x ≤ 1000000000000) : IntKind.i64.wrap x = x := IntWalk.i64_in _ (by omega)
def segsV (u : Sgs) : Prop := ∀ s ∈ u, (validB s.1 && validB s.2) = true
end
end Go.Proofs.YtaeflnbjeaoapaaGreat
