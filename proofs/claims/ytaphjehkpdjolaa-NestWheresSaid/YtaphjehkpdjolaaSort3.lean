/- Contracts of slices.stableCmpFunc and SortStableFunc over at most 20 rings; of nest.Rings at few rings; of nest's Where and Area2 above it. -/
import Derived.Test.YtaphjehkpdjolaaSort2
namespace Go.Proofs.Ytaphjehkpdjolaa
open Go.RowKit Go.Proofs.YtaphjehkpdjolaaW.PrintLast
set_option linter.unusedVariables false
set_option linter.unusedSimpArgs false

set_option maxHeartbeats 1000000 in
theorem stable_small (xs : Rings) (g n cap base : Nat) (M : Nat → Prop) (w : World) (ni : Int) (hni : ni = (n : Int)) (h : OwnR Ty.ring 32 base M w (.slice (some ⟨g, 0, none⟩) n cap) xs) (hlen : xs.length ≤ 19) :
    Calls Try.prog 50 #[.slice (some ⟨g, 0, none⟩) n cap, .int .i64 ni, .func (.func 34) #[] #[]] w fun e w' =>
      e = .returned (.tuple #[]) ∧ ∃ ys : Rings, OwnR Ty.ring 32 base M w' (.slice (some ⟨g, 0, none⟩) n cap) ys ∧ ys.Perm xs ∧ SortedOn ys 0 ys.length ∧ KeptS (fun k => k = g) w w' := by
  subst hni
  have HN := Lib.hid h.lenN
  have hnle : n ≤ 19 := by rw [HN.out]; exact hlen
  have H := Lib.hid h
  clear h
  go_enter Try.func50, Try.ntmps50
  go_wp2
  refine wp_loop_rounds 1 ?_
  rw [rounds_succ]
  go_wp2_with fail
  refine (insertionSort_rings xs g n cap 0 n base M w _ _ rfl rfl H.out (Nat.zero_le _) (by rw [HN.out]; exact Nat.le_refl _) (by omega)).mono ?_
  rintro e w1 ⟨rfl, ys, ho, hp, hs, hk, hkt⟩
  have HO := Lib.hid ho
  have HP := Lib.hid hp
  have HS := Lib.hid hs
  clear ho hp hs hk
  go_wp2
  refine wp_loop_rounds 1 ?_
  rw [rounds_succ]
  go_wp2
  exact bodyPost_end (results_none rfl _ _ _) rfl ⟨rfl, ys, HO.out, HP.out, by rw [HP.out.length_eq, ← HN.out]; exact HS.out, hkt⟩
end Go.Proofs.Ytaphjehkpdjolaa
