/- Contracts of data.ids and mapmakerref14.id. -/
import Derived.Test.YtniceoinipffmaaNGet
namespace Go.Proofs.Ytniceoinipffmaa
open Go.RowKit Go.Proofs.YtniceoinipffmaaW.PrintLast
set_option linter.unusedVariables false
set_option linter.unusedSimpArgs false

/-- A function value that answers f at every place below n, in every later world. -/
def IdAt (K : Nat) (cap : Array Value) (w : World) (n : Nat) (f : Nat → Int) : Prop :=
  ∀ W : World, Below w.heap.size w W → ∀ i, i < n → Calls Try.prog K (#[.int .i64 (i : Int)] ++ cap) W fun e w' => e = .returned (.int .i64 (f i)) ∧ Below W.heap.size W w'
def idZ (x prev : Int) (first : Bool) : Int := if x < 1 then 2 else if 2147483647 < x then 2 else if first then 0 else if x ≤ prev then 6 else 0
def idE (f : Nat → Int) (i : Nat) : Int := idZ (f i) (f (i - 1)) (decide (i = 0))
set_option maxHeartbeats 1000000 in
theorem data_ids (K : Nat) (cap : Array Value) (f : Nat → Int) (n i : Nat) (w : World) (hi : i < n) (hn : n ≤ 1048576) (hp : IdAt K cap w n f) (hK : EntersP K) :
    Calls Try.prog 66 #[.int .i64 (i : Int), .func (.func K) #[] cap] w fun e w' => e = .returned (.int .i64 (idE f i)) ∧ Below w.heap.size w w' := by
  have HP := Lib.hid hp
  clear hp
  unfold EntersP at hK
  by_cases h1 : f i < 1
  · have q1 : decide (f i < 1) = true := decide_eq_true h1
    have HE : Hid (idE f i = 2) := by show _ = _; simp [idE, idZ, h1]
    clear h1
    go_enter Try.func66, Try.ntmps66
    go_wp2_with fail
    (refine (HP.out _ (Below.refl _ _) i hi).mono ?_; rintro e w1 ⟨rfl, hb1⟩)
    go_wp2
    go_ret
    exact ⟨ret_int HE.out.symm, (by repeat (first | exact Below.refl _ _ | apply below_alloc | apply below_drewN | apply below_drew | (refine below_set2 ?_ ?_; (first | (simp; done) | (simp; omega))) | (refine below_step ?_ hb1)))⟩
  · have q1 : decide (f i < 1) = false := decide_eq_false h1
    by_cases h2 : 2147483647 < f i
    · have q2 : decide (2147483647 < f i) = true := decide_eq_true h2
      have HE : Hid (idE f i = 2) := by show _ = _; simp [idE, idZ, h2]
      clear h1 h2
      go_enter Try.func66, Try.ntmps66
      go_wp2_with fail
      (refine (HP.out _ (Below.refl _ _) i hi).mono ?_; rintro e w1 ⟨rfl, hb1⟩)
      go_wp2_with fail
      (refine (HP.out _ (by repeat (first | exact Below.refl _ _ | apply below_alloc | apply below_drewN | apply below_drew | (refine below_set2 ?_ ?_; (first | (simp; done) | (simp; omega))) | (refine below_step ?_ hb1))) i hi).mono ?_; rintro e w2 ⟨rfl, hb2⟩)
      go_wp2
      go_ret
      exact ⟨ret_int HE.out.symm, (by repeat (first | exact Below.refl _ _ | apply below_alloc | apply below_drewN | apply below_drew | (refine below_set2 ?_ ?_; (first | (simp; done) | (simp; omega))) | (refine below_step ?_ hb2) | (refine below_step ?_ hb1)))⟩
    · have q2 : decide (2147483647 < f i) = false := decide_eq_false h2
      rcases Nat.eq_zero_or_pos i with h0 | h0
      · subst h0
        have HE : Hid (idE f 0 = 0) := by show _ = _; simp [idE, idZ, h1, h2]
        clear h1 h2
        go_enter Try.func66, Try.ntmps66
        go_wp2_with fail
        (refine (HP.out _ (Below.refl _ _) 0 hi).mono ?_; rintro e w1 ⟨rfl, hb1⟩)
        go_wp2_with fail
        (refine (HP.out _ (by repeat (first | exact Below.refl _ _ | apply below_alloc | apply below_drewN | apply below_drew | (refine below_set2 ?_ ?_; (first | (simp; done) | (simp; omega))) | (refine below_step ?_ hb1))) 0 hi).mono ?_; rintro e w2 ⟨rfl, hb2⟩)
        go_wp2
        go_ret
        exact ⟨ret_int HE.out.symm, (by repeat (first | exact Below.refl _ _ | apply below_alloc | apply below_drewN | apply below_drew | (refine below_set2 ?_ ?_; (first | (simp; done) | (simp; omega))) | (refine below_step ?_ hb2) | (refine below_step ?_ hb1)))⟩
      · obtain ⟨i', rfl⟩ : ∃ i', i = i' + 1 := ⟨i - 1, by omega⟩
        have HE : Hid (idE f (i' + 1) = if f (i' + 1) ≤ f i' then 6 else 0) := by show _ = _; simp [idE, idZ, h1, h2]
        have HP0 := Lib.hid (fun (W : World) hW => HP.out W hW (i' + 1) hi)
        have HP1 := Lib.hid (fun (W : World) hW => HP.out W hW i' (by omega))
        have ec : ((i' + 1 : Nat) : Int) = (i' : Int) + 1 := by omega
        rw [ec] at HP0
        rw [ec]
        clear ec h1 h2
        have q4 : decide ((0 : Int) < (i' : Int) + 1) = true := decide_eq_true (by omega)
        have qw : IntKind.i64.wrap (i' : Int) = (i' : Int) := IntWalk.i64_in _ (by omega)
        by_cases h3 : f (i' + 1) ≤ f i'
        all_goals
          have HE2 := HE.out
          first
            | rw [if_pos h3] at HE2
              have q3 : decide (f (i' + 1) ≤ f i') = true := decide_eq_true h3
              clear h3
              go_enter Try.func66, Try.ntmps66
              go_wp2_with fail
              (refine (HP0.out _ (Below.refl _ _)).mono ?_; rintro e w1 ⟨rfl, hb1⟩)
              go_wp2_with fail
              (refine (HP0.out _ (by repeat (first | exact Below.refl _ _ | apply below_alloc | apply below_drewN | apply below_drew | (refine below_set2 ?_ ?_; (first | (simp; done) | (simp; omega))) | (refine below_step ?_ hb1)))).mono ?_; rintro e w2 ⟨rfl, hb2⟩)
              go_wp2_with fail
              (refine (HP1.out _ (by repeat (first | exact Below.refl _ _ | apply below_alloc | apply below_drewN | apply below_drew | (refine below_set2 ?_ ?_; (first | (simp; done) | (simp; omega))) | (refine below_step ?_ hb2) | (refine below_step ?_ hb1)))).mono ?_; rintro e w3 ⟨rfl, hb3⟩)
              go_wp2_with fail
              (refine (HP0.out _ (by repeat (first | exact Below.refl _ _ | apply below_alloc | apply below_drewN | apply below_drew | (refine below_set2 ?_ ?_; (first | (simp; done) | (simp; omega))) | (refine below_step ?_ hb3) | (refine below_step ?_ hb2) | (refine below_step ?_ hb1)))).mono ?_; rintro e w4 ⟨rfl, hb4⟩)
              go_wp2
              go_ret
              exact ⟨ret_int HE2.symm, (by repeat (first | exact Below.refl _ _ | apply below_alloc | apply below_drewN | apply below_drew | (refine below_set2 ?_ ?_; (first | (simp; done) | (simp; omega))) | (refine below_step ?_ hb4) | (refine below_step ?_ hb3) | (refine below_step ?_ hb2) | (refine below_step ?_ hb1)))⟩
            | rw [if_neg h3] at HE2
              have q3 : decide (f (i' + 1) ≤ f i') = false := decide_eq_false h3
              clear h3
              go_enter Try.func66, Try.ntmps66
              go_wp2_with fail
              (refine (HP0.out _ (Below.refl _ _)).mono ?_; rintro e w1 ⟨rfl, hb1⟩)
              go_wp2_with fail
              (refine (HP0.out _ (by repeat (first | exact Below.refl _ _ | apply below_alloc | apply below_drewN | apply below_drew | (refine below_set2 ?_ ?_; (first | (simp; done) | (simp; omega))) | (refine below_step ?_ hb1)))).mono ?_; rintro e w2 ⟨rfl, hb2⟩)
              go_wp2_with fail
              (refine (HP1.out _ (by repeat (first | exact Below.refl _ _ | apply below_alloc | apply below_drewN | apply below_drew | (refine below_set2 ?_ ?_; (first | (simp; done) | (simp; omega))) | (refine below_step ?_ hb2) | (refine below_step ?_ hb1)))).mono ?_; rintro e w3 ⟨rfl, hb3⟩)
              go_wp2_with fail
              (refine (HP0.out _ (by repeat (first | exact Below.refl _ _ | apply below_alloc | apply below_drewN | apply below_drew | (refine below_set2 ?_ ?_; (first | (simp; done) | (simp; omega))) | (refine below_step ?_ hb3) | (refine below_step ?_ hb2) | (refine below_step ?_ hb1)))).mono ?_; rintro e w4 ⟨rfl, hb4⟩)
              go_wp2
              go_ret
              exact ⟨ret_int HE2.symm, (by repeat (first | exact Below.refl _ _ | apply below_alloc | apply below_drewN | apply below_drew | (refine below_set2 ?_ ?_; (first | (simp; done) | (simp; omega))) | (refine below_step ?_ hb4) | (refine below_step ?_ hb3) | (refine below_step ?_ hb2) | (refine below_step ?_ hb1)))⟩
theorem ref14_id (x p : Int) (w : World) (hp : 0 ≤ p) :
    Calls Try.prog 52 #[.int .i64 x, .int .i64 p] w fun e w' => e = .returned (.int .i64 (idZ x p (decide (p = 0)))) ∧ Below w.heap.size w w' := by
  by_cases h1 : x < 1
  · have q1 : decide (x < 1) = true := decide_eq_true h1
    go_enter Try.func52, Try.ntmps52
    go_wp2
    all_goals go_ret
    all_goals exact ⟨ret_int (by simp [idZ, h1]), (by repeat (first | exact Below.refl _ _ | apply below_alloc | apply below_drewN | apply below_drew | (refine below_set2 ?_ ?_; (first | (simp; done) | (simp; omega)))))⟩
  · have q1 : decide (x < 1) = false := decide_eq_false h1
    by_cases h2 : 2147483647 < x
    · have q2 : decide (2147483647 < x) = true := decide_eq_true h2
      go_enter Try.func52, Try.ntmps52
      go_wp2
      all_goals go_ret
      all_goals exact ⟨ret_int (by simp [idZ, h2]), (by repeat (first | exact Below.refl _ _ | apply below_alloc | apply below_drewN | apply below_drew | (refine below_set2 ?_ ?_; (first | (simp; done) | (simp; omega)))))⟩
    · have q2 : decide (2147483647 < x) = false := decide_eq_false h2
      by_cases h3 : x ≤ p
      · have q3 : decide (x ≤ p) = true := decide_eq_true h3
        have h4 : ¬ p = 0 := by omega
        go_enter Try.func52, Try.ntmps52
        go_wp2
        all_goals go_ret
        all_goals exact ⟨ret_int (by unfold idZ; rw [if_neg (by omega), if_neg (by omega), if_neg (by simp [h4]), if_pos (by omega)]), (by repeat (first | exact Below.refl _ _ | apply below_alloc | apply below_drewN | apply below_drew | (refine below_set2 ?_ ?_; (first | (simp; done) | (simp; omega)))))⟩
      · have q3 : decide (x ≤ p) = false := decide_eq_false h3
        go_enter Try.func52, Try.ntmps52
        go_wp2
        all_goals go_ret
        all_goals exact ⟨ret_int (by unfold idZ; rw [if_neg (by omega), if_neg (by omega), if_neg (show ¬ x ≤ p by omega), ite_self]), (by repeat (first | exact Below.refl _ _ | apply below_alloc | apply below_drewN | apply below_drew | (refine below_set2 ?_ ?_; (first | (simp; done) | (simp; omega)))))⟩
end Go.Proofs.Ytniceoinipffmaa
