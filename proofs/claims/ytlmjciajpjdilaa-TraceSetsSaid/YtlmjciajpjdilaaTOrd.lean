/- Contracts of grid.Less, seg.Less, noding.order and of the comparison of noding.Split: what they answer, and that they only draw and lay blocks. -/
import Derived.Test.YtlmjciajpjdilaaTSpec
import Derived.Test.YtlmjciajpjdilaaTGw
namespace Go.Proofs.Ytlmjciajpjdilaa
open Go.RowKit
set_option linter.unusedVariables false
set_option linter.unusedSimpArgs false

theorem grid_LessG (ax ay bx by_ : Int) (w : World) :
    Calls Try.prog 33 #[.agg #[.int .i64 ax, .int .i64 ay], .agg #[.int .i64 bx, .int .i64 by_]] w fun e w' => e = .returned (.bool (lessB (ax, ay) (bx, by_))) ∧ Gw w w' := by
  by_cases h : ax = bx
  · subst h
    go_enter Try.func33, Try.ntmps33
    go_wp2
    go_ret
    exact ⟨ret_bool (by simp [lessB]), by (repeat (first | exact gw_refl _ | refine gw_alloc ?_ _ | refine gw_drewN ?_ _ | refine gw_drew ?_))⟩
  · have h' : (ax != bx) = true := by simp [h]
    go_enter Try.func33, Try.ntmps33
    go_wp2
    go_ret
    exact ⟨ret_bool (by simp [lessB, h]), by (repeat (first | exact gw_refl _ | refine gw_alloc ?_ _ | refine gw_drewN ?_ _ | refine gw_drew ?_))⟩
abbrev sgA (a : Sg) : Value := .agg #[.int .i64 a.1.1, .int .i64 a.1.2, .int .i64 a.2.1, .int .i64 a.2.2]
abbrev ptA (a : Pt) : Value := .agg #[.int .i64 a.1, .int .i64 a.2]
theorem seg_Less (a b : Sg) (w : World) : Calls Try.prog 62 #[sgA a, sgA b] w fun e w' => e = .returned (.bool (lessS a b)) ∧ Gw w w' := by
  obtain ⟨⟨a1, a2⟩, ⟨a3, a4⟩⟩ := a
  obtain ⟨⟨b1, b2⟩, ⟨b3, b4⟩⟩ := b
  simp only [sgA]
  have main : ∀ (q : Bool), (if a1 = b1 then !decide (a2 = b2) else true) = q → lessS ((a1, a2), (a3, a4)) ((b1, b2), (b3, b4)) = (if q then lessB (a1, a2) (b1, b2) else lessB (a3, a4) (b3, b4)) := by
    intro q hq
    subst hq
    unfold lessS
    by_cases h1 : a1 = b1
    · by_cases h2 : a2 = b2
      · simp [h1, h2]
      · simp [h1, h2]
    · simp [h1]
  by_cases h1 : a1 = b1
  · by_cases h2 : a2 = b2
    · have HM := Lib.hid (main false (by simp [h1, h2]))
      subst h1 h2
      clear main
      go_enter Try.func62, Try.ntmps62
      go_wp2_with fail
      refine (grid_LessG _ _ _ _ _).mono ?_
      rintro e w1 ⟨rfl, hb1⟩
      go_wp2
      go_ret
      exact ⟨ret_bool HM.out.symm, by (repeat (first | exact gw_refl _ | refine gw_step ?_ hb1 | refine gw_alloc ?_ _ | refine gw_drewN ?_ _ | refine gw_drew ?_))⟩
    · have HM := Lib.hid (main true (by simp [h1, h2]))
      subst h1
      clear main
      go_enter Try.func62, Try.ntmps62
      go_wp2_with fail
      refine (grid_LessG _ _ _ _ _).mono ?_
      rintro e w1 ⟨rfl, hb1⟩
      go_wp2
      go_ret
      exact ⟨ret_bool HM.out.symm, by (repeat (first | exact gw_refl _ | refine gw_step ?_ hb1 | refine gw_alloc ?_ _ | refine gw_drewN ?_ _ | refine gw_drew ?_))⟩
  · have HM := Lib.hid (main true (by simp [h1]))
    clear main
    go_enter Try.func62, Try.ntmps62
    go_wp2_with fail
    refine (grid_LessG _ _ _ _ _).mono ?_
    rintro e w1 ⟨rfl, hb1⟩
    go_wp2
    go_ret
    exact ⟨ret_bool HM.out.symm, by (repeat (first | exact gw_refl _ | refine gw_step ?_ hb1 | refine gw_alloc ?_ _ | refine gw_drewN ?_ _ | refine gw_drew ?_))⟩
theorem noding_order (a b : Sg) (w : World) : Calls Try.prog 45 #[sgA a, sgA b] w fun e w' => e = .returned (.int .i64 (cmpS a b)) ∧ Gw w w' := by
  have NE := Lib.hid (fun W => seg_Less a b W)
  have HC : Hid (cmpS a b = if a = b then 0 else if lessS a b then -1 else 1) := rfl
  generalize cmpS a b = r at *
  generalize lessS a b = l at *
  obtain ⟨⟨a1, a2⟩, ⟨a3, a4⟩⟩ := a
  obtain ⟨⟨b1, b2⟩, ⟨b3, b4⟩⟩ := b
  simp only [sgA] at *
  by_cases h1 : a1 = b1
  · by_cases h2 : a2 = b2
    · by_cases h3 : a3 = b3
      · by_cases h4 : a4 = b4
        · subst h1 h2 h3 h4
          have HR : Hid (r = 0) := by have := HC.out; rwa [if_pos rfl] at this
          clear HC NE
          go_enter Try.func45, Try.ntmps45
          go_wp2
          go_ret
          exact ⟨ret_int HR.out.symm, by (repeat (first | exact gw_refl _ | refine gw_alloc ?_ _ | refine gw_drewN ?_ _ | refine gw_drew ?_))⟩
        · have HN : Hid (¬ (((a1, a2), (a3, a4)) : Sg) = ((b1, b2), (b3, b4))) := by show ¬ _; simp [h4]
          subst h1 h2 h3
          cases hl : l
          · have SL := Lib.hid (fun W => by have := NE.out W; rw [hl] at this; exact this)
            have HR : Hid (r = 1) := Lib.hid (by have := HC.out; rw [if_neg HN.out, hl] at this; simpa using this)
            clear NE HC HN hl
            go_enter Try.func45, Try.ntmps45
            go_wp2_with fail
            refine (SL.out _).mono ?_
            rintro e w1 ⟨rfl, hb1⟩
            go_wp2
            go_ret
            exact ⟨ret_int HR.out.symm, by (repeat (first | exact gw_refl _ | refine gw_step ?_ hb1 | refine gw_alloc ?_ _ | refine gw_drewN ?_ _ | refine gw_drew ?_))⟩
          · have SL := Lib.hid (fun W => by have := NE.out W; rw [hl] at this; exact this)
            have HR : Hid (r = -1) := Lib.hid (by have := HC.out; rw [if_neg HN.out, hl] at this; simpa using this)
            clear NE HC HN hl
            go_enter Try.func45, Try.ntmps45
            go_wp2_with fail
            refine (SL.out _).mono ?_
            rintro e w1 ⟨rfl, hb1⟩
            go_wp2
            go_ret
            exact ⟨ret_int HR.out.symm, by (repeat (first | exact gw_refl _ | refine gw_step ?_ hb1 | refine gw_alloc ?_ _ | refine gw_drewN ?_ _ | refine gw_drew ?_))⟩
      · have HN : Hid (¬ (((a1, a2), (a3, a4)) : Sg) = ((b1, b2), (b3, b4))) := by show ¬ _; simp [h3]
        subst h1 h2
        cases hl : l
        · have SL := Lib.hid (fun W => by have := NE.out W; rw [hl] at this; exact this)
          have HR : Hid (r = 1) := Lib.hid (by have := HC.out; rw [if_neg HN.out, hl] at this; simpa using this)
          clear NE HC HN hl
          go_enter Try.func45, Try.ntmps45
          go_wp2_with fail
          refine (SL.out _).mono ?_
          rintro e w1 ⟨rfl, hb1⟩
          go_wp2
          go_ret
          exact ⟨ret_int HR.out.symm, by (repeat (first | exact gw_refl _ | refine gw_step ?_ hb1 | refine gw_alloc ?_ _ | refine gw_drewN ?_ _ | refine gw_drew ?_))⟩
        · have SL := Lib.hid (fun W => by have := NE.out W; rw [hl] at this; exact this)
          have HR : Hid (r = -1) := Lib.hid (by have := HC.out; rw [if_neg HN.out, hl] at this; simpa using this)
          clear NE HC HN hl
          go_enter Try.func45, Try.ntmps45
          go_wp2_with fail
          refine (SL.out _).mono ?_
          rintro e w1 ⟨rfl, hb1⟩
          go_wp2
          go_ret
          exact ⟨ret_int HR.out.symm, by (repeat (first | exact gw_refl _ | refine gw_step ?_ hb1 | refine gw_alloc ?_ _ | refine gw_drewN ?_ _ | refine gw_drew ?_))⟩
    · have HN : Hid (¬ (((a1, a2), (a3, a4)) : Sg) = ((b1, b2), (b3, b4))) := by show ¬ _; simp [h2]
      subst h1
      cases hl : l
      · have SL := Lib.hid (fun W => by have := NE.out W; rw [hl] at this; exact this)
        have HR : Hid (r = 1) := Lib.hid (by have := HC.out; rw [if_neg HN.out, hl] at this; simpa using this)
        clear NE HC HN hl
        go_enter Try.func45, Try.ntmps45
        go_wp2_with fail
        refine (SL.out _).mono ?_
        rintro e w1 ⟨rfl, hb1⟩
        go_wp2
        go_ret
        exact ⟨ret_int HR.out.symm, by (repeat (first | exact gw_refl _ | refine gw_step ?_ hb1 | refine gw_alloc ?_ _ | refine gw_drewN ?_ _ | refine gw_drew ?_))⟩
      · have SL := Lib.hid (fun W => by have := NE.out W; rw [hl] at this; exact this)
        have HR : Hid (r = -1) := Lib.hid (by have := HC.out; rw [if_neg HN.out, hl] at this; simpa using this)
        clear NE HC HN hl
        go_enter Try.func45, Try.ntmps45
        go_wp2_with fail
        refine (SL.out _).mono ?_
        rintro e w1 ⟨rfl, hb1⟩
        go_wp2
        go_ret
        exact ⟨ret_int HR.out.symm, by (repeat (first | exact gw_refl _ | refine gw_step ?_ hb1 | refine gw_alloc ?_ _ | refine gw_drewN ?_ _ | refine gw_drew ?_))⟩
  · have HN : Hid (¬ (((a1, a2), (a3, a4)) : Sg) = ((b1, b2), (b3, b4))) := by show ¬ _; simp [h1]
    cases hl : l
    · have SL := Lib.hid (fun W => by have := NE.out W; rw [hl] at this; exact this)
      have HR : Hid (r = 1) := Lib.hid (by have := HC.out; rw [if_neg HN.out, hl] at this; simpa using this)
      clear NE HC HN hl
      go_enter Try.func45, Try.ntmps45
      go_wp2_with fail
      refine (SL.out _).mono ?_
      rintro e w1 ⟨rfl, hb1⟩
      go_wp2
      go_ret
      exact ⟨ret_int HR.out.symm, by (repeat (first | exact gw_refl _ | refine gw_step ?_ hb1 | refine gw_alloc ?_ _ | refine gw_drewN ?_ _ | refine gw_drew ?_))⟩
    · have SL := Lib.hid (fun W => by have := NE.out W; rw [hl] at this; exact this)
      have HR : Hid (r = -1) := Lib.hid (by have := HC.out; rw [if_neg HN.out, hl] at this; simpa using this)
      clear NE HC HN hl
      go_enter Try.func45, Try.ntmps45
      go_wp2_with fail
      refine (SL.out _).mono ?_
      rintro e w1 ⟨rfl, hb1⟩
      go_wp2
      go_ret
      exact ⟨ret_int HR.out.symm, by (repeat (first | exact gw_refl _ | refine gw_step ?_ hb1 | refine gw_alloc ?_ _ | refine gw_drewN ?_ _ | refine gw_drew ?_))⟩
theorem split_order (a b : Pt) (w : World) : Calls Try.prog 57 #[ptA a, ptA b] w fun e w' => e = .returned (.int .i64 (cmpP a b)) ∧ Gw w w' := by
  have NE := Lib.hid (fun W => grid_LessG a.1 a.2 b.1 b.2 W)
  have HC : Hid (cmpP a b = if a = b then 0 else if lessB (a.1, a.2) (b.1, b.2) then -1 else 1) := rfl
  generalize cmpP a b = r at *
  generalize lessB (a.1, a.2) (b.1, b.2) = l at *
  obtain ⟨a1, a2⟩ := a
  obtain ⟨b1, b2⟩ := b
  simp only [ptA] at *
  by_cases h1 : a1 = b1
  · by_cases h2 : a2 = b2
    · subst h1 h2
      have HR : Hid (r = 0) := by have := HC.out; rwa [if_pos rfl] at this
      clear HC NE
      go_enter Try.func57, Try.ntmps57
      go_wp2
      go_ret
      exact ⟨ret_int HR.out.symm, by (repeat (first | exact gw_refl _ | refine gw_alloc ?_ _ | refine gw_drewN ?_ _ | refine gw_drew ?_))⟩
    · have HN : Hid (¬ ((a1, a2) : Pt) = (b1, b2)) := by show ¬ _; simp [h2]
      subst h1
      cases hl : l
      · have SL := Lib.hid (fun W => by have := NE.out W; rw [hl] at this; exact this)
        have HR : Hid (r = 1) := Lib.hid (by have := HC.out; rw [if_neg HN.out, hl] at this; simpa using this)
        clear NE HC HN hl
        go_enter Try.func57, Try.ntmps57
        go_wp2_with fail
        refine (SL.out _).mono ?_
        rintro e w1 ⟨rfl, hb1⟩
        go_wp2
        go_ret
        exact ⟨ret_int HR.out.symm, by (repeat (first | exact gw_refl _ | refine gw_step ?_ hb1 | refine gw_alloc ?_ _ | refine gw_drewN ?_ _ | refine gw_drew ?_))⟩
      · have SL := Lib.hid (fun W => by have := NE.out W; rw [hl] at this; exact this)
        have HR : Hid (r = -1) := Lib.hid (by have := HC.out; rw [if_neg HN.out, hl] at this; simpa using this)
        clear NE HC HN hl
        go_enter Try.func57, Try.ntmps57
        go_wp2_with fail
        refine (SL.out _).mono ?_
        rintro e w1 ⟨rfl, hb1⟩
        go_wp2
        go_ret
        exact ⟨ret_int HR.out.symm, by (repeat (first | exact gw_refl _ | refine gw_step ?_ hb1 | refine gw_alloc ?_ _ | refine gw_drewN ?_ _ | refine gw_drew ?_))⟩
  · have HN : Hid (¬ ((a1, a2) : Pt) = (b1, b2)) := by show ¬ _; simp [h1]
    cases hl : l
    · have SL := Lib.hid (fun W => by have := NE.out W; rw [hl] at this; exact this)
      have HR : Hid (r = 1) := Lib.hid (by have := HC.out; rw [if_neg HN.out, hl] at this; simpa using this)
      clear NE HC HN hl
      go_enter Try.func57, Try.ntmps57
      go_wp2_with fail
      refine (SL.out _).mono ?_
      rintro e w1 ⟨rfl, hb1⟩
      go_wp2
      go_ret
      exact ⟨ret_int HR.out.symm, by (repeat (first | exact gw_refl _ | refine gw_step ?_ hb1 | refine gw_alloc ?_ _ | refine gw_drewN ?_ _ | refine gw_drew ?_))⟩
    · have SL := Lib.hid (fun W => by have := NE.out W; rw [hl] at this; exact this)
      have HR : Hid (r = -1) := Lib.hid (by have := HC.out; rw [if_neg HN.out, hl] at this; simpa using this)
      clear NE HC HN hl
      go_enter Try.func57, Try.ntmps57
      go_wp2_with fail
      refine (SL.out _).mono ?_
      rintro e w1 ⟨rfl, hb1⟩
      go_wp2
      go_ret
      exact ⟨ret_int HR.out.symm, by (repeat (first | exact gw_refl _ | refine gw_step ?_ hb1 | refine gw_alloc ?_ _ | refine gw_drewN ?_ _ | refine gw_drew ?_))⟩
theorem ltS (x y : Sg) : decide (cmpS x y < 0) = lessS x y := by
  unfold cmpS
  by_cases h : x = y
  · subst h; rw [if_pos rfl, totS.irr]; rfl
  · rw [if_neg h]; cases lessS x y <;> rfl
theorem ltP (x y : Pt) : decide (cmpP x y < 0) = lessB x y := by
  unfold cmpP
  by_cases h : x = y
  · subst h; rw [if_pos rfl, totB.irr]; rfl
  · rw [if_neg h]; cases lessB x y <;> rfl
theorem ltR (x y : Pts) : decide (cmpR x y < 0) = lessR x y := by
  unfold cmpR
  cases lessR x y
  · cases lessR y x <;> rfl
  · rfl
end Go.Proofs.Ytlmjciajpjdilaa
