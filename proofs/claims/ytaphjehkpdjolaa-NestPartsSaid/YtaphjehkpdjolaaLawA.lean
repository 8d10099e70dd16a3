/- Contracts of law22.NestWithin and law22.NestPolygons. -/
import Derived.Test.YtaphjehkpdjolaaLives
namespace Go.Proofs.Ytaphjehkpdjolaa
open Go.RowKit Go.Proofs.YtaphjehkpdjolaaW.PrintLast
set_option linter.unusedVariables false
set_option linter.unusedSimpArgs false

set_option maxHeartbeats 2000000 in
theorem law22_NestWithin {ok ok' : Nat → Prop} (a b : Pts) (A B : Option Addr) (n m c d : Nat) (w : World) (ha : Row Ty.pt ok w A a) (hb : Row Ty.pt ok' w B b) (hn : n = a.length) (hm : m = b.length) :
    Calls Try.prog 4 #[.slice A n c, .slice B m d] w fun e w' => e = .returned (.bool true) ∧ Below w.heap.size w w' := by
  subst hn hm
  have hl1 := ha.len
  have hl2 := hb.len
  have HA := Lib.hid ha
  have HB := Lib.hid hb
  clear ha hb
  by_cases h1 : 30 < a.length
  · have q1 : decide ((30 : Int) < (a.length : Int)) = true := decide_eq_true (by omega)
    go_enter Try.func4, Try.ntmps4
    go_wp2_with fail
    (refine (law22_lives _).mono ?_; rintro e w1 ⟨rfl, hb1⟩)
    go_wp2
    go_ret
    exact ⟨rfl, (by repeat (first | exact Below.refl _ _ | apply below_alloc | apply below_drewN | apply below_drew | (refine below_set2 ?_ ?_; (first | (simp; done) | (simp; omega))) | (refine below_step ?_ hb1)))⟩
  · have q1 : decide ((30 : Int) < (a.length : Int)) = false := decide_eq_false (by omega)
    by_cases h2 : 30 < b.length
    · have q2 : decide ((30 : Int) < (b.length : Int)) = true := decide_eq_true (by omega)
      go_enter Try.func4, Try.ntmps4
      go_wp2_with fail
      (refine (law22_lives _).mono ?_; rintro e w1 ⟨rfl, hb1⟩)
      go_wp2
      go_ret
      exact ⟨rfl, (by repeat (first | exact Below.refl _ _ | apply below_alloc | apply below_drewN | apply below_drew | (refine below_set2 ?_ ?_; (first | (simp; done) | (simp; omega))) | (refine below_step ?_ hb1)))⟩
    · have q2 : decide ((30 : Int) < (b.length : Int)) = false := decide_eq_false (by omega)
      have qe : (withinB a b == withinB a b) = true := by simp
      go_enter Try.func4, Try.ntmps4
      go_wp2_with fail
      (refine (nest_Within a b _ _ _ _ _ _ _ HA.out HB.out rfl rfl).mono ?_; rintro e w1 ⟨rfl, hb1⟩)
      go_wp2_with fail
      (refine (ref22_Within a b _ _ _ _ _ _ _ (HA.out.below hb1) (HB.out.below hb1) rfl rfl).mono ?_; rintro e w2 ⟨rfl, hb2⟩)
      go_wp2_with fail
      (refine (law22_lives _).mono ?_; rintro e w3 ⟨rfl, hb3⟩)
      go_wp2
      go_ret
      exact ⟨rfl, (by repeat (first | exact Below.refl _ _ | apply below_alloc | apply below_drewN | apply below_drew | (refine below_set2 ?_ ?_; (first | (simp; done) | (simp; omega))) | (refine below_step ?_ hb3) | (refine below_step ?_ hb2) | (refine below_step ?_ hb1)))⟩

set_option maxHeartbeats 2000000 in
theorem law22_NestPolygons {ok : Nat → Prop} (rs : Rings) (A : Option Addr) (n c : Nat) (w : World) (hr : Row Ty.ring ok w A rs) (hn : n = rs.length) :
    Calls Try.prog 3 #[.slice A n c] w fun e w' => e = .returned (.bool true) ∧ Below w.heap.size w w' := by
  subst hn
  have HR := Lib.hid hr
  clear hr
  cases hf : FewB rs
  · have HF := Lib.hid (law22_Few rs A rs.length c w HR.out rfl)
    rw [hf] at HF
    go_enter Try.func3, Try.ntmps3
    go_wp2_with fail
    (refine (HF.out).mono ?_; rintro e w1 ⟨rfl, hb1⟩)
    go_wp2_with fail
    (refine (law22_lives _).mono ?_; rintro e w2 ⟨rfl, hb2⟩)
    go_wp2
    go_ret
    exact ⟨rfl, (by repeat (first | exact Below.refl _ _ | apply below_alloc | apply below_drewN | apply below_drew | (refine below_set2 ?_ ?_; (first | (simp; done) | (simp; omega))) | (refine below_step ?_ hb2) | (refine below_step ?_ hb1)))⟩
  · have HF := Lib.hid (law22_Few rs A rs.length c w HR.out rfl)
    rw [hf] at HF
    obtain ⟨l, hl⟩ : ∃ l, l = (polysR rs).1 := ⟨_, rfl⟩
    obtain ⟨z, hz⟩ : ∃ z, z = (polysR rs).2 := ⟨_, rfl⟩
    have HL := Lib.hid hl
    have HZ := Lib.hid hz
    have HF2 := Lib.hid hf
    clear hf hl hz
    have qe : (z == z) = true := by simp
    have qd : decide (l = l) = true := by simp
    go_enter Try.func3, Try.ntmps3
    go_wp2_with fail
    (refine (HF.out).mono ?_; rintro e w1 ⟨rfl, hb1⟩)
    go_wp2_with fail
    refine (nest_Polygons rs _ _ _ _ (HR.out.below hb1) rfl HF2.out).mono ?_
    rintro e w2 ⟨A1, c1, rfl, hr1, hb2⟩
    rw [← HL.out] at hr1 ⊢
    rw [← HZ.out]
    have R1 := Lib.hid hr1
    clear hr1
    go_wp2_with fail
    refine (ref22_Polygons rs _ _ _ _ ((HR.out.below hb1).below hb2) rfl HF2.out).mono ?_
    rintro e w3 ⟨A2, c2, rfl, hr2, hb3⟩
    rw [← HL.out] at hr2 ⊢
    rw [← HZ.out]
    have R2 := Lib.hid hr2
    clear hr2
    go_wp2_with fail
    (refine (ref22_Same l l _ _ _ _ _ _ _ (R1.out.below hb3) R2.out rfl rfl).mono ?_; rintro e w4 ⟨rfl, hb4⟩)
    go_wp2_with fail
    (refine (law22_lives _).mono ?_; rintro e w5 ⟨rfl, hb5⟩)
    go_wp2
    go_ret
    exact ⟨rfl, (by repeat (first | exact Below.refl _ _ | apply below_alloc | apply below_drewN | apply below_drew | (refine below_set2 ?_ ?_; (first | (simp; done) | (simp; omega))) | (refine below_step ?_ hb5) | (refine below_step ?_ hb4) | (refine below_step ?_ hb3) | (refine below_step ?_ hb2) | (refine below_step ?_ hb1)))⟩
end Go.Proofs.Ytaphjehkpdjolaa
