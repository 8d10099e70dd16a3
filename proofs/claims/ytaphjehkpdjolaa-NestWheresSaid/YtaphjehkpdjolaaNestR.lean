/- Contracts of nest's and its reference's functions that only read: SameRing, SameRings, Same, Within, Few, few. -/
import Derived.Test.YtaphjehkpdjolaaWhereRef
import Derived.Test.YtaphjehkpdjolaaOwn
namespace Go.Proofs.Ytaphjehkpdjolaa
open Go.RowKit Go.Proofs.YtaphjehkpdjolaaW.PrintLast
set_option linter.unusedVariables false
set_option linter.unusedSimpArgs false

abbrev Rings := List Pts
abbrev Poly := Pts × Rings
abbrev Ty.ring : Ty Pts := Ty.slice Ty.pt
abbrev Ty.poly : Ty Poly := Ty.pair Ty.ring (Ty.slice Ty.ring)
def rgD (rs : Rings) (k : Nat) : Pts := rs.getD k []
def pyD (l : List Poly) (k : Nat) : Poly := l.getD k ([], [])
theorem Row.ring_at {ok : Nat → Prop} {w : World} {A : Option Addr} {rs : Rings} (h : Row Ty.ring ok w A rs) (k : Nat) (hk : k < rs.length) :
    ∃ ad A0 c0, A = some ad ∧ w.cell? (ad.add k) = some (.slice A0 (rgD rs k).length c0) ∧ (rgD rs k).length ≤ c0 ∧ Row Ty.pt ok w A0 (rgD rs k) := by
  obtain ⟨ad, cs, e, _, ⟨A0, c0, rfl, hl, hr⟩, hc⟩ := h.get hk
  have e2 : rgD rs k = rs[k] := by simp [rgD, hk]
  rw [e2]
  exact ⟨ad, A0, c0, e, by have := hc.first; rwa [show Ty.ring.sz = 1 from rfl, Nat.mul_one] at this, hl, hr⟩
theorem Row.poly_at {ok : Nat → Prop} {w : World} {A : Option Addr} {l : List Poly} (h : Row Ty.poly ok w A l) (k : Nat) (hk : k < l.length) :
    ∃ ad A0 c0 A1 c1, A = some ad ∧ w.cell? (ad.add (k * 2)) = some (.slice A0 (pyD l k).1.length c0) ∧ w.cell? ⟨(ad.add (k * 2)).block, (ad.add (k * 2)).off + 1, none⟩ = some (.slice A1 (pyD l k).2.length c1) ∧
      (pyD l k).1.length ≤ c0 ∧ Row Ty.pt ok w A0 (pyD l k).1 ∧ (pyD l k).2.length ≤ c1 ∧ Row Ty.ring ok w A1 (pyD l k).2 := by
  obtain ⟨ad, cs, e, _, ⟨c1, c2, rfl, ⟨A0, c0, rfl, hl, hr⟩, ⟨A1, c1', rfl, hl1, hr1⟩⟩, hc⟩ := h.get hk
  have e2 : pyD l k = l[k] := by simp [pyD, hk]
  rw [e2]
  exact ⟨ad, A0, c0, A1, c1', e, hc.first, hc.field 1 (by decide) rfl, hl, hr, hl1, hr1⟩

theorem take_eq_step {α : Type} {a b : List α} {k : Nat} (d : α) (h : a.take k = b.take k) (ha : k < a.length) (hb : k < b.length) (he : a.getD k d = b.getD k d) : a.take (k + 1) = b.take (k + 1) := by
  rw [take_snoc a k d ha, take_snoc b k d hb, h, he]
theorem take_ne {α : Type} {a b : List α} {k : Nat} (d : α) (he : a.getD k d ≠ b.getD k d) : a ≠ b := fun h => he (by rw [h])

theorem ref22_SameRing {ok ok' : Nat → Prop} (a b : Pts) (A B : Option Addr) (n m c d : Nat) (w : World) (ha : Row Ty.pt ok w A a) (hb : Row Ty.pt ok' w B b) (hn : n = a.length) (hm : m = b.length) :
    Calls Try.prog 28 #[.slice A n c, .slice B m d] w fun e w' => e = .returned (.bool (decide (a = b))) ∧ Below w.heap.size w w' := by
  subst hn hm
  have hl1 := ha.len
  have hl2 := hb.len
  by_cases hl : a.length = b.length
  · have HL := Lib.hid hl
    have hlb : ((a.length : Int) != (b.length : Int)) = false := by simp [hl]
    have hlb2 : (a.length == b.length) = true := by simp [hl]
    clear hl
    go_enter Try.func28, Try.ntmps28
    go_wp2
    go_loopw [5] (fun i wr => ∃ k : Nat, k ≤ a.length ∧ i = .int .i64 k ∧ Below w.heap.size w wr ∧ Hid (a.take k = b.take k)) (fun i _ => a.length - (intOf i).toNat)
    case atStart => exact ⟨0, Nat.zero_le _, rfl, Below.refl _ _, by simp [Hid]⟩
    case round =>
      obtain ⟨k, hk, rfl, hbl, hall⟩ := hrel
      by_cases hlt : k < a.length
      · have hlt2 : k < b.length := by have := HL.out; omega
        obtain ⟨ad, rfl, hc1, hc2⟩ := (ha.below hbl).pt_at k hlt
        obtain ⟨bd, rfl, hd1, hd2⟩ := (hb.below hbl).pt_at k hlt2
        obtain ⟨ax, ay, hab⟩ : ∃ ax ay, ptD a k = (ax, ay) := ⟨_, _, rfl⟩
        obtain ⟨bx, by_, hbb⟩ : ∃ bx by_, ptD b k = (bx, by_) := ⟨_, _, rfl⟩
        rw [hab] at hc1 hc2
        rw [hbb] at hd1 hd2
        simp only at hc1 hc2 hd1 hd2
        have HA := Lib.hid hab
        have HB := Lib.hid hbb
        clear hab hbb
        by_cases h1 : ax = bx
        · by_cases h2 : ay = by_
          · subst h1 h2
            go_wp2_with fail
            go_quiet (fail)
            go_wp2
            go_roundw
            case rel => exact ⟨k + 1, by omega, by go_num, (by repeat (first | exact Below.refl _ _ | apply below_alloc | apply below_drewN | apply below_drew | (refine below_set2 ?_ ?_; (first | (simp; done) | (simp; omega))) | (refine below_step ?_ hbl))), take_eq_step (0, 0) hall.out hlt hlt2 (HA.out.trans HB.out.symm)⟩
            case measure => simp [intOf]; omega
          · subst h1
            go_wp2_with fail
            go_quiet (fail)
            go_wp2
            go_ret
            exact ⟨ret_bool (by rw [eq_comm, decide_eq_false_iff_not]; exact take_ne (0, 0) (fun h => h2 (by have := HA.out.symm.trans (h.trans HB.out); exact (Prod.mk.inj this).2))), (by repeat (first | exact Below.refl _ _ | apply below_alloc | apply below_drewN | apply below_drew | (refine below_set2 ?_ ?_; (first | (simp; done) | (simp; omega))) | (refine below_step ?_ hbl)))⟩
        · go_wp2_with fail
          go_quiet (fail)
          go_wp2
          go_ret
          exact ⟨ret_bool (by rw [eq_comm, decide_eq_false_iff_not]; exact take_ne (0, 0) (fun h => h1 (by have := HA.out.symm.trans (h.trans HB.out); exact (Prod.mk.inj this).1))), (by repeat (first | exact Below.refl _ _ | apply below_alloc | apply below_drewN | apply below_drew | (refine below_set2 ?_ ?_; (first | (simp; done) | (simp; omega))) | (refine below_step ?_ hbl)))⟩
      · go_wp2
        go_ret
        refine ⟨ret_bool ?_, hbl⟩
        have := hall.out
        rw [List.take_of_length_le (by omega), List.take_of_length_le (by have := HL.out; omega)] at this
        simp [this]
  · have HL := Lib.hid hl
    have hlb : ((a.length : Int) != (b.length : Int)) = true := by simp; omega
    have hlb2 : (a.length == b.length) = false := by simpa using hl
    clear hl
    go_enter Try.func28, Try.ntmps28
    go_wp2
    go_ret
    exact ⟨ret_bool (by rw [eq_comm, decide_eq_false_iff_not]; exact fun h => HL.out (by rw [h])), Below.refl _ _⟩

theorem ref22_SameRings {ok ok' : Nat → Prop} (a b : Rings) (A B : Option Addr) (n m c d : Nat) (w : World) (ha : Row Ty.ring ok w A a) (hb : Row Ty.ring ok' w B b) (hn : n = a.length) (hm : m = b.length) :
    Calls Try.prog 16 #[.slice A n c, .slice B m d] w fun e w' => e = .returned (.bool (decide (a = b))) ∧ Below w.heap.size w w' := by
  subst hn hm
  have hl1 := ha.len
  have hl2 := hb.len
  by_cases hl : a.length = b.length
  · have HL := Lib.hid hl
    have hlb : ((a.length : Int) != (b.length : Int)) = false := by simp [hl]
    have hlb2 : (a.length == b.length) = true := by simp [hl]
    clear hl
    go_enter Try.func16, Try.ntmps16
    go_wp2
    go_loopw [5] (fun i wr => ∃ k : Nat, k ≤ a.length ∧ i = .int .i64 k ∧ Below w.heap.size w wr ∧ Hid (a.take k = b.take k)) (fun i _ => a.length - (intOf i).toNat)
    case atStart => exact ⟨0, Nat.zero_le _, rfl, Below.refl _ _, by simp [Hid]⟩
    case round =>
      obtain ⟨k, hk, rfl, hbl, hall⟩ := hrel
      by_cases hlt : k < a.length
      · have hlt2 : k < b.length := by have := HL.out; omega
        obtain ⟨ad, A0, c0, rfl, hc1, hc2, hr1⟩ := (ha.below hbl).ring_at k hlt
        obtain ⟨bd, B0, d0, rfl, hd1, hd2, hr2⟩ := (hb.below hbl).ring_at k hlt2
        have R1 := Lib.hid hr1
        have R2 := Lib.hid hr2
        clear hr1 hr2
        by_cases he : rgD a k = rgD b k
        · have HE := Lib.hid he
          clear he
          go_wp2_with fail
          go_still_tail 8, (by kernel_rfl)
          change wpList _ _ _ _ _ wr.drew
          go_wp2_with fail
          (refine (ref22_SameRing (rgD a k) (rgD b k) _ _ _ _ _ _ _ (R1.out.below (below_drew (Below.refl _ _))) (R2.out.below (below_drew (Below.refl _ _))) rfl rfl).mono ?_; rintro e w1 ⟨rfl, hb1⟩)
          have HE2 : decide (rgD a k = rgD b k) = true := decide_eq_true HE.out
          go_wp2
          go_roundw
          case rel => exact ⟨k + 1, by omega, by go_num, (by repeat (first | exact Below.refl _ _ | apply below_alloc | apply below_drewN | apply below_drew | (refine below_set2 ?_ ?_; (first | (simp; done) | (simp; omega))) | (refine below_step ?_ hb1) | (refine below_step ?_ hbl))), take_eq_step [] hall.out hlt hlt2 HE.out⟩
          case measure => simp [intOf]; omega
        · have HE := Lib.hid he
          clear he
          go_wp2_with fail
          go_still_tail 8, (by kernel_rfl)
          change wpList _ _ _ _ _ wr.drew
          go_wp2_with fail
          (refine (ref22_SameRing (rgD a k) (rgD b k) _ _ _ _ _ _ _ (R1.out.below (below_drew (Below.refl _ _))) (R2.out.below (below_drew (Below.refl _ _))) rfl rfl).mono ?_; rintro e w1 ⟨rfl, hb1⟩)
          have HE2 : decide (rgD a k = rgD b k) = false := decide_eq_false HE.out
          go_wp2
          go_ret
          exact ⟨ret_bool (by rw [eq_comm, decide_eq_false_iff_not]; exact take_ne [] HE.out), (by repeat (first | exact Below.refl _ _ | apply below_alloc | apply below_drewN | apply below_drew | (refine below_set2 ?_ ?_; (first | (simp; done) | (simp; omega))) | (refine below_step ?_ hb1) | (refine below_step ?_ hbl)))⟩
      · go_wp2
        go_ret
        refine ⟨ret_bool ?_, hbl⟩
        have := hall.out
        rw [List.take_of_length_le (by omega), List.take_of_length_le (by have := HL.out; omega)] at this
        simp [this]
  · have HL := Lib.hid hl
    have hlb : ((a.length : Int) != (b.length : Int)) = true := by simp; omega
    have hlb2 : (a.length == b.length) = false := by simpa using hl
    clear hl
    go_enter Try.func16, Try.ntmps16
    go_wp2
    go_ret
    exact ⟨ret_bool (by rw [eq_comm, decide_eq_false_iff_not]; exact fun h => HL.out (by rw [h])), Below.refl _ _⟩
end Go.Proofs.Ytaphjehkpdjolaa
