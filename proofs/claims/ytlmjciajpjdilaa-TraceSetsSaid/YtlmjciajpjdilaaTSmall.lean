/- Contracts of ref08.Same, ref21.Same and law21.square. -/
import Derived.Test.YtlmjciajpjdilaaTRings
import Derived.StillTailTactics
namespace Go.Proofs.Ytlmjciajpjdilaa
open Go.RowKit Go.Proofs.YtlmjciajpjdilaaW.PrintLast
set_option linter.unusedVariables false
set_option linter.unusedSimpArgs false

set_option maxRecDepth 100000 in
theorem ref08_Same {ok ok' : Nat → Prop} (a b : Pts) (A B : Option Addr) (n m c d : Nat) (w : World) (ha : Row Ty.pt ok w A a) (hb : Row Ty.pt ok' w B b) (hn : n = a.length) (hm : m = b.length) :
    Calls Try.prog 18 #[.slice A n c, .slice B m d] w fun e w' => e = .returned (.bool (decide (a = b))) ∧ Below w.heap.size w w' := by
  subst hn hm
  have hl1 := ha.len
  have hl2 := hb.len
  by_cases hl : a.length = b.length
  · have HL := Lib.hid hl
    have hlb : ((a.length : Int) != (b.length : Int)) = false := by simp [hl]
    have hlb2 : (a.length == b.length) = true := by simp [hl]
    clear hl
    go_enter Try.func18, Try.ntmps18
    go_wp2
    go_loopw [5] (fun i wr => ∃ k : Nat, k ≤ a.length ∧ i = .int .i64 k ∧ Below w.heap.size w wr ∧ Hid (a.take k = b.take k)) (fun i _ => a.length - (intOf i).toNat)
    case atStart => exact ⟨0, Nat.zero_le _, rfl, Below.refl _ _, by simp [Hid]⟩
    case round =>
      obtain ⟨k, hk, rfl, hbl, hall⟩ := hrel
      by_cases hlt : k < a.length
      · have hlt2 : k < b.length := by have := HL.out; omega
        obtain ⟨ad, rfl, hc1, hc2⟩ := (ha.below hbl).pt_at k hlt
        obtain ⟨bd, rfl, hd1, hd2⟩ := (hb.below hbl).pt_at k hlt2
        obtain ⟨ax, ay, hab⟩ : ∃ ax ay, ptD a k = (ax, ay) := ⟨_, _, rfl⟩
        obtain ⟨bx, by_, hbb⟩ : ∃ bx by_, ptD b k = (bx, by_) := ⟨_, _, rfl⟩
        rw [hab] at hc1 hc2
        rw [hbb] at hd1 hd2
        simp only at hc1 hc2 hd1 hd2
        have HA := Lib.hid hab
        have HB := Lib.hid hbb
        clear hab hbb
        by_cases h1 : ax = bx
        · by_cases h2 : ay = by_
          · subst h1 h2
            go_wp2_with fail
            go_quiet (fail)
            go_wp2
            go_roundw
            case rel => exact ⟨k + 1, by omega, by go_num, (by repeat (first | exact Below.refl _ _ | apply below_alloc | apply below_drewN | apply below_drew | (refine below_set2 ?_ ?_; (first | (simp; done) | (simp; omega))) | (refine below_step ?_ hbl))), take_eq_step (0, 0) hall.out hlt hlt2 (HA.out.trans HB.out.symm)⟩
            case measure => simp [intOf]; omega
          · subst h1
            go_wp2_with fail
            go_quiet (fail)
            go_wp2
            go_ret
            exact ⟨ret_bool (by rw [eq_comm, decide_eq_false_iff_not]; exact take_ne (0, 0) (fun h => h2 (by have := HA.out.symm.trans (h.trans HB.out); exact (Prod.mk.inj this).2))), (by repeat (first | exact Below.refl _ _ | apply below_alloc | apply below_drewN | apply below_drew | (refine below_set2 ?_ ?_; (first | (simp; done) | (simp; omega))) | (refine below_step ?_ hbl)))⟩
        · go_wp2_with fail
          go_quiet (fail)
          go_wp2
          go_ret
          exact ⟨ret_bool (by rw [eq_comm, decide_eq_false_iff_not]; exact take_ne (0, 0) (fun h => h1 (by have := HA.out.symm.trans (h.trans HB.out); exact (Prod.mk.inj this).1))), (by repeat (first | exact Below.refl _ _ | apply below_alloc | apply below_drewN | apply below_drew | (refine below_set2 ?_ ?_; (first | (simp; done) | (simp; omega))) | (refine below_step ?_ hbl)))⟩
      · go_wp2
        go_ret
        refine ⟨ret_bool ?_, hbl⟩
        have := hall.out
        rw [List.take_of_length_le (by omega), List.take_of_length_le (by have := HL.out; omega)] at this
        simp [this]
  · have HL := Lib.hid hl
    have hlb : ((a.length : Int) != (b.length : Int)) = true := by simp; omega
    have hlb2 : (a.length == b.length) = false := by simpa using hl
    clear hl
    go_enter Try.func18, Try.ntmps18
    go_wp2
    go_ret
    exact ⟨ret_bool (by rw [eq_comm, decide_eq_false_iff_not]; exact fun h => HL.out (by rw [h])), Below.refl _ _⟩

set_option maxRecDepth 100000 in
theorem ref21_Same {ok ok' : Nat → Prop} (a b : Rgs) (A B : Option Addr) (n m c d : Nat) (w : World) (ha : Row Ty.ring ok w A a) (hb : Row Ty.ring ok' w B b) (hn : n = a.length) (hm : m = b.length) :
    Calls Try.prog 6 #[.slice A n c, .slice B m d] w fun e w' => e = .returned (.bool (decide (a = b))) ∧ Below w.heap.size w w' := by
  subst hn hm
  have hl1 := ha.len
  have hl2 := hb.len
  by_cases hl : a.length = b.length
  · have HL := Lib.hid hl
    have hlb : ((a.length : Int) != (b.length : Int)) = false := by simp [hl]
    have hlb2 : (a.length == b.length) = true := by simp [hl]
    clear hl
    go_enter Try.func6, Try.ntmps6
    go_wp2
    go_loopw [5] (fun i wr => ∃ k : Nat, k ≤ a.length ∧ i = .int .i64 k ∧ Below w.heap.size w wr ∧ Hid (a.take k = b.take k)) (fun i _ => a.length - (intOf i).toNat)
    case atStart => exact ⟨0, Nat.zero_le _, rfl, Below.refl _ _, by simp [Hid]⟩
    case round =>
      obtain ⟨k, hk, rfl, hbl, hall⟩ := hrel
      by_cases hlt : k < a.length
      · have hlt2 : k < b.length := by have := HL.out; omega
        obtain ⟨ad, A0, c0, rfl, hc1, hc2, hr1⟩ := (ha.below hbl).ring_at k hlt
        obtain ⟨bd, B0, d0, rfl, hd1, hd2, hr2⟩ := (hb.below hbl).ring_at k hlt2
        have R1 := Lib.hid hr1
        have R2 := Lib.hid hr2
        clear hr1 hr2
        by_cases he : rgD a k = rgD b k
        · have HE := Lib.hid he
          clear he
          go_wp2_with fail
          go_still_tail 8, (by kernel_rfl)
          change wpList _ _ _ _ _ wr.drew
          go_wp2_with fail
          (refine (ref08_Same (rgD a k) (rgD b k) _ _ _ _ _ _ _ (R1.out.below (below_drew (Below.refl _ _))) (R2.out.below (below_drew (Below.refl _ _))) rfl rfl).mono ?_; rintro e w1 ⟨rfl, hb1⟩)
          have HE2 : decide (rgD a k = rgD b k) = true := decide_eq_true HE.out
          go_wp2
          go_roundw
          case rel => exact ⟨k + 1, by omega, by go_num, (by repeat (first | exact Below.refl _ _ | apply below_alloc | apply below_drewN | apply below_drew | (refine below_set2 ?_ ?_; (first | (simp; done) | (simp; omega))) | (refine below_step ?_ hb1) | (refine below_step ?_ hbl))), take_eq_step [] hall.out hlt hlt2 HE.out⟩
          case measure => simp [intOf]; omega
        · have HE := Lib.hid he
          clear he
          go_wp2_with fail
          go_still_tail 8, (by kernel_rfl)
          change wpList _ _ _ _ _ wr.drew
          go_wp2_with fail
          (refine (ref08_Same (rgD a k) (rgD b k) _ _ _ _ _ _ _ (R1.out.below (below_drew (Below.refl _ _))) (R2.out.below (below_drew (Below.refl _ _))) rfl rfl).mono ?_; rintro e w1 ⟨rfl, hb1⟩)
          have HE2 : decide (rgD a k = rgD b k) = false := decide_eq_false HE.out
          go_wp2
          go_ret
          exact ⟨ret_bool (by rw [eq_comm, decide_eq_false_iff_not]; exact take_ne [] HE.out), (by repeat (first | exact Below.refl _ _ | apply below_alloc | apply below_drewN | apply below_drew | (refine below_set2 ?_ ?_; (first | (simp; done) | (simp; omega))) | (refine below_step ?_ hb1) | (refine below_step ?_ hbl)))⟩
      · go_wp2
        go_ret
        refine ⟨ret_bool ?_, hbl⟩
        have := hall.out
        rw [List.take_of_length_le (by omega), List.take_of_length_le (by have := HL.out; omega)] at this
        simp [this]
  · have HL := Lib.hid hl
    have hlb : ((a.length : Int) != (b.length : Int)) = true := by simp; omega
    have hlb2 : (a.length == b.length) = false := by simpa using hl
    clear hl
    go_enter Try.func6, Try.ntmps6
    go_wp2
    go_ret
    exact ⟨ret_bool (by rw [eq_comm, decide_eq_false_iff_not]; exact fun h => HL.out (by rw [h])), Below.refl _ _⟩

theorem own_lit {w : World} {g base : Nat} {cs : Array Value} {xs : Sgs} {t : TypeId} (hg : g = w.heap.size) (hcs : cs = (xs.flatMap fun x => [Value.int .i64 x.1.1, .int .i64 x.1.2, .int .i64 x.2.1, .int .i64 x.2.2]).toArray) (hl : xs.length ≤ 1000000) (hb : base ≤ w.heap.size) :
    Own1 Ty.sg t base (w.alloc (.cells cs t)) (.slice (some ⟨g, 0, none⟩) xs.length xs.length) xs := by
  subst hg hcs
  have hl4 : (xs.flatMap fun x => [Value.int .i64 x.1.1, .int .i64 x.1.2, .int .i64 x.2.1, .int .i64 x.2.2]).length = xs.length * 4 := flat_len (k := 4) (enc := fun x : Sg => [.int .i64 x.1.1, .int .i64 x.1.2, .int .i64 x.2.1, .int .i64 x.2.2]) (fun _ => rfl) xs
  refine ⟨fun k hk => hk, _, ⟨hl4, .inr ⟨_, _, _, rfl, hb, heap_alloc_new _ _, Nat.le_refl _, by unfold maxLen; omega, hl4, ?_⟩⟩, reps_flat (k := 4) (enc := fun x : Sg => [.int .i64 x.1.1, .int .i64 x.1.2, .int .i64 x.2.1, .int .i64 x.2.2]) (fun _ => rfl) _ _ xs⟩
  rw [List.take_of_length_le]
  simp only [hl4]
  exact Nat.le_refl _
set_option maxHeartbeats 1000000 in
theorem law21_square (x y d : Int) (w : World) (hx : 0 ≤ x) (hx2 : x ≤ 1000) (hy : 0 ≤ y) (hy2 : y ≤ 1000) (hs : 0 ≤ d) (hs2 : d ≤ 1000) :
    Calls Try.prog 8 #[.int .i64 x, .int .i64 y, .int .i64 d] w fun e w' => ∃ g, e = .returned (.slice (some ⟨g, 0, none⟩) 4 4) ∧ Own1 Ty.sg 27 w.heap.size w' (.slice (some ⟨g, 0, none⟩) 4 4) (sqS x y d) ∧ Below w.heap.size w w' := by
  have hw : IntKind.i64.wrap (x + d) = x + d := IntWalk.i64_in _ (by omega)
  have hw2 : IntKind.i64.wrap (y + d) = y + d := IntWalk.i64_in _ (by omega)
  go_enter Try.func8, Try.ntmps8
  go_wp2
  go_ret
  exact ⟨_, rfl, own_lit (xs := sqS x y d) (by simp) (by simp [sqS]) (by simp [sqS]) (by simp; omega), (by repeat (first | exact Below.refl _ _ | apply below_alloc | apply below_drewN | apply below_drew | (refine below_set2 ?_ ?_; (first | (simp; done) | (simp; omega)))))⟩
end Go.Proofs.Ytlmjciajpjdilaa
