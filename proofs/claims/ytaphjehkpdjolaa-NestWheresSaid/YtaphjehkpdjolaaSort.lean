/- Contracts of poly.Less, the reference's Less, nest.Rings' comparison, and of slices.insertionSortCmpFunc over rings. -/
import Derived.Test.YtaphjehkpdjolaaNestA
import Derived.Test.YtaphjehkpdjolaaSortP
namespace Go.Proofs.Ytaphjehkpdjolaa
open Go.RowKit Go.Proofs.YtaphjehkpdjolaaW.PrintLast
set_option linter.unusedVariables false
set_option linter.unusedSimpArgs false

set_option maxHeartbeats 400000 in
theorem poly_Less {ok ok' : Nat → Prop} (a b : Pts) (A B : Option Addr) (n m c d : Nat) (w : World) (ha : Row Ty.pt ok w A a) (hb : Row Ty.pt ok' w B b) (hn : n = a.length) (hm : m = b.length) :
    Calls Try.prog 35 #[.slice A n c, .slice B m d] w fun e w' => e = .returned (.bool (lessR a b)) ∧ Below w.heap.size w w' := by
  subst hn hm
  have hl1 := ha.len
  have hl2 := hb.len
  go_enter Try.func35, Try.ntmps35
  go_wp2
  all_goals
    go_loopw [11] (fun i wr => ∃ k : Nat, k ≤ a.length ∧ k ≤ b.length ∧ i = .int .i64 k ∧ Below w.heap.size w wr ∧ Hid (a.take k = b.take k)) (fun i _ => a.length - (intOf i).toNat)
    case atStart => exact ⟨0, Nat.zero_le _, Nat.zero_le _, rfl, Below.refl _ _, by simp [Hid]⟩
    case round =>
      obtain ⟨k, hk1, hk2, rfl, hbl, hall⟩ := hrel
      by_cases hlt1 : k < a.length
      · by_cases hlt2 : k < b.length
        · obtain ⟨ad, rfl, hc1, hc2⟩ := (ha.below hbl).pt_at k hlt1
          obtain ⟨bd, rfl, hd1, hd2⟩ := (hb.below hbl).pt_at k hlt2
          obtain ⟨ax, ay, hab⟩ : ∃ ax ay, ptD a k = (ax, ay) := ⟨_, _, rfl⟩
          obtain ⟨bx, by_, hbb⟩ : ∃ bx by_, ptD b k = (bx, by_) := ⟨_, _, rfl⟩
          rw [hab] at hc1 hc2
          rw [hbb] at hd1 hd2
          simp only at hc1 hc2 hd1 hd2
          have HA := Lib.hid hab
          have HB := Lib.hid hbb
          clear hab hbb
          by_cases h1 : ax = bx ∧ ay = by_
          · obtain ⟨h1, h2⟩ := h1
            subst h1 h2
            go_wp2_with fail
            go_quiet (fail)
            go_wp2
            go_roundw
            case rel => exact ⟨k + 1, by omega, by omega, by go_num, (by repeat (first | exact Below.refl _ _ | apply below_alloc | apply below_drewN | apply below_drew | (refine below_set2 ?_ ?_; (first | (simp; done) | (simp; omega))) | (refine below_step ?_ hbl))), take_eq_step (0, 0) hall.out hlt1 hlt2 (HA.out.trans HB.out.symm)⟩
            case measure => simp [intOf]; omega
          · have hne : Hid (lessR a b = lessB (ax, ay) (bx, by_)) := by
              show _ = _
              rw [lessR_step hall.out hlt1 hlt2 (fun h => h1 (by have := HA.out.symm.trans (h.trans HB.out); exact Prod.mk.inj this)), show a.getD k (0, 0) = _ from HA.out, show b.getD k (0, 0) = _ from HB.out]
            by_cases h2 : ax = bx
            · have h3 : ¬ ay = by_ := fun e => h1 ⟨h2, e⟩
              subst h2
              clear h1
              go_wp2_with fail
              go_quiet (fail)
              go_wp2_with fail
              go_region_held3 (fun W => W.cell? (ad.add (k * 2)) = some (.int .i64 ax) ∧ W.cell? ⟨(ad.add (k * 2)).block, (ad.add (k * 2)).off + 1, none⟩ = some (.int .i64 ay) ∧ W.cell? (bd.add (k * 2)) = some (.int .i64 ax) ∧ W.cell? ⟨(bd.add (k * 2)).block, (bd.add (k * 2)).off + 1, none⟩ = some (.int .i64 by_)) (first | exact ⟨hc1, hc2, hd1, hd2⟩ | exact ⟨cell_below hb1 hc1, cell_below hb1 hc2, cell_below hb1 hd1, cell_below hb1 hd2⟩) (first | (go_at_call 51; (refine (grid_Less _ _ _ _ _).mono ?_; rintro e w1 ⟨rfl, hb1⟩)))
              go_wp2
              go_ret
              exact ⟨ret_bool hne.out.symm, (by repeat (first | exact Below.refl _ _ | apply below_alloc | apply below_drewN | apply below_drew | (refine below_set2 ?_ ?_; (first | (simp; done) | (simp; omega))) | (refine below_step ?_ hb1) | (refine below_step ?_ hbl)))⟩
            · clear h1
              go_wp2_with fail
              go_quiet (fail)
              go_wp2_with fail
              go_region_held3 (fun W => W.cell? (ad.add (k * 2)) = some (.int .i64 ax) ∧ W.cell? ⟨(ad.add (k * 2)).block, (ad.add (k * 2)).off + 1, none⟩ = some (.int .i64 ay) ∧ W.cell? (bd.add (k * 2)) = some (.int .i64 bx) ∧ W.cell? ⟨(bd.add (k * 2)).block, (bd.add (k * 2)).off + 1, none⟩ = some (.int .i64 by_)) (first | exact ⟨hc1, hc2, hd1, hd2⟩ | exact ⟨cell_below hb1 hc1, cell_below hb1 hc2, cell_below hb1 hd1, cell_below hb1 hd2⟩) (first | (go_at_call 51; (refine (grid_Less _ _ _ _ _).mono ?_; rintro e w1 ⟨rfl, hb1⟩)))
              go_wp2
              go_ret
              exact ⟨ret_bool hne.out.symm, (by repeat (first | exact Below.refl _ _ | apply below_alloc | apply below_drewN | apply below_drew | (refine below_set2 ?_ ?_; (first | (simp; done) | (simp; omega))) | (refine below_step ?_ hb1) | (refine below_step ?_ hbl)))⟩
        · obtain rfl : k = b.length := by omega
          have HL : Hid (lessR a b = decide (a.length < b.length)) := lessR_end (by rw [show min a.length b.length = b.length from by omega]; exact hall.out)
          go_wp2
          go_ret
          exact ⟨ret_bool (by rw [HL.out]), hbl⟩
      · obtain rfl : k = a.length := by omega
        have HL : Hid (lessR a b = decide (a.length < b.length)) := lessR_end (by rw [show min a.length b.length = a.length from by omega]; exact hall.out)
        go_wp2
        all_goals go_ret
        all_goals exact ⟨ret_bool (by rw [HL.out]), hbl⟩

set_option maxHeartbeats 400000 in
theorem ref11_Less {ok ok' : Nat → Prop} (a b : Pts) (A B : Option Addr) (n m c d : Nat) (w : World) (ha : Row Ty.pt ok w A a) (hb : Row Ty.pt ok' w B b) (hn : n = a.length) (hm : m = b.length) :
    Calls Try.prog 37 #[.slice A n c, .slice B m d] w fun e w' => e = .returned (.bool (lessR a b)) ∧ Below w.heap.size w w' := by
  subst hn hm
  have hl1 := ha.len
  have hl2 := hb.len
  go_enter Try.func37, Try.ntmps37
  go_wp2
  all_goals
    go_loopw [5] (fun i wr => ∃ k : Nat, k ≤ a.length ∧ k ≤ b.length ∧ i = .int .i64 k ∧ Below w.heap.size w wr ∧ Hid (a.take k = b.take k)) (fun i _ => a.length - (intOf i).toNat)
    case atStart => exact ⟨0, Nat.zero_le _, Nat.zero_le _, rfl, Below.refl _ _, by simp [Hid]⟩
    case round =>
      obtain ⟨k, hk1, hk2, rfl, hbl, hall⟩ := hrel
      by_cases hlt1 : k < a.length
      · by_cases hlt2 : k < b.length
        · obtain ⟨ad, rfl, hc1, hc2⟩ := (ha.below hbl).pt_at k hlt1
          obtain ⟨bd, rfl, hd1, hd2⟩ := (hb.below hbl).pt_at k hlt2
          obtain ⟨ax, ay, hab⟩ : ∃ ax ay, ptD a k = (ax, ay) := ⟨_, _, rfl⟩
          obtain ⟨bx, by_, hbb⟩ : ∃ bx by_, ptD b k = (bx, by_) := ⟨_, _, rfl⟩
          rw [hab] at hc1 hc2
          rw [hbb] at hd1 hd2
          simp only at hc1 hc2 hd1 hd2
          have HA := Lib.hid hab
          have HB := Lib.hid hbb
          clear hab hbb
          by_cases h1 : ax = bx ∧ ay = by_
          · obtain ⟨h1, h2⟩ := h1
            subst h1 h2
            go_wp2_with fail
            go_quiet (fail)
            go_wp2
            go_roundw
            case rel => exact ⟨k + 1, by omega, by omega, by go_num, (by repeat (first | exact Below.refl _ _ | apply below_alloc | apply below_drewN | apply below_drew | (refine below_set2 ?_ ?_; (first | (simp; done) | (simp; omega))) | (refine below_step ?_ hbl))), take_eq_step (0, 0) hall.out hlt1 hlt2 (HA.out.trans HB.out.symm)⟩
            case measure => simp [intOf]; omega
          · have hne : Hid (lessR a b = lessB (ax, ay) (bx, by_)) := by
              show _ = _
              rw [lessR_step hall.out hlt1 hlt2 (fun h => h1 (by have := HA.out.symm.trans (h.trans HB.out); exact Prod.mk.inj this)), show a.getD k (0, 0) = _ from HA.out, show b.getD k (0, 0) = _ from HB.out]
            by_cases h2 : ax = bx
            · have h3 : ¬ ay = by_ := fun e => h1 ⟨h2, e⟩
              subst h2
              clear h1
              go_wp2_with fail
              go_quiet (fail)
              go_wp2_with fail
              go_region_held3 (fun W => W.cell? (ad.add (k * 2)) = some (.int .i64 ax) ∧ W.cell? ⟨(ad.add (k * 2)).block, (ad.add (k * 2)).off + 1, none⟩ = some (.int .i64 ay) ∧ W.cell? (bd.add (k * 2)) = some (.int .i64 ax) ∧ W.cell? ⟨(bd.add (k * 2)).block, (bd.add (k * 2)).off + 1, none⟩ = some (.int .i64 by_)) (first | exact ⟨hc1, hc2, hd1, hd2⟩ | exact ⟨cell_below hb1 hc1, cell_below hb1 hc2, cell_below hb1 hd1, cell_below hb1 hd2⟩) (first | (go_at_call 52; (refine (ref08_Less _ _ _ _ _).mono ?_; rintro e w1 ⟨rfl, hb1⟩)))
              go_wp2
              go_ret
              exact ⟨ret_bool hne.out.symm, (by repeat (first | exact Below.refl _ _ | apply below_alloc | apply below_drewN | apply below_drew | (refine below_set2 ?_ ?_; (first | (simp; done) | (simp; omega))) | (refine below_step ?_ hb1) | (refine below_step ?_ hbl)))⟩
            · clear h1
              go_wp2_with fail
              go_quiet (fail)
              go_wp2_with fail
              go_region_held3 (fun W => W.cell? (ad.add (k * 2)) = some (.int .i64 ax) ∧ W.cell? ⟨(ad.add (k * 2)).block, (ad.add (k * 2)).off + 1, none⟩ = some (.int .i64 ay) ∧ W.cell? (bd.add (k * 2)) = some (.int .i64 bx) ∧ W.cell? ⟨(bd.add (k * 2)).block, (bd.add (k * 2)).off + 1, none⟩ = some (.int .i64 by_)) (first | exact ⟨hc1, hc2, hd1, hd2⟩ | exact ⟨cell_below hb1 hc1, cell_below hb1 hc2, cell_below hb1 hd1, cell_below hb1 hd2⟩) (first | (go_at_call 52; (refine (ref08_Less _ _ _ _ _).mono ?_; rintro e w1 ⟨rfl, hb1⟩)))
              go_wp2
              go_ret
              exact ⟨ret_bool hne.out.symm, (by repeat (first | exact Below.refl _ _ | apply below_alloc | apply below_drewN | apply below_drew | (refine below_set2 ?_ ?_; (first | (simp; done) | (simp; omega))) | (refine below_step ?_ hb1) | (refine below_step ?_ hbl)))⟩
        · obtain rfl : k = b.length := by omega
          have HL : Hid (lessR a b = decide (a.length < b.length)) := lessR_end (by rw [show min a.length b.length = b.length from by omega]; exact hall.out)
          go_wp2
          go_ret
          exact ⟨ret_bool (by rw [HL.out]), hbl⟩
      · obtain rfl : k = a.length := by omega
        have HL : Hid (lessR a b = decide (a.length < b.length)) := lessR_end (by rw [show min a.length b.length = a.length from by omega]; exact hall.out)
        go_wp2
        all_goals go_ret
        all_goals exact ⟨ret_bool (by rw [HL.out]), hbl⟩


def cmpR (a b : Pts) : Int := if lessR a b then -1 else if lessR b a then 1 else 0
theorem nestRings1 {ok ok' : Nat → Prop} (a b : Pts) (A B : Option Addr) (n m c d : Nat) (w : World) (ha : Row Ty.pt ok w A a) (hb : Row Ty.pt ok' w B b) (hn : n = a.length) (hm : m = b.length) :
    Calls Try.prog 34 #[.slice A n c, .slice B m d] w fun e w' => e = .returned (.int .i64 (cmpR a b)) ∧ Below w.heap.size w w' := by
  have HA := Lib.hid ha
  have HB := Lib.hid hb
  have HN := Lib.hid hn
  have HM := Lib.hid hm
  clear ha hb hn hm
  cases h1 : lessR a b
  · have H1 := Lib.hid h1
    cases h2 : lessR b a
    all_goals
      have H2 := Lib.hid h2
      go_enter Try.func34, Try.ntmps34
      go_wp2_with fail
      (refine (poly_Less a b A B n m c d w HA.out HB.out HN.out HM.out).mono ?_; rintro e w1 ⟨rfl, hb1⟩)
      go_wp2_with fail
      (refine (poly_Less b a B A m n d c w1 (HB.out.below hb1) (HA.out.below hb1) HM.out HN.out).mono ?_; rintro e w2 ⟨rfl, hb2⟩)
      go_wp2
      go_ret
      exact ⟨ret_int (by simp [cmpR, H1.out, H2.out]), (by repeat (first | exact Below.refl _ _ | apply below_alloc | apply below_drewN | apply below_drew | (refine below_set2 ?_ ?_; (first | (simp; done) | (simp; omega))) | (refine below_step ?_ hb2) | (refine below_step ?_ hb1)))⟩
  · have H1 := Lib.hid h1
    go_enter Try.func34, Try.ntmps34
    go_wp2_with fail
    (refine (poly_Less a b A B n m c d w HA.out HB.out HN.out HM.out).mono ?_; rintro e w1 ⟨rfl, hb1⟩)
    go_wp2
    go_ret
    exact ⟨ret_int (by simp [cmpR, H1.out]), (by repeat (first | exact Below.refl _ _ | apply below_alloc | apply below_drewN | apply below_drew | (refine below_set2 ?_ ?_; (first | (simp; done) | (simp; omega))) | (refine below_step ?_ hb1)))⟩
end Go.Proofs.Ytaphjehkpdjolaa
