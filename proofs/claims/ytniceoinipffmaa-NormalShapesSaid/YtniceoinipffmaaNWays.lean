/- Contracts of data.checker.checkWays. -/
import Derived.Test.YtniceoinipffmaaNPred
namespace Go.Proofs.Ytniceoinipffmaa
open Go.RowKit Go.Proofs.YtniceoinipffmaaW.PrintLast
set_option linter.unusedVariables false
set_option linter.unusedSimpArgs false

abbrev encI : Int → Value := fun x => Value.int .i64 x
theorem keyI : KeyOk Try.prog 3 encI := keyOk_int (by kernel_rfl)
/-- The error of a way behind its ID. -/
def wayB (ids : List Int) (x : Way) : Int :=
  if x.2.1.length < 2 then 12 else if 2000 < x.2.1.length then 5 else if x.2.1.any (fun n => !decide (n ∈ ids)) then 9 else tagErr x.2.2
def wayE (ids : List Int) (l : List Way) (k : Nat) : Option Int :=
  if idE (fun i => (wyD l i).1) k ≠ 0 then some (idE (fun i => (wyD l i).1) k) else if wayB ids (wyD l k) ≠ 0 then some (wayB ids (wyD l k)) else none
theorem wayE_id {ids : List Int} {l : List Way} {k : Nat} (h : idE (fun i => (wyD l i).1) k ≠ 0) : wayE ids l k = some (idE (fun i => (wyD l i).1) k) := by simp [wayE, h]
theorem wayE_b {ids : List Int} {l : List Way} {k : Nat} {z : Int} (h : idE (fun i => (wyD l i).1) k = 0) (h1 : wayB ids (wyD l k) = z) (h2 : z ≠ 0) : wayE ids l k = some z := by subst h1; simp [wayE, h, h2]
theorem wayE_ok {ids : List Int} {l : List Way} {k : Nat} (h : idE (fun i => (wyD l i).1) k = 0) (h1 : wayB ids (wyD l k) = 0) : wayE ids l k = none := by simp [wayE, h, h1]
def waysErr (ids : List Int) (l : List Way) : Int := scan l.length (wayE ids l)
theorem wayB_cases (ids : List Int) (x : Way) : (x.2.1.length < 2 ∧ wayB ids x = 12) ∨ (¬ x.2.1.length < 2 ∧ 2000 < x.2.1.length ∧ wayB ids x = 5) ∨
    (¬ x.2.1.length < 2 ∧ ¬ 2000 < x.2.1.length ∧ x.2.1.any (fun n => !decide (n ∈ ids)) = true ∧ wayB ids x = 9) ∨ (¬ x.2.1.length < 2 ∧ ¬ 2000 < x.2.1.length ∧ x.2.1.any (fun n => !decide (n ∈ ids)) = false ∧ wayB ids x = tagErr x.2.2) := by
  unfold wayB
  by_cases h1 : x.2.1.length < 2
  · exact .inl ⟨h1, by rw [if_pos h1]⟩
  · by_cases h2 : 2000 < x.2.1.length
    · exact .inr (.inl ⟨h1, h2, by rw [if_neg h1, if_pos h2]⟩)
    · cases h3 : x.2.1.any (fun n => !decide (n ∈ ids))
      · exact .inr (.inr (.inr ⟨h1, h2, rfl, by rw [if_neg h1, if_neg h2, if_neg (by simp)]⟩))
      · exact .inr (.inr (.inl ⟨h1, h2, rfl, by rw [if_neg h1, if_neg h2, if_pos rfl]⟩))

theorem checkWays1 {ok : Nat → Prop} (l : List Way) (A : Option Addr) (n c g i : Nat) (w : World) (hr : Row Ty.way ok w A l) (hn : n = l.length) (hc : w.cell? ⟨g, 1, none⟩ = some (.slice A n c)) (hi : i < l.length) :
    Calls Try.prog 69 #[.int .i64 (i : Int), .pointer (some ⟨g, 0, none⟩)] w fun e w' => e = .returned (.int .i64 (wyD l i).1) ∧ Below w.heap.size w w' := by
  subst hn
  have hl := hr.len
  obtain ⟨ad, A1, c1, A2, c2, rfl, hc1, _⟩ := hr.way_at i hi
  clear hr
  go_enter Try.func69, Try.ntmps69
  go_wp2
  go_ret
  exact ⟨rfl, (by repeat (first | exact Below.refl _ _ | apply below_alloc | apply below_drewN | apply below_drew | (refine below_set2 ?_ ?_; (first | (simp; done) | (simp; omega)))))⟩
set_option maxRecDepth 20000 in
theorem checkWays2 (ids : List Int) (b g : Nat) (x : Int) (w : World) (hc : w.cell? ⟨g, 3, none⟩ = some (.map (some b))) (HO : OwnMap encI w b (setM ids)) :
    Calls Try.prog 71 #[.int .i64 x, .pointer (some ⟨g, 0, none⟩)] w fun e w' => e = .returned (.bool (!decide (x ∈ ids))) ∧ Below w.heap.size w w' := by
  have HO' := Lib.hid HO
  have HV := Lib.hid (setM_val ids x)
  clear HO
  have hL : (Instr.lookup 92 (.map (some b)) (.int .i64 x) false).run Try.prog w = .ok (.bool (decide (x ∈ ids))) w := by
    have := HO'.out.lookup keyI (t := 92) (et := 4) (by kernel_rfl) (z := .bool false) (by kernel_rfl) x false
    rw [HV.out] at this
    exact this
  go_enter Try.func71, Try.ntmps71
  go_wp2
  go_ret
  exact ⟨rfl, (by repeat (first | exact Below.refl _ _ | apply below_alloc | apply below_drewN | apply below_drew | (refine below_set2 ?_ ?_; (first | (simp; done) | (simp; omega)))))⟩
theorem idAt_ways {ok : Nat → Prop} {l : List Way} {A : Option Addr} {n c g : Nat} {w : World} (hr : Row Ty.way ok w A l) (hn : n = l.length) (hc : w.cell? ⟨g, 1, none⟩ = some (.slice A n c)) :
    IdAt 69 #[.pointer (some ⟨g, 0, none⟩)] w l.length (fun i => (wyD l i).1) := fun W hW i hi =>
  checkWays1 l A n c g i W (hr.below hW) hn (cell_below hW hc) hi
theorem predI_ways {ids xs : List Int} {b g : Nat} {w : World} (hc : w.cell? ⟨g, 3, none⟩ = some (.map (some b))) (HO : OwnMap encI w b (setM ids)) :
    PredI 71 #[.pointer (some ⟨g, 0, none⟩)] w xs (fun n => !decide (n ∈ ids)) := fun W hW k hk =>
  checkWays2 ids b g (inD xs k) W (cell_below hW hc) (HO.below hW)

set_option maxRecDepth 20000 in
set_option maxHeartbeats 4000000 in
theorem checkWays {ok : Nat → Prop} (ids : List Int) (l : List Way) (A : Option Addr) (n c b : Nat) (u1 u2 u4 : Value) (w : World) (hr : Row Ty.way ok w A l) (hn : n = l.length) (hlen : l.length ≤ 1048576) (HO : OwnMap encI w b (setM ids))
    (ho1 : u1.oneCell' = true) (ho2 : u2.oneCell' = true) (ho4 : u4.oneCell' = true) :
    Calls Try.prog 48 #[.agg #[u1, .slice A n c, u2, .map (some b), u4]] w fun e w' => e = .returned (.int .i64 (waysErr ids l)) ∧ Below w.heap.size w w' := by
  subst hn
  have HR := Lib.hid hr
  have HOM := Lib.hid HO
  clear hr HO
  have hK := enters_num Try.func69 (by kernel_rfl) rfl
  have hK2 := enters_num Try.func71 (by kernel_rfl) rfl
  go_enter Try.func48, Try.ntmps48
  obtain ⟨W0, hW⟩ : ∃ W0, W0 = w.alloc (.cells #[u1, .slice A l.length c, u2, .map (some b), u4] 94) := ⟨_, rfl⟩
  have B0 : Below w.heap.size w W0 := by rw [hW]; exact (by repeat (first | exact Below.refl _ _ | apply below_alloc | apply below_drewN | apply below_drew | (refine below_set2 ?_ ?_; (first | (simp; done) | (simp; omega)))))
  have hg0 : W0.cell? ⟨w.heap.size, 1, none⟩ = some (.slice A l.length c) := by rw [hW]; simp only [World.cell?, heap_alloc_new]; rfl
  have hg3 : W0.cell? ⟨w.heap.size, 3, none⟩ = some (.map (some b)) := by rw [hW]; simp only [World.cell?, heap_alloc_new]; rfl
  go_wp2_with fail
  rw [← hW]
  have R0 := Lib.hid (HR.out.below B0)
  have HO0 := Lib.hid (HOM.out.below B0)
  clear hW
  go_loopw [10] (fun i wr => ∃ k : Nat, k ≤ l.length ∧ i = .int .i64 k ∧ Below W0.heap.size W0 wr ∧ Hid (∀ j, j < k → wayE ids l j = none)) (fun i _ => l.length - (intOf i).toNat)
  case atStart => exact ⟨0, Nat.zero_le _, rfl, Below.refl _ _, fun j hj => absurd hj (Nat.not_lt_zero _)⟩
  case round =>
    obtain ⟨k, hk, rfl, hb, HS⟩ := hrel
    by_cases hlt : k < l.length
    · have HID : Hid (IdAt 69 #[.pointer (some ⟨w.heap.size, 0, none⟩)] W0 l.length (fun i => (wyD l i).1)) := idAt_ways R0.out rfl hg0
      have HPR : Hid (PredI 71 #[.pointer (some ⟨w.heap.size, 0, none⟩)] W0 (wyD l k).2.1 (fun n => !decide (n ∈ ids))) := predI_ways hg3 HO0.out
      obtain ⟨ad, A1, c1, A2, c2, rfl, hc1, hc2, hc3, hl1, hrt1, hl2, hrt2⟩ := (R0.out.below hb).way_at k hlt
      have RT1 := Lib.hid hrt1
      have RT2 := Lib.hid hrt2
      have hx1 := hrt1.len
      clear hrt1 hrt2
      obtain ⟨Wp, hWp⟩ : ∃ Wp, Wp = wr.alloc (.cells #[.int .i64 (wyD l k).1, .slice A1 (wyD l k).2.1.length c1, .slice A2 (wyD l k).2.2.length c2] 50) := ⟨_, rfl⟩
      have BP : Below wr.heap.size wr Wp := by rw [hWp]; exact (by repeat (first | exact Below.refl _ _ | apply below_alloc | apply below_drewN | apply below_drew | (refine below_set2 ?_ ?_; (first | (simp; done) | (simp; omega)))))
      have hp1 : Wp.cell? ⟨wr.heap.size, 1, none⟩ = some (.slice A1 (wyD l k).2.1.length c1) := by rw [hWp]; simp only [World.cell?, heap_alloc_new]; rfl
      have hp2 : Wp.cell? ⟨wr.heap.size, 2, none⟩ = some (.slice A2 (wyD l k).2.2.length c2) := by rw [hWp]; simp only [World.cell?, heap_alloc_new]; rfl
      have HK := Lib.hid hK
      have HK2 := Lib.hid hK2
      clear hK hK2
      go_wp2_with fail
      rw [← hWp]
      clear hWp
      have BX : Below W0.heap.size W0 Wp := (by repeat (first | exact Below.refl _ _ | apply below_alloc | apply below_drewN | apply below_drew | (refine below_set2 ?_ ?_; (first | (simp; done) | (simp; omega))) | (refine below_step ?_ BP) | (refine below_step ?_ hb)))
      refine (data_ids 69 #[.pointer (some ⟨w.heap.size, 0, none⟩)] (fun i => (wyD l i).1) l.length k Wp hlt hlen (fun W hW i hi => HID.out W (below_step BX hW) i hi) HK.out).mono ?_
      rintro e w1 ⟨rfl, hb1⟩
      have hd1 := cell_below hb1 hp1
      have hd2 := cell_below hb1 hp2
      have BW : Below W0.heap.size W0 w1 := (by repeat (first | exact Below.refl _ _ | apply below_alloc | apply below_drewN | apply below_drew | (refine below_set2 ?_ ?_; (first | (simp; done) | (simp; omega))) | (refine below_step ?_ hb1) | (refine below_step ?_ BX)))
      clear hp1 hp2 hc1 hc2 hc3
      obtain ⟨z, hz⟩ : ∃ z, z = idE (fun i => (wyD l i).1) k := ⟨_, rfl⟩
      rw [← hz]
      by_cases h0 : z = 0
      · subst h0
        have HZ := Lib.hid hz.symm
        clear hz
        rcases wayB_cases ids (wyD l k) with ⟨h1, hok⟩ | ⟨h1, h2, hok⟩ | ⟨h1, h2, h3, hok⟩ | ⟨h1, h2, h3, hok⟩
        · have q1 : decide (((wyD l k).2.1.length : Int) < 2) = true := decide_eq_true (by omega)
          have HB := Lib.hid hok
          clear hok h1
          go_wp2
          go_ret
          exact ⟨ret_int (scan_hit HS.out hlt (wayE_b HZ.out HB.out (by decide))).symm, (by repeat (first | exact Below.refl _ _ | apply below_alloc | apply below_drewN | apply below_drew | (refine below_set2 ?_ ?_; (first | (simp; done) | (simp; omega))) | (refine below_step ?_ BW) | (refine below_step ?_ B0)))⟩
        · have q1 : decide (((wyD l k).2.1.length : Int) < 2) = false := decide_eq_false (by omega)
          have q2 : decide (2000 < ((wyD l k).2.1.length : Int)) = true := decide_eq_true (by omega)
          have HB := Lib.hid hok
          clear hok h1 h2
          go_wp2
          go_ret
          exact ⟨ret_int (scan_hit HS.out hlt (wayE_b HZ.out HB.out (by decide))).symm, (by repeat (first | exact Below.refl _ _ | apply below_alloc | apply below_drewN | apply below_drew | (refine below_set2 ?_ ?_; (first | (simp; done) | (simp; omega))) | (refine below_step ?_ BW) | (refine below_step ?_ B0)))⟩
        · have q1 : decide (((wyD l k).2.1.length : Int) < 2) = false := decide_eq_false (by omega)
          have q2 : decide (2000 < ((wyD l k).2.1.length : Int)) = false := decide_eq_false (by omega)
          have HB := Lib.hid hok
          have H3 := Lib.hid h3
          clear hok h1 h2 h3
          go_wp2_with fail
          refine (ContainsFunc_int (wyD l k).2.1 A1 _ c1 _ _ _ (fun n => !decide (n ∈ ids)) ((RT1.out.below BP).below hb1) rfl (fun W hW i hi => HPR.out W (below_step BW hW) i hi) HK2.out).mono ?_
          rintro e w2 ⟨rfl, hb2⟩
          rw [H3.out]
          have hd2' := cell_below hb2 hd2
          have BV : Below W0.heap.size W0 w2 := (by repeat (first | exact Below.refl _ _ | apply below_alloc | apply below_drewN | apply below_drew | (refine below_set2 ?_ ?_; (first | (simp; done) | (simp; omega))) | (refine below_step ?_ hb2) | (refine below_step ?_ BW)))
          go_wp2
          go_ret
          exact ⟨ret_int (scan_hit HS.out hlt (wayE_b HZ.out HB.out (by decide))).symm, (by repeat (first | exact Below.refl _ _ | apply below_alloc | apply below_drewN | apply below_drew | (refine below_set2 ?_ ?_; (first | (simp; done) | (simp; omega))) | (refine below_step ?_ BV) | (refine below_step ?_ B0)))⟩
        · have q1 : decide (((wyD l k).2.1.length : Int) < 2) = false := decide_eq_false (by omega)
          have q2 : decide (2000 < ((wyD l k).2.1.length : Int)) = false := decide_eq_false (by omega)
          have HB := Lib.hid hok
          have H3 := Lib.hid h3
          clear hok h1 h2 h3
          go_wp2_with fail
          refine (ContainsFunc_int (wyD l k).2.1 A1 _ c1 _ _ _ (fun n => !decide (n ∈ ids)) ((RT1.out.below BP).below hb1) rfl (fun W hW i hi => HPR.out W (below_step BW hW) i hi) HK2.out).mono ?_
          rintro e w2 ⟨rfl, hb2⟩
          rw [H3.out]
          have hd2' := cell_below hb2 hd2
          have BV : Below W0.heap.size W0 w2 := (by repeat (first | exact Below.refl _ _ | apply below_alloc | apply below_drewN | apply below_drew | (refine below_set2 ?_ ?_; (first | (simp; done) | (simp; omega))) | (refine below_step ?_ hb2) | (refine below_step ?_ BW)))
          go_wp2_with fail
          refine (tags_Check (wyD l k).2.2 A2 _ c2 _ (((RT2.out.below BP).below hb1).below hb2) rfl).mono ?_
          rintro e w3 ⟨rfl, hb3⟩
          have BU : Below W0.heap.size W0 w3 := (by repeat (first | exact Below.refl _ _ | apply below_alloc | apply below_drewN | apply below_drew | (refine below_set2 ?_ ?_; (first | (simp; done) | (simp; omega))) | (refine below_step ?_ hb3) | (refine below_step ?_ BV)))
          obtain ⟨y, hy⟩ : ∃ y, y = tagErr (wyD l k).2.2 := ⟨_, rfl⟩
          have HB' : Hid (wayB ids (wyD l k) = y) := by show _ = _; rw [hy]; exact HB.out
          rw [← hy]
          clear hy
          by_cases h5 : y = 0
          · subst h5
            go_wp2
            go_roundw
            case rel => exact ⟨k + 1, by omega, by go_num, BU, below_succ HS.out (wayE_ok HZ.out HB'.out)⟩
            case measure => simp [intOf]; omega
          · have q5 : (y != 0) = true := by simp [h5]
            have HY : Hid (wayE ids l k = some y) := wayE_b HZ.out HB'.out h5
            clear h5
            go_wp2
            go_ret
            exact ⟨ret_int (scan_hit HS.out hlt HY.out).symm, (by repeat (first | exact Below.refl _ _ | apply below_alloc | apply below_drewN | apply below_drew | (refine below_set2 ?_ ?_; (first | (simp; done) | (simp; omega))) | (refine below_step ?_ BU) | (refine below_step ?_ B0)))⟩
      · have q0 : (z == 0) = false := by simp [h0]
        have q5 : (z != 0) = true := by simp [h0]
        have HZ : Hid (wayE ids l k = some z) := by show _ = _; rw [hz]; exact wayE_id (by rw [← hz]; exact h0)
        clear hz h0
        go_wp2
        go_ret
        exact ⟨ret_int (scan_hit HS.out hlt HZ.out).symm, (by repeat (first | exact Below.refl _ _ | apply below_alloc | apply below_drewN | apply below_drew | (refine below_set2 ?_ ?_; (first | (simp; done) | (simp; omega))) | (refine below_step ?_ BW) | (refine below_step ?_ B0)))⟩
    · obtain rfl : k = l.length := by omega
      go_wp2
      go_ret
      exact ⟨ret_int (scan_none HS.out).symm, (by repeat (first | exact Below.refl _ _ | apply below_alloc | apply below_drewN | apply below_drew | (refine below_set2 ?_ ?_; (first | (simp; done) | (simp; omega))) | (refine below_step ?_ hb) | (refine below_step ?_ B0)))⟩
end Go.Proofs.Ytniceoinipffmaa
