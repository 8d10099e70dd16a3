/- Contracts of poly.crosses and of the reference's Crosses, at grid points. Contract of ref21.Where. Plain laws: the reference's check and position are the code's. Plain laws: the reference divides a set's segments as the code does. Plain laws: the reference's crossings are the code's. Plain law: the reference's check is the code's. Contract of law21.TraceChecks. -/
import Derived.Test.YtlmjciajpjdilaaGreatKC1
import Derived.Test.YtlmjciajpjdilaaGreatKC4
import Derived.Test.YtlmjciajpjdilaaGreatKC9
import Derived.Test.YtlmjciajpjdilaaGreatKC16
import Derived.Test.YtlmjciajpjdilaaGreatKC11
import Derived.Test.YtlmjciajpjdilaaGreatKC6

section
namespace Go.Proofs.YtlmjciajpjdilaaGreat
open Go.RowKit

def crossesB (a b p : Pt) : Bool :=
  if decide (p.2 < a.2) = decide (p.2 < b.2) then false else if a.2 < b.2 then decide (0 < crossZ a b p) else decide (crossZ a b p < 0)
theorem cross_swap (a b p : Pt) : crossZ b a p = - crossZ a b p := by unfold crossZ; grind
theorem cross_alt (a b p : Pt) : (p.2 - a.2) * (b.1 - a.1) - (p.1 - a.1) * (b.2 - a.2) = crossZ a b p := by unfold crossZ; grind

theorem poly_crosses (ax ay bx by_ px py : Int) (w : World) (hv : (validB (ax, ay) && validB (bx, by_) && validB (px, py)) = true) :
    Calls Tryz.prog 102 #[.agg #[.int .i64 ax, .int .i64 ay], .agg #[.int .i64 bx, .int .i64 by_], .agg #[.int .i64 px, .int .i64 py]] w fun e w' => e = .returned (.bool (crossesB (ax, ay) (bx, by_) (px, py))) ∧ Below w.heap.size w w' := by
  by_cases hs : by_ < ay
  · have HT : Hid (turnZ (bx, by_) (ax, ay) (px, py) = crossZ (bx, by_) (ax, ay) (px, py)) := turn_valid (by simp only [Bool.and_eq_true] at hv ⊢; exact ⟨⟨hv.1.2, hv.1.1⟩, hv.2⟩)
    clear hv
    go_enter Tryz.func102, Tryz.ntmps102
    go_wp2_with (go_at_call 82; (refine (seg_Turn _ _ _ _ _ _ _).mono ?_; rintro e w1 ⟨rfl, hb1⟩; obtain ⟨c_hb1, f_hb1⟩ := bcell hb1; have z_hb1 := hb1.size; (try simp at z_hb1); (try have y0_hb1 : w.heap.size < w1.heap.size := by omega); (try have y1_hb1 : w.heap.size + 1 < w1.heap.size := by omega); (try have y2_hb1 : w.heap.size + 1 + 1 < w1.heap.size := by omega); (try have y3_hb1 : w.heap.size + 1 + 1 + 1 < w1.heap.size := by omega); (try have y4_hb1 : w.heap.size + 1 + 1 + 1 + 1 < w1.heap.size := by omega)))
    all_goals go_ret
    all_goals refine ⟨ret_bool ?_, (by repeat (first | exact Below.refl _ _ | apply below_alloc | apply below_drewN | apply below_drew | (refine below_set2 ?_ ?_; (first | (simp; done) | (simp; omega))) | (refine below_step ?_ hb1)))⟩
    all_goals simp only [crossesB]
    · rw [HT.out, cross_swap, if_neg (by rw [decide_eq_decide]; omega), if_neg (by omega), decide_eq_decide]; omega
    · rw [if_pos (by rw [decide_eq_decide]; omega)]
    · rw [if_pos (by rw [decide_eq_decide]; omega)]
  · have HT : Hid (turnZ (ax, ay) (bx, by_) (px, py) = crossZ (ax, ay) (bx, by_) (px, py)) := turn_valid hv
    clear hv
    go_enter Tryz.func102, Tryz.ntmps102
    go_wp2_with (go_at_call 82; (refine (seg_Turn _ _ _ _ _ _ _).mono ?_; rintro e w1 ⟨rfl, hb1⟩; obtain ⟨c_hb1, f_hb1⟩ := bcell hb1; have z_hb1 := hb1.size; (try simp at z_hb1); (try have y0_hb1 : w.heap.size < w1.heap.size := by omega); (try have y1_hb1 : w.heap.size + 1 < w1.heap.size := by omega); (try have y2_hb1 : w.heap.size + 1 + 1 < w1.heap.size := by omega); (try have y3_hb1 : w.heap.size + 1 + 1 + 1 < w1.heap.size := by omega); (try have y4_hb1 : w.heap.size + 1 + 1 + 1 + 1 < w1.heap.size := by omega)))
    all_goals go_ret
    all_goals refine ⟨ret_bool ?_, (by repeat (first | exact Below.refl _ _ | apply below_alloc | apply below_drewN | apply below_drew | (refine below_set2 ?_ ?_; (first | (simp; done) | (simp; omega))) | (refine below_step ?_ hb1)))⟩
    all_goals simp only [crossesB]
    · rw [HT.out, if_neg (by rw [decide_eq_decide]; omega), if_pos (by omega)]
    · rw [if_pos (by rw [decide_eq_decide]; omega)]
    · rw [if_pos (by rw [decide_eq_decide]; omega)]

theorem ref11_Crosses (ax ay bx by_ px py : Int) (w : World) (hv : (validB (ax, ay) && validB (bx, by_) && validB (px, py)) = true) :
    Calls Tryz.prog 43 #[.agg #[.int .i64 ax, .int .i64 ay], .agg #[.int .i64 bx, .int .i64 by_], .agg #[.int .i64 px, .int .i64 py]] w fun e w' => e = .returned (.bool (crossesB (ax, ay) (bx, by_) (px, py))) ∧ Below w.heap.size w w' := by
  simp only [Bool.and_eq_true] at hv
  obtain ⟨⟨va, vb⟩, vc⟩ := hv
  obtain ⟨a1, a2, a3, a4⟩ := valid_bd va
  obtain ⟨b1, b2, b3, b4⟩ := valid_bd vb
  obtain ⟨c1, c2, c3, c4⟩ := valid_bd vc
  clear va vb vc
  simp only at a1 a2 a3 a4 b1 b2 b3 b4 c1 c2 c3 c4
  have HC : Hid (wrap64 (wrap64 ((py - ay) * (bx - ax)) - wrap64 ((px - ax) * (by_ - ay))) = crossZ (ax, ay) (bx, by_) (px, py)) := by
    show _ = _
    rw [cross_wrap (mul_bd (a := py - ay) (b := bx - ax) (by omega) (by omega) (by omega) (by omega)) (mul_bd (a := px - ax) (b := by_ - ay) (by omega) (by omega) (by omega) (by omega)), ← cross_alt]
  go_enter Tryz.func43, Tryz.ntmps43
  go_wp2
  all_goals go_ret
  all_goals refine ⟨ret_bool ?_, (by repeat (first | exact Below.refl _ _ | apply below_alloc | apply below_drewN | apply below_drew | (refine below_set2 ?_ ?_; (first | (simp; done) | (simp; omega)))))⟩
  all_goals simp only [crossesB]
  · have h : (decide (py < ay) == decide (py < by_)) = true := by assumption
    rw [if_pos (by simpa using h)]
  · have h : (decide (py < ay) == decide (py < by_)) = false := by assumption
    rw [HC.out, if_neg (by simpa using h), if_pos (by assumption)]
  · have h : (decide (py < ay) == decide (py < by_)) = false := by assumption
    rw [HC.out, if_neg (by simpa using h), if_neg (by omega)]
end Go.Proofs.YtlmjciajpjdilaaGreat
end

section
namespace Go.Proofs.YtlmjciajpjdilaaGreat
open Go.RowKit Go.Proofs.YtlmjciajpjdilaaGreatW.PrintLast
set_option linter.unusedVariables false
set_option linter.unusedSimpArgs false

attribute [local go_sem high] eqPt eqSg
def crsB (p : Pt) (s : Sg) : Bool := crossesB s.1 s.2 p
def onU (p : Pt) (s : Sg) : Bool := onB p s.1 s.2
def whereR (u : Sgs) (p : Pt) : Int := if u.any (onU p) = true then 1 else if u.countP (crsB p) % 2 = 1 then 2 else 0
def whereRl (l : Sgs) (p : Pt) : Int := if validB p = false then 0 else whereR (uniqZ l) p
theorem crs_snoc (u : Sgs) (p : Pt) (k : Nat) (h : k < u.length) : (u.take (k + 1)).countP (crsB p) = (u.take k).countP (crsB p) + if crsB p (sgD u k) = true then 1 else 0 := by
  rw [take_snoc u k ((0, 0), (0, 0)) h, List.countP_append, List.countP_singleton]
  rfl
theorem crs_le (u : Sgs) (p : Pt) (k : Nat) : (u.take k).countP (crsB p) ≤ k := Nat.le_trans List.countP_le_length (by rw [List.length_take]; omega)
set_option maxRecDepth 100000 in
set_option maxHeartbeats 4000000 in
theorem ref21_Where {ok : Nat → Prop} (l : Sgs) (A : Option Addr) (n c : Nat) (p : Pt) (w : World) (hr : Row Ty.sg ok w A l) (hn : n = l.length) (hlen : l.length ≤ 1000000) :
    Calls Tryz.prog 12 #[.slice A n c, ptA p] w fun e w' => e = .returned (.int .i64 (whereRl l p)) ∧ Below w.heap.size w w' := by
  subst hn
  have HR := Lib.hid hr
  clear hr
  have VP := Lib.hid (fun W => ref08_Valid p.1 p.2 W)
  have CU := Lib.hid (fun W h => ref20_Unique (ok := ok) l A l.length c W h rfl hlen)
  have HU := Lib.hid (uniq_V l)
  have HUL := Nat.le_trans (uniq_len l) hlen
  cases hv : validB p
  · have HV : Hid (validB (p.1, p.2) = false) := hv
    have HZ : Hid (whereRl l p = 0) := if_pos hv
    clear hv
    go_enter Tryz.func12, Tryz.ntmps12
    go_wp2_with fail
    (refine (VP.out _).mono ?_; rintro e w1 ⟨rfl, hb1⟩; obtain ⟨c_hb1, f_hb1⟩ := bcell hb1; have z_hb1 := hb1.size; (try simp at z_hb1); (try have y0_hb1 : w.heap.size < w1.heap.size := by omega); (try have y1_hb1 : w.heap.size + 1 < w1.heap.size := by omega); (try have y2_hb1 : w.heap.size + 1 + 1 < w1.heap.size := by omega); (try have y3_hb1 : w.heap.size + 1 + 1 + 1 < w1.heap.size := by omega); (try have y4_hb1 : w.heap.size + 1 + 1 + 1 + 1 < w1.heap.size := by omega))
    rw [HV.out]
    go_wp2
    go_ret
    exact ⟨ret_int HZ.out.symm, (by repeat (first | exact Below.refl _ _ | apply below_alloc | apply below_drewN | apply below_drew | (refine below_set2 ?_ ?_; (first | (simp; done) | (simp; omega))) | (refine below_step ?_ hb1)))⟩
  · have HV : Hid (validB (p.1, p.2) = true) := hv
    have HZ : Hid (whereRl l p = whereR (uniqZ l) p) := if_neg (by rw [hv]; decide)
    clear hv
    obtain ⟨z, hz⟩ : ∃ z, z = whereRl l p := ⟨_, rfl⟩
    rw [← hz] at HZ ⊢
    clear hz
    obtain ⟨u, hu⟩ : ∃ u, u = uniqZ l := ⟨_, rfl⟩
    rw [← hu] at HU HUL HZ CU
    clear hu
    go_enter Tryz.func12, Tryz.ntmps12
    go_wp2_with fail
    (refine (VP.out _).mono ?_; rintro e w1 ⟨rfl, hb1⟩; obtain ⟨c_hb1, f_hb1⟩ := bcell hb1; have z_hb1 := hb1.size; (try simp at z_hb1); (try have y0_hb1 : w.heap.size < w1.heap.size := by omega); (try have y1_hb1 : w.heap.size + 1 < w1.heap.size := by omega); (try have y2_hb1 : w.heap.size + 1 + 1 < w1.heap.size := by omega); (try have y3_hb1 : w.heap.size + 1 + 1 + 1 < w1.heap.size := by omega); (try have y4_hb1 : w.heap.size + 1 + 1 + 1 + 1 < w1.heap.size := by omega))
    rw [HV.out]
    have HX1 : w1.heap[w.heap.size]? = some (.cells #[.int .i64 p.1, .int .i64 p.2] 24 (0, 0)) := blk_below (heap_alloc_new _ _) hb1
    have HB1 : Hid (Below w.heap.size w w1) := (by repeat (first | exact Below.refl _ _ | apply below_alloc | apply below_drewN | apply below_drew | (refine below_set2 ?_ ?_; (first | (simp; done) | (simp; omega))) | (refine below_step ?_ hb1)))
    clear hb1 c_hb1 f_hb1
    go_wp2_with fail
    refine Calls.mono (CU.out _ (HR.out.below HB1.out)) ?_
    rintro e w2 ⟨v2, rfl, ho2, hb2⟩
    obtain ⟨A2, c2, rfl, hl2, hr2⟩ := ho2.reads
    have HR2 := Lib.hid hr2
    have HX2 := blk_below HX1 hb2
    have HB2 := Lib.hid (below_step HB1.out hb2)
    clear ho2 hr2 hb2 HX1 HB1 CU VP
    go_wp2
    go_loopw [6, 7] (fun v i wr => ∃ k : Nat, k ≤ u.length ∧ i = .int .i64 k ∧ v = .int .i64 ((u.take k).countP (crsB p) : Nat) ∧ wr.heap[w.heap.size]? = some (.cells #[.int .i64 p.1, .int .i64 p.2] 24 (0, 0)) ∧ Hid (Below w2.heap.size w2 wr) ∧ Hid ((u.take k).any (onU p) = false)) (fun _ i _ => u.length - (intOf i).toNat)
    case atStart => exact ⟨0, Nat.zero_le _, rfl, rfl, HX2, Below.refl _ _, by simp [Hid]⟩
    case round =>
      obtain ⟨k, hk, rfl, rfl, HX, HB, HN⟩ := hrel
      have hsz := lt_of_block HX
      have pc0 := blk_cell HX 0 rfl
      have pc1 := blk_cell HX 1 rfl
      have hle := crs_le u p k
      have HBw := Lib.hid (below_step HB2.out HB.out)
      by_cases hlt : k < u.length
      · obtain ⟨ad, rfl, hx0, hx1, hx2, hx3⟩ := (HR2.out.below HB.out).sg_at k hlt
        have hx3' : wr.cell? ⟨(ad.add (k * 4)).block, (ad.add (k * 4)).off + 2 + 1, none⟩ = some (.int .i64 (sgD u k).2.2) := hx3
        have HS := Lib.hid (crs_snoc u p k hlt)
        have HA := Lib.hid (any_snoc u ((0, 0), (0, 0)) (onU p) k hlt)
        have HH := Lib.hid (fun h => any_hit (xs := u) (d := ((0, 0), (0, 0))) (f := onU p) (k := k) hlt h)
        have HVS := HU.out (sgD u k) (by rw [sgD_eq hlt]; exact List.getElem_mem hlt)
        have e0 : u.getD k ((0, 0), (0, 0)) = sgD u k := rfl
        rw [e0] at HA HH
        clear e0
        generalize sgD u k = x at *
        generalize (u.take k).countP (crsB p) = cn at *
        have C1 := Lib.hid (fun W => ref09_On p.1 p.2 x.1.1 x.1.2 x.2.1 x.2.2 W)
        have C2 := Lib.hid (fun W => ref11_Crosses x.1.1 x.1.2 x.2.1 x.2.2 p.1 p.2 W (by rw [HV.out, Bool.and_true]; exact HVS))
        cases ho : onU p x
        · have HO : Hid (onB (p.1, p.2) (x.1.1, x.1.2) (x.2.1, x.2.2) = false) := ho
          have HN2 : Hid ((u.take (k + 1)).any (onU p) = false) := HA.out.trans (by rw [HN.out, ho]; rfl)
          rw [HO.out] at C1
          clear ho HH HA HN HVS
          go_wp2_with fail
          go_still_tail 11, (by kernel_rfl)
          change wpList _ _ _ _ _ wr.drew
          go_wp2_with fail
          (refine (C1.out _).mono ?_; rintro e w4 ⟨rfl, hb4⟩)
          have BR : Below wr.heap.size wr w4 := (by repeat (first | exact Below.refl _ _ | apply below_alloc | apply below_drewN | apply below_drew | (refine below_set2 ?_ ?_; (first | (simp; done) | (simp; omega))) | (refine below_step ?_ hb4)))
          have HX4 := blk_below HX BR
          have hy0 := cell_below BR hx0
          have hy1 := cell_below BR hx1
          have hy2 := cell_below BR hx2
          have hy3 : w4.cell? ⟨(ad.add (k * 4)).block, (ad.add (k * 4)).off + 2 + 1, none⟩ = some (.int .i64 x.2.2) := cell_below BR hx3'
          have HB4 := Lib.hid (below_step HB.out BR)
          clear hb4 BR pc0 pc1 hx0 hx1 hx2 hx3 hx3' HX
          have pc0 := blk_cell HX4 0 rfl
          have pc1 := blk_cell HX4 1 rfl
          go_wp2_with fail
          go_still_tail 11, (by kernel_rfl)
          change wpList _ _ _ _ _ w4.drew
          go_wp2_with fail
          (refine (C2.out _).mono ?_; rintro e w5 ⟨rfl, hb5⟩)
          have BR5 : Below w4.heap.size w4 w5 := (by repeat (first | exact Below.refl _ _ | apply below_alloc | apply below_drewN | apply below_drew | (refine below_set2 ?_ ?_; (first | (simp; done) | (simp; omega))) | (refine below_step ?_ hb5)))
          have HX5 := blk_below HX4 BR5
          have HB5 := Lib.hid (below_step HB4.out BR5)
          clear hb5 BR5 pc0 pc1 hy0 hy1 hy2 hy3 HX4
          cases hc : crsB p x
          · have HT : Hid ((u.take (k + 1)).countP (crsB p) = cn) := HS.out.trans (by rw [hc]; rfl)
            have HC : Hid (crossesB (x.1.1, x.1.2) (x.2.1, x.2.2) (p.1, p.2) = false) := hc
            rw [HC.out]
            clear hc HS
            go_wp2
            go_roundw
            case rel => exact ⟨k + 1, by omega, by go_num, by rw [HT.out], HX5, HB5.out, HN2.out⟩
            case measure => simp [intOf]; omega
          · have HT : Hid ((u.take (k + 1)).countP (crsB p) = cn + 1) := HS.out.trans (by rw [hc]; rfl)
            have HC : Hid (crossesB (x.1.1, x.1.2) (x.2.1, x.2.2) (p.1, p.2) = true) := hc
            rw [HC.out]
            clear hc HS
            go_wp2
            go_roundw
            case rel => exact ⟨k + 1, by omega, by go_num, by rw [HT.out]; go_num, HX5, HB5.out, HN2.out⟩
            case measure => simp [intOf]; omega
        · have HO : Hid (onB (p.1, p.2) (x.1.1, x.1.2) (x.2.1, x.2.2) = true) := ho
          have HR1 : Hid (z = 1) := HZ.out.trans (if_pos (HH.out ho))
          rw [HO.out] at C1
          clear ho HH HA HN HVS HS
          go_wp2_with fail
          go_still_tail 11, (by kernel_rfl)
          change wpList _ _ _ _ _ wr.drew
          go_wp2_with fail
          (refine (C1.out _).mono ?_; rintro e w4 ⟨rfl, hb4⟩)
          go_wp2
          go_ret
          exact ⟨ret_int HR1.out.symm, (by repeat (first | exact Below.refl _ _ | apply below_alloc | apply below_drewN | apply below_drew | (refine below_set2 ?_ ?_; (first | (simp; done) | (simp; omega))) | (refine below_step ?_ hb4) | (refine below_step ?_ HBw.out)))⟩
      · obtain rfl : k = u.length := by omega
        rw [List.take_length] at HN hle ⊢
        have HN0 := HN.out
        have HQ : Hid (z = if u.countP (crsB p) % 2 = 1 then 2 else 0) := HZ.out.trans (if_neg (by rw [HN0]; decide))
        clear HN0 HN
        generalize u.countP (crsB p) = cn at *
        by_cases hp : cn % 2 = 1
        · have HR1 : Hid (z = 2) := HQ.out.trans (if_pos hp)
          have e1 : (Int.tmod (cn : Int) 2 == 1) = true := by rw [show (2 : Int) = ((2 : Nat) : Int) from rfl, ← Int.ofNat_tmod, hp]; rfl
          have e2 : ((cn : Int) % 2 == 1) = true := by simp; omega
          clear hp HQ
          go_wp2
          go_ret
          exact ⟨ret_int HR1.out.symm, HBw.out⟩
        · have HR1 : Hid (z = 0) := HQ.out.trans (if_neg hp)
          have e1 : (Int.tmod (cn : Int) 2 == 1) = false := by
            rw [show (2 : Int) = ((2 : Nat) : Int) from rfl, ← Int.ofNat_tmod, beq_eq_false_iff_ne]; omega
          have e2 : ((cn : Int) % 2 == 1) = false := by rw [beq_eq_false_iff_ne]; omega
          clear hp HQ
          go_wp2
          go_ret
          exact ⟨ret_int HR1.out.symm, HBw.out⟩
end Go.Proofs.YtlmjciajpjdilaaGreat
end

section
namespace Go.Proofs.YtlmjciajpjdilaaGreat
set_option linter.unusedVariables false

/-! ### ends -/
theorem ends_deg : ∀ {u : Sgs} (p : Pt), (∀ s ∈ u, ¬ s.1 = s.2) → endsN u p = degZ u p
  | [], p, _ => rfl
  | s :: u, p, h => by
    have ih := ends_deg (u := u) p (fun t ht => h t (List.mem_cons_of_mem _ ht))
    have hs := h s (List.mem_cons_self ..)
    unfold endsN degZ at *
    have e : ends2 (s :: u) = [s.1, s.2] ++ ends2 u := rfl
    rw [e, List.countP_cons, List.count_append, ih, Nat.add_comm]
    congr 1
    unfold endB
    by_cases h1 : s.1 = p
    · have h2 : ¬ s.2 = p := fun h => hs (h1.trans h.symm)
      simp [h1, h2]
    · by_cases h2 : s.2 = p
      · simp [h1, h2]
      · simp [h1, h2]
theorem odd_any {u : Sgs} (h : ∀ s ∈ u, ¬ s.1 = s.2) : u.any (oddB u) = (ends2 u).any (fun p => decide (degZ u p % 2 = 1)) := by
  rw [Bool.eq_iff_iff, List.any_eq_true, List.any_eq_true]
  constructor
  · rintro ⟨s, hs, ho⟩
    unfold oddB at ho
    rw [Bool.or_eq_true] at ho
    rcases ho with ho | ho
    · exact ⟨s.1, List.mem_flatMap.2 ⟨s, hs, by simp⟩, by rwa [ends_deg s.1 h] at ho⟩
    · exact ⟨s.2, List.mem_flatMap.2 ⟨s, hs, by simp⟩, by rwa [ends_deg s.2 h] at ho⟩
  · rintro ⟨p, hp, ho⟩
    obtain ⟨s, hs, hm⟩ := List.mem_flatMap.1 hp
    refine ⟨s, hs, ?_⟩
    unfold oddB
    rw [ends_deg s.1 h, ends_deg s.2 h, Bool.or_eq_true]
    simp only [List.mem_cons, List.not_mem_nil, or_false] at hm
    rcases hm with rfl | rfl
    · exact .inl ho
    · exact .inr ho
/-! ### the ray -/
theorem ray_crs {s : Sg} (p : Pt) (h : ¬ s.1 = s.2) : rayB (2 * p.1, 2 * p.2) ((0, 0), (0, 0)) s = crsB p s := by
  obtain ⟨⟨a1, a2⟩, ⟨b1, b2⟩⟩ := s
  obtain ⟨p1, p2⟩ := p
  have hz : ¬ (((a1, a2), (b1, b2)) : Sg) = ((0, 0), (0, 0)) := by
    intro e
    simp only [Prod.mk.injEq] at e h
    omega
  unfold rayB crsB crossesB crossZ
  simp only [decide_eq_false hz, Bool.false_or]
  obtain ⟨D, hD⟩ : ∃ D, D = (b1 - a1) * (p2 - a2) - (b2 - a2) * (p1 - a1) := ⟨_, rfl⟩
  have e1 : (b1 - a1) * (2 * p2 - 2 * a2) - (b2 - a2) * (2 * p1 - 2 * a1) = 2 * D := by rw [hD]; grind
  have e2 : (a1 - b1) * (2 * p2 - 2 * b2) - (a2 - b2) * (2 * p1 - 2 * b1) = - (2 * D) := by rw [hD]; grind
  rw [← hD]
  by_cases hc : a2 > b2
  · simp only [if_pos hc, e2]
    by_cases h1 : p2 < a2
    · by_cases h2 : p2 < b2
      · rw [if_pos (by simp [h1, h2]), decide_eq_true (show 2 * b2 > 2 * p2 by omega)]; rfl
      · rw [if_neg (by simp [h1, h2]), if_neg (by omega), decide_eq_false (show ¬ 2 * b2 > 2 * p2 by omega), decide_eq_false (show ¬ 2 * a2 ≤ 2 * p2 by omega)]
        simp only [Bool.or_self, Bool.not_false, Bool.true_and]
        exact decide_eq_decide.2 ⟨fun h => by omega, fun h => by omega⟩
    · rw [if_pos (by simp [h1]; omega), decide_eq_true (show 2 * a2 ≤ 2 * p2 by omega), Bool.or_true]; rfl
  · simp only [if_neg hc, e1]
    by_cases h1 : p2 < a2
    · rw [if_pos (by simp [h1]; omega), decide_eq_true (show 2 * a2 > 2 * p2 by omega)]; rfl
    · by_cases h2 : p2 < b2
      · rw [if_neg (by simp [h1, h2]), if_pos (by omega), decide_eq_false (show ¬ 2 * a2 > 2 * p2 by omega), decide_eq_false (show ¬ 2 * b2 ≤ 2 * p2 by omega)]
        simp only [Bool.or_self, Bool.not_false, Bool.true_and]
        exact decide_eq_decide.2 ⟨fun h => by omega, fun h => by omega⟩
      · rw [if_pos (by simp [h1, h2]), decide_eq_true (show 2 * b2 ≤ 2 * p2 by omega), Bool.or_true]; rfl
theorem cross_crs : ∀ {u : Sgs} (p : Pt), (∀ s ∈ u, ¬ s.1 = s.2) → u.countP (crsB p) = crossN u (2 * p.1, 2 * p.2) ((0, 0), (0, 0))
  | [], p, _ => rfl
  | s :: u, p, h => by
    have ih := cross_crs (u := u) p (fun t ht => h t (List.mem_cons_of_mem _ ht))
    unfold crossN at *
    rw [List.countP_cons, List.countP_cons, ih, ray_crs p (h s (List.mem_cons_self ..))]
theorem where_eq (l : Sgs) (p : Pt) : whereRl l p = whereT l p := by
  unfold whereRl whereT whereR whereU
  rw [cross_crs p (fun s hs => uniq_ne hs)]
  rfl
end Go.Proofs.YtlmjciajpjdilaaGreat
end

section
namespace Go.Proofs.YtlmjciajpjdilaaGreat
set_option linter.unusedVariables false

def chP (a : Pt) : Pts → Sgs
  | [] => []
  | q :: c => (a, q) :: chP q c
def lastP (a : Pt) : Pts → Pt
  | [] => a
  | q :: c => lastP q c
theorem chP_snoc : ∀ (a : Pt) (c : Pts) (q : Pt), chP a (c ++ [q]) = chP a c ++ [(lastP a c, q)]
  | a, [], q => rfl
  | a, x :: c, q => by
    show (a, x) :: chP x (c ++ [q]) = _
    rw [chP_snoc x c q]; rfl
theorem ch_fold : ∀ (c : Pts) (a : Pt) (out : Sgs), (c.foldl chF (out, a)).1 = (chP a c).foldl (fun acc x => insZ lessS x acc) out
  | [], a, out => rfl
  | q :: c, a, out => by
    rw [List.foldl_cons]
    exact ch_fold c q (insZ lessS (a, q) out)
theorem splR_sort (s : Sgs) : splR s = sortG lessS (s.flatMap fun t => chP t.1 (cutR s t ++ [t.2])) := by
  unfold splR sortG
  rw [List.foldl_flatMap]
  congr 1
  funext out t
  exact ch_fold _ _ _
theorem cuts_fold (s : Sg) : ∀ (es : Pts) (acc : Sgs) (a : Pt), es.foldl (cutsF s) (acc, a) = (acc ++ chP a (es.filter fun p => withinB p s.1 s.2), lastP a (es.filter fun p => withinB p s.1 s.2))
  | [], acc, a => by simp [chP, lastP]
  | e :: es, acc, a => by
    rw [List.foldl_cons]
    by_cases hw : withinB e s.1 s.2 = true
    · have e1 : cutsF s (acc, a) e = (acc ++ [(a, e)], e) := if_pos hw
      rw [e1, cuts_fold s es, List.filter_cons_of_pos (by exact hw)]
      simp [chP, lastP]
    · have e1 : cutsF s (acc, a) e = (acc, a) := if_neg hw
      rw [e1, cuts_fold s es, List.filter_cons_of_neg (by exact hw)]
theorem cutsZ_ch (es : Pts) (s : Sg) (acc : Sgs) : cutsZ es s acc = acc ++ chP s.1 ((es.filter fun p => withinB p s.1 s.2) ++ [s.2]) := by
  unfold cutsZ
  simp only [cuts_fold]
  rw [chP_snoc, List.append_assoc]
theorem parts_flat (es : Pts) : ∀ (l : Sgs) (acc : Sgs), l.foldl (fun acc s => cutsZ es s acc) acc = acc ++ l.flatMap fun s => chP s.1 ((es.filter fun p => withinB p s.1 s.2) ++ [s.2])
  | [], acc => by simp
  | s :: l, acc => by
    rw [List.foldl_cons, parts_flat es l, cutsZ_ch, List.flatMap_cons, List.append_assoc]
theorem filter_cut (l : Sgs) (s : Sg) : ((endsZ l).filter fun p => withinB p s.1 s.2) = cutR (sortZ l) s := by
  refine inc_unique totB (fun x => ?_) (List.Pairwise.filter _ (compact_inc totB (sortG_srt totB _))) (cutR_inc _ _)
  rw [List.mem_filter, mem_cutR]
  unfold endsZ
  rw [mem_compact, mem_sortG]
  have e : x ∈ ends2 (uniqZ l) ↔ x ∈ ends2 (sortZ l) := by
    unfold ends2
    rw [List.mem_flatMap, List.mem_flatMap]
    constructor
    · rintro ⟨t, ht, hx⟩; exact ⟨t, mem_compact.1 ht, hx⟩
    · rintro ⟨t, ht, hx⟩; exact ⟨t, mem_compact.2 ht, hx⟩
  rw [e]
theorem lessB_or (a b : Pt) : lessB a b = true ↔ a.1 < b.1 ∨ (a.1 = b.1 ∧ a.2 < b.2) := by
  unfold lessB
  split <;> simp <;> omega
theorem within_less {p a b : Pt} (h : withinB p a b = true) (hl : lessB a b = true) : lessB a p = true ∧ lessB p b = true ∧ validB p = true := by
  obtain ⟨p1, p2⟩ := p
  obtain ⟨a1, a2⟩ := a
  obtain ⟨b1, b2⟩ := b
  unfold withinB onB at h
  simp only [Bool.and_eq_true, decide_eq_true_eq] at h
  obtain ⟨⟨⟨⟨hp, _⟩, _⟩, hc, hb⟩, h1, h2⟩ := h
  unfold crossZ at hc
  simp only at hc hb
  have h1' : ¬ (p1 = a1 ∧ p2 = a2) := fun e => h1 (by rw [e.1, e.2])
  have h2' : ¬ (p1 = b1 ∧ p2 = b2) := fun e => h2 (by rw [e.1, e.2])
  rw [lessB_or] at hl ⊢
  rw [lessB_or]
  simp only at hl ⊢
  rcases Int.lt_or_le a1 b1 with hx | hx
  · have n1 : p1 ≠ a1 := by
      intro e
      rw [e, Int.sub_self, Int.mul_zero, Int.sub_zero] at hc
      rcases Int.mul_eq_zero.1 hc with h | h <;> omega
    have n2 : p1 ≠ b1 := by
      intro e
      have : (b1 - a1) * (p2 - b2) = 0 := by rw [e] at hc; grind
      rcases Int.mul_eq_zero.1 this with h | h <;> omega
    exact ⟨by omega, by omega, hp⟩
  · exact ⟨by omega, by omega, hp⟩
theorem chP_good : ∀ {c : Pts} {a : Pt}, validB a = true → (∀ x ∈ c, validB x = true) → Inc lessB (a :: c) → ∀ t ∈ chP a c, goodB t = true ∧ ofS t = t
  | [], a, _, _, _, t, h => absurd h (List.not_mem_nil)
  | q :: c, a, ha, hc, hi, t, h => by
    have h1 := List.pairwise_cons.1 hi
    rcases List.mem_cons.1 h with rfl | h
    · have hl := h1.1 q (List.mem_cons_self ..)
      refine ⟨?_, ?_⟩
      · unfold goodB
        simp only [ha, hc q (List.mem_cons_self ..), Bool.and_self, Bool.and_true, decide_eq_true_eq]
        intro e
        rw [e, totB.irr] at hl; cases hl
      · unfold ofS ofB
        rw [if_neg (by rw [totB.asymm hl]; decide)]
    · exact chP_good (hc q (List.mem_cons_self ..)) (fun x hx => hc x (List.mem_cons_of_mem _ hx)) h1.2 t h
theorem canon_less {l : Sgs} {s : Sg} (h : s ∈ canonZ l) : lessB s.1 s.2 = true := by
  unfold canonZ at h
  obtain ⟨t, ht, rfl⟩ := List.mem_map.1 h
  have hg := (List.mem_filter.1 ht).2
  unfold goodB at hg
  have h1 : t.1 ≠ t.2 := by have := (Bool.and_eq_true _ _).mp hg; exact of_decide_eq_true this.1
  unfold ofS ofB
  cases hl : lessB t.2 t.1
  · have := totB.total h1
    rw [hl] at this
    simpa using this
  · simpa using hl
theorem chain_good {l : Sgs} {s : Sg} (h : s ∈ canonZ l) : ∀ t ∈ chP s.1 (cutR (sortZ l) s ++ [s.2]), goodB t = true ∧ ofS t = t := by
  have hl := canon_less h
  have hv := canon_V l s h
  rw [Bool.and_eq_true] at hv
  have hw : ∀ x ∈ cutR (sortZ l) s, lessB s.1 x = true ∧ lessB x s.2 = true ∧ validB x = true := fun x hx => within_less (mem_cutR.1 hx).2 hl
  refine chP_good hv.1 (fun x hx => ?_) (List.pairwise_cons.2 ⟨fun x hx => ?_, List.pairwise_append.2 ⟨cutR_inc _ _, List.pairwise_singleton _ _, fun x hx y hy => ?_⟩⟩)
  · rcases List.mem_append.1 hx with hx | hx
    · exact (hw x hx).2.2
    · rw [List.mem_singleton.1 hx]; exact hv.2
  · rcases List.mem_append.1 hx with hx | hx
    · exact (hw x hx).1
    · rw [List.mem_singleton.1 hx]; exact hl
  · rw [List.mem_singleton.1 hy]; exact (hw x hx).2.1
theorem canon_self {l : Sgs} (h : ∀ t ∈ l, goodB t = true ∧ ofS t = t) : canonZ l = l := by
  unfold canonZ
  rw [List.filter_eq_self.2 (fun t ht => (h t ht).1)]
  conv => rhs; rw [← List.map_id l]
  exact List.map_congr_left (fun t ht => (h t ht).2)
theorem split_same (l : Sgs) : splR (sortZ l) = splitZ l := by
  rw [splR_sort]
  unfold splitZ
  rw [parts_flat, List.nil_append]
  simp only [filter_cut]
  unfold sortZ
  rw [canon_self (l := (canonZ l).flatMap _) (fun t ht => by obtain ⟨s, hs, hm⟩ := List.mem_flatMap.1 ht; exact chain_good hs t hm)]
  exact sortG_congr totS ((sortG_perm (canonZ l)).flatMap_right _)
end Go.Proofs.YtlmjciajpjdilaaGreat
end

section
namespace Go.Proofs.YtlmjciajpjdilaaGreat
set_option linter.unusedVariables false

theorem both_fold (s t : Sg) : ∀ (es acc : Pts), acc.Nodup → (es.foldl (bothF s t) acc).Nodup ∧ ∀ x, x ∈ es.foldl (bothF s t) acc ↔ x ∈ acc ∨ (x ∈ es ∧ onB x s.1 s.2 = true ∧ onB x t.1 t.2 = true)
  | [], acc, h => ⟨h, fun x => by simp⟩
  | e :: es, acc, h => by
    rw [List.foldl_cons]
    by_cases hc : onB e s.1 s.2 = true ∧ onB e t.1 t.2 = true ∧ e ∉ acc
    · have e1 : bothF s t acc e = acc ++ [e] := if_pos hc
      have hn : (acc ++ [e]).Nodup := by
        rw [List.nodup_append]
        refine ⟨h, List.pairwise_singleton _ _, fun x hx y hy => ?_⟩
        rw [List.mem_singleton.1 hy]
        exact fun e => hc.2.2 (e ▸ hx)
      have ih := both_fold s t es (acc ++ [e]) hn
      rw [e1]
      refine ⟨ih.1, fun x => ?_⟩
      rw [ih.2 x, List.mem_append, List.mem_singleton, List.mem_cons]
      constructor
      · rintro ((h | rfl) | ⟨h, h2⟩)
        · exact .inl h
        · exact .inr ⟨.inl rfl, hc.1, hc.2.1⟩
        · exact .inr ⟨.inr h, h2⟩
      · rintro (h | ⟨rfl | h, h2⟩)
        · exact .inl (.inl h)
        · exact .inl (.inr rfl)
        · exact .inr ⟨h, h2⟩
    · have e1 : bothF s t acc e = acc := if_neg hc
      have ih := both_fold s t es acc h
      rw [e1]
      refine ⟨ih.1, fun x => ?_⟩
      rw [ih.2 x, List.mem_cons]
      constructor
      · rintro (h | ⟨h, h2⟩)
        · exact .inl h
        · exact .inr ⟨.inr h, h2⟩
      · rintro (h' | ⟨rfl | h', h2⟩)
        · exact .inl h'
        · refine .inl (Classical.byContradiction fun hx => hc ⟨h2.1, h2.2, hx⟩)
        · exact .inr ⟨h', h2⟩
theorem mem_both {s t : Sg} {x : Pt} : x ∈ bothR s t ↔ x ∈ endsOf s t ∧ onB x s.1 s.2 = true ∧ onB x t.1 t.2 = true := by
  have := (both_fold s t (endsOf s t) [] List.nodup_nil).2 x
  unfold bothR
  simpa using this
theorem both_two {s t : Sg} : 1 < (bothR s t).length ↔ ∃ x y, x ≠ y ∧ x ∈ bothR s t ∧ y ∈ bothR s t := by
  have hn : (bothR s t).Nodup := (both_fold s t (endsOf s t) [] List.nodup_nil).1
  constructor
  · intro h
    match hb : bothR s t, h with
    | x :: y :: l, _ =>
      rw [hb] at hn
      have := (List.pairwise_cons.1 hn).1 y (List.mem_cons_self ..)
      exact ⟨x, y, this, List.mem_cons_self .., List.mem_cons_of_mem _ (List.mem_cons_self ..)⟩
  · rintro ⟨x, y, hne, hx, hy⟩
    match hb : bothR s t with
    | [] => rw [hb] at hx; exact absurd hx (List.not_mem_nil)
    | [z] =>
      rw [hb] at hx hy
      exact absurd ((List.mem_singleton.1 hx).trans (List.mem_singleton.1 hy).symm) hne
    | a :: b :: l => simp
theorem par {d1 d2 a1 a2 b1 b2 : Int} (hd : ¬ (d1 = 0 ∧ d2 = 0)) (ha : d1 * a2 - d2 * a1 = 0) (hb : d1 * b2 - d2 * b1 = 0) : a1 * b2 - a2 * b1 = 0 := by
  by_cases h : d1 = 0
  · have h2 : d2 ≠ 0 := fun e => hd ⟨h, e⟩
    subst h
    have : d2 * (a1 * b2 - a2 * b1) = 0 := by grind
    rcases Int.mul_eq_zero.1 this with h | h
    · exact absurd h h2
    · exact h
  · have : d1 * (a1 * b2 - a2 * b1) = 0 := by grind
    rcases Int.mul_eq_zero.1 this with h' | h'
    · exact absurd h' h
    · exact h'
/-- Two different points on two segments: all lie on one line. -/
theorem two_line {s t : Sg} {x y : Pt} (hs : ¬ s.1 = s.2) (ht : ¬ t.1 = t.2) (hne : x ≠ y) (h1 : crossZ s.1 s.2 x = 0) (h2 : crossZ s.1 s.2 y = 0) (h3 : crossZ t.1 t.2 x = 0) (h4 : crossZ t.1 t.2 y = 0) :
    crossZ s.1 s.2 t.1 = 0 ∧ crossZ s.1 s.2 t.2 = 0 ∧ crossZ t.1 t.2 s.1 = 0 ∧ crossZ t.1 t.2 s.2 = 0 := by
  obtain ⟨⟨a1, a2⟩, ⟨b1, b2⟩⟩ := s
  obtain ⟨⟨c1, c2⟩, ⟨d1, d2⟩⟩ := t
  obtain ⟨x1, x2⟩ := x
  obtain ⟨y1, y2⟩ := y
  unfold crossZ at *
  simp only [Prod.mk.injEq, ne_eq] at *
  have ds : ¬ (b1 - a1 = 0 ∧ b2 - a2 = 0) := by omega
  have dt : ¬ (d1 - c1 = 0 ∧ d2 - c2 = 0) := by omega
  have dq : ¬ (y1 - x1 = 0 ∧ y2 - x2 = 0) := by omega
  have e1 : (b1 - a1) * (y2 - x2) - (b2 - a2) * (y1 - x1) = 0 := by grind
  have e2 : (d1 - c1) * (y2 - x2) - (d2 - c2) * (y1 - x1) = 0 := by grind
  have e3 : (b1 - a1) * (d2 - c2) - (b2 - a2) * (d1 - c1) = 0 := par dq (by grind) (by grind)
  have f1 : (b1 - a1) * (x2 - c2) - (b2 - a2) * (x1 - c1) = 0 := par dt (by grind) (by grind)
  have f2 : (d1 - c1) * (x2 - a2) - (d2 - c2) * (x1 - a1) = 0 := par ds (by grind) (by grind)
  exact ⟨by grind, by grind, by grind, by grind⟩
def leB (a b : Pt) : Prop := a = b ∨ lessB a b = true
theorem leB_or {a b : Pt} : leB a b ↔ a.1 < b.1 ∨ (a.1 = b.1 ∧ a.2 ≤ b.2) := by
  obtain ⟨a1, a2⟩ := a
  obtain ⟨b1, b2⟩ := b
  unfold leB
  rw [lessB_or]
  simp only [Prod.mk.injEq]
  omega
theorem mid_le {m n u v : Int} (hm : 0 < m) (hu : 0 ≤ u) (hum : u ≤ m) (h : m * v = n * u) : min 0 n ≤ v ∧ v ≤ max 0 n := by
  rcases Int.le_total 0 n with hn | hn
  · have h1 : 0 ≤ m * v := by rw [h]; exact Int.mul_nonneg hn hu
    have h2 : m * v ≤ m * n := by rw [h, Int.mul_comm m n]; exact Int.mul_le_mul_of_nonneg_left hum hn
    have h3 : (0 : Int) ≤ v := Int.le_of_mul_le_mul_left (a := m) (b := 0) (c := v) (by rw [Int.mul_zero]; exact h1) hm
    have h4 : v ≤ n := Int.le_of_mul_le_mul_left h2 hm
    omega
  · have h1 : m * v ≤ 0 := by rw [h]; exact Int.mul_nonpos_of_nonpos_of_nonneg hn hu
    have h2 : m * n ≤ m * v := by rw [h, Int.mul_comm m n]; exact Int.mul_le_mul_of_nonpos_left hn hum
    have h3 : v ≤ (0 : Int) := Int.le_of_mul_le_mul_left (a := m) (b := v) (c := 0) (by rw [Int.mul_zero]; exact h1) hm
    have h4 : n ≤ v := Int.le_of_mul_le_mul_left h2 hm
    omega
theorem on_of {p a b : Pt} (hv : (validB p && validB a && validB b) = true) (hc : crossZ a b p = 0) (h1 : leB a p) (h2 : leB p b) : onB p a b = true := by
  rw [leB_or] at h1 h2
  unfold onB
  rw [hv, Bool.true_and, decide_eq_true hc, Bool.true_and]
  refine decide_eq_true ?_
  obtain ⟨p1, p2⟩ := p
  obtain ⟨a1, a2⟩ := a
  obtain ⟨b1, b2⟩ := b
  unfold crossZ at hc
  simp only at *
  rcases Int.lt_or_le a1 b1 with hx | hx
  · have := mid_le (m := b1 - a1) (n := b2 - a2) (u := p1 - a1) (v := p2 - a2) (by omega) (by omega) (by omega) (by omega)
    omega
  · omega
theorem on_le {p a b : Pt} (h : onB p a b = true) (hl : lessB a b = true) : leB a p ∧ leB p b ∧ crossZ a b p = 0 := by
  have hc : crossZ a b p = 0 := by
    unfold onB at h
    simp only [Bool.and_eq_true, decide_eq_true_eq] at h
    exact h.2.1
  by_cases h1 : p = a
  · exact ⟨.inl h1.symm, .inr (h1 ▸ hl), hc⟩
  · by_cases h2 : p = b
    · exact ⟨.inr (h2 ▸ hl), .inl h2, hc⟩
    · have := within_less (p := p) (a := a) (b := b) (by unfold withinB; simp [h, h1, h2]) hl
      exact ⟨.inr this.1, .inr this.2.1, hc⟩
def loP (s t : Sg) : Pt := if lessB s.1 t.1 then t.1 else s.1
def hiP (s t : Sg) : Pt := if lessB t.2 s.2 then t.2 else s.2
theorem flat_eq (s t : Sg) : flatZ s t = if lessB (loP s t) (hiP s t) = true then 3 else if loP s t = hiP s t then 1 else 0 := rfl
theorem flat_three (s t : Sg) : flatZ s t = 3 ↔ lessB (loP s t) (hiP s t) = true := by
  rw [flat_eq]
  by_cases h : lessB (loP s t) (hiP s t) = true
  · rw [if_pos h]; exact ⟨fun _ => h, fun _ => rfl⟩
  · rw [if_neg h]
    by_cases h2 : loP s t = hiP s t
    · rw [if_pos h2]; exact ⟨fun e => by omega, fun e => absurd e h⟩
    · rw [if_neg h2]; exact ⟨fun e => by omega, fun e => absurd e h⟩
theorem flat_two (s t : Sg) : ¬ flatZ s t = 2 := by
  rw [flat_eq]
  by_cases h : lessB (loP s t) (hiP s t) = true
  · rw [if_pos h]; omega
  · rw [if_neg h]
    by_cases h2 : loP s t = hiP s t
    · rw [if_pos h2]; omega
    · rw [if_neg h2]; omega
theorem lo_le (s t : Sg) : leB s.1 (loP s t) ∧ leB t.1 (loP s t) ∧ (∀ x, leB s.1 x → leB t.1 x → leB (loP s t) x) ∧ (loP s t = s.1 ∨ loP s t = t.1) := by
  unfold loP
  by_cases h : lessB s.1 t.1 = true
  · rw [if_pos h]; exact ⟨.inr h, .inl rfl, fun x _ h => h, .inr rfl⟩
  · rw [if_neg h]
    refine ⟨.inl rfl, ?_, fun x h _ => h, .inl rfl⟩
    rw [lessB_or] at h
    rw [leB_or]; omega
theorem hi_le (s t : Sg) : leB (hiP s t) s.2 ∧ leB (hiP s t) t.2 ∧ (∀ x, leB x s.2 → leB x t.2 → leB x (hiP s t)) ∧ (hiP s t = s.2 ∨ hiP s t = t.2) := by
  unfold hiP
  by_cases h : lessB t.2 s.2 = true
  · rw [if_pos h]; exact ⟨.inr h, .inl rfl, fun x _ h => h, .inr rfl⟩
  · rw [if_neg h]
    refine ⟨.inl rfl, ?_, fun x h _ => h, .inl rfl⟩
    rw [lessB_or] at h
    rw [leB_or]; omega
theorem leB_lt {a b : Pt} (h : leB a b) (hne : a ≠ b) : lessB a b = true := h.elim (fun e => absurd e hne) id
theorem leB_lt_le {a b c d : Pt} (h1 : leB a b) (h2 : lessB b c = true) (h3 : leB c d) : lessB a d = true := by
  rw [leB_or] at h1 h3
  rw [lessB_or] at h2 ⊢
  omega
theorem lt_le {a b : Pt} (h : lessB a b = true) : leB a b := .inr h
/-- Along one line: two common ends iff the common part is longer than a point. -/
theorem two_flat {s t : Sg} (hv : validB s.1 = true ∧ validB s.2 = true ∧ validB t.1 = true ∧ validB t.2 = true) (hs : lessB s.1 s.2 = true) (ht : lessB t.1 t.2 = true)
    (c1 : crossZ s.1 s.2 t.1 = 0) (c2 : crossZ s.1 s.2 t.2 = 0) (c3 : crossZ t.1 t.2 s.1 = 0) (c4 : crossZ t.1 t.2 s.2 = 0) : 1 < (bothR s t).length ↔ lessB (loP s t) (hiP s t) = true := by
  have hlo := lo_le s t
  have hhi := hi_le s t
  have z0 : ∀ a b : Pt, crossZ a b a = 0 ∧ crossZ a b b = 0 := fun a b => by unfold crossZ; constructor <;> grind
  rw [both_two]
  constructor
  · rintro ⟨x, y, hne, hx, hy⟩
    have key : ∀ x y, x ∈ bothR s t → y ∈ bothR s t → lessB x y = true → lessB (loP s t) (hiP s t) = true := fun x y hx hy hl => by
      have x1 := on_le (mem_both.1 hx).2.1 hs
      have x2 := on_le (mem_both.1 hx).2.2 ht
      have y1 := on_le (mem_both.1 hy).2.1 hs
      have y2 := on_le (mem_both.1 hy).2.2 ht
      exact leB_lt_le (hlo.2.2.1 x x1.1 x2.1) hl (hhi.2.2.1 y y1.2.1 y2.2.1)
    cases hl : lessB x y
    · have := totB.total hne
      rw [hl] at this
      exact key y x hy hx (by simpa using this)
    · exact key x y hx hy hl
  · intro hl
    have vlo : validB (loP s t) = true ∧ crossZ s.1 s.2 (loP s t) = 0 ∧ crossZ t.1 t.2 (loP s t) = 0 ∧ loP s t ∈ endsOf s t := by
      rcases hlo.2.2.2 with e | e
      · rw [e]; exact ⟨hv.1, (z0 _ _).1, c3, by simp [endsOf]⟩
      · rw [e]; exact ⟨hv.2.2.1, c1, (z0 _ _).1, by simp [endsOf]⟩
    have vhi : validB (hiP s t) = true ∧ crossZ s.1 s.2 (hiP s t) = 0 ∧ crossZ t.1 t.2 (hiP s t) = 0 ∧ hiP s t ∈ endsOf s t := by
      rcases hhi.2.2.2 with e | e
      · rw [e]; exact ⟨hv.2.1, (z0 _ _).2, c4, by simp [endsOf]⟩
      · rw [e]; exact ⟨hv.2.2.2, c2, (z0 _ _).2, by simp [endsOf]⟩
    have hll := lt_le hl
    have tr : ∀ {a b c : Pt}, leB a b → leB b c → leB a c := fun {a b c} h1 h2 => by rw [leB_or] at *; omega
    refine ⟨loP s t, hiP s t, (fun e => by rw [e, totB.irr] at hl; cases hl), mem_both.2 ⟨vlo.2.2.2, on_of (by simp [hv, vlo.1]) vlo.2.1 hlo.1 (tr hll hhi.1), on_of (by simp [hv, vlo.1]) vlo.2.2.1 hlo.2.1 (tr hll hhi.2.1)⟩,
      mem_both.2 ⟨vhi.2.2.2, on_of (by simp [hv, vhi.1]) vhi.2.1 (tr hlo.1 hll) hhi.1, on_of (by simp [hv, vhi.1]) vhi.2.2.1 (tr hlo.2.1 hll) hhi.2.1⟩⟩
theorem sign_zero (n : Int) : signZ n = 0 ↔ n = 0 := by unfold signZ; omega
theorem bad_same {s t : Sg} (hv : validB s.1 = true ∧ validB s.2 = true ∧ validB t.1 = true ∧ validB t.2 = true) (hs : lessB s.1 s.2 = true) (ht : lessB t.1 t.2 = true) : badR s t = badB s t := by
  have ns : ¬ s.1 = s.2 := fun e => by rw [e, totB.irr] at hs; cases hs
  have nt : ¬ t.1 = t.2 := fun e => by rw [e, totB.irr] at ht; cases ht
  have os : ofS s = s := by unfold ofS ofB; rw [if_neg (by rw [totB.asymm hs]; decide)]
  have ot : ofS t = t := by unfold ofS ofB; rw [if_neg (by rw [totB.asymm ht]; decide)]
  have hm := relZ_main (s := s) (t := t) (by simp [hv]) ns nt
  rw [os, ot] at hm
  unfold badR badB relR relC
  rw [hm]
  have ta : turnZ s.1 s.2 t.1 = crossZ s.1 s.2 t.1 := turn_valid (by simp [hv])
  have tb : turnZ s.1 s.2 t.2 = crossZ s.1 s.2 t.2 := turn_valid (by simp [hv])
  have tc : turnZ t.1 t.2 s.1 = crossZ t.1 t.2 s.1 := turn_valid (by simp [hv])
  have td : turnZ t.1 t.2 s.2 = crossZ t.1 t.2 s.2 := turn_valid (by simp [hv])
  rw [ta, tb, tc, td]
  unfold relM
  by_cases hc : signZ (crossZ s.1 s.2 t.1) * signZ (crossZ s.1 s.2 t.2) < 0 ∧ signZ (crossZ t.1 t.2 s.1) * signZ (crossZ t.1 t.2 s.2) < 0
  · have h0 : ¬ (signZ (crossZ s.1 s.2 t.1) = 0 ∧ signZ (crossZ s.1 s.2 t.2) = 0) := fun h => by
      have := hc.1
      rw [h.1, Int.zero_mul] at this
      omega
    rw [if_pos (decide_eq_true hc), if_neg h0, if_pos hc]; rfl
  · rw [if_neg (by simpa using hc)]
    by_cases h0 : signZ (crossZ s.1 s.2 t.1) = 0 ∧ signZ (crossZ s.1 s.2 t.2) = 0
    · rw [if_pos h0]
      have c1 := (sign_zero _).1 h0.1
      have c2 := (sign_zero _).1 h0.2
      have hl := two_line (s := t) (t := s) (x := t.1) (y := t.2) nt ns nt (by unfold crossZ; grind) (by unfold crossZ; grind) c1 c2
      have h2 := two_flat hv hs ht c1 c2 hl.1 hl.2.1
      have h3 := flat_three s t
      have h4 := flat_two s t
      rw [decide_eq_false h4, Bool.false_or]
      apply decide_eq_decide.2
      rw [h3, ← h2]
      constructor
      · intro h
        by_cases h1 : 1 < (bothR s t).length
        · exact h1
        · rw [if_neg h1] at h
          split at h <;> omega
      · intro h; rw [if_pos h]; omega
    · rw [if_neg h0, if_neg hc]
      have h1 : ¬ 1 < (bothR s t).length := fun h => by
        obtain ⟨x, y, hne, hx, hy⟩ := both_two.1 h
        have hl := two_line (s := s) (t := t) ns nt hne (on_le (mem_both.1 hx).2.1 hs).2.2 (on_le (mem_both.1 hy).2.1 hs).2.2 (on_le (mem_both.1 hx).2.2 ht).2.2 (on_le (mem_both.1 hy).2.2 ht).2.2
        exact h0 ⟨(sign_zero _).2 hl.1, (sign_zero _).2 hl.2.1⟩
      rw [if_neg h1]
      split <;> split <;> simp
end Go.Proofs.YtlmjciajpjdilaaGreat
end

section
namespace Go.Proofs.YtlmjciajpjdilaaGreat
set_option linter.unusedVariables false

theorem uniq_canon {l : Sgs} {s : Sg} (h : s ∈ uniqZ l) : s ∈ canonZ l := by
  unfold uniqZ sortZ at h
  exact mem_sortG.1 (mem_compact.1 h)
theorem uniq_valid {l : Sgs} {s : Sg} (h : s ∈ uniqZ l) : validB s.1 = true ∧ validB s.2 = true := by
  have := uniq_V l s h
  rwa [Bool.and_eq_true] at this
theorem uniq_bad {l : Sgs} {s t : Sg} (hs : s ∈ uniqZ l) (ht : t ∈ uniqZ l) : badR s t = badB s t :=
  bad_same ⟨(uniq_valid hs).1, (uniq_valid hs).2, (uniq_valid ht).1, (uniq_valid ht).2⟩ (canon_less (uniq_canon hs)) (canon_less (uniq_canon ht))
theorem flat_congr {α β : Type} {f g : α → List β} : ∀ {l : List α}, (∀ x ∈ l, f x = g x) → l.flatMap f = l.flatMap g
  | [], _ => rfl
  | x :: l, h => by
    rw [List.flatMap_cons, List.flatMap_cons, h x (List.mem_cons_self ..), flat_congr (fun y hy => h y (List.mem_cons_of_mem _ hy))]
theorem cross_same (l : Sgs) : crossR (uniqZ l) = crossZs (uniqZ l) := by
  unfold crossR crossZs
  refine flat_congr fun i hi => ?_
  have hi' : i < (uniqZ l).length := List.mem_range.1 hi
  congr 1
  refine List.filter_congr fun t ht => ?_
  exact uniq_bad (sgD_mem hi') (List.mem_of_mem_drop ht)
theorem clean_same (l : Sgs) : cleanR l = cleanZ l := by
  unfold cleanR cleanZ
  rw [split_same, cross_same]
theorem check_same (l : Sgs) : checkR l = checkZ l := by
  unfold checkR checkZ checkUR checkU
  rw [clean_same, odd_any (fun s hs => uniq_ne hs)]
end Go.Proofs.YtlmjciajpjdilaaGreat
end

section
namespace Go.Proofs.YtlmjciajpjdilaaGreat
open Go.RowKit Go.Proofs.YtlmjciajpjdilaaGreatW.PrintLast
set_option linter.unusedVariables false
set_option linter.unusedSimpArgs false

set_option maxRecDepth 100000 in
set_option maxHeartbeats 4000000 in
theorem law21_TraceChecks {ok : Nat → Prop} (l : Sgs) (A : Option Addr) (n c : Nat) (p : Pt) (w : World) (hr : Row Ty.sg ok w A l) (hn : n = l.length) :
    Calls Tryz.prog 3 #[.slice A n c, ptA p] w fun e w' => e = .returned (.bool true) ∧ Below w.heap.size w w' := by
  subst hn
  have hlb := hr.len
  have HR := Lib.hid hr
  clear hr
  by_cases h1 : 60 < l.length
  · have q1 : decide ((60 : Int) < (l.length : Int)) = true := decide_eq_true (by omega)
    go_enter Tryz.func3, Tryz.ntmps3
    go_wp2_with fail
    (refine (law21_lives _).mono ?_; rintro e w1 ⟨rfl, hb1⟩)
    go_wp2
    go_ret
    exact ⟨rfl, (by repeat (first | exact Below.refl _ _ | apply below_alloc | apply below_drewN | apply below_drew | (refine below_set2 ?_ ?_; (first | (simp; done) | (simp; omega))) | (refine below_step ?_ hb1)))⟩
  have q1 : decide ((60 : Int) < (l.length : Int)) = false := decide_eq_false (by omega)
  have h60 : l.length ≤ 60 := by omega
  clear h1
  have C1 := Lib.hid (fun W h => trace_Check (ok := ok) l A l.length c W h rfl (by omega))
  have C2 := Lib.hid (fun W h => ref21_Check (ok := ok) l A l.length c W h rfl (by omega))
  have C3 := Lib.hid (fun W h => trace_Where (ok := ok) l A l.length c p W h rfl (by omega))
  have C4 := Lib.hid (fun W h => ref21_Where (ok := ok) l A l.length c p W h rfl (by omega))
  rw [check_same] at C2
  rw [where_eq] at C4
  have qe : (checkZ l == checkZ l) = true := by simp
  have qf : (whereT l p == whereT l p) = true := by simp
  generalize checkZ l = cz at *
  generalize whereT l p = wz at *
  have HX0 : (w.alloc (.cells #[.int .i64 p.1, .int .i64 p.2] 24)).heap[w.heap.size]? = some (.cells #[.int .i64 p.1, .int .i64 p.2] 24 (0, 0)) := heap_alloc_new _ _
  go_enter Tryz.func3, Tryz.ntmps3
  go_wp2_with fail
  obtain ⟨W0, hW0⟩ : ∃ W0, W0 = w.alloc (.cells #[.int .i64 p.1, .int .i64 p.2] 24) := ⟨_, rfl⟩
  rw [← hW0] at HX0 ⊢
  have HB0 : Hid (Below w.heap.size w W0) := by show Below _ _ _; rw [hW0]; exact below_alloc (Below.refl _ _) _
  clear hW0
  have pc0 := blk_cell HX0 0 rfl
  have pc1 := blk_cell HX0 1 rfl
  have HR0 := Lib.hid ((HR.out.below HB0.out).below (below_drew (Below.refl _ _)))
  refine start_ (n := 18) (S := fun w' => w'.cell? ⟨w.heap.size, 0, none⟩ = some (.int .i64 p.1) ∧ w'.cell? ⟨w.heap.size, 1, none⟩ = some (.int .i64 p.2)) (ds := [15]) #[false, false, false, false, false, false, false, false, false, false, false, false, false, false, false, false, false, false] (by kernel_rfl) rfl rfl ⟨pc0, pc1⟩ (fun hHeld => ?_)
  refine pure_ (i := 0) (N := some 9) (v := ?_) (a' := ?_) #[true, false, false, false, false, false, false, false, false, false, false, false, false, false, false, false, false, false] rfl rfl (by kernel_rfl) (fun _ _ _ h => h) (Or.inl ⟨by rfl, ?_⟩) ?_ ?_
  rotate_left
  · intro w'
    go_simp
    with_reducible rfl
  rotate_left
  · simp only [Act.put, List.setIfInBounds_toArray, List.set_cons_zero, List.set_cons_succ, i64_w, i32_w]
    rfl
  refine pure_ (i := 2) (N := some 11) (v := ?_) (a' := ?_) #[true, false, true, false, false, false, false, false, false, false, false, false, false, false, false, false, false, false] rfl rfl (by kernel_rfl) (fun _ _ _ h => h) (Or.inl ⟨by rfl, ?_⟩) ?_ ?_
  rotate_left
  · intro w'
    go_simp
    with_reducible rfl
  rotate_left
  · simp only [Act.put, List.setIfInBounds_toArray, List.set_cons_zero, List.set_cons_succ, i64_w, i32_w]
    rfl
  refine one_ (i := 1) (N := some 10) #[true, true, true, false, false, false, false, false, false, false, false, false, false, false, false, false, false, false] rfl rfl (by kernel_rfl) (by decide) (fun K hK => ?_)
  refine goes_ Tryz.func9 (by kernel_rfl) rfl #[.slice A l.length c] (by rfl) rfl rfl (by simp only [List.map_toArray, List.map_cons, List.map_nil]; rfl) ?_
  with_reducible refine (C1.out _ HR0.out).mono ?_
  rintro e w1 ⟨rfl, hb1⟩
  refine ⟨_, rfl, ?_⟩
  have HR1 := Lib.hid (HR0.out.below hb1)
  refine hK.out _ _ ⟨cell_below hb1 pc0, cell_below hb1 pc1⟩ (fun hHeld => ?_)
  clear hK K
  refine norm_ (a' := ?_) ?_ ?_
  rotate_left
  · show Act.put _ (some 10) _ = _
    simp only [Act.put, List.setIfInBounds_toArray, List.set_cons_zero, List.set_cons_succ, i64_w, i32_w]
    rfl
  refine one_ (i := 3) (N := some 12) #[true, true, true, true, false, false, false, false, false, false, false, false, false, false, false, false, false, false] rfl rfl (by kernel_rfl) (by decide) (fun K hK => ?_)
  refine goes_ Tryz.func10 (by kernel_rfl) rfl #[.slice A l.length c] (by rfl) rfl rfl (by simp only [List.map_toArray, List.map_cons, List.map_nil]; rfl) ?_
  with_reducible refine (C2.out _ HR1.out).mono ?_
  rintro e w2 ⟨rfl, hb2⟩
  refine ⟨_, rfl, ?_⟩
  have HR2 := Lib.hid (HR1.out.below hb2)
  refine hK.out _ _ ⟨cell_below hb2 (cell_below hb1 pc0), cell_below hb2 (cell_below hb1 pc1)⟩ (fun hHeld => ?_)
  clear hK K
  refine norm_ (a' := ?_) ?_ ?_
  rotate_left
  · show Act.put _ (some 12) _ = _
    simp only [Act.put, List.setIfInBounds_toArray, List.set_cons_zero, List.set_cons_succ, i64_w, i32_w]
    rfl
  refine pure_ (i := 4) (N := some 13) (v := ?_) (a' := ?_) #[true, true, true, true, true, false, false, false, false, false, false, false, false, false, false, false, false, false] rfl rfl (by kernel_rfl) (fun _ _ _ h => h) (Or.inl ⟨by rfl, ?_⟩) ?_ ?_
  rotate_left
  · intro w'
    go_simp
    with_reducible rfl
  rotate_left
  · simp only [Act.put, List.setIfInBounds_toArray, List.set_cons_zero, List.set_cons_succ, i64_w, i32_w]
    rfl
  refine pure_ (i := 5) (N := some 14) (v := ?_) (a' := ?_) #[true, true, true, true, true, true, false, false, false, false, false, false, false, false, false, false, false, false] rfl rfl (by kernel_rfl) (fun _ _ _ h => h) (Or.inl ⟨by rfl, ?_⟩) ?_ ?_
  rotate_left
  · intro w'
    go_simp
    with_reducible rfl
  rotate_left
  · simp only [Act.put, List.setIfInBounds_toArray, List.set_cons_zero, List.set_cons_succ, i64_w, i32_w]
    rfl
  refine pure_ (i := 6) (N := some 15) (v := ?_) (a' := ?_) #[true, true, true, true, true, true, true, false, false, false, false, false, false, false, false, false, false, false] rfl rfl (by kernel_rfl) (fun _ _ _ h => h) (Or.inl ⟨by rfl, ?_⟩) ?_ ?_
  rotate_left
  · intro w'
    go_simp
    with_reducible rfl
  rotate_left
  · simp only [Act.put, List.setIfInBounds_toArray, List.set_cons_zero, List.set_cons_succ, i64_w, i32_w]
    rfl
  refine pure_ (i := 9) (N := some 18) (v := ?_) (a' := ?_) #[true, true, true, true, true, true, true, false, false, true, false, false, false, false, false, false, false, false] rfl rfl (by kernel_rfl) (fun _ _ _ h => h) (Or.inl ⟨by rfl, ?_⟩) ?_ ?_
  rotate_left
  · intro w'
    go_simp
    with_reducible rfl
  rotate_left
  · simp only [Act.put, List.setIfInBounds_toArray, List.set_cons_zero, List.set_cons_succ, i64_w, i32_w]
    rfl
  refine take_ (i := 7) (N := some 16) (v := ?_) (a' := ?_) #[true, true, true, true, true, true, true, true, false, true, false, false, false, false, false, false, false, false] rfl rfl (by kernel_rfl) (fun _ _ _ h => h) (Or.inl ⟨by rfl, ?_⟩) hHeld ?_ ?_
  rotate_left
  · rintro w' ⟨s0, s1⟩
    go_simp
    with_reducible rfl
  rotate_left
  · simp only [Act.put, List.setIfInBounds_toArray, List.set_cons_zero, List.set_cons_succ, i64_w, i32_w]
    rfl
  refine take_ (i := 10) (N := some 19) (v := ?_) (a' := ?_) #[true, true, true, true, true, true, true, true, false, true, true, false, false, false, false, false, false, false] rfl rfl (by kernel_rfl) (fun _ _ _ h => h) (Or.inl ⟨by rfl, ?_⟩) hHeld ?_ ?_
  rotate_left
  · rintro w' ⟨s0, s1⟩
    go_simp
    with_reducible rfl
  rotate_left
  · simp only [Act.put, List.setIfInBounds_toArray, List.set_cons_zero, List.set_cons_succ, i64_w, i32_w]
    rfl
  refine one_ (i := 8) (N := some 17) #[true, true, true, true, true, true, true, true, true, true, true, false, false, false, false, false, false, false] rfl rfl (by kernel_rfl) (by decide) (fun K hK => ?_)
  refine goes_ Tryz.func11 (by kernel_rfl) rfl #[.slice A l.length c, ptA p] (by rfl) rfl rfl (by simp only [List.map_toArray, List.map_cons, List.map_nil]; rfl) ?_
  with_reducible refine (C3.out _ HR2.out).mono ?_
  rintro e w3 ⟨rfl, hb3⟩
  refine ⟨_, rfl, ?_⟩
  have HR3 := Lib.hid (HR2.out.below hb3)
  refine hK.out _ _ ⟨cell_below hb3 (cell_below hb2 (cell_below hb1 pc0)), cell_below hb3 (cell_below hb2 (cell_below hb1 pc1))⟩ (fun hHeld => ?_)
  clear hK K
  refine norm_ (a' := ?_) ?_ ?_
  rotate_left
  · show Act.put _ (some 17) _ = _
    simp only [Act.put, List.setIfInBounds_toArray, List.set_cons_zero, List.set_cons_succ, i64_w, i32_w]
    rfl
  refine one_ (i := 11) (N := some 20) #[true, true, true, true, true, true, true, true, true, true, true, true, false, false, false, false, false, false] rfl rfl (by kernel_rfl) (by decide) (fun K hK => ?_)
  refine goes_ Tryz.func12 (by kernel_rfl) rfl #[.slice A l.length c, ptA p] (by rfl) rfl rfl (by simp only [List.map_toArray, List.map_cons, List.map_nil]; rfl) ?_
  with_reducible refine (C4.out _ HR3.out).mono ?_
  rintro e w4 ⟨rfl, hb4⟩
  refine ⟨_, rfl, ?_⟩
  refine hK.out _ _ ⟨cell_below hb4 (cell_below hb3 (cell_below hb2 (cell_below hb1 pc0))), cell_below hb4 (cell_below hb3 (cell_below hb2 (cell_below hb1 pc1)))⟩ (fun hHeld => ?_)
  clear hK K
  refine norm_ (a' := ?_) ?_ ?_
  rotate_left
  · show Act.put _ (some 20) _ = _
    simp only [Act.put, List.setIfInBounds_toArray, List.set_cons_zero, List.set_cons_succ, i64_w, i32_w]
    rfl
  refine pure_ (i := 12) (N := some 21) (v := ?_) (a' := ?_) #[true, true, true, true, true, true, true, true, true, true, true, true, true, false, false, false, false, false] rfl rfl (by kernel_rfl) (fun _ _ _ h => h) (Or.inl ⟨by rfl, ?_⟩) ?_ ?_
  rotate_left
  · intro w'
    go_simp
    with_reducible rfl
  rotate_left
  · simp only [Act.put, List.setIfInBounds_toArray, List.set_cons_zero, List.set_cons_succ, i64_w, i32_w]
    rfl
  refine pure_ (i := 13) (N := some 22) (v := ?_) (a' := ?_) #[true, true, true, true, true, true, true, true, true, true, true, true, true, true, false, false, false, false] rfl rfl (by kernel_rfl) (fun _ _ _ h => h) (Or.inl ⟨by rfl, ?_⟩) ?_ ?_
  rotate_left
  · intro w'
    go_simp
    with_reducible rfl
  rotate_left
  · simp only [Act.put, List.setIfInBounds_toArray, List.set_cons_zero, List.set_cons_succ, i64_w, i32_w]
    rfl
  refine pure_ (i := 14) (N := some 23) (v := ?_) (a' := ?_) #[true, true, true, true, true, true, true, true, true, true, true, true, true, true, true, false, false, false] rfl rfl (by kernel_rfl) (fun _ _ _ h => h) (Or.inl ⟨by rfl, ?_⟩) ?_ ?_
  rotate_left
  · intro w'
    go_simp
    with_reducible rfl
  rotate_left
  · simp only [Act.put, List.setIfInBounds_toArray, List.set_cons_zero, List.set_cons_succ, i64_w, i32_w]
    rfl
  refine last_ (i := 15) (N := some 24) #[true, true, true, true, true, true, true, true, true, true, true, true, true, true, true, true, false, false] rfl rfl (by kernel_rfl) (by decide) (fun K hK => ?_)
  refine goes_ Tryz.func8 (by kernel_rfl) rfl #[] (by rfl) rfl rfl (by simp) ?_
  with_reducible refine (law21_lives _).mono ?_
  rintro e w5 ⟨rfl, hb5⟩
  refine ⟨_, rfl, ?_⟩
  refine hK.out _ _ ?_
  clear hK K
  refine norm_ (a' := ?_) ?_ ?_
  rotate_left
  · show Act.put _ (some 24) _ = _
    simp only [Act.put, List.setIfInBounds_toArray, List.set_cons_zero, List.set_cons_succ, i64_w, i32_w]
    rfl
  refine pure_ (i := 16) (N := some 25) (v := ?_) (a' := ?_) #[true, true, true, true, true, true, true, true, true, true, true, true, true, true, true, true, true, false] rfl rfl (by kernel_rfl) (fun _ _ _ h => h) (Or.inl ⟨by rfl, ?_⟩) ?_ ?_
  rotate_left
  · intro w'
    go_simp
    with_reducible rfl
  rotate_left
  · simp only [Act.put, List.setIfInBounds_toArray, List.set_cons_zero, List.set_cons_succ, i64_w, i32_w]
    rfl
  refine pure_ (i := 17) (N := some 4) (v := ?_) (a' := ?_) #[true, true, true, true, true, true, true, true, true, true, true, true, true, true, true, true, true, true] rfl rfl (by kernel_rfl) (fun _ _ _ h => h) (Or.inl ⟨by rfl, ?_⟩) ?_ ?_
  rotate_left
  · intro w'
    go_simp
    with_reducible rfl
  rotate_left
  · simp only [Act.put, List.setIfInBounds_toArray, List.set_cons_zero, List.set_cons_succ, i64_w, i32_w]
    rfl
  refine done_ (by kernel_rfl) ?_
  go_wp2
  go_ret
  exact ⟨rfl, (by repeat (first | exact Below.refl _ _ | apply below_alloc | apply below_drewN | apply below_drew | (refine below_set2 ?_ ?_; (first | (simp; done) | (simp; omega))) | (refine below_step ?_ hb5) | (refine below_step ?_ hb4) | (refine below_step ?_ hb3) | (refine below_step ?_ hb2) | (refine below_step ?_ hb1) | (refine below_step ?_ HB0.out)))⟩
end Go.Proofs.YtlmjciajpjdilaaGreat
end
