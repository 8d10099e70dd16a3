/- Contract of law21.TraceSets: a set's rings and error do not hang on the order of its segments, on their direction, nor on a segment told twice. -/
import Derived.Test.YtlmjciajpjdilaaTLives
import Derived.Test.YtlmjciajpjdilaaTMix
namespace Go.Proofs.Ytlmjciajpjdilaa
open Go.RowKit Go.Proofs.YtlmjciajpjdilaaW.PrintLast
set_option linter.unusedVariables false
set_option linter.unusedSimpArgs false

set_option maxRecDepth 100000 in
set_option maxHeartbeats 4000000 in
theorem law21_TraceSets {ok : Nat → Prop} (l : Sgs) (A : Option Addr) (n c : Nat) (x : Int) (w : World) (hr : Row Ty.sg ok w A l) (hn : n = l.length) (hx : 0 ≤ x ∧ x < 256) :
    Calls Try.prog 3 #[.slice A n c, .int .u8 x] w fun e w' => e = .returned (.bool true) ∧ Below w.heap.size w w' := by
  subst hn
  have hlb := hr.len
  have HR := Lib.hid hr
  clear hr
  by_cases h1 : 60 < l.length
  · have q1 : decide ((60 : Int) < (l.length : Int)) = true := decide_eq_true (by omega)
    go_enter Try.func3, Try.ntmps3
    go_wp2_with fail
    (refine (law21_lives _).mono ?_; rintro e w1 ⟨rfl, hb1⟩)
    go_wp2
    go_ret
    exact ⟨rfl, (by repeat (first | exact Below.refl _ _ | apply below_alloc | apply below_drewN | apply below_drew | (refine below_set2 ?_ ?_; (first | (simp; done) | (simp; omega))) | (refine below_step ?_ hb1)))⟩
  have q1 : decide ((60 : Int) < (l.length : Int)) = false := decide_eq_false (by omega)
  by_cases h2 : l.length = 0
  · have q2 : ((l.length : Int) == 0) = true := by simp [h2]
    have q2' : (l.length == 0) = true := by simp [h2]
    clear h2
    go_enter Try.func3, Try.ntmps3
    go_wp2_with fail
    (refine (law21_lives _).mono ?_; rintro e w1 ⟨rfl, hb1⟩)
    go_wp2
    go_ret
    exact ⟨rfl, (by repeat (first | exact Below.refl _ _ | apply below_alloc | apply below_drewN | apply below_drew | (refine below_set2 ?_ ?_; (first | (simp; done) | (simp; omega))) | (refine below_step ?_ hb1)))⟩
  have q2 : ((l.length : Int) == 0) = false := by rw [beq_eq_false_iff_ne]; omega
  have q2' : (l.length == 0) = false := by rw [beq_eq_false_iff_ne]; omega
  have hpos : 0 < l.length := by omega
  have h60 : l.length ≤ 60 := by omega
  obtain ⟨a, rfl⟩ := Int.eq_ofNat_of_zero_le hx.1
  obtain ⟨k, hkd⟩ : ∃ k, k = a % l.length := ⟨_, rfl⟩
  have hk : k < l.length := by rw [hkd]; exact Nat.mod_lt _ hpos
  have hw : IntKind.i64.wrap (a : Int) = a := IntWalk.i64_in _ (by omega)
  have hrem : Int.tmod (a : Int) (l.length : Int) = (k : Int) := by rw [hkd, Int.ofNat_tmod]
  clear hkd h1 h2
  have hne : ¬ (l.length : Int) = 0 := by omega
  go_enter Try.func3, Try.ntmps3
  go_wp2
  go_loopw [5, 7] (fun v i wr => ∃ m : Nat, m ≤ l.length ∧ i = .int .i64 m ∧ Below w.heap.size w wr ∧ Own1 Ty.sg 27 w.heap.size wr v (mixTo l k m)) (fun _ i _ => l.length - (intOf i).toNat)
  case atStart => exact ⟨0, Nat.zero_le _, rfl, Below.refl _ _, OwnR.nil _ _ _ _ _⟩
  case round =>
    obtain ⟨m, hm, rfl, BW, ho⟩ := hrel
    have HRw := Lib.hid (HR.out.below BW)
    have HO := Lib.hid ho
    have hsz := BW.size
    have HL : Hid (((mixTo l k m).length + 1) * 32 ≤ 140737488355328) := by
      show _ ≤ _
      rw [mixTo_len]; omega
    clear ho
    by_cases hlt : m < l.length
    · obtain ⟨j, hj⟩ : ∃ j, j = (m + k) % l.length := ⟨_, rfl⟩
      have hjl : j < l.length := by rw [hj]; exact Nat.mod_lt _ hpos
      have hw1 : IntKind.i64.wrap ((m : Int) + (k : Int)) = (m : Int) + (k : Int) := IntWalk.i64_in _ (by omega)
      have hr1 : Int.tmod ((m : Int) + (k : Int)) (l.length : Int) = (j : Int) := by rw [hj, ← Int.natCast_add, Int.ofNat_tmod]
      have HS := Lib.hid (mixTo_snoc l k m)
      have HRT : Hid (rotS l k m = if m % 2 = 0 then revS (sgD l j) else sgD l j) := by rw [hj]; exact rfl
      clear hj
      obtain ⟨ad, rfl, hx0, hx1, hx2, hx3⟩ := HRw.out.sg_at j hjl
      obtain ⟨s, hs⟩ : ∃ s, s = sgD l j := ⟨_, rfl⟩
      rw [← hs] at hx0 hx1 hx2 hx3 HRT
      clear hs
      by_cases hp : m % 2 = 0
      · have HD : Hid (rotS l k m = (s.2, s.1)) := HRT.out.trans (if_pos hp)
        have e1 : (Int.tmod (m : Int) 2 == 0) = true := by rw [show (2 : Int) = ((2 : Nat) : Int) from rfl, ← Int.ofNat_tmod, hp]; rfl
        have e2 : ((m : Int) % 2 == 0) = true := by simp; omega
        clear hp HRT
        go_wp2_with (at_builtin; refine app_one Ty.sg (W := wr.alloc (.cells #[.int .i64 s.2.1, .int .i64 s.2.2, .int .i64 s.1.1, .int .i64 s.1.2] 27)) w.heap.size rfl _ _ 22 27 _ 32 rfl Try.underlying22 infoSg rfl (by decide) u5 _ (s.2, s.1) _ _ rfl rfl (by simp) rfl (OwnR.alloc HO.out _) (by rw [World.size_alloc]; omega) HL.out ?_; intro v1 w4 HO1 hg1 hat1)
        have BZ : Below w.heap.size w w4 := below_own (by repeat (first | exact Below.refl _ _ | apply below_alloc | apply below_drewN | apply below_drew | (refine below_set2 ?_ ?_; (first | (simp; done) | (simp; omega))) | (refine below_step ?_ BW))) hg1 (fun b e => (OwnR.lt HO.out b e).1)
        have HO4 := Lib.hid (Own1.of HO1)
        clear HO1 hg1 hat1 HO
        go_wp2
        go_roundw
        case rel => exact ⟨m + 1, by omega, by go_num, BZ, by rw [HS.out, HD.out]; exact HO4.out⟩
        case measure => simp [intOf]; omega
      · have HD : Hid (rotS l k m = s) := HRT.out.trans (if_neg hp)
        have e1 : (Int.tmod (m : Int) 2 == 0) = false := by
          rw [show (2 : Int) = ((2 : Nat) : Int) from rfl, ← Int.ofNat_tmod, beq_eq_false_iff_ne]; omega
        have e2 : ((m : Int) % 2 == 0) = false := by rw [beq_eq_false_iff_ne]; omega
        clear hp HRT
        go_wp2_with (at_builtin; refine app_one Ty.sg (W := wr.alloc (.cells #[.int .i64 s.1.1, .int .i64 s.1.2, .int .i64 s.2.1, .int .i64 s.2.2] 27)) w.heap.size rfl _ _ 22 27 _ 32 rfl Try.underlying22 infoSg rfl (by decide) u5 _ s _ _ rfl rfl (by simp) rfl (OwnR.alloc HO.out _) (by rw [World.size_alloc]; omega) HL.out ?_; intro v1 w4 HO1 hg1 hat1)
        have BZ : Below w.heap.size w w4 := below_own (by repeat (first | exact Below.refl _ _ | apply below_alloc | apply below_drewN | apply below_drew | (refine below_set2 ?_ ?_; (first | (simp; done) | (simp; omega))) | (refine below_step ?_ BW))) hg1 (fun b e => (OwnR.lt HO.out b e).1)
        have HO4 := Lib.hid (Own1.of HO1)
        clear HO1 hg1 hat1 HO
        go_wp2
        go_roundw
        case rel => exact ⟨m + 1, by omega, by go_num, BZ, by rw [HS.out, HD.out]; exact HO4.out⟩
        case measure => simp [intOf]; omega
    · obtain rfl : m = l.length := by omega
      have HM : Hid (mixZ l k = mixTo l k l.length ++ [sgD l k]) := rfl
      have HML : Hid ((mixZ l k).length = l.length + 1) := mix_len l k
      have HQ := Lib.hid (mix_check hk)
      have HQ2 := Lib.hid (mix_rings hk)
      obtain ⟨ad, rfl, hx0, hx1, hx2, hx3⟩ := HRw.out.sg_at k hk
      obtain ⟨s, hs⟩ : ∃ s, s = sgD l k := ⟨_, rfl⟩
      rw [← hs] at hx0 hx1 hx2 hx3 HM
      clear hs hlt
      go_wp2_with (at_builtin; refine app_one Ty.sg (W := wr) w.heap.size rfl _ _ 22 27 _ 32 rfl Try.underlying22 infoSg rfl (by decide) u5 _ s _ _ rfl rfl rfl rfl HO.out (by omega) HL.out ?_; intro v1 w4 HO1 hg1 hat1)
      have BZ := Lib.hid (show Below w.heap.size w w4 from below_own (by repeat (first | exact Below.refl _ _ | apply below_alloc | apply below_drewN | apply below_drew | (refine below_set2 ?_ ?_; (first | (simp; done) | (simp; omega))) | (refine below_step ?_ BW))) hg1 (fun b e => (OwnR.lt HO.out b e).1))
      have HO4 : Hid (Own1 Ty.sg 27 w.heap.size w4 v1 (mixZ l k)) := by rw [HM.out]; exact Own1.of HO1
      clear HO1 hg1 hat1 HO BW
      obtain ⟨A5, c5, rfl, hl5, hr5⟩ := HO4.out.reads
      have HR5 := Lib.hid hr5
      have HRL := Lib.hid (HR.out.below BZ.out)
      have RL := Lib.hid (fun W h => trace_Rings (ok := ok) l (some ad) l.length c W h rfl (by omega))
      have RM := Lib.hid (fun W h => trace_Rings (ok := fun _ => True) (mixZ l k) A5 (mixZ l k).length c5 W h rfl (by rw [mix_len]; omega))
      have CL := Lib.hid (fun W h => trace_Check (ok := ok) l (some ad) l.length c W h rfl (by omega))
      have CM := Lib.hid (fun W h => trace_Check (ok := fun _ => True) (mixZ l k) A5 (mixZ l k).length c5 W h rfl (by rw [mix_len]; omega))
      rw [HQ.out, HQ2.out] at RM
      rw [HQ.out] at CM
      clear hr5 HO4 HQ HQ2 HM HL HRw hx0 hx1 hx2 hx3 HML
      have qe : (checkZ l == checkZ l) = true := by simp
      have qr := Lib.hid (decide_eq_true (rfl : ringsZ l = ringsZ l))
      generalize checkZ l = cz at *
      generalize ringsZ l = rz at *
      generalize (mixZ l k).length = nm at *
      go_wp2_with fail
      refine Calls.mono (RL.out _ HRL.out) ?_
      rintro e w5 ⟨v5, rfl, ho5, hb5⟩
      obtain ⟨A6, c6, rfl, hl6, hr6⟩ := ho5.reads
      have HR6 := Lib.hid hr6
      have HB5 := Lib.hid (below_step BZ.out hb5)
      have HRL5 := Lib.hid (HRL.out.below hb5)
      have HRM5 := Lib.hid (HR5.out.below hb5)
      clear ho5 hr6 hb5 HRL HR5 BZ RL
      go_wp2_with fail
      refine Calls.mono (RM.out _ HRM5.out) ?_
      rintro e w6 ⟨v6, rfl, ho6, hb6⟩
      obtain ⟨A7, c7, rfl, hl7, hr7⟩ := ho6.reads
      have HR7 := Lib.hid hr7
      have HB6 := Lib.hid (below_step HB5.out hb6)
      have HRL6 := Lib.hid (HRL5.out.below hb6)
      have HRM6 := Lib.hid (HRM5.out.below hb6)
      have HRR6 := Lib.hid (HR6.out.below hb6)
      clear ho6 hr7 hb6 HRL5 HRM5 HB5 HR6 RM
      go_wp2_with fail
      refine (ref21_Same rz rz A6 A7 _ _ c6 c7 _ HRR6.out HR7.out rfl rfl).mono ?_
      rintro e w7 ⟨rfl, hb7⟩
      rw [decide_eq_true (rfl : rz = rz)]
      have HB7 := Lib.hid (below_step HB6.out hb7)
      have HRL7 := Lib.hid (HRL6.out.below hb7)
      have HRM7 := Lib.hid (HRM6.out.below hb7)
      clear hb7 HRL6 HRM6 HB6 HRR6 HR7
      go_wp2_with fail
      refine Calls.mono (CL.out _ HRL7.out) ?_
      rintro e w8 ⟨rfl, hb8⟩
      have HB8 := Lib.hid (below_step HB7.out hb8)
      have HRM8 := Lib.hid (HRM7.out.below hb8)
      clear hb8 HRL7 HRM7 HB7 CL
      go_wp2_with fail
      refine Calls.mono (CM.out _ HRM8.out) ?_
      rintro e w9 ⟨rfl, hb9⟩
      have HB9 := Lib.hid (below_step HB8.out hb9)
      clear hb9 HRM8 HB8 CM
      go_wp2_with fail
      refine (law21_lives _).mono ?_
      rintro e w10 ⟨rfl, hb10⟩
      have HB10 := Lib.hid (below_step HB9.out hb10)
      clear hb10 HB9
      go_wp2
      go_ret
      exact ⟨rfl, HB10.out⟩
end Go.Proofs.Ytlmjciajpjdilaa
