/- The law SimplifyTwice holds: whatever the input, it answers true, and each argument reads afterwards as it read before. -/
import Derived.Test.YtaeflnbjeaoapaaKS5
import Derived.Test.YtaeflnbjeaoapaaKS11
import Derived.Test.YtaeflnbjeaoapaaKS15
import Derived.Test.YtaeflnbjeaoapaaKS1
import Derived.Deep.Slices
import Derived.Test.YtaeflnbjeaoapaaProg
import Derived.Test.YtaeflnbjeaoapaaRows
import Derived.WalkKit
import Derived.ProofKit
import Derived.OpenShut
import Derived.ShutString
import Derived.ChangeOld
import Derived.Below
import Derived.SizedLaws
import Derived.Lib.SmallJoins
namespace Go.Proofs.Ytaeflnbjeaoapaa
set_option linter.unusedVariables false
set_option linter.unusedSimpArgs false
section
open Go.RowKit Go.Proofs.YtaeflnbjeaoapaaW.PrintLast

theorem few_snoc (m : Msh) (k : Nat) (h : k < m.length) : (m.take (k + 1)).all fewE = ((m.take k).all fewE && fewE (egD m k)) := by
 rw [take_snoc m k (((0, 0), (0, 0)), ([], [])) h, List.all_append]; simp [egD]
theorem few_hit {m : Msh} {k : Nat} (h : k < m.length) (hb : fewE (egD m k) = false) : fewM m = false := by
 unfold fewM
 rw [Bool.and_eq_false_iff]
 right
 rw [List.all_eq_false]
 exact ⟨egD m k, by rw [egD_eq h]; exact List.getElem_mem _, by rw [hb]; decide⟩
theorem fewL_hit {l : List Int} {j : Nat} (h : j < l.length) (hb : inD l j > 20) : fewL l = false := by
 unfold fewL
 rw [List.all_eq_false]
 refine ⟨inD l j, ?_, by simp; omega⟩
 have : inD l j = l[j] := by simp [inD, h]
 rw [this]; exact List.getElem_mem _
theorem fewL_all {l : List Int} (h : ∀ j, j < l.length → inD l j ≤ 20) : fewL l = true := by
 unfold fewL
 rw [List.all_eq_true]
 intro x hx
 obtain ⟨j, hj, rfl⟩ := List.getElem_of_mem hx
 have := h j hj
 simp [inD, hj] at this
 simp; exact this
theorem le_snoc {l : List Int} {k : Nat} (h : ∀ j, j < k → inD l j ≤ 20) (h1 : inD l k ≤ 20) : ∀ j, j < k + 1 → inD l j ≤ 20 := fun j hj => by
 by_cases e : j = k
 ·rw [e]; exact h1
 ·exact h j (by omega)
set_option maxRecDepth 100000 in
set_option maxHeartbeats 1000000 in
theorem law25_Few {ok : Nat → Prop} (m : Msh) (A : Option Addr) (n c : Nat) (w : World) (hr : Row Ty.edge ok w A m) (hn : n = m.length) :
  Calls Try.prog 4 #[.slice A n c] w fun e w' => e = .returned (.bool (fewM m)) ∧ Below w.heap.size w w' := by
 subst hn
 have HR := Lib.hid hr
 have hmx := hr.len
 clear hr
 by_cases h40 : m.length > 40
 ·have q1 : decide ((m.length : Int) > 40) = true := decide_eq_true (by omega)
  have q2 : decide (40 < (m.length : Int)) = true := decide_eq_true (by omega)
  have HF : Hid (fewM m = false) := Lib.hid (by unfold fewM; rw [decide_eq_false (by omega)]; rfl)
  go_enter Try.func4, Try.ntmps4
  go_wp2
  go_ret
  exact ⟨ret_bool HF.out.symm, Below.refl _ _⟩
 ·have q1 : decide ((m.length : Int) > 40) = false := decide_eq_false (by omega)
  have q2 : decide (40 < (m.length : Int)) = false := decide_eq_false (by omega)
  go_enter Try.func4, Try.ntmps4
  go_wp2
  clear q1 q2
  go_loopw [3] (fun i wr => ∃ k : Nat, k ≤ m.length ∧ i = .int .i64 k ∧ Hid (Below w.heap.size w wr) ∧ Hid ((m.take k).all fewE = true)) (fun i _ => m.length - (intOf i).toNat)
  case atStart => exact ⟨0, Nat.zero_le _, rfl, Below.refl _ _, by simp [Hid]⟩
  case round =>
   obtain ⟨k, hk, rfl, HB, HA⟩ := hrel
   by_cases hlt : k < m.length
   ·obtain ⟨ad, A1, c1, A2, c2, rfl, hx0, hx1, hx2, hx3, hx4, hx5, hc1, hr1, hc2, hr2⟩ := (HR.out.below HB.out).edge_at k hlt
    have HS := Lib.hid (few_snoc m k hlt)
    have HH := Lib.hid (few_hit hlt)
    have HR1 := Lib.hid hr1
    have HR2 := Lib.hid hr2
    have hl1 := hr1.len
    have hl2 := hr2.len
    clear hr1 hr2 hx0 hx1 hx2 hx3
    generalize egD m k = e at *
    obtain ⟨s, L, R⟩ := e
    simp only at hx4 hx5 HR1 HR2 hl1 hl2
    have HE : Hid (fewE (s, (L, R)) = ((decide (L.length ≤ 8) && decide (R.length ≤ 8)) && (fewL L && fewL R))) := rfl
    by_cases h1 : L.length > 8
    ·have g1 : decide ((L.length : Int) > 8) = true := decide_eq_true (by omega)
     have g2 : decide (8 < (L.length : Int)) = true := decide_eq_true (by omega)
     have HF := Lib.hid (HH.out (by rw [HE.out, decide_eq_false (by omega)]; rfl))
     go_wp2
     go_ret
     exact ⟨ret_bool HF.out.symm, HB.out⟩
    ·have g1 : decide ((L.length : Int) > 8) = false := decide_eq_false (by omega)
     have g2 : decide (8 < (L.length : Int)) = false := decide_eq_false (by omega)
     by_cases h2 : R.length > 8
     ·have g3 : decide ((R.length : Int) > 8) = true := decide_eq_true (by omega)
      have g4 : decide (8 < (R.length : Int)) = true := decide_eq_true (by omega)
      have HF := Lib.hid (HH.out (by rw [HE.out, decide_eq_false (p := R.length ≤ 8) (by omega), Bool.and_false]; rfl))
      go_wp2
      go_ret
      exact ⟨ret_bool HF.out.symm, HB.out⟩
     ·have g3 : decide ((R.length : Int) > 8) = false := decide_eq_false (by omega)
      have g4 : decide (8 < (R.length : Int)) = false := decide_eq_false (by omega)
      have HL0 := Lib.hid (fun (h : fewL L = false) => HH.out (by rw [HE.out, h, Bool.false_and, Bool.and_false]))
      have HR0 := Lib.hid (fun (h : fewL R = false) => HH.out (by rw [HE.out, h, Bool.and_false, Bool.and_false]))
      have HE2 : Hid (fewL L = true → fewL R = true → fewE (s, (L, R)) = true) := Lib.hid (fun x y => by rw [HE.out, x, y, decide_eq_true (by omega), decide_eq_true (by omega)]; rfl)
      clear HE HH h1 h2
      go_wp2
      clear g1 g2 g3 g4
      obtain ⟨wo, hwo⟩ : ∃ wo, wo = wr := ⟨wr, rfl⟩
      subst hwo
      go_loopw [4] (fun i wr => ∃ j : Nat, j ≤ L.length ∧ i = .int .i64 j ∧ Hid (wr = wo) ∧ Hid (∀ q, q < j → inD L q ≤ 20)) (fun i _ => L.length - (intOf i).toNat)
      case atStart => exact ⟨0, Nat.zero_le _, rfl, (by first | exact Lib.hid rfl | exact Lib.hid trivial), Lib.hid (fun q h => by omega)⟩
      case round =>
       obtain ⟨j, hj, rfl, HW, HJ⟩ := hrel
       have hw := HW.out
       clear HW
       subst hw
       by_cases hjl : j < L.length
       ·obtain ⟨ax, rfl, hv⟩ := (HR1.out).int_at j hjl
        by_cases hb : inD L j > 20
        ·have q1 : decide (inD L j > 20) = true := decide_eq_true hb
         have q2 : decide (20 < inD L j) = true := decide_eq_true hb
         have HF := Lib.hid (HL0.out (fewL_hit hjl hb))
         clear hb
         generalize inD L j = x at *
         go_wp2
         go_ret
         exact ⟨ret_bool HF.out.symm, HB.out⟩
        ·have q1 : decide (inD L j > 20) = false := decide_eq_false hb
         have q2 : decide (20 < inD L j) = false := decide_eq_false hb
         have HJ2 := Lib.hid (le_snoc HJ.out (by omega))
         clear hb
         generalize inD L j = x at *
         go_wp2
         go_roundw
         case rel => exact ⟨j + 1, by omega, by go_num, (by first | exact Lib.hid rfl | exact Lib.hid trivial), HJ2⟩
         case measure => simp [intOf]; omega
       ·obtain rfl : j = L.length := by omega
        have HLT := Lib.hid (fewL_all HJ.out)
        clear HJ
        go_wp2
        obtain ⟨wo, hwo⟩ : ∃ wo, wo = wr := ⟨wr, rfl⟩
        subst hwo
        go_loopw [5] (fun i wr => ∃ j : Nat, j ≤ R.length ∧ i = .int .i64 j ∧ Hid (wr = wo) ∧ Hid (∀ q, q < j → inD R q ≤ 20)) (fun i _ => R.length - (intOf i).toNat)
        case atStart => exact ⟨0, Nat.zero_le _, rfl, (by first | exact Lib.hid rfl | exact Lib.hid trivial), Lib.hid (fun q h => by omega)⟩
        case round =>
         obtain ⟨j, hj, rfl, HW, HJ⟩ := hrel
         have hw := HW.out
         clear HW
         subst hw
         by_cases hjl : j < R.length
         ·obtain ⟨ax, rfl, hv⟩ := (HR2.out).int_at j hjl
          by_cases hb : inD R j > 20
          ·have q1 : decide (inD R j > 20) = true := decide_eq_true hb
           have q2 : decide (20 < inD R j) = true := decide_eq_true hb
           have HF := Lib.hid (HR0.out (fewL_hit hjl hb))
           clear hb
           generalize inD R j = x at *
           go_wp2
           go_ret
           exact ⟨ret_bool HF.out.symm, HB.out⟩
          ·have q1 : decide (inD R j > 20) = false := decide_eq_false hb
           have q2 : decide (20 < inD R j) = false := decide_eq_false hb
           have HJ2 := Lib.hid (le_snoc HJ.out (by omega))
           clear hb
           generalize inD R j = x at *
           go_wp2
           go_roundw
           case rel => exact ⟨j + 1, by omega, by go_num, (by first | exact Lib.hid rfl | exact Lib.hid trivial), HJ2⟩
           case measure => simp [intOf]; omega
         ·obtain rfl : j = R.length := by omega
          have HRT := Lib.hid (fewL_all HJ.out)
          have HA2 := Lib.hid (HS.out.trans (by rw [HA.out, HE2.out HLT.out HRT.out]))
          clear HJ
          go_wp2
          go_roundw
          case rel => exact ⟨k + 1, by omega, by go_num, HB, HA2⟩
          case measure => simp [intOf]; omega
   ·obtain rfl : k = m.length := by omega
    have HF : Hid (fewM m = true) := Lib.hid (by unfold fewM; have := HA.out; rw [List.take_length] at this; rw [this, decide_eq_true (by omega)]; first | done | rfl)
    clear HA
    go_wp2
    go_ret
    exact ⟨ret_bool HF.out.symm, HB.out⟩
end
section
open Go.RowKit Go.Proofs.YtaeflnbjeaoapaaW.PrintLast

attribute [local go_sem high] eqPt eqSg
set_option maxRecDepth 100000 in
set_option maxHeartbeats 1000000 in
theorem law25_SimplifyTwice {ok : Nat → Prop} (m : Msh) (A : Option Addr) (n c : Nat) (a b : Int) (w : World) (hr : Row Ty.edge ok w A m) (hn : n = m.length) :
  Calls Try.prog 3 #[.slice A n c, .int .i64 a, .int .i64 b] w fun e w' => e = .returned (.bool true) ∧ Below w.heap.size w w' := by
 subst hn
 have HR := Lib.hid (hr.mono (ok' := fun _ => True) (fun _ _ => trivial))
 have CF := Lib.hid (law25_Few m A m.length c w hr rfl)
 have CL := Lib.hid (fun W => law25_lives W)
 clear hr
 cases hf : fewM m
 ·rw [hf] at CF
  clear hf
  go_enter Try.func3, Try.ntmps3
  go_wp2_with fail
  refine CF.out.mono ?_
  rintro e w1 ⟨rfl, hb1⟩
  clear CF
  go_wp2_with fail
  refine (CL.out _).mono ?_
  rintro e w2 ⟨rfl, hb2⟩
  go_wp2
  go_ret
  exact ⟨rfl, (by repeat (first | exact Below.refl _ _ | apply below_alloc | apply below_drewN | apply below_drew | (refine below_set2 ?_ ?_; (first | (simp; done) | (simp; omega))) | (refine below_step ?_ hb2) | (refine below_step ?_ hb1)))⟩
 ·rw [hf] at CF
  by_cases hab : a > b
  ·have q1 : decide (a > b) = true := decide_eq_true hab
   have q2 : decide (b < a) = true := decide_eq_true hab
   clear hf hab
   go_enter Try.func3, Try.ntmps3
   go_wp2_with fail
   refine CF.out.mono ?_
   rintro e w1 ⟨rfl, hb1⟩
   clear CF
   go_wp2_with fail
   refine (CL.out _).mono ?_
   rintro e w2 ⟨rfl, hb2⟩
   go_wp2
   go_ret
   exact ⟨rfl, (by repeat (first | exact Below.refl _ _ | apply below_alloc | apply below_drewN | apply below_drew | (refine below_set2 ?_ ?_; (first | (simp; done) | (simp; omega))) | (refine below_step ?_ hb2) | (refine below_step ?_ hb1)))⟩
  ·have q1 : decide (a > b) = false := decide_eq_false hab
   have q2 : decide (b < a) = false := decide_eq_false hab
   have HF := Lib.hid hf
   clear hf hab
   go_enter Try.func3, Try.ntmps3
   go_wp2_with fail
   refine CF.out.mono ?_
   rintro e w1 ⟨rfl, hb1⟩
   have R1 := Lib.hid (HR.out.below hb1)
   clear CF HR
   go_wp2_with fail
   refine (simplify_Mesh m A m.length c a w1 R1.out rfl HF.out).mono ?_
   rintro e w2 ⟨Al, cl, rfl, rl, hb2⟩
   have HFL := Lib.hid (mesh_few m a HF.out)
   have HID := Lib.hid (mesh_idem m a)
   have HPS := Lib.hid (fun x h => points_sub m a (x := x) h)
   have hpl := points_len m a
   generalize meshZ m a = l at *
   have RL2 := Lib.hid rl
   have R2 := Lib.hid (R1.out.below hb2)
   have B2 := Lib.hid (below_step hb1 hb2)
   clear rl hb2 hb1 R1 q1 q2
   go_wp2_with fail
   refine (simplify_Mesh l Al l.length cl b w2 RL2.out rfl HFL.out).mono ?_
   rintro e w3 ⟨Ak, ck, rfl, rk, hb3⟩
   have HFK := Lib.hid (mesh_few l b HFL.out)
   have HQS := Lib.hid (fun x h => points_sub l b (x := x) h)
   have hql := points_len l b
   generalize meshZ l b = k at *
   have RK3 := Lib.hid rk
   have RL3 := Lib.hid (RL2.out.below hb3)
   have R3 := Lib.hid (R2.out.below hb3)
   have B3 := Lib.hid (below_step B2.out hb3)
   clear rk hb3 R2 RL2 B2
   go_wp2_with fail
   refine (simplify_Points l Al l.length cl w3 RL3.out rfl HFL.out).mono ?_
   rintro e w4 ⟨Ap, cp, rfl, rp, hb4⟩
   have RP4 := Lib.hid rp
   have RK4 := Lib.hid (RK3.out.below hb4)
   have RL4 := Lib.hid (RL3.out.below hb4)
   have R4 := Lib.hid (R3.out.below hb4)
   have B4 := Lib.hid (below_step B3.out hb4)
   clear rp hb4 RK3 RL3 R3 B3
   go_wp2_with fail
   refine (simplify_Points k Ak k.length ck w4 RK4.out rfl HFK.out).mono ?_
   rintro e w5 ⟨Aq, cq, rfl, rq, hb5⟩
   have RQ5 := Lib.hid rq
   have RP5 := Lib.hid (RP4.out.below hb5)
   have RL5 := Lib.hid (RL4.out.below hb5)
   have R5 := Lib.hid (R4.out.below hb5)
   have B5 := Lib.hid (below_step B4.out hb5)
   clear rq hb5 RK4 RL4 R4 B4 RP4
   go_wp2_with fail
   refine (simplify_Points m A m.length c w5 R5.out rfl HF.out).mono ?_
   rintro e w6 ⟨Aa, ca, rfl, ra, hb6⟩
   have RA6 := Lib.hid ra
   have RQ6 := Lib.hid (RQ5.out.below hb6)
   have RP6 := Lib.hid (RP5.out.below hb6)
   have RL6 := Lib.hid (RL5.out.below hb6)
   have B6 := Lib.hid (below_step B5.out hb6)
   clear ra hb6 RL5 R5 B5 RP5 RQ5
   go_wp2_with fail
   refine (simplify_Mesh l Al l.length cl a w6 RL6.out rfl HFL.out).mono ?_
   rintro e w7 ⟨Ai, ci, rfl, ri, hb7⟩
   rw [HID.out] at ri ⊢
   have RI7 := Lib.hid ri
   have RA7 := Lib.hid (RA6.out.below hb7)
   have RQ7 := Lib.hid (RQ6.out.below hb7)
   have RP7 := Lib.hid (RP6.out.below hb7)
   have RL7 := Lib.hid (RL6.out.below hb7)
   have B7 := Lib.hid (below_step B6.out hb7)
   clear ri hb7 RL6 B6 RP6 RQ6 RA6 HID
   have hpa := RP7.out.len
   have hqa := RQ7.out.len
   generalize pointsM k = qs at *
   generalize pointsM l = ps at *
   generalize pointsM m = pm at *
   have g1 : decide ((qs.length : Int) > (ps.length : Int)) = false := decide_eq_false (by omega)
   have g2 : decide ((ps.length : Int) < (qs.length : Int)) = false := decide_eq_false (by omega)
   have g3 : decide ((ps.length : Int) > (pm.length : Int)) = false := decide_eq_false (by omega)
   have g4 : decide ((pm.length : Int) < (ps.length : Int)) = false := decide_eq_false (by omega)
   have g5 : decide (ps.length < qs.length) = false := decide_eq_false (by omega)
   have g6 : decide (pm.length < ps.length) = false := decide_eq_false (by omega)
   go_wp2_with fail
   refine (law25_same l Ai Al l.length l.length ci cl w7 RI7.out RL7.out rfl rfl).mono ?_
   rintro e w8 ⟨rfl, hb8⟩
   have RA8 := Lib.hid (RA7.out.below hb8)
   have RQ8 := Lib.hid (RQ7.out.below hb8)
   have RP8 := Lib.hid (RP7.out.below hb8)
   have B8 := Lib.hid (below_step B7.out hb8)
   clear hb8 RL7 RI7 B7 RP7 RQ7 RA7
   go_wp2
   clear g1 g2 g3 g4 g5 g6
   go_loopw [12] (fun i wr => ∃ j : Nat, j ≤ ps.length ∧ i = .int .i64 j ∧ Hid (Below w8.heap.size w8 wr)) (fun i _ => ps.length - (intOf i).toNat)
   case atStart => exact ⟨0, Nat.zero_le _, rfl, Below.refl _ _⟩
   case round =>
    obtain ⟨j, hj, rfl, HBj⟩ := hrel
    by_cases hlt : j < ps.length
    ·obtain ⟨ad, rfl, hx0, hx1⟩ := (RP8.out.below HBj.out).pt_at j hlt
     have HIN := Lib.hid (HPS.out (ptD ps j) (by rw [ptD_eq hlt]; exact List.getElem_mem _))
     generalize ptD ps j = x at *
     obtain ⟨x1, x2⟩ := x
     simp only at hx0 hx1
     have CH := Lib.hid (law25_has pm Aa pm.length ca x1 x2 wr (RA8.out.below HBj.out) rfl HIN.out)
     go_wp2_with fail
     refine CH.out.mono ?_
     rintro e w9 ⟨rfl, hb9⟩
     have HB9 := Lib.hid (below_step HBj.out hb9)
     clear hx0 hx1 CH hb9
     go_wp2
     go_roundw
     case rel => exact ⟨j + 1, by omega, by go_num, HB9⟩
     case measure => simp [intOf]; omega
    ·obtain ⟨wo, hwo⟩ : ∃ wo, wo = wr := ⟨wr, rfl⟩
     subst hwo
     have RQ9 := Lib.hid (RQ8.out.below HBj.out)
     have RP9 := Lib.hid (RP8.out.below HBj.out)
     have B9 := Lib.hid (below_step B8.out HBj.out)
     clear RQ8 RP8 RA8 B8 HBj
     go_wp2
     go_loopw [13] (fun i wr => ∃ j : Nat, j ≤ qs.length ∧ i = .int .i64 j ∧ Hid (Below wo.heap.size wo wr)) (fun i _ => qs.length - (intOf i).toNat)
     case atStart => exact ⟨0, Nat.zero_le _, rfl, Below.refl _ _⟩
     case round =>
      obtain ⟨i, hi, rfl, HBi⟩ := hrel
      by_cases hlq : i < qs.length
      ·obtain ⟨ad, rfl, hx0, hx1⟩ := (RQ9.out.below HBi.out).pt_at i hlq
       have HIN := Lib.hid (HQS.out (ptD qs i) (by rw [ptD_eq hlq]; exact List.getElem_mem _))
       generalize ptD qs i = x at *
       obtain ⟨x1, x2⟩ := x
       simp only at hx0 hx1
       have CH := Lib.hid (law25_has ps Ap ps.length cp x1 x2 wr (RP9.out.below HBi.out) rfl HIN.out)
       go_wp2_with fail
       refine CH.out.mono ?_
       rintro e w9 ⟨rfl, hb9⟩
       have HB9 := Lib.hid (below_step HBi.out hb9)
       clear hx0 hx1 CH hb9
       go_wp2
       go_roundw
       case rel => exact ⟨i + 1, by omega, by go_num, HB9⟩
       case measure => simp [intOf]; omega
      ·go_wp2_with fail
       refine (CL.out _).mono ?_
       rintro e w9 ⟨rfl, hb9⟩
       have HB9 := Lib.hid (below_step (below_step B9.out HBi.out) hb9)
       clear hb9
       go_wp2
       go_ret
       exact ⟨rfl, HB9.out⟩
end
section
open Go.RowKit Go.ChangeShapes Go.WideShapes

/-- What reads by type t is a T. -/
def Opens {α : Type} (P : Program) (T : Ty α) (t : TypeId) : Prop := ∀ (H : Type) (enc : TypeId × Value → H) (w : World) (base : Nat) (spare : Nat → Bool) (held : Bool) (fuel : Nat) (cs : List Value) (x : DataW H × List MemPlace),
 DataW.trod enc P w base spare held fuel t cs = some x → ∃ a : α, T.R (fun _ => True) w a cs

section
variable {P : Program} {α β : Type}
theorem Opens.int {t : TypeId} {k : IntKind} (ht : P.underlying t = some (.int k)) : Opens P (Ty.int k) t := fun H enc w base spare held fuel cs x h => by
 obtain ⟨n, rfl, _⟩ := DataW.trod_int ht h
 exact ⟨n, rfl⟩
theorem Opens.slice [Inhabited α] {T : Ty α} {t e : TypeId} (ht : P.underlying t = some (.slice e)) (hs : P.cellsOf e = T.sz) (ho : Opens P T e) : Opens P (Ty.slice T) t := fun H enc w base spare held fuel cs x h => by
 rcases Deep.open_slice ht h with ⟨rfl, _⟩ | ⟨a, len, cap, m, n, D, Pl, rfl, hb, hl, hm, hmm, _, hx⟩
 ·exact ⟨[], none, 0, rfl, Nat.le_refl _, Row.nil _ _ _ _⟩
 ·have hlm : len ≤ m := by rw [hmm]; split <;> omega
  obtain ⟨f, hf⟩ := Deep.choose_lt (α := α) (n := len) (p := fun i y => ∃ cs', T.R (fun _ => True) w y cs' ∧ CellsAt w a (i * T.sz) cs') (fun i hi => by
   obtain ⟨cs', h1, h2⟩ := hx i (by omega)
   rw [hs] at h1
   obtain ⟨y, hy⟩ := ho H enc w base spare held n cs' _ h2
   obtain ⟨_, hlen, hc⟩ := World.cells?_some h1
   refine ⟨y, cs', hy, fun j u hu => ?_⟩
   have := hc j (by have := (List.getElem?_eq_some_iff.1 hu).1; omega)
   rw [← add_add, this, hu])
  have hlen : ((List.range len).map f).length = len := by simp
  refine ⟨(List.range len).map f, some a, cap, by rw [hlen], by rw [hlen]; exact hl, by rw [hlen]; simp only [maxLen] at hm; omega, fun _ => ⟨a, rfl, trivial, fun i y hy => ?_⟩⟩
  have hi : i < len := by have := (List.getElem?_eq_some_iff.1 hy).1; rwa [hlen] at this
  obtain ⟨cs', h1, h2⟩ := hf i hi
  have e : y = f i := by simp [hi] at hy; exact hy.symm
  rw [e]
  exact ⟨cs', h1, h2⟩
theorem Opens.pair {T : Ty α} {U : Ty β} {t : TypeId} {f0 f1 : Field} (ht : P.underlying t = some (.struct #[f0, f1])) (hs : P.cellsOf t = T.sz + U.sz) (h0 : f0.offset = 0) (h1 : f1.offset = T.sz)
  (c0 : P.cellsOf f0.type = T.sz) (c1 : P.cellsOf f1.type = U.sz) (o0 : Opens P T f0.type) (o1 : Opens P U f1.type) : Opens P (Ty.pair T U) t := fun H enc w base spare held fuel cs x h => by
 obtain ⟨xs, n, rfl, _, hl, hxl, hf⟩ := DataW.trod_struct ht h
 have g0 := hf 0 f0 rfl
 have g1 := hf 1 f1 rfl
 rw [h0, c0, List.drop_zero] at g0
 rw [h1, c1] at g1
 rw [hs] at hl
 match xs, hxl with
 | [y0, y1], _ =>
  obtain ⟨a, ha⟩ := o0 H enc w base spare held n _ y0 (by simpa using g0)
  obtain ⟨b, hb⟩ := o1 H enc w base spare held n _ y1 (by simpa using g1)
  refine ⟨(a, b), cs.take T.sz, (cs.drop T.sz).take U.sz, ?_, ha, hb⟩
  rw [List.take_of_length_le (l := cs.drop T.sz) (by rw [List.length_drop]; omega), List.take_append_drop]
theorem Opens.of_eq {T U : Ty α} {t : TypeId} (h : ∀ w x cs, T.R (fun _ => True) w x cs → U.R (fun _ => True) w x cs) (ho : Opens P T t) : Opens P U t := fun H enc w base spare held fuel cs x hx => by
 obtain ⟨a, ha⟩ := ho H enc w base spare held fuel cs x hx
 exact ⟨a, h w a cs ha⟩
theorem Opens.pt {t : TypeId} {f0 f1 : Field} (ht : P.underlying t = some (.struct #[f0, f1])) (hs : P.cellsOf t = 2) (h0 : f0.offset = 0) (h1 : f1.offset = 1)
  (c0 : P.cellsOf f0.type = 1) (c1 : P.cellsOf f1.type = 1) (o0 : P.underlying f0.type = some (.int .i64)) (o1 : P.underlying f1.type = some (.int .i64)) : Opens P Ty.pt t :=
 Opens.of_eq (T := Ty.pair (Ty.int .i64) (Ty.int .i64)) (fun w x cs h => by obtain ⟨c1, c2, rfl, h1, h2⟩ := h; rw [show c1 = _ from h1, show c2 = _ from h2]; rfl) (Opens.pair ht hs h0 h1 c0 c1 (Opens.int o0) (Opens.int o1))
theorem Opens.sg {t : TypeId} {f0 f1 : Field} (ht : P.underlying t = some (.struct #[f0, f1])) (hs : P.cellsOf t = 4) (h0 : f0.offset = 0) (h1 : f1.offset = 2)
  (c0 : P.cellsOf f0.type = 2) (c1 : P.cellsOf f1.type = 2) (o0 : Opens P Ty.pt f0.type) (o1 : Opens P Ty.pt f1.type) : Opens P Ty.sg t :=
 Opens.of_eq (T := Ty.pair Ty.pt Ty.pt) (fun w x cs h => by obtain ⟨c1, c2, rfl, h1, h2⟩ := h; rw [show c1 = _ from h1, show c2 = _ from h2]; rfl) (Opens.pair ht hs h0 h1 c0 c1 o0 o1)
/-- A slice that came as an argument. -/
theorem Opens.arg [Inhabited α] {T : Ty α} {t e : TypeId} (ht : P.underlying t = some (.slice e)) (hs : P.cellsOf e = T.sz) (ho : Opens P T e) {H : Type} {enc : TypeId × Value → H} {w : World} {base : Nat} {spare : Nat → Bool} {held : Bool} {A : Option Addr} {n c : Nat} {d : DataW H} {ps : List MemPlace}
  (h : DataW.Trod enc P w base spare held t (.slice A n c) d ps) : ∃ xs : List α, n = xs.length ∧ Row T (fun _ => True) w A xs := by
 obtain ⟨fuel, hf⟩ := h
 obtain ⟨xs, A', c', e1, _, hr⟩ := Opens.slice ht hs ho H enc w base spare held fuel _ _ hf
 simp only [Value.cells, List.cons.injEq, Value.slice.injEq, and_true] at e1
 obtain ⟨rfl, rfl, rfl⟩ := e1
 exact ⟨xs, rfl, hr⟩
/-- A point that came as an argument. -/
theorem Opens.ptArg {t : TypeId} {fs : Array Field} (hs : P.underlying t = some (.struct fs)) (ho : Opens P Ty.pt t) {H : Type} {enc : TypeId × Value → H} {w : World} {base b0 : Nat} {spare : Nat → Bool} {held : Bool} {r : Reach} {v : Value} {d : DataW H} {ps : List MemPlace}
  (hv : Value.okWide P w r b0 t v) (h : DataW.Trod enc P w base spare held t v d ps) : ∃ x y : Int, v = .agg #[.int .i64 x, .int .i64 y] := by
 obtain ⟨cs, rfl, hsz⟩ := okWide_struct hs hv
 obtain ⟨fuel, hf⟩ := h
 obtain ⟨a, ha⟩ := ho H enc w base spare held fuel _ _ hf
 have e : cs.toList = [.int .i64 a.1, .int .i64 a.2] := ha
 refine ⟨a.1, a.2, ?_⟩
 have := congrArg List.toArray e
 rw [Array.toArray_toList] at this
 rw [this]
/-- A segment that came as an argument. -/
theorem Opens.sgArg {t : TypeId} {fs : Array Field} (hs : P.underlying t = some (.struct fs)) (ho : Opens P Ty.sg t) {H : Type} {enc : TypeId × Value → H} {w : World} {base b0 : Nat} {spare : Nat → Bool} {held : Bool} {r : Reach} {v : Value} {d : DataW H} {ps : List MemPlace}
  (hv : Value.okWide P w r b0 t v) (h : DataW.Trod enc P w base spare held t v d ps) : ∃ s : Sg, v = .agg #[.int .i64 s.1.1, .int .i64 s.1.2, .int .i64 s.2.1, .int .i64 s.2.2] := by
 obtain ⟨cs, rfl, hsz⟩ := okWide_struct hs hv
 obtain ⟨fuel, hf⟩ := h
 obtain ⟨a, ha⟩ := ho H enc w base spare held fuel _ _ hf
 have e : cs.toList = [.int .i64 a.1.1, .int .i64 a.1.2, .int .i64 a.2.1, .int .i64 a.2.2] := ha
 refine ⟨a, ?_⟩
 have := congrArg List.toArray e
 rw [Array.toArray_toList] at this
 rw [this]
end
end
section
open Go.RowKit Go.ChangeShapes Go.WideShapes

section
variable {P : Program} {α β γ δ : Type}
theorem Opens.map {T : Ty α} {U : Ty β} {t : TypeId} (f : α → β) (h : ∀ w x cs, T.R (fun _ => True) w x cs → U.R (fun _ => True) w (f x) cs) (ho : Opens P T t) : Opens P U t := fun H enc w base spare held fuel cs x hx => by
 obtain ⟨a, ha⟩ := ho H enc w base spare held fuel cs x hx
 exact ⟨f a, h w a cs ha⟩
theorem Opens.quad {T : Ty α} {U : Ty β} {V : Ty γ} {X : Ty δ} {t : TypeId} {f0 f1 f2 f3 : Field} (ht : P.underlying t = some (.struct #[f0, f1, f2, f3])) (hs : P.cellsOf t = T.sz + (U.sz + (V.sz + X.sz))) (h0 : f0.offset = 0) (h1 : f1.offset = T.sz)
  (h2 : f2.offset = T.sz + U.sz) (h3 : f3.offset = T.sz + U.sz + V.sz) (c0 : P.cellsOf f0.type = T.sz) (c1 : P.cellsOf f1.type = U.sz) (c2 : P.cellsOf f2.type = V.sz) (c3 : P.cellsOf f3.type = X.sz)
  (o0 : Opens P T f0.type) (o1 : Opens P U f1.type) (o2 : Opens P V f2.type) (o3 : Opens P X f3.type) : Opens P (Ty.pair T (Ty.pair U (Ty.pair V X))) t := fun H enc w base spare held fuel cs x h => by
 obtain ⟨xs, n, rfl, _, hl, hxl, hf⟩ := DataW.trod_struct ht h
 have g0 := hf 0 f0 rfl
 have g1 := hf 1 f1 rfl
 have g2 := hf 2 f2 rfl
 have g3 := hf 3 f3 rfl
 rw [h0, c0, List.drop_zero] at g0
 rw [h1, c1] at g1
 rw [h2, c2] at g2
 rw [h3, c3] at g3
 rw [hs] at hl
 match xs, hxl with
 | [y0, y1, y2, y3], _ =>
  obtain ⟨a, ha⟩ := o0 H enc w base spare held n _ y0 (by simpa using g0)
  obtain ⟨b, hb⟩ := o1 H enc w base spare held n _ y1 (by simpa using g1)
  obtain ⟨c, hc⟩ := o2 H enc w base spare held n _ y2 (by simpa using g2)
  obtain ⟨d, hd⟩ := o3 H enc w base spare held n _ y3 (by simpa using g3)
  refine ⟨(a, (b, (c, d))), cs.take T.sz, (cs.drop T.sz).take U.sz ++ ((cs.drop (T.sz + U.sz)).take V.sz ++ (cs.drop (T.sz + U.sz + V.sz)).take X.sz), ?_, ha, _, _, rfl, hb, _, _, rfl, hc, hd⟩
  have e1 : (cs.drop (T.sz + U.sz + V.sz)).take X.sz = cs.drop (T.sz + U.sz + V.sz) := List.take_of_length_le (by rw [List.length_drop]; omega)
  have e2 : cs.drop (T.sz + U.sz + V.sz) = (cs.drop (T.sz + U.sz)).drop V.sz := by rw [List.drop_drop]
  have e3 : cs.drop (T.sz + U.sz) = (cs.drop T.sz).drop U.sz := by rw [List.drop_drop]
  rw [e1, e2, List.take_append_drop, e3, List.take_append_drop, List.take_append_drop]
theorem Opens.edge {t : TypeId} {f0 f1 f2 f3 : Field} (ht : P.underlying t = some (.struct #[f0, f1, f2, f3])) (hs : P.cellsOf t = 6) (h0 : f0.offset = 0) (h1 : f1.offset = 2) (h2 : f2.offset = 4) (h3 : f3.offset = 5)
  (c0 : P.cellsOf f0.type = 2) (c1 : P.cellsOf f1.type = 2) (c2 : P.cellsOf f2.type = 1) (c3 : P.cellsOf f3.type = 1) (o0 : Opens P Ty.pt f0.type) (o1 : Opens P Ty.pt f1.type) (o2 : Opens P Ty.ints f2.type) (o3 : Opens P Ty.ints f3.type) : Opens P Ty.edge t :=
 Opens.map (T := Ty.pair Ty.pt (Ty.pair Ty.pt (Ty.pair Ty.ints Ty.ints))) (fun x => ((x.1, x.2.1), x.2.2)) (fun w x cs h => by
  obtain ⟨c1, c2, rfl, h1, c3, c4, rfl, h2, h3⟩ := h
  obtain rfl : c1 = _ := h1
  obtain rfl : c3 = _ := h2
  exact ⟨_, c4, rfl, rfl, h3⟩) (Opens.quad ht hs h0 h1 h2 h3 c0 c1 c2 c3 o0 o1 o2 o3)
end
end
end Go.Proofs.Ytaeflnbjeaoapaa
section
namespace Go.Proofs.Ytaeflnbjeaoapaa.simplifyTwice
open Go.ChangeShapes Go.WideShapes Go.ChangeAt Go.RowKit
set_option linter.unusedVariables false
set_option linter.unusedSimpArgs false
theorem own : ownKnob Try.prog.godebug = none := by kernel_rfl
theorem laidOut : laidOutB Try.prog = true := by kernel_rfl
theorem opens0 : Opens Try.prog Ty.edge 35 := Opens.edge Try.underlying35 (by kernel_rfl) rfl rfl rfl rfl (by kernel_rfl) (by kernel_rfl) (by kernel_rfl) (by kernel_rfl) (Opens.pt Try.underlying31 (by kernel_rfl) rfl rfl (by kernel_rfl) (by kernel_rfl) Try.underlying3 Try.underlying3) (Opens.pt Try.underlying31 (by kernel_rfl) rfl rfl (by kernel_rfl) (by kernel_rfl) Try.underlying3 Try.underlying3) (Opens.slice Try.underlying33 (by kernel_rfl) (Opens.int Try.underlying3)) (Opens.slice Try.underlying33 (by kernel_rfl) (Opens.int Try.underlying3))
set_option maxRecDepth 100000 in
theorem lifted (os : Os) (started : os.Started) (H : Type) (enc : TypeId × Value → H) :
  ReturnsInHanded {} Try.checked os 3 .any (Rows.simplifyTwiceSpec.pre6 enc Try.prog Try.f3 Rows.simplifyTwiceRow.domain false) (Rows.simplifyTwiceSpec.post enc Try.prog Try.f3 false true false false) := by
 refine returnsInHanded_of_change_sized (C := Try.checked) own started (by kernel_rfl) Try.func3
  (ChangeSpec.witness6 (enc := enc) (C := Try.checked) false ⟨#[], #[.slice none 0 0, .int .i64 0, .int .i64 0], []⟩ 8 (by kernel_rfl) (by kernel_rfl) (by kernel_rfl) (by kernel_rfl)) ?_
 intro W base args ds gs before hval0 hW hcnd hsz0 _
 have hval : ∀ (j : Nat) t v, Try.f3.params[j]? = some t → args[j]? = some v → Value.okWide Try.prog W .any base t v := hval0
 have hW' := hW
 obtain ⟨p, q, hA0, hV, rfl, hfz, hnd⟩ := hW
 have hA : DataW.TrodAll enc Try.prog W 0 (fun _ => true) true Try.f3.params.toList args.toList ds p := hA0
 rw [Try.params3] at hA hval
 obtain ⟨v0, vs0, d0, ds0, p0, q0, hargs, rfl, rfl, h0, r0⟩ := trodAll_cons hA
 obtain ⟨v1, vs1, d1, ds1, p1, q1, rfl, rfl, rfl, h1, r1⟩ := trodAll_cons r0
 obtain ⟨v2, vs2, d2, ds2, p2, q2, rfl, rfl, rfl, h2, r2⟩ := trodAll_cons r1
 obtain ⟨rfl, rfl, rfl⟩ := trodAll_nil r2
 obtain rfl : args = #[v0, v1, v2] := by cases args; simp_all
 obtain ⟨rfl, rfl⟩ := trodVars_none hV
 obtain ⟨a0, len0, cap0, rfl⟩ := okWide_slice Try.underlying22 (hval 0 22 v0 rfl rfl)
 have k0 := h0
 have lt0 : ∀ x ∈ p0, x.block < W.heap.size := by obtain ⟨m, hm⟩ := k0; exact DataW.trod_lt m _ _ _ hm
 obtain ⟨xs0, hn0, hr0⟩ := Opens.arg (T := Ty.edge) Try.underlying22 (by kernel_rfl) opens0 h0
 have k1 := h1
 have lt1 : ∀ x ∈ p1, x.block < W.heap.size := by obtain ⟨m, hm⟩ := k1; exact DataW.trod_lt m _ _ _ hm
 obtain ⟨x1, rfl⟩ := okWide_int Try.underlying3 (hval 1 3 v1 rfl rfl)
 have b1 : (Lit.int .i64 x1).wf = true := by obtain ⟨m, hm⟩ := h1; obtain ⟨n, e, _, hw⟩ := DataW.trod_int Try.underlying3 hm; (cases e; exact hw)
 have k2 := h2
 have lt2 : ∀ x ∈ p2, x.block < W.heap.size := by obtain ⟨m, hm⟩ := k2; exact DataW.trod_lt m _ _ _ hm
 obtain ⟨x2, rfl⟩ := okWide_int Try.underlying3 (hval 2 3 v2 rfl rfl)
 have b2 : (Lit.int .i64 x2).wf = true := by obtain ⟨m, hm⟩ := h2; obtain ⟨n, e, _, hw⟩ := DataW.trod_int Try.underlying3 hm; (cases e; exact hw)
 clear hA0 hval0 hsz0
 refine (law25_SimplifyTwice xs0 _ _ _ x1 x2 W hr0 hn0).mono fun e W' ⟨he, bel⟩ => ?_
 subst he
 exact ⟨_, rfl, _, _, _, [], _, [], hW', trodAll_mk1 (shut_bool Try.underlying4 _), (trodAll_cons_mk (Below.trod laidOut (by kernel_rfl) (of_decide_eq_true (by kernel_rfl)) k0 bel lt0) (trodAll_cons_mk (Below.trod laidOut (by kernel_rfl) (of_decide_eq_true (by kernel_rfl)) k1 bel lt1) (trodAll_cons_mk (Below.trod laidOut (by kernel_rfl) (of_decide_eq_true (by kernel_rfl)) k2 bel lt2) trodAll_mk0))), rfl, bel.frame _, fun h => by cases h⟩
theorem over : Rows.simplifyTwiceRow.holds Try.pinned (OpenSpec.ofChange Rows.simplifyTwiceSpec) :=
 OpenClaim.holds_of_wide 3 Try.f3 rfl rfl rfl rfl rfl rfl rfl ⟨rfl, rfl, rfl, rfl, rfl⟩ rfl rfl rfl rfl rfl (by kernel_rfl) Try.func3 (by kernel_rfl)
  (of_decide_eq_true (by kernel_rfl)) (by unfold Func.isWrapper; first | (rw [if_pos (by decide +kernel)]; kernel_rfl) | (rw [if_neg (by decide +kernel)]; exact ⟨rfl, rfl⟩))
  (fun os started H enc _ => lifted os started H enc)
theorem proved : Rows.SimplifyTwiceSaid := over
#print axioms proved
end Go.Proofs.Ytaeflnbjeaoapaa.simplifyTwice
namespace Go.Proofs.Ytaeflnbjeaoapaa
theorem simplifyTwice_holds : Rows.SimplifyTwiceSaid := simplifyTwice.proved
end Go.Proofs.Ytaeflnbjeaoapaa
end
