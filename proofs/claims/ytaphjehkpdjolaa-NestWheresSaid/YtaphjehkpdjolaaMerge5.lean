/- Contract of slices.stableCmpFunc over any number of rings up to 2^20. -/
import Derived.Test.YtaphjehkpdjolaaMerge4
import Derived.Test.YtaphjehkpdjolaaBlockP
import Derived.Test.YtaphjehkpdjolaaRings
namespace Go.Proofs.Ytaphjehkpdjolaa
open Go.RowKit Go.Proofs.YtaphjehkpdjolaaW.PrintLast
set_option linter.unusedVariables false
set_option linter.unusedSimpArgs false

set_option maxRecDepth 20000 in
set_option maxHeartbeats 4000000 in
theorem stableAt_all : StableAt 1048576 := by
  intro xs g n cap base M w ni hni h hlen
  subst hni
  have HN := Lib.hid h.lenN
  have hn1 : n ≤ xs.length := by rw [HN.out]; exact Nat.le_refl _
  have hn2 : xs.length ≤ n := by rw [HN.out]; exact Nat.le_refl _
  have HH := Lib.hid h
  clear h
  go_enter Try.func50, Try.ntmps50
  go_wp2
  go_loopw [7, 8] (fun av bv wr => ∃ A B k : Nat, av = .int .i64 A ∧ bv = .int .i64 B ∧ B ≤ A + 20 ∧ A + 20 ≤ B ∧ A ≤ n ∧ Hid (A = k * 20) ∧ ∃ zs : Rings, Hid (OwnR Ty.ring 32 base M wr (.slice (some ⟨g, 0, none⟩) n cap) zs) ∧ Hid (zs.Perm xs) ∧ Hid (Inv1 zs 20 k) ∧ KeptS (fun k => k = g) w wr) (fun av _ _ => n - (intOf av).toNat)
  case atStart => exact ⟨0, 20, 0, rfl, rfl, Nat.le_refl _, Nat.le_refl _, Nat.zero_le _, rfl, xs, HH.out, List.Perm.refl _, fun j hj => absurd hj (Nat.not_lt_zero _), kept_refl _ _⟩
  case round =>
    obtain ⟨A, B, k, rfl, rfl, hB1, hB2, hAn, HA, zs, HO, HP, HI, hkt⟩ := hrel
    have hz1 : zs.length ≤ xs.length := by rw [HP.out.length_eq]; exact Nat.le_refl _
    have hz2 : xs.length ≤ zs.length := by rw [HP.out.length_eq]; exact Nat.le_refl _
    by_cases hlt : B ≤ n
    · have q1 : decide ((B : Int) ≤ (n : Int)) = true := decide_eq_true (by omega)
      have HE : Hid (B = k * 20 + 20) := by have := HA.out; show B = _; omega
      go_wp2_with fail
      refine (insertionSort_rings zs g n cap A B base M wr _ _ rfl rfl HO.out (by omega) (by omega) (by omega)).mono ?_
      rintro e w1 ⟨rfl, ys, ho, hp, hs, hk, hkt1⟩
      have HO1 := Lib.hid ho
      have HP1 := Lib.hid hp
      have HS := Lib.hid hs
      have HK := Lib.hid hk
      clear ho hp hs hk
      go_wp2
      go_roundw
      case rel => exact ⟨B, B + 20, k + 1, rfl, by go_num, Nat.le_refl _, Nat.le_refl _, hlt, by show B = _; rw [Nat.succ_mul]; exact HE.out, ys, HO1.out, HP1.out.trans HP.out, inv1_step HI.out (by rw [← HE.out, ← HA.out]; exact HS.out) (fun q hq => HK.out q (by rwa [← HE.out, ← HA.out] at hq)), kept_step hkt hkt1⟩
      case measure => simp [intOf]; omega
    · have q1 : decide ((B : Int) ≤ (n : Int)) = false := decide_eq_false (by omega)
      go_wp2_with fail
      refine (insertionSort_rings zs g n cap A n base M wr _ _ rfl rfl HO.out (by omega) (by omega) (by omega)).mono ?_
      rintro e w1 ⟨rfl, ys, ho, hp, hs, hk, hkt1⟩
      have HO1 := Lib.hid ho
      have HP1 : Hid (ys.Perm xs) := hp.trans HP.out
      have hkt2 := kept_step hkt hkt1
      have HBl : Hid (Blocks ys 20 n) := inv1_end HI.out (by rw [← HA.out]; exact hAn) (by rw [← HA.out]; omega) (by rw [← HA.out]; exact hs) (by rw [← HA.out]; exact hk)
      clear ho hp hs hk HI HO HP hkt hkt1 hz1 hz2 HA
      go_wp2_with fail
      obtain ⟨wo, rfl⟩ : ∃ wo : World, wo = w1 := ⟨_, rfl⟩
      go_loopw [6] (fun cv wr => ∃ c : Nat, cv = .int .i64 c ∧ 20 ≤ c ∧ c ≤ 2097152 ∧ ∃ zs : Rings, Hid (OwnR Ty.ring 32 base M wr (.slice (some ⟨g, 0, none⟩) n cap) zs) ∧ Hid (zs.Perm xs) ∧ Hid (Blocks zs c n) ∧ KeptS (fun k => k = g) w wr) (fun cv _ => n - (intOf cv).toNat)
      case atStart => exact ⟨20, rfl, Nat.le_refl _, by omega, ys, HO1.out, HP1.out, HBl.out, hkt2⟩
      case round =>
        obtain ⟨c, rfl, hc1, hc2, zs, HO, HP, HB, hkt⟩ := hrel
        by_cases hlt : c < n
        · have q2 : decide ((c : Int) < (n : Int)) = true := decide_eq_true (by omega)
          obtain ⟨d, hd⟩ : ∃ d, d = 2 * c := ⟨_, rfl⟩
          have hd1 : d ≤ 2 * c := by omega
          have hd2 : 2 * c ≤ d := by omega
          have ed : (2 : Int) * (c : Int) = (d : Int) := by omega
          have ed2 : (c : Int) * 2 = (d : Int) := by omega
          have HD := Lib.hid hd
          clear hd
          go_wp2_with fail
          obtain ⟨wi, rfl⟩ : ∃ wi : World, wi = wr := ⟨_, rfl⟩
          go_loopw [7, 8] (fun av bv wr => ∃ A B k : Nat, av = .int .i64 A ∧ bv = .int .i64 B ∧ B ≤ A + d ∧ A + d ≤ B ∧ A ≤ n ∧ Hid (A = k * (2 * c)) ∧ ∃ zs : Rings, Hid (OwnR Ty.ring 32 base M wr (.slice (some ⟨g, 0, none⟩) n cap) zs) ∧ Hid (zs.Perm xs) ∧ Hid (Inv2 zs c k n) ∧ KeptS (fun k => k = g) w wr) (fun av _ _ => n - (intOf av).toNat)
          case atStart => exact ⟨0, d, 0, rfl, rfl, by omega, by omega, Nat.zero_le _, by show 0 = _; rw [Nat.zero_mul], zs, HO.out, HP.out, inv2_start HB.out, hkt⟩
          case round =>
            obtain ⟨A, B, k, rfl, rfl, hB1, hB2, hAn, HA, us, HU, HUP, HI, hku⟩ := hrel
            have hz1 : us.length ≤ xs.length := by rw [HUP.out.length_eq]; exact Nat.le_refl _
            have hz2 : xs.length ≤ us.length := by rw [HUP.out.length_eq]; exact Nat.le_refl _
            obtain ⟨m, hm⟩ : ∃ m, m = A + c := ⟨_, rfl⟩
            have hm1 : m ≤ A + c := by omega
            have hm2 : A + c ≤ m := by omega
            have em : (A : Int) + (c : Int) = (m : Int) := by omega
            have HL : Hid (SortedOn us A (min m n)) := by have := inv2_left HI.out; rwa [← HA.out, ← hm] at this
            have HR : Hid (SortedOn us m (min B n)) := by have := inv2_right HI.out; rw [← HA.out, ← hm] at this; rwa [show B = m + c by omega]
            clear hm
            by_cases hlt2 : B ≤ n
            · have q3 : decide ((B : Int) ≤ (n : Int)) = true := decide_eq_true (by omega)
              obtain ⟨B', hB'⟩ : ∃ B', B' = B + d := ⟨_, rfl⟩
              have hb1 : B' ≤ B + d := by omega
              have hb2 : B + d ≤ B' := by omega
              have eb : (B : Int) + (d : Int) = (B' : Int) := by omega
              have HE : Hid (B = k * (2 * c) + 2 * c) := by have := HA.out; show B = _; rw [← this]; omega
              clear hB'
              go_wp2_with fail
              refine (symMerge_all base M g n cap (B - A + 1) us A m B wr _ _ _ rfl rfl rfl HU.out (by omega) (by omega) (by omega) (by omega) (HL.out.sub (Nat.le_refl _) (by omega)) (HR.out.sub (Nat.le_refl _) (by omega)) (by omega)).mono ?_
              rintro e w2 ⟨rfl, vs, ho, hmg, hk⟩
              have HO2 := Lib.hid ho
              have HM := Lib.hid hmg
              clear ho hmg
              go_wp2
              go_roundw
              case rel => exact ⟨B, B', k + 1, rfl, by go_num, hb1, hb2, hlt2, by show B = _; rw [Nat.succ_mul]; exact HE.out, vs, HO2.out, HM.out.1.trans HUP.out, inv2_step HI.out (by rw [← HE.out, ← HA.out]; exact HM.out), kept_step hku hk⟩
              case measure => simp [intOf]; omega
            · have q3 : decide ((B : Int) ≤ (n : Int)) = false := decide_eq_false (by omega)
              have hcl : d ≤ 2097152 := by omega
              by_cases hmn : m < n
              · have q4 : decide ((m : Int) < (n : Int)) = true := decide_eq_true (by omega)
                go_wp2_with fail
                refine (symMerge_all base M g n cap (n - A + 1) us A m n wr _ _ _ rfl rfl rfl HU.out (by omega) hmn (by omega) (by omega) (HL.out.sub (Nat.le_refl _) (by omega)) (HR.out.sub (Nat.le_refl _) (by omega)) (by omega)).mono ?_
                rintro e w2 ⟨rfl, vs, ho, hmg, hk⟩
                have HO2 := Lib.hid ho
                have HM := Lib.hid hmg
                have HBl : Hid (Blocks vs (2 * c) n) := inv2_end HI.out (by rw [← HA.out]; exact hAn) (by rw [← HA.out]; omega) (by rw [← HA.out]; exact hmg.2.1) (by rw [← HA.out]; exact hmg.2.2.1)
                clear ho hmg
                go_wp2
                go_roundw
                case rel => exact ⟨d, by go_num, by omega, hcl, vs, HO2.out, HM.out.1.trans HUP.out, by show Blocks vs d n; rw [HD.out]; exact HBl.out, kept_step hku hk⟩
                case measure => simp [intOf]; omega
              · have q4 : decide ((m : Int) < (n : Int)) = false := decide_eq_false (by omega)
                have HBl : Hid (Blocks us (2 * c) n) := inv2_end HI.out (by rw [← HA.out]; exact hAn) (by rw [← HA.out]; omega) (by rw [← HA.out]; exact HL.out.sub (Nat.le_refl _) (by omega)) (fun _ _ => rfl)
                go_wp2
                go_roundw
                case rel => exact ⟨d, by go_num, by omega, hcl, us, HU.out, HUP.out, by show Blocks us d n; rw [HD.out]; exact HBl.out, hku⟩
                case measure => simp [intOf]; omega
        · have q2 : decide ((c : Int) < (n : Int)) = false := decide_eq_false (by omega)
          have HS : Hid (SortedOn zs 0 zs.length) := by rw [HP.out.length_eq, ← HN.out]; exact blocks_done HB.out (by omega)
          go_wp2
          exact bodyPost_end (results_none rfl _ _ _) rfl ⟨rfl, zs, HO.out, HP.out, HS.out, hkt⟩
end Go.Proofs.Ytaphjehkpdjolaa
