/- Contract of slices.symMergeCmpFunc over rings where the right part has one element. -/
import Derived.Test.YtaphjehkpdjolaaMerge2
namespace Go.Proofs.Ytaphjehkpdjolaa
open Go.RowKit Go.Proofs.YtaphjehkpdjolaaW.PrintLast
set_option linter.unusedVariables false
set_option linter.unusedSimpArgs false

set_option maxRecDepth 20000 in
set_option maxHeartbeats 4000000 in
theorem symMerge_right (xs : Rings) (g n cap a m b base : Nat) (M : Nat → Prop) (w : World) (ai mi bi : Int) (hai : ai = (a : Int)) (hmi : mi = (m : Int)) (hbi : bi = (b : Int)) (h : OwnR Ty.ring 32 base M w (.slice (some ⟨g, 0, none⟩) n cap) xs)
    (hma : a + 1 < m) (hmb : b = m + 1) (hb : b ≤ xs.length) (hlen : xs.length ≤ 1048576) (h2 : SortedOn xs a m) :
    Calls Try.prog 60 #[.slice (some ⟨g, 0, none⟩) n cap, .int .i64 ai, .int .i64 mi, .int .i64 bi, .func (.func 34) #[] #[]] w fun e w' =>
      e = .returned (.tuple #[]) ∧ ∃ ys : Rings, OwnR Ty.ring 32 base M w' (.slice (some ⟨g, 0, none⟩) n cap) ys ∧ Merges xs ys a b ∧ KeptS (fun k => k = g) w w' := by
  subst hai hmi hbi
  have HN := Lib.hid h.lenN
  have HH := Lib.hid h
  have H2 := Lib.hid h2
  have HMB := Lib.hid hmb
  have hm1 : b ≤ m + 1 := by omega
  have hm2 : m < b := by omega
  have q1 : ((m : Int) - (a : Int) == 1) = false := by simp; omega
  have q2 : ((b : Int) - (m : Int) == 1) = true := by simp; omega
  clear h h2 hmb
  go_enter Try.func60, Try.ntmps60
  go_wp2
  go_loopw [14, 15] (fun i j wr => ∃ p q : Nat, a ≤ p ∧ p ≤ q ∧ q ≤ m ∧ i = .int .i64 p ∧ j = .int .i64 q ∧ Below w.heap.size w wr ∧ Hid (p = a ∨ leR (rg xs (p - 1)) (rg xs m)) ∧ Hid (q = m ∨ leR (rg xs m) (rg xs q))) (fun i j _ => (intOf j).toNat - (intOf i).toNat)
  case atStart => exact ⟨a, m, Nat.le_refl _, by omega, Nat.le_refl _, rfl, rfl, Below.refl _ _, .inl rfl, .inl rfl⟩
  case round =>
    obtain ⟨p, q, hp1, hpq, hqb, rfl, rfl, hb0, HL, HR⟩ := hrel
    by_cases hlt : p < q
    · have q3 : decide ((p : Int) < (q : Int)) = true := decide_eq_true (by omega)
      obtain ⟨t, ht⟩ : ∃ t, t = (p + q) / 2 := ⟨_, rfl⟩
      have et : ((p : Int) + (q : Int)) / 2 = (t : Int) := by omega
      have ht1 : p ≤ t := by omega
      have ht2 : t < q := by omega
      have HO1 := Lib.hid (HH.out.below hb0)
      have hnl : n = xs.length := HN.out
      have htn : t < n := by omega
      have han : m < n := by omega
      obtain ⟨A0, c0, hc0, hr0, _⟩ := HO1.out.ring_cell m (by omega)
      obtain ⟨A1, c1, hc1, hr1, _⟩ := HO1.out.ring_cell t (by omega)
      have R0 := Lib.hid (ringR_row hr0).2
      have R1 := Lib.hid (ringR_row hr1).2
      clear hr0 hr1 ht hnl
      have qb0 : (0 : Int) ≤ (t : Int) := by omega
      have qb1 : (t : Int) < (n : Int) := by omega
      have qn : ((t : Int)).toNat = t := by omega
      go_wp2_with fail
      try rw [et]
      clear et
      go_still_tail 9, (by kernel_rfl)
      change wpList _ _ _ _ _ wr.drew
      go_wp2_with fail
      refine (nestRings1 (rg xs m) (rg xs t) _ _ _ _ _ _ _ (R0.out.below (below_drew (Below.refl _ _))) (R1.out.below (below_drew (Below.refl _ _))) rfl rfl).mono ?_
      rintro e w2 ⟨rfl, hb2⟩
      cases hcmp : lessR (rg xs m) (rg xs t)
      · have HC := Lib.hid hcmp
        have qc := cmp_ge hcmp
        clear hcmp
        go_wp2
        go_roundw
        case rel => exact ⟨t + 1, q, by omega, by omega, hqb, by go_num, rfl, (by repeat (first | exact Below.refl _ _ | apply below_alloc | apply below_drewN | apply below_drew | (refine below_set2 ?_ ?_; (first | (simp; done) | (simp; omega))) | (refine below_step ?_ hb2) | (refine below_step ?_ hb0))), .inr (by rw [Nat.add_sub_cancel]; exact HC.out), HR⟩
        case measure => simp [intOf]; omega
      · have HC := Lib.hid hcmp
        have qc := cmp_lt hcmp
        clear hcmp
        go_wp2
        go_roundw
        case rel => exact ⟨p, t, hp1, ht1, by omega, rfl, rfl, (by repeat (first | exact Below.refl _ _ | apply below_alloc | apply below_drewN | apply below_drew | (refine below_set2 ?_ ?_; (first | (simp; done) | (simp; omega))) | (refine below_step ?_ hb2) | (refine below_step ?_ hb0))), HL, .inr (leR_of_less HC.out)⟩
        case measure => simp [intOf]; omega
    · obtain rfl : p = q := by omega
      have q3 : decide ((p : Int) < (p : Int)) = false := by simp
      have HO1 := Lib.hid (HH.out.below hb0)
      go_wp2_with fail
      obtain ⟨wo, rfl⟩ : ∃ wo : World, wo = wr := ⟨_, rfl⟩
      go_loopw [17] (fun kv wr => ∃ k : Nat, p ≤ k ∧ k ≤ m ∧ kv = .int .i64 k ∧ ∃ zs : Rings, Hid (OwnR Ty.ring 32 base M wr (.slice (some ⟨g, 0, none⟩) n cap) zs) ∧ Hid (zs.Perm xs) ∧ Hid (∀ x, rg zs x = rg xs (rho k m (m + 1) x)) ∧ KeptS (fun k => k = g) w wr) (fun kv _ => (intOf kv).toNat)
      case atStart => exact ⟨m, by omega, Nat.le_refl _, rfl, xs, HO1.out, List.Perm.refl _, fun x => by rw [rho_id (.inl rfl)], kept_of_below hb0⟩
      case round =>
        obtain ⟨k', hpk, hkm, rfl, zs, HO, HP, HG, hkt⟩ := hrel
        have hzl : zs.length = xs.length := HP.out.length_eq
        by_cases hlt : p < k'
        · obtain ⟨k, rfl⟩ : ∃ k, k' = k + 1 := ⟨k' - 1, by omega⟩
          have hnl : n = xs.length := HN.out
          obtain ⟨A0, c0, hc0, hr0, hf0⟩ := HO.out.ring_cell (k + 1) (by omega)
          obtain ⟨A1, c1, hc1, hr1, hf1⟩ := HO.out.ring_cell k (by omega)
          have R0 := Lib.hid hr0
          have R1 := Lib.hid hr1
          have hkl : k < zs.length := by omega
          have hkl1 : k + 1 < zs.length := by omega
          have hcx : (wr.drew.setCell ⟨g, k + 1, none⟩ (.slice A1 (rg zs k).length c1)).cell? ⟨g, k, none⟩ = some (.slice A1 (rg zs k).length c1) := by
            rw [World.cell?_setCell_other _ _ _ _ (by intro e; injection e with _ e; omega)]; exact hc1
          have ec : ((k + 1 : Nat) : Int) = (k : Int) + 1 := by omega
          rw [ec]
          have HEC := Lib.hid ec
          have qb0 : k < n := by omega
          have qb1 : k + 1 < n := by omega
          have q4 : decide ((p : Int) < (k : Int) + 1) = true := decide_eq_true (by omega)
          have qi0 : (0 : Int) ≤ (k : Int) + 1 := by omega
          have qi1 : (k : Int) + 1 < (n : Int) := by omega
          have qi2 : ((k : Int) + 1).toNat = k + 1 := by omega
          have qw : IntKind.i64.wrap (k : Int) = (k : Int) := IntWalk.i64_in _ (by omega)
          have qw' : wrap64 (k : Int) = (k : Int) := by unfold wrap64; omega
          clear hr0 hr1 hnl ec
          go_wp2_with fail
          refine start_ (n := 18) (S := fun w' => w'.cell? ⟨g, k, none⟩ = some (.slice A1 (rg zs k).length c1) ∧ w'.cell? ⟨g, k + 1, none⟩ = some (.slice A0 (rg zs (k + 1)).length c0)) (ds := [15, 17]) #[false, false, false, false, false, false, false, false, false, false, false, false, false, false, false, false, false, false] (by kernel_rfl) rfl rfl ⟨hc1, hc0⟩ (fun hHeld => ?_)
          refine pure_ (i := 0) (N := some 113) (v := ?_) (a' := ?_) #[true, false, false, false, false, false, false, false, false, false, false, false, false, false, false, false, false, false] rfl rfl (by kernel_rfl) (fun _ _ _ h => h) (Or.inl ⟨by rfl, ?_⟩) ?_ ?_
          rotate_left
          · intro w'
            go_simp
            with_reducible rfl
          rotate_left
          · simp only [Act.put, List.setIfInBounds_toArray, List.set_cons_zero, List.set_cons_succ, i64_w, i32_w]
            rfl
          refine pure_ (i := 1) (N := some 114) (v := ?_) (a' := ?_) #[true, true, false, false, false, false, false, false, false, false, false, false, false, false, false, false, false, false] rfl rfl (by kernel_rfl) (fun _ _ _ h => h) (Or.inl ⟨by rfl, ?_⟩) ?_ ?_
          rotate_left
          · intro w'
            go_simp
            with_reducible rfl
          rotate_left
          · simp only [Act.put, List.setIfInBounds_toArray, List.set_cons_zero, List.set_cons_succ, i64_w, i32_w]
            rfl
          refine pure_ (i := 2) (N := some 115) (v := ?_) (a' := ?_) #[true, true, true, false, false, false, false, false, false, false, false, false, false, false, false, false, false, false] rfl rfl (by kernel_rfl) (fun _ _ _ h => h) (Or.inl ⟨by rfl, ?_⟩) ?_ ?_
          rotate_left
          · intro w'
            go_simp
            with_reducible rfl
          rotate_left
          · simp only [Act.put, List.setIfInBounds_toArray, List.set_cons_zero, List.set_cons_succ, i64_w, i32_w]
            rfl
          refine pure_ (i := 3) (N := some 116) (v := ?_) (a' := ?_) #[true, true, true, true, false, false, false, false, false, false, false, false, false, false, false, false, false, false] rfl rfl (by kernel_rfl) (fun _ _ _ h => h) (Or.inl ⟨by rfl, ?_⟩) ?_ ?_
          rotate_left
          · intro w'
            go_simp
            with_reducible rfl
          rotate_left
          · simp only [Act.put, List.setIfInBounds_toArray, List.set_cons_zero, List.set_cons_succ, i64_w, i32_w]
            rfl
          refine pure_ (i := 4) (N := some 117) (v := ?_) (a' := ?_) #[true, true, true, true, true, false, false, false, false, false, false, false, false, false, false, false, false, false] rfl rfl (by kernel_rfl) (fun _ _ _ h => h) (Or.inl ⟨by rfl, ?_⟩) ?_ ?_
          rotate_left
          · intro w'
            go_simp
            with_reducible rfl
          rotate_left
          · simp only [Act.put, List.setIfInBounds_toArray, List.set_cons_zero, List.set_cons_succ, i64_w, i32_w]
            rfl
          refine pure_ (i := 5) (N := some 118) (v := ?_) (a' := ?_) #[true, true, true, true, true, true, false, false, false, false, false, false, false, false, false, false, false, false] rfl rfl (by kernel_rfl) (fun _ _ _ h => h) (Or.inl ⟨by rfl, ?_⟩) ?_ ?_
          rotate_left
          · intro w'
            go_simp
            with_reducible rfl
          rotate_left
          · simp only [Act.put, List.setIfInBounds_toArray, List.set_cons_zero, List.set_cons_succ, i64_w, i32_w]
            rfl
          refine pure_ (i := 6) (N := some 119) (v := ?_) (a' := ?_) #[true, true, true, true, true, true, true, false, false, false, false, false, false, false, false, false, false, false] rfl rfl (by kernel_rfl) (fun _ _ _ h => h) (Or.inl ⟨by rfl, ?_⟩) ?_ ?_
          rotate_left
          · intro w'
            go_simp
            with_reducible rfl
          rotate_left
          · simp only [Act.put, List.setIfInBounds_toArray, List.set_cons_zero, List.set_cons_succ, i64_w, i32_w]
            rfl
          refine pure_ (i := 7) (N := some 120) (v := ?_) (a' := ?_) #[true, true, true, true, true, true, true, true, false, false, false, false, false, false, false, false, false, false] rfl rfl (by kernel_rfl) (fun _ _ _ h => h) (Or.inl ⟨by rfl, ?_⟩) ?_ ?_
          rotate_left
          · intro w'
            go_simp
            with_reducible rfl
          rotate_left
          · simp only [Act.put, List.setIfInBounds_toArray, List.set_cons_zero, List.set_cons_succ, i64_w, i32_w]
            rfl
          refine pure_ (i := 8) (N := some 121) (v := ?_) (a' := ?_) #[true, true, true, true, true, true, true, true, true, false, false, false, false, false, false, false, false, false] rfl rfl (by kernel_rfl) (fun _ _ _ h => h) (Or.inl ⟨by rfl, ?_⟩) ?_ ?_
          rotate_left
          · intro w'
            go_simp
            with_reducible rfl
          rotate_left
          · simp only [Act.put, List.setIfInBounds_toArray, List.set_cons_zero, List.set_cons_succ, i64_w, i32_w]
            rfl
          refine pure_ (i := 10) (N := some 123) (v := ?_) (a' := ?_) #[true, true, true, true, true, true, true, true, true, false, true, false, false, false, false, false, false, false] rfl rfl (by kernel_rfl) (fun _ _ _ h => h) (Or.inl ⟨by rfl, ?_⟩) ?_ ?_
          rotate_left
          · intro w'
            go_simp
            with_reducible rfl
          rotate_left
          · simp only [Act.put, List.setIfInBounds_toArray, List.set_cons_zero, List.set_cons_succ, i64_w, i32_w]
            rfl
          refine pure_ (i := 11) (N := some 124) (v := ?_) (a' := ?_) #[true, true, true, true, true, true, true, true, true, false, true, true, false, false, false, false, false, false] rfl rfl (by kernel_rfl) (fun _ _ _ h => h) (Or.inl ⟨by rfl, ?_⟩) ?_ ?_
          rotate_left
          · intro w'
            go_simp
            with_reducible rfl
          rotate_left
          · simp only [Act.put, List.setIfInBounds_toArray, List.set_cons_zero, List.set_cons_succ, i64_w, i32_w]
            rfl
          refine pure_ (i := 12) (N := some 125) (v := ?_) (a' := ?_) #[true, true, true, true, true, true, true, true, true, false, true, true, true, false, false, false, false, false] rfl rfl (by kernel_rfl) (fun _ _ _ h => h) (Or.inl ⟨by rfl, ?_⟩) ?_ ?_
          rotate_left
          · intro w'
            go_simp
            with_reducible rfl
          rotate_left
          · simp only [Act.put, List.setIfInBounds_toArray, List.set_cons_zero, List.set_cons_succ, i64_w, i32_w]
            rfl
          refine take_ (i := 9) (N := some 122) (v := ?_) (a' := ?_) #[true, true, true, true, true, true, true, true, true, true, true, true, true, false, false, false, false, false] rfl rfl (by kernel_rfl) (fun _ _ _ h => h) (Or.inl ⟨by rfl, ?_⟩) hHeld ?_ ?_
          rotate_left
          · rintro w' ⟨s0, s1⟩
            go_simp
            with_reducible rfl
          rotate_left
          · simp only [Act.put, List.setIfInBounds_toArray, List.set_cons_zero, List.set_cons_succ, i64_w, i32_w]
            rfl
          refine take_ (i := 13) (N := some 126) (v := ?_) (a' := ?_) #[true, true, true, true, true, true, true, true, true, true, true, true, true, true, false, false, false, false] rfl rfl (by kernel_rfl) (fun _ _ _ h => h) (Or.inl ⟨by rfl, ?_⟩) hHeld ?_ ?_
          rotate_left
          · rintro w' ⟨s0, s1⟩
            go_simp
            with_reducible rfl
          rotate_left
          · simp only [Act.put, List.setIfInBounds_toArray, List.set_cons_zero, List.set_cons_succ, i64_w, i32_w]
            rfl
          refine pure_ (i := 14) (N := some 127) (v := ?_) (a' := ?_) #[true, true, true, true, true, true, true, true, true, true, true, true, true, true, true, false, false, false] rfl rfl (by kernel_rfl) (fun _ _ _ h => h) (Or.inl ⟨by rfl, ?_⟩) ?_ ?_
          rotate_left
          · intro w'
            go_simp
            with_reducible rfl
          rotate_left
          · simp only [Act.put, List.setIfInBounds_toArray, List.set_cons_zero, List.set_cons_succ, i64_w, i32_w]
            rfl
          refine last_ (i := 15) (N := none) #[true, true, true, true, true, true, true, true, true, true, true, true, true, true, true, true, false, false] rfl rfl (by kernel_rfl) (by decide) (fun K hK => ?_)
          refine skip_ (w1 := ?_) (by rfl) rfl ?_ ?_
          rotate_left
          · go_simp
            rfl
          refine hK.out _ _ ?_
          clear hK K
          refine pure_ (i := 16) (N := some 128) (v := ?_) (a' := ?_) #[true, true, true, true, true, true, true, true, true, true, true, true, true, true, true, true, true, false] rfl rfl (by kernel_rfl) (fun _ _ _ h => h) (Or.inl ⟨by rfl, ?_⟩) ?_ ?_
          rotate_left
          · intro w'
            go_simp
            with_reducible rfl
          rotate_left
          · simp only [Act.put, List.setIfInBounds_toArray, List.set_cons_zero, List.set_cons_succ, i64_w, i32_w]
            rfl
          refine last_ (i := 17) (N := none) #[true, true, true, true, true, true, true, true, true, true, true, true, true, true, true, true, true, true] rfl rfl (by kernel_rfl) (by decide) (fun K hK => ?_)
          refine skip_ (w1 := ?_) (by rfl) rfl ?_ ?_
          rotate_left
          · go_simp
            rfl
          refine hK.out _ _ ?_
          clear hK K
          refine done_ (by kernel_rfl) ?_
          have hMg : M g := HO.out.1 g rfl
          have hO2 := HO.out.drew.store1 rfl (k + 1) (Ty.ring.below R1.out (below_drew (Below.refl _ _)))
          have S0 := Ty.ring.step R0.out (w' := wr.drew.setCell ⟨g, k + 1, none⟩ (.slice A1 (rg zs k).length c1)) (fun j hj _ => Below.heap_setCell wr.drew _ _ j (fun e => hj (by rw [e]; exact hMg)))
          have HO3 := Lib.hid (hO2.store1 rfl k S0)
          clear hO2 S0 hcx hc0 hc1 hf0 hf1 qw' qi0 qi1 qi2
          go_wp2
          go_roundw
          case rel => exact ⟨k, by omega, by omega, by go_num, swp zs (k + 1) k [], HO3.out, (swp_perm hkl1 hkl).trans HP.out, fun x => rho_down (by omega) (by omega) HG.out x, kept_set (S := fun k => k = g) (a := ⟨g, k, none⟩) rfl (kept_set (S := fun k => k = g) (a := ⟨g, k + 1, none⟩) rfl (kept_drew hkt))⟩
          case measure => simp [intOf] <;> omega
        · obtain rfl : k' = p := by omega
          have q4 : decide ((k' : Int) < (k' : Int)) = false := by simp
          go_wp2
          have hm : Merges xs zs a b := by rw [HMB.out]; exact merges_right H2.out (by omega) (by omega) HL.out HR.out HP.out HG.out
          exact bodyPost_ret (v := .tuple #[]) (results_none rfl _ _ _) rfl ⟨rfl, zs, HO.out, hm, hkt⟩
end Go.Proofs.Ytaphjehkpdjolaa
