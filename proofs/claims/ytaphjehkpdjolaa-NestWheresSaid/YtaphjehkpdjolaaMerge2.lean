/- Contract of slices.symMergeCmpFunc over rings, compared as nest.Rings does. -/
import Derived.Test.YtaphjehkpdjolaaMerge1
namespace Go.Proofs.Ytaphjehkpdjolaa
open Go.RowKit Go.Proofs.YtaphjehkpdjolaaW.PrintLast
set_option linter.unusedVariables false
set_option linter.unusedSimpArgs false

theorem rho_up {xs zs : List Pts} {a k : Nat} (hk : a ≤ k) (hl : k + 1 < zs.length) (h : ∀ x, rg zs x = rg xs (rho a (a + 1) (k + 1) x)) (x : Nat) : rg (swp zs k (k + 1) []) x = rg xs (rho a (a + 1) (k + 1 + 1) x) := by
  show (swp zs k (k + 1) []).getD x [] = _
  rw [swp_get (by omega) (by omega)]
  have e : ∀ q, zs.getD q [] = rg zs q := fun q => rfl
  rw [e, e, e, h, h, h]
  split
  · congr 1; unfold rho; repeat' split
    all_goals omega
  · split
    · congr 1; unfold rho; repeat' split
      all_goals omega
    · congr 1; unfold rho; repeat' split
      all_goals omega
theorem rho_down {xs zs : List Pts} {k m : Nat} (hk : k + 1 ≤ m) (hl : k + 1 < zs.length) (h : ∀ x, rg zs x = rg xs (rho (k + 1) m (m + 1) x)) (x : Nat) : rg (swp zs (k + 1) k []) x = rg xs (rho k m (m + 1) x) := by
  show (swp zs (k + 1) k []).getD x [] = _
  rw [swp_get (by omega) (by omega)]
  have e : ∀ q, zs.getD q [] = rg zs q := fun q => rfl
  rw [e, e, e, h, h, h]
  split
  · congr 1; unfold rho; repeat' split
    all_goals omega
  · split
    · congr 1; unfold rho; repeat' split
      all_goals omega
    · congr 1; unfold rho; repeat' split
      all_goals omega
theorem cmp_lt {a b : Pts} (h : lessR a b = true) : decide (cmpR a b < 0) = true := by unfold cmpR; rw [h]; rfl
theorem cmp_ge {a b : Pts} (h : lessR a b = false) : decide (cmpR a b < 0) = false := by unfold cmpR; rw [h]; cases lessR b a <;> rfl

set_option maxRecDepth 20000 in
set_option maxHeartbeats 4000000 in
theorem symMerge_left (xs : Rings) (g n cap a m b base : Nat) (M : Nat → Prop) (w : World) (ai mi bi : Int) (hai : ai = (a : Int)) (hmi : mi = (m : Int)) (hbi : bi = (b : Int)) (h : OwnR Ty.ring 32 base M w (.slice (some ⟨g, 0, none⟩) n cap) xs)
    (hma : m = a + 1) (hmb : m < b) (hb : b ≤ xs.length) (hlen : xs.length ≤ 1048576) (h2 : SortedOn xs m b) :
    Calls Try.prog 60 #[.slice (some ⟨g, 0, none⟩) n cap, .int .i64 ai, .int .i64 mi, .int .i64 bi, .func (.func 34) #[] #[]] w fun e w' =>
      e = .returned (.tuple #[]) ∧ ∃ ys : Rings, OwnR Ty.ring 32 base M w' (.slice (some ⟨g, 0, none⟩) n cap) ys ∧ Merges xs ys a b ∧ KeptS (fun k => k = g) w w' := by
  subst hai hmi hbi
  have HN := Lib.hid h.lenN
  have q1 : IntKind.i64.wrap ((m : Int) - (a : Int)) = 1 := by rw [IntWalk.i64_in _ (by omega)]; omega
  have q2 : ((m : Int) - (a : Int) == 1) = true := by simp; omega
  have HH := Lib.hid h
  have H2 := Lib.hid h2
  have HMA := Lib.hid hma
  have hm1 : m ≤ a + 1 := by omega
  have hm2 : a < m := by omega
  clear h h2 hma
  go_enter Try.func60, Try.ntmps60
  go_wp2
  go_loopw [10, 11] (fun i j wr => ∃ p q : Nat, m ≤ p ∧ p ≤ q ∧ q ≤ b ∧ i = .int .i64 p ∧ j = .int .i64 q ∧ Below w.heap.size w wr ∧ Hid (p = m ∨ leR (rg xs (p - 1)) (rg xs a)) ∧ Hid (q = b ∨ leR (rg xs a) (rg xs q))) (fun i j _ => (intOf j).toNat - (intOf i).toNat)
  case atStart => exact ⟨m, b, Nat.le_refl _, by omega, Nat.le_refl _, rfl, rfl, Below.refl _ _, .inl rfl, .inl rfl⟩
  case round =>
    obtain ⟨p, q, hp1, hpq, hqb, rfl, rfl, hb0, HL, HR⟩ := hrel
    by_cases hlt : p < q
    · have q3 : decide ((p : Int) < (q : Int)) = true := decide_eq_true (by omega)
      obtain ⟨t, ht⟩ : ∃ t, t = (p + q) / 2 := ⟨_, rfl⟩
      have et : ((p : Int) + (q : Int)) / 2 = (t : Int) := by omega
      have ht1 : p ≤ t := by omega
      have ht2 : t < q := by omega
      have HO1 := Lib.hid (HH.out.below hb0)
      have hnl : n = xs.length := HN.out
      have htn : t < n := by omega
      have han : a < n := by omega
      obtain ⟨A0, c0, hc0, hr0, _⟩ := HO1.out.ring_cell t (by omega)
      obtain ⟨A1, c1, hc1, hr1, _⟩ := HO1.out.ring_cell a (by omega)
      have R0 := Lib.hid (ringR_row hr0).2
      have R1 := Lib.hid (ringR_row hr1).2
      clear hr0 hr1 ht hnl
      have qb0 : (0 : Int) ≤ (t : Int) := by omega
      have qb1 : (t : Int) < (n : Int) := by omega
      have qn : ((t : Int)).toNat = t := by omega
      go_wp2_with fail
      try rw [et]
      clear et
      go_still_tail 9, (by kernel_rfl)
      change wpList _ _ _ _ _ wr.drew
      go_wp2_with fail
      refine (nestRings1 (rg xs t) (rg xs a) _ _ _ _ _ _ _ (R0.out.below (below_drew (Below.refl _ _))) (R1.out.below (below_drew (Below.refl _ _))) rfl rfl).mono ?_
      rintro e w2 ⟨rfl, hb2⟩
      cases hcmp : lessR (rg xs t) (rg xs a)
      · have HC := Lib.hid hcmp
        have qc := cmp_ge hcmp
        clear hcmp
        go_wp2
        go_roundw
        case rel => exact ⟨p, t, hp1, ht1, by omega, rfl, rfl, (by repeat (first | exact Below.refl _ _ | apply below_alloc | apply below_drewN | apply below_drew | (refine below_set2 ?_ ?_; (first | (simp; done) | (simp; omega))) | (refine below_step ?_ hb2) | (refine below_step ?_ hb0))), HL, .inr HC.out⟩
        case measure => simp [intOf]; omega
      · have HC := Lib.hid hcmp
        have qc := cmp_lt hcmp
        clear hcmp
        go_wp2
        go_roundw
        case rel => exact ⟨t + 1, q, by omega, by omega, hqb, by go_num, rfl, (by repeat (first | exact Below.refl _ _ | apply below_alloc | apply below_drewN | apply below_drew | (refine below_set2 ?_ ?_; (first | (simp; done) | (simp; omega))) | (refine below_step ?_ hb2) | (refine below_step ?_ hb0))), .inr (by rw [Nat.add_sub_cancel]; exact leR_of_less HC.out), HR⟩
        case measure => simp [intOf]; omega
    · obtain rfl : p = q := by omega
      have q3 : decide ((p : Int) < (p : Int)) = false := by simp
      have HO1 := Lib.hid (HH.out.below hb0)
      go_wp2_with fail
      obtain ⟨wo, rfl⟩ : ∃ wo : World, wo = wr := ⟨_, rfl⟩
      go_loopw [13] (fun kv wr => ∃ k : Nat, a ≤ k ∧ k < p ∧ kv = .int .i64 k ∧ ∃ zs : Rings, Hid (OwnR Ty.ring 32 base M wr (.slice (some ⟨g, 0, none⟩) n cap) zs) ∧ Hid (zs.Perm xs) ∧ Hid (∀ x, rg zs x = rg xs (rho a (a + 1) (k + 1) x)) ∧ KeptS (fun k => k = g) w wr) (fun kv _ => p - (intOf kv).toNat)
      case atStart => exact ⟨a, Nat.le_refl _, by omega, rfl, xs, HO1.out, List.Perm.refl _, fun x => by rw [rho_id (.inr rfl)], kept_of_below hb0⟩
      case round =>
        obtain ⟨k, hak, hkp, rfl, zs, HO, HP, HG, hkt⟩ := hrel
        have hzl : zs.length = xs.length := HP.out.length_eq
        by_cases hlt : k + 1 < p
        · have hnl : n = xs.length := HN.out
          have q4 : decide ((k : Int) < (p : Int) - 1) = true := decide_eq_true (by omega)
          have qw : IntKind.i64.wrap ((k : Int) + 1) = (k : Int) + 1 := IntWalk.i64_in _ (by omega)
          have qi0 : (0 : Int) ≤ (k : Int) + 1 := by omega
          have qi1 : (k : Int) + 1 < (n : Int) := by omega
          have qi2 : ((k : Int) + 1).toNat = k + 1 := by omega
          have qb0 : k < n := by omega
          have qb1 : k + 1 < n := by omega
          obtain ⟨A0, c0, hc0, hr0, hf0⟩ := HO.out.ring_cell k (by omega)
          obtain ⟨A1, c1, hc1, hr1, hf1⟩ := HO.out.ring_cell (k + 1) (by omega)
          have R0 := Lib.hid hr0
          have R1 := Lib.hid hr1
          have hkl : k < zs.length := by omega
          have hkl1 : k + 1 < zs.length := by omega
          have hcx : (wr.drew.setCell ⟨g, k, none⟩ (.slice A1 (rg zs (k + 1)).length c1)).cell? ⟨g, k + 1, none⟩ = some (.slice A1 (rg zs (k + 1)).length c1) := by
            rw [World.cell?_setCell_other _ _ _ _ (by intro e; injection e with _ e; omega)]; exact hc1
          clear hr0 hr1 hnl
          go_wp2_with fail
          have qw' : wrap64 ((k : Int) + 1) = (k : Int) + 1 := by unfold wrap64; omega
          refine start_ (n := 18) (S := fun w' => w'.cell? ⟨g, k + 1, none⟩ = some (.slice A1 (rg zs (k + 1)).length c1) ∧ w'.cell? ⟨g, k, none⟩ = some (.slice A0 (rg zs k).length c0)) (ds := [15, 17]) #[false, false, false, false, false, false, false, false, false, false, false, false, false, false, false, false, false, false] (by kernel_rfl) rfl rfl ⟨hc1, hc0⟩ (fun hHeld => ?_)
          refine pure_ (i := 0) (N := some 61) (v := ?_) (a' := ?_) #[true, false, false, false, false, false, false, false, false, false, false, false, false, false, false, false, false, false] rfl rfl (by kernel_rfl) (fun _ _ _ h => h) (Or.inl ⟨by rfl, ?_⟩) ?_ ?_
          rotate_left
          · intro w'
            go_simp
            with_reducible rfl
          rotate_left
          · simp only [Act.put, List.setIfInBounds_toArray, List.set_cons_zero, List.set_cons_succ, i64_w, i32_w]
            rfl
          refine pure_ (i := 1) (N := some 62) (v := ?_) (a' := ?_) #[true, true, false, false, false, false, false, false, false, false, false, false, false, false, false, false, false, false] rfl rfl (by kernel_rfl) (fun _ _ _ h => h) (Or.inl ⟨by rfl, ?_⟩) ?_ ?_
          rotate_left
          · intro w'
            go_simp
            with_reducible rfl
          rotate_left
          · simp only [Act.put, List.setIfInBounds_toArray, List.set_cons_zero, List.set_cons_succ, i64_w, i32_w]
            rfl
          refine pure_ (i := 2) (N := some 63) (v := ?_) (a' := ?_) #[true, true, true, false, false, false, false, false, false, false, false, false, false, false, false, false, false, false] rfl rfl (by kernel_rfl) (fun _ _ _ h => h) (Or.inl ⟨by rfl, ?_⟩) ?_ ?_
          rotate_left
          · intro w'
            go_simp
            with_reducible rfl
          rotate_left
          · simp only [Act.put, List.setIfInBounds_toArray, List.set_cons_zero, List.set_cons_succ, i64_w, i32_w]
            rfl
          refine pure_ (i := 3) (N := some 64) (v := ?_) (a' := ?_) #[true, true, true, true, false, false, false, false, false, false, false, false, false, false, false, false, false, false] rfl rfl (by kernel_rfl) (fun _ _ _ h => h) (Or.inl ⟨by rfl, ?_⟩) ?_ ?_
          rotate_left
          · intro w'
            go_simp
            with_reducible rfl
          rotate_left
          · simp only [Act.put, List.setIfInBounds_toArray, List.set_cons_zero, List.set_cons_succ, i64_w, i32_w]
            rfl
          refine pure_ (i := 4) (N := some 65) (v := ?_) (a' := ?_) #[true, true, true, true, true, false, false, false, false, false, false, false, false, false, false, false, false, false] rfl rfl (by kernel_rfl) (fun _ _ _ h => h) (Or.inl ⟨by rfl, ?_⟩) ?_ ?_
          rotate_left
          · intro w'
            go_simp
            with_reducible rfl
          rotate_left
          · simp only [Act.put, List.setIfInBounds_toArray, List.set_cons_zero, List.set_cons_succ, i64_w, i32_w]
            rfl
          refine pure_ (i := 5) (N := some 66) (v := ?_) (a' := ?_) #[true, true, true, true, true, true, false, false, false, false, false, false, false, false, false, false, false, false] rfl rfl (by kernel_rfl) (fun _ _ _ h => h) (Or.inl ⟨by rfl, ?_⟩) ?_ ?_
          rotate_left
          · intro w'
            go_simp
            with_reducible rfl
          rotate_left
          · simp only [Act.put, List.setIfInBounds_toArray, List.set_cons_zero, List.set_cons_succ, i64_w, i32_w]
            rfl
          refine pure_ (i := 6) (N := some 67) (v := ?_) (a' := ?_) #[true, true, true, true, true, true, true, false, false, false, false, false, false, false, false, false, false, false] rfl rfl (by kernel_rfl) (fun _ _ _ h => h) (Or.inl ⟨by rfl, ?_⟩) ?_ ?_
          rotate_left
          · intro w'
            go_simp
            with_reducible rfl
          rotate_left
          · simp only [Act.put, List.setIfInBounds_toArray, List.set_cons_zero, List.set_cons_succ, i64_w, i32_w]
            rfl
          refine pure_ (i := 7) (N := some 68) (v := ?_) (a' := ?_) #[true, true, true, true, true, true, true, true, false, false, false, false, false, false, false, false, false, false] rfl rfl (by kernel_rfl) (fun _ _ _ h => h) (Or.inl ⟨by rfl, ?_⟩) ?_ ?_
          rotate_left
          · intro w'
            go_simp
            with_reducible rfl
          rotate_left
          · simp only [Act.put, List.setIfInBounds_toArray, List.set_cons_zero, List.set_cons_succ, i64_w, i32_w]
            rfl
          refine pure_ (i := 8) (N := some 69) (v := ?_) (a' := ?_) #[true, true, true, true, true, true, true, true, true, false, false, false, false, false, false, false, false, false] rfl rfl (by kernel_rfl) (fun _ _ _ h => h) (Or.inl ⟨by rfl, ?_⟩) ?_ ?_
          rotate_left
          · intro w'
            go_simp
            with_reducible rfl
          rotate_left
          · simp only [Act.put, List.setIfInBounds_toArray, List.set_cons_zero, List.set_cons_succ, i64_w, i32_w]
            rfl
          refine pure_ (i := 10) (N := some 71) (v := ?_) (a' := ?_) #[true, true, true, true, true, true, true, true, true, false, true, false, false, false, false, false, false, false] rfl rfl (by kernel_rfl) (fun _ _ _ h => h) (Or.inl ⟨by rfl, ?_⟩) ?_ ?_
          rotate_left
          · intro w'
            go_simp
            with_reducible rfl
          rotate_left
          · simp only [Act.put, List.setIfInBounds_toArray, List.set_cons_zero, List.set_cons_succ, i64_w, i32_w]
            rfl
          refine pure_ (i := 11) (N := some 72) (v := ?_) (a' := ?_) #[true, true, true, true, true, true, true, true, true, false, true, true, false, false, false, false, false, false] rfl rfl (by kernel_rfl) (fun _ _ _ h => h) (Or.inl ⟨by rfl, ?_⟩) ?_ ?_
          rotate_left
          · intro w'
            go_simp
            with_reducible rfl
          rotate_left
          · simp only [Act.put, List.setIfInBounds_toArray, List.set_cons_zero, List.set_cons_succ, i64_w, i32_w]
            rfl
          refine pure_ (i := 12) (N := some 73) (v := ?_) (a' := ?_) #[true, true, true, true, true, true, true, true, true, false, true, true, true, false, false, false, false, false] rfl rfl (by kernel_rfl) (fun _ _ _ h => h) (Or.inl ⟨by rfl, ?_⟩) ?_ ?_
          rotate_left
          · intro w'
            go_simp
            with_reducible rfl
          rotate_left
          · simp only [Act.put, List.setIfInBounds_toArray, List.set_cons_zero, List.set_cons_succ, i64_w, i32_w]
            rfl
          refine take_ (i := 9) (N := some 70) (v := ?_) (a' := ?_) #[true, true, true, true, true, true, true, true, true, true, true, true, true, false, false, false, false, false] rfl rfl (by kernel_rfl) (fun _ _ _ h => h) (Or.inl ⟨by rfl, ?_⟩) hHeld ?_ ?_
          rotate_left
          · rintro w' ⟨s0, s1⟩
            go_simp
            with_reducible rfl
          rotate_left
          · simp only [Act.put, List.setIfInBounds_toArray, List.set_cons_zero, List.set_cons_succ, i64_w, i32_w]
            rfl
          refine take_ (i := 13) (N := some 74) (v := ?_) (a' := ?_) #[true, true, true, true, true, true, true, true, true, true, true, true, true, true, false, false, false, false] rfl rfl (by kernel_rfl) (fun _ _ _ h => h) (Or.inl ⟨by rfl, ?_⟩) hHeld ?_ ?_
          rotate_left
          · rintro w' ⟨s0, s1⟩
            go_simp
            with_reducible rfl
          rotate_left
          · simp only [Act.put, List.setIfInBounds_toArray, List.set_cons_zero, List.set_cons_succ, i64_w, i32_w]
            rfl
          refine pure_ (i := 14) (N := some 75) (v := ?_) (a' := ?_) #[true, true, true, true, true, true, true, true, true, true, true, true, true, true, true, false, false, false] rfl rfl (by kernel_rfl) (fun _ _ _ h => h) (Or.inl ⟨by rfl, ?_⟩) ?_ ?_
          rotate_left
          · intro w'
            go_simp
            with_reducible rfl
          rotate_left
          · simp only [Act.put, List.setIfInBounds_toArray, List.set_cons_zero, List.set_cons_succ, i64_w, i32_w]
            rfl
          refine last_ (i := 15) (N := none) #[true, true, true, true, true, true, true, true, true, true, true, true, true, true, true, true, false, false] rfl rfl (by kernel_rfl) (by decide) (fun K hK => ?_)
          refine skip_ (w1 := ?_) (by rfl) rfl ?_ ?_
          rotate_left
          · go_simp
            rfl
          refine hK.out _ _ ?_
          clear hK K
          refine pure_ (i := 16) (N := some 76) (v := ?_) (a' := ?_) #[true, true, true, true, true, true, true, true, true, true, true, true, true, true, true, true, true, false] rfl rfl (by kernel_rfl) (fun _ _ _ h => h) (Or.inl ⟨by rfl, ?_⟩) ?_ ?_
          rotate_left
          · intro w'
            go_simp
            with_reducible rfl
          rotate_left
          · simp only [Act.put, List.setIfInBounds_toArray, List.set_cons_zero, List.set_cons_succ, i64_w, i32_w]
            rfl
          refine last_ (i := 17) (N := none) #[true, true, true, true, true, true, true, true, true, true, true, true, true, true, true, true, true, true] rfl rfl (by kernel_rfl) (by decide) (fun K hK => ?_)
          refine skip_ (w1 := ?_) (by rfl) rfl ?_ ?_
          rotate_left
          · go_simp
            rfl
          refine hK.out _ _ ?_
          clear hK K
          refine done_ (by kernel_rfl) ?_
          have hMg : M g := HO.out.1 g rfl
          have hO2 := HO.out.drew.store1 rfl k (Ty.ring.below R1.out (below_drew (Below.refl _ _)))
          have S0 := Ty.ring.step R0.out (w' := wr.drew.setCell ⟨g, k, none⟩ (.slice A1 (rg zs (k + 1)).length c1)) (fun j hj _ => Below.heap_setCell wr.drew _ _ j (fun e => hj (by rw [e]; exact hMg)))
          have HO3 := Lib.hid (hO2.store1 rfl (k + 1) S0)
          clear hO2 S0 hcx hc0 hc1 hf0 hf1 qw qw' qi0 qi1 qi2
          go_wp2
          go_roundw
          case rel => exact ⟨k + 1, by omega, hlt, by go_num, swp zs k (k + 1) [], HO3.out, (swp_perm hkl hkl1).trans HP.out, fun x => rho_up hak (by omega) HG.out x, kept_set (S := fun k => k = g) (a := ⟨g, k + 1, none⟩) rfl (kept_set (S := fun k => k = g) (a := ⟨g, k, none⟩) rfl (kept_drew hkt))⟩
          case measure => simp [intOf]; omega
        · have q4 : decide ((k : Int) < (p : Int) - 1) = false := decide_eq_false (by omega)
          go_wp2
          obtain rfl : p = k + 1 := by omega
          have hm : Merges xs zs a b := merges_left (by have := H2.out; rwa [HMA.out] at this) (by omega) (by omega) (by rcases HL.out with h | h; exact .inl (by omega); exact .inr h) HR.out HP.out HG.out
          exact bodyPost_ret (v := .tuple #[]) (results_none rfl _ _ _) rfl ⟨rfl, zs, HO.out, hm, hkt⟩
end Go.Proofs.Ytaphjehkpdjolaa
