/- Contracts of slices.swapRangeCmpFunc and slices.rotateCmpFunc over rings. -/
import Derived.Test.YtaphjehkpdjolaaSort2
import Derived.Test.YtaphjehkpdjolaaMergeP
namespace Go.Proofs.Ytaphjehkpdjolaa
open Go.RowKit Go.Proofs.YtaphjehkpdjolaaW.PrintLast
set_option linter.unusedVariables false
set_option linter.unusedSimpArgs false

set_option maxHeartbeats 1000000 in
theorem swapRange_rings (xs : Rings) (g n cap a b c base : Nat) (M : Nat → Prop) (w : World) (ai bi ci : Int) (hai : ai = (a : Int)) (hbi : bi = (b : Int)) (hci : ci = (c : Int)) (cmp : Value)
    (h : OwnR Ty.ring 32 base M w (.slice (some ⟨g, 0, none⟩) n cap) xs) (hab : a + c ≤ b) (hb : b + c ≤ xs.length) (hlen : xs.length ≤ 1048576) :
    Calls Try.prog 62 #[.slice (some ⟨g, 0, none⟩) n cap, .int .i64 ai, .int .i64 bi, .int .i64 ci, cmp] w fun e w' =>
      e = .returned (.tuple #[]) ∧ ∃ ys : Rings, OwnR Ty.ring 32 base M w' (.slice (some ⟨g, 0, none⟩) n cap) ys ∧ ys.Perm xs ∧ (∀ k, rg ys k = rg xs (sig a b c k)) ∧ KeptS (fun k => k = g) w w' := by
  subst hai hbi hci
  have HN := Lib.hid h.lenN
  go_enter Try.func62, Try.ntmps62
  go_wp2
  go_loopw [10] (fun i wr => ∃ k : Nat, k ≤ c ∧ i = .int .i64 k ∧ ∃ zs : Rings, Hid (OwnR Ty.ring 32 base M wr (.slice (some ⟨g, 0, none⟩) n cap) zs) ∧ Hid (zs.Perm xs) ∧ Hid (∀ q, rg zs q = rg xs (sig a b k q)) ∧ KeptS (fun k => k = g) w wr) (fun i _ => c - (intOf i).toNat)
  case atStart => exact ⟨0, Nat.zero_le _, rfl, xs, h, List.Perm.refl _, fun q => by rw [sig_zero], kept_refl _ _⟩
  case round =>
    obtain ⟨k, hk, rfl, zs, HO, HP, HG, hkt⟩ := hrel
    have hzl : zs.length = xs.length := HP.out.length_eq
    by_cases hlt : k < c
    · have hnl : n = xs.length := HN.out
      obtain ⟨p, hp⟩ : ∃ p, p = a + k := ⟨_, rfl⟩
      obtain ⟨q, hq⟩ : ∃ q, q = b + k := ⟨_, rfl⟩
      obtain ⟨A0, c0, hc0, hr0, hf0⟩ := HO.out.ring_cell p (by omega)
      obtain ⟨A1, c1, hc1, hr1, hf1⟩ := HO.out.ring_cell q (by omega)
      have R0 := Lib.hid hr0
      have R1 := Lib.hid hr1
      have qw0 : IntKind.i64.wrap ((a : Int) + (k : Int)) = (p : Int) := by rw [IntWalk.i64_in _ (by omega)]; omega
      have qw1 : IntKind.i64.wrap ((b : Int) + (k : Int)) = (q : Int) := by rw [IntWalk.i64_in _ (by omega)]; omega
      have qb0 : p < n := by omega
      have qb1 : q < n := by omega
      have hpl : p < zs.length := by omega
      have hql : q < zs.length := by omega
      have hne : q ≠ p := by omega
      have HPQ := Lib.hid (And.intro hp hq)
      have hcx : (wr.drew.setCell ⟨g, p, none⟩ (.slice A1 (rg zs q).length c1)).cell? ⟨g, q, none⟩ = some (.slice A1 (rg zs q).length c1) := by
        rw [World.cell?_setCell_other _ _ _ _ (by intro e; injection e with _ e; exact hne e.symm)]; exact hc1
      clear hr0 hr1 hp hq hnl
      go_wp2_with fail
      refine start_ (n := 24) (S := fun w' => w'.cell? ⟨g, q, none⟩ = some (.slice A1 (rg zs q).length c1) ∧ w'.cell? ⟨g, p, none⟩ = some (.slice A0 (rg zs p).length c0)) (ds := [21, 23]) #[false, false, false, false, false, false, false, false, false, false, false, false, false, false, false, false, false, false, false, false, false, false, false, false] (by kernel_rfl) rfl rfl ⟨hc1, hc0⟩ (fun hHeld => ?_)
      refine pure_ (i := 0) (N := some 16) (v := ?_) (a' := ?_) #[true, false, false, false, false, false, false, false, false, false, false, false, false, false, false, false, false, false, false, false, false, false, false, false] rfl rfl (by kernel_rfl) (fun _ _ _ h => h) (Or.inl ⟨by rfl, ?_⟩) ?_ ?_
      rotate_left
      · intro w'
        go_simp
        with_reducible rfl
      rotate_left
      · simp only [Act.put, List.setIfInBounds_toArray, List.set_cons_zero, List.set_cons_succ, i64_w, i32_w]
        rfl
      refine pure_ (i := 1) (N := some 17) (v := ?_) (a' := ?_) #[true, true, false, false, false, false, false, false, false, false, false, false, false, false, false, false, false, false, false, false, false, false, false, false] rfl rfl (by kernel_rfl) (fun _ _ _ h => h) (Or.inl ⟨by rfl, ?_⟩) ?_ ?_
      rotate_left
      · intro w'
        go_simp
        with_reducible rfl
      rotate_left
      · simp only [Act.put, List.setIfInBounds_toArray, List.set_cons_zero, List.set_cons_succ, i64_w, i32_w]
        rfl
      refine pure_ (i := 2) (N := some 18) (v := ?_) (a' := ?_) #[true, true, true, false, false, false, false, false, false, false, false, false, false, false, false, false, false, false, false, false, false, false, false, false] rfl rfl (by kernel_rfl) (fun _ _ _ h => h) (Or.inl ⟨by rfl, ?_⟩) ?_ ?_
      rotate_left
      · intro w'
        go_simp
        with_reducible rfl
      rotate_left
      · simp only [Act.put, List.setIfInBounds_toArray, List.set_cons_zero, List.set_cons_succ, i64_w, i32_w]
        rfl
      refine pure_ (i := 3) (N := some 19) (v := ?_) (a' := ?_) #[true, true, true, true, false, false, false, false, false, false, false, false, false, false, false, false, false, false, false, false, false, false, false, false] rfl rfl (by kernel_rfl) (fun _ _ _ h => h) (Or.inl ⟨by rfl, ?_⟩) ?_ ?_
      rotate_left
      · intro w'
        go_simp
        with_reducible rfl
      rotate_left
      · simp only [Act.put, List.setIfInBounds_toArray, List.set_cons_zero, List.set_cons_succ, i64_w, i32_w]
        rfl
      refine pure_ (i := 4) (N := some 20) (v := ?_) (a' := ?_) #[true, true, true, true, true, false, false, false, false, false, false, false, false, false, false, false, false, false, false, false, false, false, false, false] rfl rfl (by kernel_rfl) (fun _ _ _ h => h) (Or.inl ⟨by rfl, ?_⟩) ?_ ?_
      rotate_left
      · intro w'
        go_simp
        with_reducible rfl
      rotate_left
      · simp only [Act.put, List.setIfInBounds_toArray, List.set_cons_zero, List.set_cons_succ, i64_w, i32_w]
        rfl
      refine pure_ (i := 5) (N := some 21) (v := ?_) (a' := ?_) #[true, true, true, true, true, true, false, false, false, false, false, false, false, false, false, false, false, false, false, false, false, false, false, false] rfl rfl (by kernel_rfl) (fun _ _ _ h => h) (Or.inl ⟨by rfl, ?_⟩) ?_ ?_
      rotate_left
      · intro w'
        go_simp
        with_reducible rfl
      rotate_left
      · simp only [Act.put, List.setIfInBounds_toArray, List.set_cons_zero, List.set_cons_succ, i64_w, i32_w]
        rfl
      refine pure_ (i := 6) (N := some 22) (v := ?_) (a' := ?_) #[true, true, true, true, true, true, true, false, false, false, false, false, false, false, false, false, false, false, false, false, false, false, false, false] rfl rfl (by kernel_rfl) (fun _ _ _ h => h) (Or.inl ⟨by rfl, ?_⟩) ?_ ?_
      rotate_left
      · intro w'
        go_simp
        with_reducible rfl
      rotate_left
      · simp only [Act.put, List.setIfInBounds_toArray, List.set_cons_zero, List.set_cons_succ, i64_w, i32_w]
        rfl
      refine pure_ (i := 7) (N := some 23) (v := ?_) (a' := ?_) #[true, true, true, true, true, true, true, true, false, false, false, false, false, false, false, false, false, false, false, false, false, false, false, false] rfl rfl (by kernel_rfl) (fun _ _ _ h => h) (Or.inl ⟨by rfl, ?_⟩) ?_ ?_
      rotate_left
      · intro w'
        go_simp
        with_reducible rfl
      rotate_left
      · simp only [Act.put, List.setIfInBounds_toArray, List.set_cons_zero, List.set_cons_succ, i64_w, i32_w]
        rfl
      refine pure_ (i := 8) (N := some 24) (v := ?_) (a' := ?_) #[true, true, true, true, true, true, true, true, true, false, false, false, false, false, false, false, false, false, false, false, false, false, false, false] rfl rfl (by kernel_rfl) (fun _ _ _ h => h) (Or.inl ⟨by rfl, ?_⟩) ?_ ?_
      rotate_left
      · intro w'
        go_simp
        with_reducible rfl
      rotate_left
      · simp only [Act.put, List.setIfInBounds_toArray, List.set_cons_zero, List.set_cons_succ, i64_w, i32_w]
        rfl
      refine pure_ (i := 9) (N := some 25) (v := ?_) (a' := ?_) #[true, true, true, true, true, true, true, true, true, true, false, false, false, false, false, false, false, false, false, false, false, false, false, false] rfl rfl (by kernel_rfl) (fun _ _ _ h => h) (Or.inl ⟨by rfl, ?_⟩) ?_ ?_
      rotate_left
      · intro w'
        go_simp
        with_reducible rfl
      rotate_left
      · simp only [Act.put, List.setIfInBounds_toArray, List.set_cons_zero, List.set_cons_succ, i64_w, i32_w]
        rfl
      refine pure_ (i := 10) (N := some 26) (v := ?_) (a' := ?_) #[true, true, true, true, true, true, true, true, true, true, true, false, false, false, false, false, false, false, false, false, false, false, false, false] rfl rfl (by kernel_rfl) (fun _ _ _ h => h) (Or.inl ⟨by rfl, ?_⟩) ?_ ?_
      rotate_left
      · intro w'
        go_simp
        with_reducible rfl
      rotate_left
      · simp only [Act.put, List.setIfInBounds_toArray, List.set_cons_zero, List.set_cons_succ, i64_w, i32_w]
        rfl
      refine pure_ (i := 11) (N := some 27) (v := ?_) (a' := ?_) #[true, true, true, true, true, true, true, true, true, true, true, true, false, false, false, false, false, false, false, false, false, false, false, false] rfl rfl (by kernel_rfl) (fun _ _ _ h => h) (Or.inl ⟨by rfl, ?_⟩) ?_ ?_
      rotate_left
      · intro w'
        go_simp
        with_reducible rfl
      rotate_left
      · simp only [Act.put, List.setIfInBounds_toArray, List.set_cons_zero, List.set_cons_succ, i64_w, i32_w]
        rfl
      refine pure_ (i := 12) (N := some 28) (v := ?_) (a' := ?_) #[true, true, true, true, true, true, true, true, true, true, true, true, true, false, false, false, false, false, false, false, false, false, false, false] rfl rfl (by kernel_rfl) (fun _ _ _ h => h) (Or.inl ⟨by rfl, ?_⟩) ?_ ?_
      rotate_left
      · intro w'
        go_simp
        with_reducible rfl
      rotate_left
      · simp only [Act.put, List.setIfInBounds_toArray, List.set_cons_zero, List.set_cons_succ, i64_w, i32_w]
        rfl
      refine pure_ (i := 14) (N := some 30) (v := ?_) (a' := ?_) #[true, true, true, true, true, true, true, true, true, true, true, true, true, false, true, false, false, false, false, false, false, false, false, false] rfl rfl (by kernel_rfl) (fun _ _ _ h => h) (Or.inl ⟨by rfl, ?_⟩) ?_ ?_
      rotate_left
      · intro w'
        go_simp
        with_reducible rfl
      rotate_left
      · simp only [Act.put, List.setIfInBounds_toArray, List.set_cons_zero, List.set_cons_succ, i64_w, i32_w]
        rfl
      refine pure_ (i := 15) (N := some 31) (v := ?_) (a' := ?_) #[true, true, true, true, true, true, true, true, true, true, true, true, true, false, true, true, false, false, false, false, false, false, false, false] rfl rfl (by kernel_rfl) (fun _ _ _ h => h) (Or.inl ⟨by rfl, ?_⟩) ?_ ?_
      rotate_left
      · intro w'
        go_simp
        with_reducible rfl
      rotate_left
      · simp only [Act.put, List.setIfInBounds_toArray, List.set_cons_zero, List.set_cons_succ, i64_w, i32_w]
        rfl
      refine pure_ (i := 16) (N := some 32) (v := ?_) (a' := ?_) #[true, true, true, true, true, true, true, true, true, true, true, true, true, false, true, true, true, false, false, false, false, false, false, false] rfl rfl (by kernel_rfl) (fun _ _ _ h => h) (Or.inl ⟨by rfl, ?_⟩) ?_ ?_
      rotate_left
      · intro w'
        go_simp
        with_reducible rfl
      rotate_left
      · simp only [Act.put, List.setIfInBounds_toArray, List.set_cons_zero, List.set_cons_succ, i64_w, i32_w]
        rfl
      refine pure_ (i := 17) (N := some 33) (v := ?_) (a' := ?_) #[true, true, true, true, true, true, true, true, true, true, true, true, true, false, true, true, true, true, false, false, false, false, false, false] rfl rfl (by kernel_rfl) (fun _ _ _ h => h) (Or.inl ⟨by rfl, ?_⟩) ?_ ?_
      rotate_left
      · intro w'
        go_simp
        with_reducible rfl
      rotate_left
      · simp only [Act.put, List.setIfInBounds_toArray, List.set_cons_zero, List.set_cons_succ, i64_w, i32_w]
        rfl
      refine pure_ (i := 18) (N := some 34) (v := ?_) (a' := ?_) #[true, true, true, true, true, true, true, true, true, true, true, true, true, false, true, true, true, true, true, false, false, false, false, false] rfl rfl (by kernel_rfl) (fun _ _ _ h => h) (Or.inl ⟨by rfl, ?_⟩) ?_ ?_
      rotate_left
      · intro w'
        go_simp
        with_reducible rfl
      rotate_left
      · simp only [Act.put, List.setIfInBounds_toArray, List.set_cons_zero, List.set_cons_succ, i64_w, i32_w]
        rfl
      refine take_ (i := 13) (N := some 29) (v := ?_) (a' := ?_) #[true, true, true, true, true, true, true, true, true, true, true, true, true, true, true, true, true, true, true, false, false, false, false, false] rfl rfl (by kernel_rfl) (fun _ _ _ h => h) (Or.inl ⟨by rfl, ?_⟩) hHeld ?_ ?_
      rotate_left
      · rintro w' ⟨s0, s1⟩
        go_simp
        with_reducible rfl
      rotate_left
      · simp only [Act.put, List.setIfInBounds_toArray, List.set_cons_zero, List.set_cons_succ, i64_w, i32_w]
        rfl
      refine take_ (i := 19) (N := some 35) (v := ?_) (a' := ?_) #[true, true, true, true, true, true, true, true, true, true, true, true, true, true, true, true, true, true, true, true, false, false, false, false] rfl rfl (by kernel_rfl) (fun _ _ _ h => h) (Or.inl ⟨by rfl, ?_⟩) hHeld ?_ ?_
      rotate_left
      · rintro w' ⟨s0, s1⟩
        go_simp
        with_reducible rfl
      rotate_left
      · simp only [Act.put, List.setIfInBounds_toArray, List.set_cons_zero, List.set_cons_succ, i64_w, i32_w]
        rfl
      refine pure_ (i := 20) (N := some 36) (v := ?_) (a' := ?_) #[true, true, true, true, true, true, true, true, true, true, true, true, true, true, true, true, true, true, true, true, true, false, false, false] rfl rfl (by kernel_rfl) (fun _ _ _ h => h) (Or.inl ⟨by rfl, ?_⟩) ?_ ?_
      rotate_left
      · intro w'
        go_simp
        with_reducible rfl
      rotate_left
      · simp only [Act.put, List.setIfInBounds_toArray, List.set_cons_zero, List.set_cons_succ, i64_w, i32_w]
        rfl
      refine last_ (i := 21) (N := none) #[true, true, true, true, true, true, true, true, true, true, true, true, true, true, true, true, true, true, true, true, true, true, false, false] rfl rfl (by kernel_rfl) (by decide) (fun K hK => ?_)
      refine skip_ (w1 := ?_) (by rfl) rfl ?_ ?_
      rotate_left
      · go_simp
        rfl
      refine hK.out _ _ ?_
      clear hK K
      refine pure_ (i := 22) (N := some 37) (v := ?_) (a' := ?_) #[true, true, true, true, true, true, true, true, true, true, true, true, true, true, true, true, true, true, true, true, true, true, true, false] rfl rfl (by kernel_rfl) (fun _ _ _ h => h) (Or.inl ⟨by rfl, ?_⟩) ?_ ?_
      rotate_left
      · intro w'
        go_simp
        with_reducible rfl
      rotate_left
      · simp only [Act.put, List.setIfInBounds_toArray, List.set_cons_zero, List.set_cons_succ, i64_w, i32_w]
        rfl
      refine last_ (i := 23) (N := none) #[true, true, true, true, true, true, true, true, true, true, true, true, true, true, true, true, true, true, true, true, true, true, true, true] rfl rfl (by kernel_rfl) (by decide) (fun K hK => ?_)
      refine skip_ (w1 := ?_) (by rfl) rfl ?_ ?_
      rotate_left
      · go_simp
        rfl
      refine hK.out _ _ ?_
      clear hK K
      refine done_ (by kernel_rfl) ?_
      have hMg : M g := HO.out.1 g rfl
      have hO2 := HO.out.drew.store1 rfl p (Ty.ring.below R1.out (below_drew (Below.refl _ _)))
      have S0 := Ty.ring.step R0.out (w' := wr.drew.setCell ⟨g, p, none⟩ (.slice A1 (rg zs q).length c1)) (fun j hj _ => Below.heap_setCell wr.drew _ _ j (fun e => hj (by rw [e]; exact hMg)))
      have HO3 := Lib.hid (hO2.store1 rfl q S0)
      clear hO2 S0 hcx hc0 hc1 hf0 hf1
      go_wp2
      go_roundw
      case rel =>
        refine ⟨k + 1, by omega, by go_num, swp zs p q [], HO3.out, (swp_perm hpl hql).trans HP.out, fun j => ?_, kept_set (S := fun k => k = g) (a := ⟨g, q, none⟩) rfl (kept_set (S := fun k => k = g) (a := ⟨g, p, none⟩) rfl (kept_drew hkt))⟩
        have e := HPQ.out
        rw [e.1, e.2]
        exact sig_step hab (by omega) hlt HG.out j
      case measure => simp [intOf]; omega
    · obtain rfl : k = c := by omega
      go_wp2
      exact bodyPost_end (results_none rfl _ _ _) rfl ⟨rfl, zs, HO.out, HP.out, HG.out, hkt⟩

set_option maxHeartbeats 1000000 in
theorem rotate_rings (xs : Rings) (g n cap a m b base : Nat) (M : Nat → Prop) (w : World) (ai mi bi : Int) (hai : ai = (a : Int)) (hmi : mi = (m : Int)) (hbi : bi = (b : Int)) (cmp : Value)
    (h : OwnR Ty.ring 32 base M w (.slice (some ⟨g, 0, none⟩) n cap) xs) (ham : a < m) (hmb : m < b) (hb : b ≤ xs.length) (hlen : xs.length ≤ 1048576) :
    Calls Try.prog 61 #[.slice (some ⟨g, 0, none⟩) n cap, .int .i64 ai, .int .i64 mi, .int .i64 bi, cmp] w fun e w' =>
      e = .returned (.tuple #[]) ∧ ∃ ys : Rings, OwnR Ty.ring 32 base M w' (.slice (some ⟨g, 0, none⟩) n cap) ys ∧ ys.Perm xs ∧ (∀ k, rg ys k = rg xs (rho a m b k)) ∧ KeptS (fun k => k = g) w w' := by
  subst hai hmi hbi
  obtain ⟨i0, hi0⟩ : ∃ i0, i0 = m - a := ⟨_, rfl⟩
  obtain ⟨j0, hj0⟩ : ∃ j0, j0 = b - m := ⟨_, rfl⟩
  have qi : IntKind.i64.wrap ((m : Int) - (a : Int)) = (i0 : Int) := by rw [IntWalk.i64_in _ (by omega)]; omega
  have qj : IntKind.i64.wrap ((b : Int) - (m : Int)) = (j0 : Int) := by rw [IntWalk.i64_in _ (by omega)]; omega
  have HIJ := Lib.hid (And.intro hi0 hj0)
  have HH := Lib.hid h
  clear hi0 hj0 h
  go_enter Try.func61, Try.ntmps61
  go_wp2
  go_loopw [10, 11] (fun i j wr => ∃ p q : Nat, 0 < p ∧ 0 < q ∧ p ≤ m - a ∧ q ≤ b - m ∧ i = .int .i64 p ∧ j = .int .i64 q ∧ ∃ zs : Rings, Hid (OwnR Ty.ring 32 base M wr (.slice (some ⟨g, 0, none⟩) n cap) zs) ∧ Hid (zs.Perm xs) ∧ Hid (∀ k, rg zs (rho (m - p) m (m + q) k) = rg xs (rho a m b k)) ∧ KeptS (fun k => k = g) w wr) (fun i j _ => (intOf i).toNat + (intOf j).toNat)
  case atStart => exact ⟨i0, j0, by have := HIJ.out; omega, by have := HIJ.out; omega, by have := HIJ.out; omega, by have := HIJ.out; omega, rfl, rfl, xs, HH.out, List.Perm.refl _, fun k => by rw [HIJ.out.1, HIJ.out.2]; rw [show m - (m - a) = a by omega, show m + (b - m) = b by omega], kept_refl _ _⟩
  case round =>
    obtain ⟨p, q, hp0, hq0, hpm, hqb, rfl, rfl, zs, HO, HP, HG, hkt⟩ := hrel
    have hzl : zs.length = xs.length := HP.out.length_eq
    rcases Nat.lt_trichotomy p q with hpq | hpq | hpq
    · have q1 : ((p : Int) != (q : Int)) = true := by simp; omega
      have q2 : decide ((q : Int) < (p : Int)) = false := decide_eq_false (by omega)
      have q3 : IntKind.i64.wrap ((m : Int) - (p : Int)) = ((m - p : Nat) : Int) := by rw [IntWalk.i64_in _ (by omega)]; omega
      go_wp2_with fail
      refine (swapRange_rings zs g n cap (m - p) (m + q - p) p base M wr _ _ _ rfl (by omega) rfl cmp HO.out (by omega) (by omega) (by omega)).mono ?_
      rintro e w1 ⟨rfl, ys, ho, hp, hg, hk⟩
      have HO1 := Lib.hid ho
      have HP1 := Lib.hid hp
      have HG1 := Lib.hid hg
      clear ho hp hg
      go_wp2
      go_roundw
      case rel => exact ⟨p, q - p, hp0, by omega, hpm, by omega, rfl, by go_num, ys, HO1.out, HP1.out.trans HP.out, fun k => by rw [HG1.out, rot_lt (by omega) hpq]; exact HG.out k, kept_step hkt hk⟩
      case measure => simp [intOf]; omega
    · subst hpq
      have q1 : ((p : Int) != (p : Int)) = false := by simp
      have q3 : IntKind.i64.wrap ((m : Int) - (p : Int)) = ((m - p : Nat) : Int) := by rw [IntWalk.i64_in _ (by omega)]; omega
      go_wp2_with fail
      refine (swapRange_rings zs g n cap (m - p) m p base M wr _ _ _ rfl rfl rfl cmp HO.out (by omega) (by omega) (by omega)).mono ?_
      rintro e w1 ⟨rfl, ys, ho, hp, hg, hk⟩
      have HO1 := Lib.hid ho
      have HP1 := Lib.hid hp
      have HG1 := Lib.hid hg
      clear ho hp hg
      go_wp2
      exact bodyPost_end (results_none rfl _ _ _) rfl ⟨rfl, ys, HO1.out, HP1.out.trans HP.out, fun k => by rw [HG1.out, rot_eq (by omega)]; exact HG.out k, kept_step hkt hk⟩
    · have q1 : ((p : Int) != (q : Int)) = true := by simp; omega
      have q2 : decide ((q : Int) < (p : Int)) = true := decide_eq_true (by omega)
      have q3 : IntKind.i64.wrap ((m : Int) - (p : Int)) = ((m - p : Nat) : Int) := by rw [IntWalk.i64_in _ (by omega)]; omega
      go_wp2_with fail
      refine (swapRange_rings zs g n cap (m - p) m q base M wr _ _ _ rfl rfl rfl cmp HO.out (by omega) (by omega) (by omega)).mono ?_
      rintro e w1 ⟨rfl, ys, ho, hp, hg, hk⟩
      have HO1 := Lib.hid ho
      have HP1 := Lib.hid hp
      have HG1 := Lib.hid hg
      clear ho hp hg
      go_wp2
      go_roundw
      case rel => exact ⟨p - q, q, by omega, hq0, by omega, hqb, by go_num, rfl, ys, HO1.out, HP1.out.trans HP.out, fun k => by rw [HG1.out, rot_gt (by omega) hpq]; exact HG.out k, kept_step hkt hk⟩
      case measure => simp [intOf]; omega
end Go.Proofs.Ytaphjehkpdjolaa
