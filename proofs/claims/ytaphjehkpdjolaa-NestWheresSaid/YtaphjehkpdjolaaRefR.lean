/- Contract of mapmakerref22.Rings. -/
import Derived.Test.YtaphjehkpdjolaaRings
import Derived.Test.YtaphjehkpdjolaaMerge1
namespace Go.Proofs.Ytaphjehkpdjolaa
open Go.RowKit Go.Proofs.YtaphjehkpdjolaaW.PrintLast
set_option linter.unusedVariables false
set_option linter.unusedSimpArgs false

set_option maxRecDepth 20000 in
set_option maxHeartbeats 4000000 in
theorem ref22_Rings {ok : Nat → Prop} (l : List Poly) (A : Option Addr) (n c : Nat) (w : World) (hr : Row Ty.poly ok w A l) (hn : n = l.length) (hsm : fewB l = true) :
    Calls Try.prog 18 #[.slice A n c] w fun e w' => ∃ v ys, e = .returned v ∧ Own1 Ty.ring 32 w.heap.size w' v ys ∧ ys.Perm (allR l) ∧ SortedOn ys 0 ys.length ∧ Below w.heap.size w w' := by
  have HA := Lib.hid (ref22_all l A n c w hr hn hsm)
  have hlen : (allR l).length ≤ 104 := by have := allR_take hsm l.length; rwa [List.take_length] at this
  obtain ⟨xs, hxs⟩ : ∃ xs, xs = allR l := ⟨_, rfl⟩
  rw [← hxs] at hlen HA
  rw [← hxs]
  clear hr hn hsm hxs
  go_enter Try.func18, Try.ntmps18
  go_wp2_with fail
  refine HA.out.mono ?_
  rintro e w1 ⟨v, rfl, ho, hb1⟩
  obtain ⟨Av, cv, rfl, hl1, _⟩ := OwnR.reads ho
  obtain ⟨n, hn⟩ : ∃ n, n = xs.length := ⟨_, rfl⟩
  rw [← hn]
  rw [← hn] at ho hl1
  have HN := Lib.hid hn
  have hn1 : n ≤ xs.length := by omega
  have hn2 : xs.length ≤ n := by omega
  have HO := Lib.hid ho
  clear ho hn HA
  go_wp2_with fail
  go_loopw [4] (fun iv wr => ∃ i : Nat, 1 ≤ i ∧ (i ≤ n ∨ i = 1) ∧ iv = .int .i64 i ∧ Below w.heap.size w wr ∧ ∃ ys : Rings, Hid (Own1 Ty.ring 32 w.heap.size wr (.slice Av n cv) ys) ∧ Hid (ys.Perm xs) ∧ Hid (SortedOn ys 0 i)) (fun iv _ => n - (intOf iv).toNat)
  case atStart => exact ⟨1, Nat.le_refl _, .inr rfl, rfl, hb1, xs, HO.out, List.Perm.refl _, fun p q h1 h2 h3 => by omega⟩
  case round =>
    obtain ⟨i, hi1, hi2, rfl, hb, ys, HY, HP, HS⟩ := hrel
    have hy1 : ys.length ≤ n := by have := HP.out.length_eq; omega
    have hy2 : n ≤ ys.length := by have := HP.out.length_eq; omega
    by_cases hlt : i < n
    · have q1 : decide ((i : Int) < (n : Int)) = true := decide_eq_true (by omega)
      obtain ⟨A', c', e', _, _, hA'⟩ := OwnR.reads HY.out
      obtain ⟨g, hg, hgw, hgs, _, _⟩ := hA' (by omega)
      injection e' with e1 e2 e3
      subst e1
      subst hg
      clear e2 e3 hA'
      go_wp2_with fail
      obtain ⟨wo, rfl⟩ : ∃ wo : World, wo = wr := ⟨_, rfl⟩
      go_loopw [5] (fun kv wr => ∃ k : Nat, k ≤ i ∧ kv = .int .i64 k ∧ Below w.heap.size w wr ∧ ∃ zs : Rings, Hid (Own1 Ty.ring 32 w.heap.size wr (.slice (some ⟨g, 0, none⟩) n cv) zs) ∧ Hid (zs.Perm xs) ∧ Hid (Inserting zs 0 i k)) (fun kv _ => (intOf kv).toNat)
      case atStart => exact ⟨i, Nat.le_refl _, rfl, hb, ys, HY.out, HP.out, inserting_start HS.out⟩
      case round =>
        obtain ⟨k', hki, rfl, hbk, zs, HZ, HZP, HI⟩ := hrel
        have hz1 : zs.length ≤ n := by have := HZP.out.length_eq; omega
        have hz2 : n ≤ zs.length := by have := HZP.out.length_eq; omega
        by_cases hk0 : 0 < k'
        · obtain ⟨k, rfl⟩ : ∃ k, k' = k + 1 := ⟨k' - 1, by omega⟩
          obtain ⟨A0, c0, hc0, hr0, hf0⟩ := OwnR.ring_cell HZ.out (k + 1) (by omega)
          obtain ⟨A1, c1, hc1, hr1, hf1⟩ := OwnR.ring_cell HZ.out k (by omega)
          have R0 := Lib.hid hr0
          have R1 := Lib.hid hr1
          have hkl : k < zs.length := by omega
          have hkl1 : k + 1 < zs.length := by omega
          have ec : ((k + 1 : Nat) : Int) = (k : Int) + 1 := by omega
          rw [ec]
          clear ec
          have qb0 : k < n := by omega
          have qb1 : k + 1 < n := by omega
          have q4 : decide ((0 : Int) < (k : Int) + 1) = true := decide_eq_true (by omega)
          have qi0 : (0 : Int) ≤ (k : Int) + 1 := by omega
          have qi1 : (k : Int) + 1 < (n : Int) := by omega
          have qi2 : ((k : Int) + 1).toNat = k + 1 := by omega
          have qw : IntKind.i64.wrap (k : Int) = (k : Int) := IntWalk.i64_in _ (by omega)
          have qw' : wrap64 (k : Int) = (k : Int) := by unfold wrap64; omega
          clear hr0 hr1
          go_wp2_with fail
          refine start_ (n := 14) (S := fun w' => w'.cell? ⟨g, k + 1, none⟩ = some (.slice A0 (rg zs (k + 1)).length c0) ∧ w'.cell? ⟨g, k, none⟩ = some (.slice A1 (rg zs k).length c1)) (ds := []) #[false, false, false, false, false, false, false, false, false, false, false, false, false, false] (by kernel_rfl) rfl rfl ⟨hc0, hc1⟩ (fun hHeld => ?_)
          refine pure_ (i := 0) (N := some 16) (v := ?_) (a' := ?_) #[true, false, false, false, false, false, false, false, false, false, false, false, false, false] rfl rfl (by kernel_rfl) (fun _ _ _ h => h) (Or.inl ⟨by rfl, ?_⟩) ?_ ?_
          rotate_left
          · intro w'
            go_simp
            with_reducible rfl
          rotate_left
          · simp only [Act.put, List.setIfInBounds_toArray, List.set_cons_zero, List.set_cons_succ, i64_w, i32_w]
            rfl
          refine pure_ (i := 1) (N := some 17) (v := ?_) (a' := ?_) #[true, true, false, false, false, false, false, false, false, false, false, false, false, false] rfl rfl (by kernel_rfl) (fun _ _ _ h => h) (Or.inl ⟨by rfl, ?_⟩) ?_ ?_
          rotate_left
          · intro w'
            go_simp
            with_reducible rfl
          rotate_left
          · simp only [Act.put, List.setIfInBounds_toArray, List.set_cons_zero, List.set_cons_succ, i64_w, i32_w]
            rfl
          refine pure_ (i := 2) (N := some 18) (v := ?_) (a' := ?_) #[true, true, true, false, false, false, false, false, false, false, false, false, false, false] rfl rfl (by kernel_rfl) (fun _ _ _ h => h) (Or.inl ⟨by rfl, ?_⟩) ?_ ?_
          rotate_left
          · intro w'
            go_simp
            with_reducible rfl
          rotate_left
          · simp only [Act.put, List.setIfInBounds_toArray, List.set_cons_zero, List.set_cons_succ, i64_w, i32_w]
            rfl
          refine pure_ (i := 3) (N := some 19) (v := ?_) (a' := ?_) #[true, true, true, true, false, false, false, false, false, false, false, false, false, false] rfl rfl (by kernel_rfl) (fun _ _ _ h => h) (Or.inl ⟨by rfl, ?_⟩) ?_ ?_
          rotate_left
          · intro w'
            go_simp
            with_reducible rfl
          rotate_left
          · simp only [Act.put, List.setIfInBounds_toArray, List.set_cons_zero, List.set_cons_succ, i64_w, i32_w]
            rfl
          refine pure_ (i := 4) (N := some 20) (v := ?_) (a' := ?_) #[true, true, true, true, true, false, false, false, false, false, false, false, false, false] rfl rfl (by kernel_rfl) (fun _ _ _ h => h) (Or.inl ⟨by rfl, ?_⟩) ?_ ?_
          rotate_left
          · intro w'
            go_simp
            with_reducible rfl
          rotate_left
          · simp only [Act.put, List.setIfInBounds_toArray, List.set_cons_zero, List.set_cons_succ, i64_w, i32_w]
            rfl
          refine pure_ (i := 5) (N := some 21) (v := ?_) (a' := ?_) #[true, true, true, true, true, true, false, false, false, false, false, false, false, false] rfl rfl (by kernel_rfl) (fun _ _ _ h => h) (Or.inl ⟨by rfl, ?_⟩) ?_ ?_
          rotate_left
          · intro w'
            go_simp
            with_reducible rfl
          rotate_left
          · simp only [Act.put, List.setIfInBounds_toArray, List.set_cons_zero, List.set_cons_succ, i64_w, i32_w]
            rfl
          refine pure_ (i := 7) (N := some 23) (v := ?_) (a' := ?_) #[true, true, true, true, true, true, false, true, false, false, false, false, false, false] rfl rfl (by kernel_rfl) (fun _ _ _ h => h) (Or.inl ⟨by rfl, ?_⟩) ?_ ?_
          rotate_left
          · intro w'
            go_simp
            with_reducible rfl
          rotate_left
          · simp only [Act.put, List.setIfInBounds_toArray, List.set_cons_zero, List.set_cons_succ, i64_w, i32_w]
            rfl
          refine pure_ (i := 8) (N := some 24) (v := ?_) (a' := ?_) #[true, true, true, true, true, true, false, true, true, false, false, false, false, false] rfl rfl (by kernel_rfl) (fun _ _ _ h => h) (Or.inl ⟨by rfl, ?_⟩) ?_ ?_
          rotate_left
          · intro w'
            go_simp
            with_reducible rfl
          rotate_left
          · simp only [Act.put, List.setIfInBounds_toArray, List.set_cons_zero, List.set_cons_succ, i64_w, i32_w]
            rfl
          refine pure_ (i := 9) (N := some 25) (v := ?_) (a' := ?_) #[true, true, true, true, true, true, false, true, true, true, false, false, false, false] rfl rfl (by kernel_rfl) (fun _ _ _ h => h) (Or.inl ⟨by rfl, ?_⟩) ?_ ?_
          rotate_left
          · intro w'
            go_simp
            with_reducible rfl
          rotate_left
          · simp only [Act.put, List.setIfInBounds_toArray, List.set_cons_zero, List.set_cons_succ, i64_w, i32_w]
            rfl
          refine pure_ (i := 10) (N := some 26) (v := ?_) (a' := ?_) #[true, true, true, true, true, true, false, true, true, true, true, false, false, false] rfl rfl (by kernel_rfl) (fun _ _ _ h => h) (Or.inl ⟨by rfl, ?_⟩) ?_ ?_
          rotate_left
          · intro w'
            go_simp
            with_reducible rfl
          rotate_left
          · simp only [Act.put, List.setIfInBounds_toArray, List.set_cons_zero, List.set_cons_succ, i64_w, i32_w]
            rfl
          refine take_ (i := 6) (N := some 22) (v := ?_) (a' := ?_) #[true, true, true, true, true, true, true, true, true, true, true, false, false, false] rfl rfl (by kernel_rfl) (fun _ _ _ h => h) (Or.inl ⟨by rfl, ?_⟩) hHeld ?_ ?_
          rotate_left
          · rintro w' ⟨s0, s1⟩
            go_simp
            with_reducible rfl
          rotate_left
          · simp only [Act.put, List.setIfInBounds_toArray, List.set_cons_zero, List.set_cons_succ, i64_w, i32_w]
            rfl
          refine take_ (i := 11) (N := some 27) (v := ?_) (a' := ?_) #[true, true, true, true, true, true, true, true, true, true, true, true, false, false] rfl rfl (by kernel_rfl) (fun _ _ _ h => h) (Or.inl ⟨by rfl, ?_⟩) hHeld ?_ ?_
          rotate_left
          · rintro w' ⟨s0, s1⟩
            go_simp
            with_reducible rfl
          rotate_left
          · simp only [Act.put, List.setIfInBounds_toArray, List.set_cons_zero, List.set_cons_succ, i64_w, i32_w]
            rfl
          refine one_ (i := 12) (N := some 28) #[true, true, true, true, true, true, true, true, true, true, true, true, true, false] rfl rfl (by kernel_rfl) (by decide) (fun K hK => ?_)
          refine goes_ Try.func37 (by kernel_rfl) rfl #[.slice A0 (rg zs (k + 1)).length c0, .slice A1 (rg zs k).length c1] (by rfl) rfl rfl (by simp only [List.map_toArray, List.map_cons, List.map_nil]; rfl) ?_
          with_reducible refine (ref11_Less (rg zs (k + 1)) (rg zs k) _ _ _ _ _ _ _ ((ringR_row R0.out).2.below (below_drew (Below.refl _ _))) ((ringR_row R1.out).2.below (below_drew (Below.refl _ _))) rfl rfl).mono ?_
          rintro e w2 ⟨rfl, hb2⟩
          refine ⟨_, rfl, ?_⟩
          refine hK.out _ _ ⟨cell_below hb2 hc0, cell_below hb2 hc1⟩ (fun hHeld => ?_)
          clear hK K
          refine norm_ (a' := ?_) ?_ ?_
          rotate_left
          · show Act.put _ (some 28) _ = _
            simp only [Act.put, List.setIfInBounds_toArray, List.set_cons_zero, List.set_cons_succ, i64_w, i32_w]
            rfl
          refine pure_ (i := 13) (N := some 29) (v := ?_) (a' := ?_) #[true, true, true, true, true, true, true, true, true, true, true, true, true, true] rfl rfl (by kernel_rfl) (fun _ _ _ h => h) (Or.inl ⟨by rfl, ?_⟩) ?_ ?_
          rotate_left
          · intro w'
            go_simp
            with_reducible rfl
          rotate_left
          · simp only [Act.put, List.setIfInBounds_toArray, List.set_cons_zero, List.set_cons_succ, i64_w, i32_w]
            rfl
          refine done_ (by kernel_rfl) ?_
          have hd0 := cell_below hb2 hc0
          have hd1 := cell_below hb2 hc1
          have B2 : Below wr.heap.size wr w2 := below_step (below_drew (Below.refl _ _)) hb2
          have hf0' : w2.frozen? ⟨g, k + 1, none⟩ = false := (B2.frozen (p := ⟨g, k + 1, none⟩) (World.block_lt_of_cell? wr _ hc0)).trans hf0
          have hf1' : w2.frozen? ⟨g, k, none⟩ = false := (B2.frozen (p := ⟨g, k, none⟩) (World.block_lt_of_cell? wr _ hc1)).trans hf1
          have HZ2 := Lib.hid (OwnR.below HZ.out B2)
          have S0 := Ty.ring.below R0.out B2
          have S1 := Ty.ring.below R1.out B2
          have BW : Below w.heap.size w w2 := (by repeat (first | exact Below.refl _ _ | apply below_alloc | apply below_drewN | apply below_drew | (refine below_set2 ?_ ?_; (first | (simp; done) | (simp; omega))) | (refine below_step ?_ hb2) | (refine below_step ?_ hbk)))
          clear hc0 hc1 hf0 hf1
          cases hcmp : lessR (rg zs (k + 1)) (rg zs k)
          · have HC := Lib.hid hcmp
            clear hcmp
            go_wp2
            go_roundw
            case rel => exact ⟨i + 1, by omega, .inl (by omega), by go_num, BW, zs, HZ2.out, HZP.out, inserting_end HI.out (Nat.zero_le _) hki (.inr (by show leR (rg zs (k + 1 - 1)) _; rw [Nat.add_sub_cancel]; exact HC.out))⟩
            case measure => simp [intOf]; omega
          · have HC := Lib.hid hcmp
            clear hcmp
            have hcx : (w2.setCell ⟨g, k + 1, none⟩ (.slice A1 (rg zs k).length c1)).cell? ⟨g, k, none⟩ = some (.slice A1 (rg zs k).length c1) := by
              rw [World.cell?_setCell_other _ _ _ _ (by intro e; injection e with _ e; omega)]; exact hd1
            go_wp2
            have hO2 := OwnR.store1 HZ2.out rfl (k + 1) S1
            have S0' := Ty.ring.step S0 (w' := w2.setCell ⟨g, k + 1, none⟩ (.slice A1 (rg zs k).length c1)) (fun j hj _ => Below.heap_setCell w2 _ _ j (fun e => hj (by rw [e]; rfl)))
            have HO3 := Lib.hid (OwnR.store1 hO2 rfl k S0')
            clear hO2 S0' hcx qw qw' qi0 qi1 qi2 q4
            go_roundw
            case rel =>
              refine ⟨k, by omega, rfl, below_set2 hgw (below_set2 hgw BW), swp zs (k + 1) k [], HO3.out, (swp_perm hkl1 hkl).trans HZP.out, ?_⟩
              have := inserting_step HI.out (Nat.succ_pos k) hki (by omega) (by show lessR _ (rg zs (k + 1 - 1)) = true; rw [Nat.add_sub_cancel]; exact HC.out)
              rwa [Nat.add_sub_cancel] at this
            case measure => simp [intOf] <;> omega
        · obtain rfl : k' = 0 := by omega
          have q4 : decide ((0 : Int) < ((0 : Nat) : Int)) = false := by simp
          go_wp2_with fail
          go_quiet (fail)
          go_wp2
          go_roundw
          case rel => exact ⟨i + 1, by omega, .inl (by omega), by go_num, (by repeat (first | exact Below.refl _ _ | apply below_alloc | apply below_drewN | apply below_drew | (refine below_set2 ?_ ?_; (first | (simp; done) | (simp; omega))) | (refine below_step ?_ hbk))), zs, OwnR.drewN HZ.out _, HZP.out, inserting_end HI.out (Nat.zero_le _) hki (.inl rfl)⟩
          case measure => simp [intOf]; omega
    · have q1 : decide ((i : Int) < (n : Int)) = false := decide_eq_false (by omega)
      go_wp2
      go_ret
      refine ⟨_, ys, rfl, HY.out, HP.out, ?_, hb⟩
      exact fun p q h1 h2 h3 => HS.out p q h1 h2 (by omega)
end Go.Proofs.Ytaphjehkpdjolaa
