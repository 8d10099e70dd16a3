/- Contracts of law22.NestRings and law22.NestWheres. -/
import Derived.Test.YtaphjehkpdjolaaLives
import Derived.Test.YtaphjehkpdjolaaMerge5
import Derived.Test.YtaphjehkpdjolaaRefR
import Derived.Test.YtaphjehkpdjolaaRefW
namespace Go.Proofs.Ytaphjehkpdjolaa
open Go.RowKit Go.Proofs.YtaphjehkpdjolaaW.PrintLast
set_option linter.unusedVariables false
set_option linter.unusedSimpArgs false

theorem few_all {l : List Poly} (h : fewB l = true) : (allR l).length ≤ 1048576 := by
  have := allR_take h l.length
  rw [List.take_length] at this
  omega

set_option maxHeartbeats 4000000 in
theorem law22_NestRings {ok : Nat → Prop} (l : List Poly) (A : Option Addr) (n c : Nat) (w : World) (hr : Row Ty.poly ok w A l) (hn : n = l.length) :
    Calls Try.prog 5 #[.slice A n c] w fun e w' => e = .returned (.bool true) ∧ Below w.heap.size w w' := by
  subst hn
  have HR := Lib.hid hr
  clear hr
  have HF := Lib.hid (law22_few l A l.length c w HR.out rfl)
  cases hf : fewB l
  · rw [hf] at HF
    go_enter Try.func5, Try.ntmps5
    go_wp2_with fail
    (refine (HF.out).mono ?_; rintro e w1 ⟨rfl, hb1⟩)
    go_wp2_with fail
    (refine (law22_lives _).mono ?_; rintro e w2 ⟨rfl, hb2⟩)
    go_wp2
    go_ret
    exact ⟨rfl, (by repeat (first | exact Below.refl _ _ | apply below_alloc | apply below_drewN | apply below_drew | (refine below_set2 ?_ ?_; (first | (simp; done) | (simp; omega))) | (refine below_step ?_ hb2) | (refine below_step ?_ hb1)))⟩
  · rw [hf] at HF
    have HF2 := Lib.hid hf
    have HN := Lib.hid (few_all hf)
    have qe : (sumR (allR l) == sumR (allR l)) = true := by simp
    clear hf
    go_enter Try.func5, Try.ntmps5
    go_wp2_with fail
    (refine (HF.out).mono ?_; rintro e w1 ⟨rfl, hb1⟩)
    have R1 := Lib.hid (HR.out.below hb1)
    go_wp2_with fail
    refine (nest_Rings stableAt_all l _ _ _ _ R1.out rfl HF2.out HN.out).mono ?_
    rintro e w2 ⟨v, ys, rfl, ho, hp, hs, hb2⟩
    obtain ⟨A1, c1, rfl, _, hr1⟩ := ho.reads
    have S1 := Lib.hid hr1
    have HP1 := Lib.hid hp
    have HS1 := Lib.hid hs
    have R2 := Lib.hid (R1.out.below hb2)
    clear ho hr1 hp hs
    go_wp2_with fail
    refine (ref22_Rings l _ _ _ _ R2.out rfl HF2.out).mono ?_
    rintro e w3 ⟨v, zs, rfl, ho, hp, hs, hb3⟩
    obtain rfl : ys = zs := sorted_unique (HP1.out.trans hp.symm) HS1.out hs
    obtain ⟨A2, c2, rfl, _, hr2⟩ := ho.reads
    have S2 := Lib.hid hr2
    have S1' := Lib.hid (S1.out.below hb3)
    have R3 := Lib.hid (R2.out.below hb3)
    have qd : decide (ys = ys) = true := by simp
    clear ho hr2 hp hs
    go_wp2_with fail
    (refine (ref22_SameRings ys ys _ _ _ _ _ _ _ S1'.out S2.out rfl rfl).mono ?_; rintro e w4 ⟨rfl, hb4⟩)
    have R4 := Lib.hid (R3.out.below hb4)
    go_wp2_with fail
    (refine (nest_Area2 stableAt_all l _ _ _ _ R4.out rfl HF2.out HN.out).mono ?_; rintro e w5 ⟨rfl, hb5⟩)
    have R5 := Lib.hid (R4.out.below hb5)
    go_wp2_with fail
    (refine (ref22_Area2 l _ _ _ _ R5.out rfl HF2.out).mono ?_; rintro e w6 ⟨rfl, hb6⟩)
    go_wp2_with fail
    (refine (law22_lives _).mono ?_; rintro e w7 ⟨rfl, hb7⟩)
    go_wp2
    go_ret
    exact ⟨rfl, (by repeat (first | exact Below.refl _ _ | apply below_alloc | apply below_drewN | apply below_drew | (refine below_set2 ?_ ?_; (first | (simp; done) | (simp; omega))) | (refine below_step ?_ hb7) | (refine below_step ?_ hb6) | (refine below_step ?_ hb5) | (refine below_step ?_ hb4) | (refine below_step ?_ hb3) | (refine below_step ?_ hb2) | (refine below_step ?_ hb1)))⟩

set_option maxHeartbeats 4000000 in
theorem law22_NestWheres {ok : Nat → Prop} (l : List Poly) (A : Option Addr) (n c : Nat) (px py : Int) (w : World) (hr : Row Ty.poly ok w A l) (hn : n = l.length) :
    Calls Try.prog 6 #[.slice A n c, .agg #[.int .i64 px, .int .i64 py]] w fun e w' => e = .returned (.bool true) ∧ Below w.heap.size w w' := by
  subst hn
  have HR := Lib.hid (hr.bnd.mono (fun k hk => hk.2))
  clear hr
  have HF := Lib.hid (fun (W : World) (hW : Below w.heap.size w W) => law22_few l A l.length c W (HR.out.below hW) rfl)
  cases hf : fewB l
  · rw [hf] at HF
    go_enter Try.func6, Try.ntmps6
    go_wp2_with fail
    (refine (HF.out _ (by repeat (first | exact Below.refl _ _ | apply below_alloc | apply below_drewN | apply below_drew | (refine below_set2 ?_ ?_; (first | (simp; done) | (simp; omega)))))).mono ?_; rintro e w1 ⟨rfl, hb1⟩)
    go_wp2_with fail
    (refine (law22_lives _).mono ?_; rintro e w2 ⟨rfl, hb2⟩)
    go_wp2
    go_ret
    exact ⟨rfl, (by repeat (first | exact Below.refl _ _ | apply below_alloc | apply below_drewN | apply below_drew | (refine below_set2 ?_ ?_; (first | (simp; done) | (simp; omega))) | (refine below_step ?_ hb2) | (refine below_step ?_ hb1)))⟩
  · rw [hf] at HF
    have HF2 := Lib.hid hf
    have HN := Lib.hid (few_all hf)
    obtain ⟨z, hz⟩ : ∃ z, z = whereR (allR l) (px, py) := ⟨_, rfl⟩
    have HZ := Lib.hid hz
    have qe : (whereR (allR l) (px, py) == whereR (allR l) (px, py)) = true := by simp
    clear hf hz
    go_enter Try.func6, Try.ntmps6
    go_wp2_with fail
    (refine (HF.out _ (by repeat (first | exact Below.refl _ _ | apply below_alloc | apply below_drewN | apply below_drew | (refine below_set2 ?_ ?_; (first | (simp; done) | (simp; omega)))))).mono ?_; rintro e w1 ⟨rfl, hb1⟩)
    have hc0 : w1.cell? ⟨w.heap.size, 0, none⟩ = some (.int .i64 px) := cell_below hb1 (by go_simp)
    have hc1 : w1.cell? ⟨w.heap.size, 1, none⟩ = some (.int .i64 py) := cell_below hb1 (by go_simp)
    have B1 : Below w.heap.size w w1 := (by repeat (first | exact Below.refl _ _ | apply below_alloc | apply below_drewN | apply below_drew | (refine below_set2 ?_ ?_; (first | (simp; done) | (simp; omega))) | (refine below_step ?_ hb1)))
    have R1 := Lib.hid (HR.out.below B1)
    go_wp2_with fail
    refine start_ (n := 11) (S := fun w' => w'.cell? ⟨w.heap.size, 0, none⟩ = some (.int .i64 px) ∧ w'.cell? ⟨w.heap.size, 1, none⟩ = some (.int .i64 py)) (ds := []) #[false, false, false, false, false, false, false, false, false, false, false] (by kernel_rfl) rfl rfl ⟨hc0, hc1⟩ (fun hHeld => ?_)
    refine pure_ (i := 0) (N := some 9) (v := ?_) (a' := ?_) #[true, false, false, false, false, false, false, false, false, false, false] rfl rfl (by kernel_rfl) (fun _ _ _ h => h) (Or.inl ⟨by rfl, ?_⟩) ?_ ?_
    rotate_left
    · intro w'
      go_simp
      with_reducible rfl
    rotate_left
    · simp only [Act.put, List.setIfInBounds_toArray, List.set_cons_zero, List.set_cons_succ, i64_w, i32_w]
      rfl
    refine pure_ (i := 3) (N := some 12) (v := ?_) (a' := ?_) #[true, false, false, true, false, false, false, false, false, false, false] rfl rfl (by kernel_rfl) (fun _ _ _ h => h) (Or.inl ⟨by rfl, ?_⟩) ?_ ?_
    rotate_left
    · intro w'
      go_simp
      with_reducible rfl
    rotate_left
    · simp only [Act.put, List.setIfInBounds_toArray, List.set_cons_zero, List.set_cons_succ, i64_w, i32_w]
      rfl
    refine take_ (i := 1) (N := some 10) (v := ?_) (a' := ?_) #[true, true, false, true, false, false, false, false, false, false, false] rfl rfl (by kernel_rfl) (fun _ _ _ h => h) (Or.inl ⟨by rfl, ?_⟩) hHeld ?_ ?_
    rotate_left
    · rintro w' ⟨s0, s1⟩
      go_simp
      with_reducible rfl
    rotate_left
    · simp only [Act.put, List.setIfInBounds_toArray, List.set_cons_zero, List.set_cons_succ, i64_w, i32_w]
      rfl
    refine take_ (i := 4) (N := some 13) (v := ?_) (a' := ?_) #[true, true, false, true, true, false, false, false, false, false, false] rfl rfl (by kernel_rfl) (fun _ _ _ h => h) (Or.inl ⟨by rfl, ?_⟩) hHeld ?_ ?_
    rotate_left
    · rintro w' ⟨s0, s1⟩
      go_simp
      with_reducible rfl
    rotate_left
    · simp only [Act.put, List.setIfInBounds_toArray, List.set_cons_zero, List.set_cons_succ, i64_w, i32_w]
      rfl
    refine one_ (i := 2) (N := some 11) #[true, true, true, true, true, false, false, false, false, false, false] rfl rfl (by kernel_rfl) (by decide) (fun K hK => ?_)
    refine goes_ Try.func21 (by kernel_rfl) rfl #[.slice A l.length c, .agg #[.int .i64 px, .int .i64 py]] (by rfl) rfl rfl (by simp only [List.map_toArray, List.map_cons, List.map_nil]; rfl) ?_
    with_reducible refine (nest_Where stableAt_all l _ _ _ px py _ (R1.out.below (below_drew (Below.refl _ _))) rfl HF2.out HN.out).mono ?_
    rintro e w2 ⟨rfl, hb2⟩
    refine ⟨_, rfl, ?_⟩
    refine hK.out _ _ ⟨cell_below hb2 hc0, cell_below hb2 hc1⟩ (fun hHeld => ?_)
    clear hK K
    refine norm_ (a' := ?_) ?_ ?_
    rotate_left
    · show Act.put _ (some 11) _ = _
      simp only [Act.put, List.setIfInBounds_toArray, List.set_cons_zero, List.set_cons_succ, i64_w, i32_w]
      rfl
    refine one_ (i := 5) (N := some 14) #[true, true, true, true, true, true, false, false, false, false, false] rfl rfl (by kernel_rfl) (by decide) (fun K hK => ?_)
    refine goes_ Try.func22 (by kernel_rfl) rfl #[.slice A l.length c, .agg #[.int .i64 px, .int .i64 py]] (by rfl) rfl rfl (by simp only [List.map_toArray, List.map_cons, List.map_nil]; rfl) ?_
    with_reducible refine (ref22_Where l _ _ _ px py _ ((R1.out.below (below_drew (Below.refl _ _))).below hb2) rfl HF2.out).mono ?_
    rintro e w3 ⟨rfl, hb3⟩
    refine ⟨_, rfl, ?_⟩
    refine hK.out _ _ ⟨cell_below hb3 (cell_below hb2 hc0), cell_below hb3 (cell_below hb2 hc1)⟩ (fun hHeld => ?_)
    clear hK K
    refine norm_ (a' := ?_) ?_ ?_
    rotate_left
    · show Act.put _ (some 14) _ = _
      simp only [Act.put, List.setIfInBounds_toArray, List.set_cons_zero, List.set_cons_succ, i64_w, i32_w]
      rfl
    refine pure_ (i := 6) (N := some 15) (v := ?_) (a' := ?_) #[true, true, true, true, true, true, true, false, false, false, false] rfl rfl (by kernel_rfl) (fun _ _ _ h => h) (Or.inl ⟨by rfl, ?_⟩) ?_ ?_
    rotate_left
    · intro w'
      go_simp
      with_reducible rfl
    rotate_left
    · simp only [Act.put, List.setIfInBounds_toArray, List.set_cons_zero, List.set_cons_succ, i64_w, i32_w]
      rfl
    refine pure_ (i := 7) (N := some 16) (v := ?_) (a' := ?_) #[true, true, true, true, true, true, true, true, false, false, false] rfl rfl (by kernel_rfl) (fun _ _ _ h => h) (Or.inl ⟨by rfl, ?_⟩) ?_ ?_
    rotate_left
    · intro w'
      go_simp
      with_reducible rfl
    rotate_left
    · simp only [Act.put, List.setIfInBounds_toArray, List.set_cons_zero, List.set_cons_succ, i64_w, i32_w]
      rfl
    refine one_ (i := 8) (N := some 17) #[true, true, true, true, true, true, true, true, true, false, false] rfl rfl (by kernel_rfl) (by decide) (fun K hK => ?_)
    refine goes_ Try.func9 (by kernel_rfl) rfl #[] (by rfl) rfl rfl (by simp) ?_
    with_reducible refine (law22_lives _).mono ?_
    rintro e w4 ⟨rfl, hb4⟩
    refine ⟨_, rfl, ?_⟩
    refine hK.out _ _ ⟨cell_below hb4 (cell_below hb3 (cell_below hb2 hc0)), cell_below hb4 (cell_below hb3 (cell_below hb2 hc1))⟩ (fun hHeld => ?_)
    clear hK K
    refine norm_ (a' := ?_) ?_ ?_
    rotate_left
    · show Act.put _ (some 17) _ = _
      simp only [Act.put, List.setIfInBounds_toArray, List.set_cons_zero, List.set_cons_succ, i64_w, i32_w]
      rfl
    refine pure_ (i := 9) (N := some 18) (v := ?_) (a' := ?_) #[true, true, true, true, true, true, true, true, true, true, false] rfl rfl (by kernel_rfl) (fun _ _ _ h => h) (Or.inl ⟨by rfl, ?_⟩) ?_ ?_
    rotate_left
    · intro w'
      go_simp
      with_reducible rfl
    rotate_left
    · simp only [Act.put, List.setIfInBounds_toArray, List.set_cons_zero, List.set_cons_succ, i64_w, i32_w]
      rfl
    refine pure_ (i := 10) (N := some 4) (v := ?_) (a' := ?_) #[true, true, true, true, true, true, true, true, true, true, true] rfl rfl (by kernel_rfl) (fun _ _ _ h => h) (Or.inl ⟨by rfl, ?_⟩) ?_ ?_
    rotate_left
    · intro w'
      go_simp
      with_reducible rfl
    rotate_left
    · simp only [Act.put, List.setIfInBounds_toArray, List.set_cons_zero, List.set_cons_succ, i64_w, i32_w]
      rfl
    refine done_ (by kernel_rfl) ?_
    go_wp2
    go_ret
    exact ⟨rfl, (by repeat (first | exact Below.refl _ _ | apply below_alloc | apply below_drewN | apply below_drew | (refine below_set2 ?_ ?_; (first | (simp; done) | (simp; omega))) | (refine below_step ?_ hb4) | (refine below_step ?_ hb3) | (refine below_step ?_ hb2) | (refine below_step ?_ B1)))⟩
end Go.Proofs.Ytaphjehkpdjolaa
