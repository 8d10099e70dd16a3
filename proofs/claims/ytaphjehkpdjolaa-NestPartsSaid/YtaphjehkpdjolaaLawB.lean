/- Contract of law22.NestParts. -/
import Derived.Test.YtaphjehkpdjolaaLawA
import Derived.Test.YtaphjehkpdjolaaPartsP
namespace Go.Proofs.Ytaphjehkpdjolaa
open Go.RowKit Go.Proofs.YtaphjehkpdjolaaW.PrintLast
set_option linter.unusedVariables false
set_option linter.unusedSimpArgs false

theorem mem_len {rs : Rings} (h : ∀ k, (rgD rs k).length ≤ 30) {r : Pts} (hr : r ∈ rs) : r.length ≤ 30 := by
  obtain ⟨k, hk, rfl⟩ := List.mem_iff_getElem.1 hr
  have := h k
  simpa [rgD, hk] using this

set_option maxRecDepth 4000 in
set_option maxHeartbeats 4000000 in
theorem law22_NestParts {ok : Nat → Prop} (rs : Rings) (A : Option Addr) (n c : Nat) (w : World) (hr : Row Ty.ring ok w A rs) (hn : n = rs.length) :
    Calls Try.prog 7 #[.slice A n c] w fun e w' => e = .returned (.bool true) ∧ Below w.heap.size w w' := by
  subst hn
  have HR := Lib.hid hr
  clear hr
  have HF := Lib.hid (law22_Few rs A rs.length c w HR.out rfl)
  cases hf : FewB rs
  · rw [hf] at HF
    go_enter Try.func7, Try.ntmps7
    go_wp2_with fail
    (refine (HF.out).mono ?_; rintro e w1 ⟨rfl, hb1⟩)
    go_wp2_with fail
    (refine (law22_lives _).mono ?_; rintro e w2 ⟨rfl, hb2⟩)
    go_wp2
    go_ret
    exact ⟨rfl, (by repeat (first | exact Below.refl _ _ | apply below_alloc | apply below_drewN | apply below_drew | (refine below_set2 ?_ ?_; (first | (simp; done) | (simp; omega))) | (refine below_step ?_ hb2) | (refine below_step ?_ hb1)))⟩
  · rw [hf] at HF
    have HF2 := Lib.hid hf
    have hS := FewB_parts hf
    have hS1 := hS.1
    have HS2 := Lib.hid hS.2
    clear hf hS
    by_cases hz : (polysR rs).2 = 0
    · obtain ⟨hP1, hP2⟩ := polys_parts hz
      obtain ⟨l, hl⟩ : ∃ l, l = (polysR rs).1 := ⟨_, rfl⟩
      rw [← hl] at hP1 hP2
      have HL := Lib.hid hl
      have HZ := Lib.hid hz
      have HP1 := Lib.hid hP1
      have HP2 := Lib.hid hP2
      clear hl hz hP1 hP2
      go_enter Try.func7, Try.ntmps7
      go_wp2_with fail
      (refine (HF.out).mono ?_; rintro e w1 ⟨rfl, hb1⟩)
      go_wp2_with fail
      refine (nest_Polygons rs _ _ _ _ (HR.out.below hb1) rfl HF2.out).mono ?_
      rintro e w2 ⟨A1, c1, rfl, hr1, hb2⟩
      rw [← HL.out] at hr1 ⊢
      rw [HZ.out]
      have R1 := Lib.hid hr1
      have hll := hr1.len
      have B2 : Below w.heap.size w w2 := (by repeat (first | exact Below.refl _ _ | apply below_alloc | apply below_drewN | apply below_drew | (refine below_set2 ?_ ?_; (first | (simp; done) | (simp; omega))) | (refine below_step ?_ hb2) | (refine below_step ?_ hb1)))
      clear hr1
      go_wp2_with fail
      go_loopw [5, 6] (fun q i wr => ∃ k : Nat, k ≤ l.length ∧ i = .int .i64 k ∧ q = .int .i64 ((cntP l k : Nat) : Int) ∧ Below w2.heap.size w2 wr) (fun _ i _ => l.length - (intOf i).toNat)
      case atStart => exact ⟨0, Nat.zero_le _, rfl, rfl, Below.refl _ _⟩
      case round =>
        obtain ⟨k, hk, rfl, rfl, hb⟩ := hrel
        obtain ⟨q, hq⟩ : ∃ q : Nat, q = cntP l k := ⟨_, rfl⟩
        rw [← hq]
        have hq2 : q ≤ 12 := by rw [hq]; have := cntP_le (l := l) k; have := HP2.out; omega
        have HQ := Lib.hid hq
        clear hq
        by_cases hlt : k < l.length
        · have hG := HP1.out k hlt
          have hcs := cntP_snoc hlt
          have hcl : cntP l (k + 1) ≤ 12 := by have := cntP_le (l := l) (k + 1); have := HP2.out; omega
          rw [← HQ.out] at hcs
          obtain ⟨ad, A0, c0, A2, c2, rfl, hc1, hc2, hl0, hr1, hl2, hr2⟩ := (R1.out.below hb).poly_at k hlt
          have RO := Lib.hid hr1
          have RH := Lib.hid hr2
          have hl30 : (pyD l k).1.length ≤ 1048576 ∧ ∀ m, (rgD (pyD l k).2 m).length ≤ 1048576 := by
            refine ⟨by have := mem_len HS2.out hG.1.1; omega, fun m => ?_⟩
            by_cases hm : m < (pyD l k).2.length
            · have := mem_len HS2.out (hG.2 (rgD (pyD l k).2 m) (by simp [rgD, hm])).1; omega
            · simp [rgD, List.getElem?_eq_none (Nat.le_of_not_lt hm)]
          have hlo := hl30.1
          have HL30 := Lib.hid hl30.2
          have qa : decide (area2 (pyD l k).1 ≤ 0) = false := decide_eq_false (by have := hG.1.2; omega)
          have HG := Lib.hid hG.2
          have HCS := Lib.hid hcs
          have hhn : q + 1 + (pyD l k).2.length ≤ 12 := by omega
          clear hr1 hr2 hG hcs hl30
          go_wp2_with fail
          (refine (ref11_Area2 (pyD l k).1 _ _ _ _ RO.out rfl hlo).mono ?_; rintro e w3 ⟨rfl, hb3⟩)
          have hd1 := cell_below hb3 hc1
          have hd2 := cell_below hb3 hc2
          have RO3 := Lib.hid (RO.out.below hb3)
          have RH3 := Lib.hid (RH.out.below hb3)
          clear hc1 hc2 RO RH
          go_wp2_with fail
          obtain ⟨wi, rfl⟩ : ∃ wi : World, wi = w3 := ⟨_, rfl⟩
          go_loopw [7] (fun j wr => ∃ m : Nat, m ≤ (pyD l k).2.length ∧ j = .int .i64 m ∧ Below wi.heap.size wi wr) (fun j _ => (pyD l k).2.length - (intOf j).toNat)
          case atStart => exact ⟨0, Nat.zero_le _, rfl, Below.refl _ _⟩
          case round =>
            obtain ⟨m, hm, rfl, hbi⟩ := hrel
            have he1 := cell_below hbi hd1
            have he2 := cell_below hbi hd2
            by_cases hlm : m < (pyD l k).2.length
            · obtain ⟨ah, Ar, cr, rfl, hf1, hl3, hr3⟩ := (RH3.out.below hbi).ring_at m hlm
              have RR := Lib.hid hr3
              have RO4 := Lib.hid (RO3.out.below hbi)
              have hGm := HG.out (rgD (pyD l k).2 m) (by simp [rgD, hlm])
              have qb : decide (0 ≤ area2 (rgD (pyD l k).2 m)) = false := decide_eq_false (by have := hGm.2.1; omega)
              have HW := hGm.2.2
              have hrl := HL30.out m
              clear hGm hr3
              go_wp2_with fail
              refine start_ (n := 27) (S := fun w' => w'.cell? ⟨(ad.add (k * 2)).block, (ad.add (k * 2)).off + 1, none⟩ = some (.slice (some ah) (pyD l k).2.length c2) ∧ w'.cell? (ad.add (k * 2)) = some (.slice A0 (pyD l k).1.length c0) ∧ w'.cell? (ah.add m) = some (.slice Ar (rgD (pyD l k).2 m).length cr)) (ds := []) #[false, false, false, false, false, false, false, false, false, false, false, false, false, false, false, false, false, false, false, false, false, false, false, false, false, false, false] (by kernel_rfl) rfl rfl ⟨he2, he1, hf1⟩ (fun hHeld => ?_)
              refine pure_ (i := 0) (N := some 57) (v := ?_) (a' := ?_) #[true, false, false, false, false, false, false, false, false, false, false, false, false, false, false, false, false, false, false, false, false, false, false, false, false, false, false] rfl rfl (by kernel_rfl) (fun _ _ _ h => h) (Or.inl ⟨by rfl, ?_⟩) ?_ ?_
              rotate_left
              · intro w'
                go_simp
                with_reducible rfl
              rotate_left
              · simp only [Act.put, List.setIfInBounds_toArray, List.set_cons_zero, List.set_cons_succ, i64_w, i32_w]
                rfl
              refine pure_ (i := 1) (N := some 58) (v := ?_) (a' := ?_) #[true, true, false, false, false, false, false, false, false, false, false, false, false, false, false, false, false, false, false, false, false, false, false, false, false, false, false] rfl rfl (by kernel_rfl) (fun _ _ _ h => h) (Or.inl ⟨by rfl, ?_⟩) ?_ ?_
              rotate_left
              · intro w'
                go_simp
                with_reducible rfl
              rotate_left
              · simp only [Act.put, List.setIfInBounds_toArray, List.set_cons_zero, List.set_cons_succ, i64_w, i32_w]
                rfl
              refine pure_ (i := 2) (N := some 59) (v := ?_) (a' := ?_) #[true, true, true, false, false, false, false, false, false, false, false, false, false, false, false, false, false, false, false, false, false, false, false, false, false, false, false] rfl rfl (by kernel_rfl) (fun _ _ _ h => h) (Or.inl ⟨by rfl, ?_⟩) ?_ ?_
              rotate_left
              · intro w'
                go_simp
                with_reducible rfl
              rotate_left
              · simp only [Act.put, List.setIfInBounds_toArray, List.set_cons_zero, List.set_cons_succ, i64_w, i32_w]
                rfl
              refine pure_ (i := 3) (N := some 60) (v := ?_) (a' := ?_) #[true, true, true, true, false, false, false, false, false, false, false, false, false, false, false, false, false, false, false, false, false, false, false, false, false, false, false] rfl rfl (by kernel_rfl) (fun _ _ _ h => h) (Or.inl ⟨by rfl, ?_⟩) ?_ ?_
              rotate_left
              · intro w'
                go_simp
                with_reducible rfl
              rotate_left
              · simp only [Act.put, List.setIfInBounds_toArray, List.set_cons_zero, List.set_cons_succ, i64_w, i32_w]
                rfl
              refine pure_ (i := 5) (N := some 62) (v := ?_) (a' := ?_) #[true, true, true, true, false, true, false, false, false, false, false, false, false, false, false, false, false, false, false, false, false, false, false, false, false, false, false] rfl rfl (by kernel_rfl) (fun _ _ _ h => h) (Or.inl ⟨by rfl, ?_⟩) ?_ ?_
              rotate_left
              · intro w'
                go_simp
                with_reducible rfl
              rotate_left
              · simp only [Act.put, List.setIfInBounds_toArray, List.set_cons_zero, List.set_cons_succ, i64_w, i32_w]
                rfl
              refine take_ (i := 4) (N := some 61) (v := ?_) (a' := ?_) #[true, true, true, true, true, true, false, false, false, false, false, false, false, false, false, false, false, false, false, false, false, false, false, false, false, false, false] rfl rfl (by kernel_rfl) (fun _ _ _ h => h) (Or.inl ⟨by rfl, ?_⟩) hHeld ?_ ?_
              rotate_left
              · rintro w' ⟨s0, s1, s2⟩
                go_simp
                with_reducible rfl
              rotate_left
              · simp only [Act.put, List.setIfInBounds_toArray, List.set_cons_zero, List.set_cons_succ, i64_w, i32_w]
                rfl
              refine pure_ (i := 6) (N := some 63) (v := ?_) (a' := ?_) #[true, true, true, true, true, true, true, false, false, false, false, false, false, false, false, false, false, false, false, false, false, false, false, false, false, false, false] rfl rfl (by kernel_rfl) (fun _ _ _ h => h) (Or.inl ⟨by rfl, ?_⟩) ?_ ?_
              rotate_left
              · intro w'
                go_simp
                with_reducible rfl
              rotate_left
              · simp only [Act.put, List.setIfInBounds_toArray, List.set_cons_zero, List.set_cons_succ, i64_w, i32_w]
                rfl
              refine take_ (i := 7) (N := some 64) (v := ?_) (a' := ?_) #[true, true, true, true, true, true, true, true, false, false, false, false, false, false, false, false, false, false, false, false, false, false, false, false, false, false, false] rfl rfl (by kernel_rfl) (fun _ _ _ h => h) (Or.inl ⟨by rfl, ?_⟩) hHeld ?_ ?_
              rotate_left
              · rintro w' ⟨s0, s1, s2⟩
                go_simp
                with_reducible rfl
              rotate_left
              · simp only [Act.put, List.setIfInBounds_toArray, List.set_cons_zero, List.set_cons_succ, i64_w, i32_w]
                rfl
              refine one_ (i := 8) (N := some 65) #[true, true, true, true, true, true, true, true, true, false, false, false, false, false, false, false, false, false, false, false, false, false, false, false, false, false, false] rfl rfl (by kernel_rfl) (by decide) (fun K hK => ?_)
              refine goes_ Try.func23 (by kernel_rfl) rfl #[.slice Ar (rgD (pyD l k).2 m).length cr] (by rfl) rfl rfl (by simp only [List.map_toArray, List.map_cons, List.map_nil]; rfl) ?_
              with_reducible refine (ref11_Area2 (rgD (pyD l k).2 m) _ _ _ _ (RR.out.below (below_drew (Below.refl _ _))) rfl hrl).mono ?_
              rintro e w4 ⟨rfl, hb4⟩
              refine ⟨_, rfl, ?_⟩
              refine hK.out _ _ ⟨cell_below hb4 he2, cell_below hb4 he1, cell_below hb4 hf1⟩ (fun hHeld => ?_)
              clear hK K
              refine norm_ (a' := ?_) ?_ ?_
              rotate_left
              · show Act.put _ (some 65) _ = _
                simp only [Act.put, List.setIfInBounds_toArray, List.set_cons_zero, List.set_cons_succ, i64_w, i32_w]
                rfl
              refine pure_ (i := 9) (N := some 66) (v := ?_) (a' := ?_) #[true, true, true, true, true, true, true, true, true, true, false, false, false, false, false, false, false, false, false, false, false, false, false, false, false, false, false] rfl rfl (by kernel_rfl) (fun _ _ _ h => h) (Or.inl ⟨by rfl, ?_⟩) ?_ ?_
              rotate_left
              · intro w'
                go_simp
                with_reducible rfl
              rotate_left
              · simp only [Act.put, List.setIfInBounds_toArray, List.set_cons_zero, List.set_cons_succ, i64_w, i32_w]
                rfl
              refine pure_ (i := 10) (N := some 67) (v := ?_) (a' := ?_) #[true, true, true, true, true, true, true, true, true, true, true, false, false, false, false, false, false, false, false, false, false, false, false, false, false, false, false] rfl rfl (by kernel_rfl) (fun _ _ _ h => h) (Or.inl ⟨by rfl, ?_⟩) ?_ ?_
              rotate_left
              · intro w'
                go_simp
                with_reducible rfl
              rotate_left
              · simp only [Act.put, List.setIfInBounds_toArray, List.set_cons_zero, List.set_cons_succ, i64_w, i32_w]
                rfl
              refine pure_ (i := 11) (N := some 68) (v := ?_) (a' := ?_) #[true, true, true, true, true, true, true, true, true, true, true, true, false, false, false, false, false, false, false, false, false, false, false, false, false, false, false] rfl rfl (by kernel_rfl) (fun _ _ _ h => h) (Or.inl ⟨by rfl, ?_⟩) ?_ ?_
              rotate_left
              · intro w'
                go_simp
                with_reducible rfl
              rotate_left
              · simp only [Act.put, List.setIfInBounds_toArray, List.set_cons_zero, List.set_cons_succ, i64_w, i32_w]
                rfl
              refine pure_ (i := 12) (N := some 69) (v := ?_) (a' := ?_) #[true, true, true, true, true, true, true, true, true, true, true, true, true, false, false, false, false, false, false, false, false, false, false, false, false, false, false] rfl rfl (by kernel_rfl) (fun _ _ _ h => h) (Or.inl ⟨by rfl, ?_⟩) ?_ ?_
              rotate_left
              · intro w'
                go_simp
                with_reducible rfl
              rotate_left
              · simp only [Act.put, List.setIfInBounds_toArray, List.set_cons_zero, List.set_cons_succ, i64_w, i32_w]
                rfl
              refine pure_ (i := 13) (N := some 70) (v := ?_) (a' := ?_) #[true, true, true, true, true, true, true, true, true, true, true, true, true, true, false, false, false, false, false, false, false, false, false, false, false, false, false] rfl rfl (by kernel_rfl) (fun _ _ _ h => h) (Or.inl ⟨by rfl, ?_⟩) ?_ ?_
              rotate_left
              · intro w'
                go_simp
                with_reducible rfl
              rotate_left
              · simp only [Act.put, List.setIfInBounds_toArray, List.set_cons_zero, List.set_cons_succ, i64_w, i32_w]
                rfl
              refine pure_ (i := 14) (N := some 71) (v := ?_) (a' := ?_) #[true, true, true, true, true, true, true, true, true, true, true, true, true, true, true, false, false, false, false, false, false, false, false, false, false, false, false] rfl rfl (by kernel_rfl) (fun _ _ _ h => h) (Or.inl ⟨by rfl, ?_⟩) ?_ ?_
              rotate_left
              · intro w'
                go_simp
                with_reducible rfl
              rotate_left
              · simp only [Act.put, List.setIfInBounds_toArray, List.set_cons_zero, List.set_cons_succ, i64_w, i32_w]
                rfl
              refine pure_ (i := 16) (N := some 73) (v := ?_) (a' := ?_) #[true, true, true, true, true, true, true, true, true, true, true, true, true, true, true, false, true, false, false, false, false, false, false, false, false, false, false] rfl rfl (by kernel_rfl) (fun _ _ _ h => h) (Or.inl ⟨by rfl, ?_⟩) ?_ ?_
              rotate_left
              · intro w'
                go_simp
                with_reducible rfl
              rotate_left
              · simp only [Act.put, List.setIfInBounds_toArray, List.set_cons_zero, List.set_cons_succ, i64_w, i32_w]
                rfl
              refine pure_ (i := 19) (N := some 76) (v := ?_) (a' := ?_) #[true, true, true, true, true, true, true, true, true, true, true, true, true, true, true, false, true, false, false, true, false, false, false, false, false, false, false] rfl rfl (by kernel_rfl) (fun _ _ _ h => h) (Or.inl ⟨by rfl, ?_⟩) ?_ ?_
              rotate_left
              · intro w'
                go_simp
                with_reducible rfl
              rotate_left
              · simp only [Act.put, List.setIfInBounds_toArray, List.set_cons_zero, List.set_cons_succ, i64_w, i32_w]
                rfl
              refine pure_ (i := 20) (N := some 77) (v := ?_) (a' := ?_) #[true, true, true, true, true, true, true, true, true, true, true, true, true, true, true, false, true, false, false, true, true, false, false, false, false, false, false] rfl rfl (by kernel_rfl) (fun _ _ _ h => h) (Or.inl ⟨by rfl, ?_⟩) ?_ ?_
              rotate_left
              · intro w'
                go_simp
                with_reducible rfl
              rotate_left
              · simp only [Act.put, List.setIfInBounds_toArray, List.set_cons_zero, List.set_cons_succ, i64_w, i32_w]
                rfl
              refine pure_ (i := 21) (N := some 78) (v := ?_) (a' := ?_) #[true, true, true, true, true, true, true, true, true, true, true, true, true, true, true, false, true, false, false, true, true, true, false, false, false, false, false] rfl rfl (by kernel_rfl) (fun _ _ _ h => h) (Or.inl ⟨by rfl, ?_⟩) ?_ ?_
              rotate_left
              · intro w'
                go_simp
                with_reducible rfl
              rotate_left
              · simp only [Act.put, List.setIfInBounds_toArray, List.set_cons_zero, List.set_cons_succ, i64_w, i32_w]
                rfl
              refine pure_ (i := 22) (N := some 79) (v := ?_) (a' := ?_) #[true, true, true, true, true, true, true, true, true, true, true, true, true, true, true, false, true, false, false, true, true, true, true, false, false, false, false] rfl rfl (by kernel_rfl) (fun _ _ _ h => h) (Or.inl ⟨by rfl, ?_⟩) ?_ ?_
              rotate_left
              · intro w'
                go_simp
                with_reducible rfl
              rotate_left
              · simp only [Act.put, List.setIfInBounds_toArray, List.set_cons_zero, List.set_cons_succ, i64_w, i32_w]
                rfl
              refine take_ (i := 15) (N := some 72) (v := ?_) (a' := ?_) #[true, true, true, true, true, true, true, true, true, true, true, true, true, true, true, true, true, false, false, true, true, true, true, false, false, false, false] rfl rfl (by kernel_rfl) (fun _ _ _ h => h) (Or.inl ⟨by rfl, ?_⟩) hHeld ?_ ?_
              rotate_left
              · rintro w' ⟨s0, s1, s2⟩
                go_simp
                with_reducible rfl
              rotate_left
              · simp only [Act.put, List.setIfInBounds_toArray, List.set_cons_zero, List.set_cons_succ, i64_w, i32_w]
                rfl
              refine pure_ (i := 17) (N := some 74) (v := ?_) (a' := ?_) #[true, true, true, true, true, true, true, true, true, true, true, true, true, true, true, true, true, true, false, true, true, true, true, false, false, false, false] rfl rfl (by kernel_rfl) (fun _ _ _ h => h) (Or.inl ⟨by rfl, ?_⟩) ?_ ?_
              rotate_left
              · intro w'
                go_simp
                with_reducible rfl
              rotate_left
              · simp only [Act.put, List.setIfInBounds_toArray, List.set_cons_zero, List.set_cons_succ, i64_w, i32_w]
                rfl
              refine take_ (i := 18) (N := some 75) (v := ?_) (a' := ?_) #[true, true, true, true, true, true, true, true, true, true, true, true, true, true, true, true, true, true, true, true, true, true, true, false, false, false, false] rfl rfl (by kernel_rfl) (fun _ _ _ h => h) (Or.inl ⟨by rfl, ?_⟩) hHeld ?_ ?_
              rotate_left
              · rintro w' ⟨s0, s1, s2⟩
                go_simp
                with_reducible rfl
              rotate_left
              · simp only [Act.put, List.setIfInBounds_toArray, List.set_cons_zero, List.set_cons_succ, i64_w, i32_w]
                rfl
              refine take_ (i := 23) (N := some 80) (v := ?_) (a' := ?_) #[true, true, true, true, true, true, true, true, true, true, true, true, true, true, true, true, true, true, true, true, true, true, true, true, false, false, false] rfl rfl (by kernel_rfl) (fun _ _ _ h => h) (Or.inl ⟨by rfl, ?_⟩) hHeld ?_ ?_
              rotate_left
              · rintro w' ⟨s0, s1, s2⟩
                go_simp
                with_reducible rfl
              rotate_left
              · simp only [Act.put, List.setIfInBounds_toArray, List.set_cons_zero, List.set_cons_succ, i64_w, i32_w]
                rfl
              refine one_ (i := 24) (N := some 81) #[true, true, true, true, true, true, true, true, true, true, true, true, true, true, true, true, true, true, true, true, true, true, true, true, true, false, false] rfl rfl (by kernel_rfl) (by decide) (fun K hK => ?_)
              refine goes_ Try.func13 (by kernel_rfl) rfl #[.slice Ar (rgD (pyD l k).2 m).length cr, .slice A0 (pyD l k).1.length c0] (by rfl) rfl rfl (by simp only [List.map_toArray, List.map_cons, List.map_nil]; rfl) ?_
              with_reducible refine (nest_Within (rgD (pyD l k).2 m) (pyD l k).1 _ _ _ _ _ _ _ ((RR.out.below (below_drew (Below.refl _ _))).below hb4) ((RO4.out.below (below_drew (Below.refl _ _))).below hb4) rfl rfl).mono ?_
              rintro e w5 ⟨rfl, hb5⟩
              refine ⟨_, rfl, ?_⟩
              refine hK.out _ _ ⟨cell_below hb5 (cell_below hb4 he2), cell_below hb5 (cell_below hb4 he1), cell_below hb5 (cell_below hb4 hf1)⟩ (fun hHeld => ?_)
              clear hK K
              refine norm_ (a' := ?_) ?_ ?_
              rotate_left
              · show Act.put _ (some 81) _ = _
                simp only [Act.put, List.setIfInBounds_toArray, List.set_cons_zero, List.set_cons_succ, i64_w, i32_w]
                rfl
              refine pure_ (i := 25) (N := some 82) (v := ?_) (a' := ?_) #[true, true, true, true, true, true, true, true, true, true, true, true, true, true, true, true, true, true, true, true, true, true, true, true, true, true, false] rfl rfl (by kernel_rfl) (fun _ _ _ h => h) (Or.inl ⟨by rfl, ?_⟩) ?_ ?_
              rotate_left
              · intro w'
                go_simp
                with_reducible rfl
              rotate_left
              · simp only [Act.put, List.setIfInBounds_toArray, List.set_cons_zero, List.set_cons_succ, i64_w, i32_w]
                rfl
              refine pure_ (i := 26) (N := some 83) (v := ?_) (a' := ?_) #[true, true, true, true, true, true, true, true, true, true, true, true, true, true, true, true, true, true, true, true, true, true, true, true, true, true, true] rfl rfl (by kernel_rfl) (fun _ _ _ h => h) (Or.inl ⟨by rfl, ?_⟩) ?_ ?_
              rotate_left
              · intro w'
                go_simp
                with_reducible rfl
              rotate_left
              · simp only [Act.put, List.setIfInBounds_toArray, List.set_cons_zero, List.set_cons_succ, i64_w, i32_w]
                rfl
              refine done_ (by kernel_rfl) ?_
              go_wp2
              go_roundw
              case rel => exact ⟨m + 1, by omega, by go_num, (by repeat (first | exact Below.refl _ _ | apply below_alloc | apply below_drewN | apply below_drew | (refine below_set2 ?_ ?_; (first | (simp; done) | (simp; omega))) | (refine below_step ?_ hb5) | (refine below_step ?_ hb4) | (refine below_step ?_ hbi)))⟩
              case measure => simp [intOf]; omega
            · go_wp2
              go_roundw
              case rel => exact ⟨k + 1, by omega, by go_num, congrArg (Value.int .i64) (by rw [HCS.out]; go_num), (by repeat (first | exact Below.refl _ _ | apply below_alloc | apply below_drewN | apply below_drew | (refine below_set2 ?_ ?_; (first | (simp; done) | (simp; omega))) | (refine below_step ?_ hbi) | (refine below_step ?_ hb3) | (refine below_step ?_ hb)))⟩
              case measure => simp [intOf]; omega
        · obtain rfl : k = l.length := by omega
          have HQ2 : Hid (q = rs.length) := HQ.out.trans HP2.out
          have hqe : ((q : Int) == (rs.length : Int)) = true := by rw [HQ2.out]; simp
          go_wp2_with fail
          (refine (law22_lives _).mono ?_; rintro e w4 ⟨rfl, hb4⟩)
          go_wp2
          go_ret
          exact ⟨rfl, (by repeat (first | exact Below.refl _ _ | apply below_alloc | apply below_drewN | apply below_drew | (refine below_set2 ?_ ?_; (first | (simp; done) | (simp; omega))) | (refine below_step ?_ hb4) | (refine below_step ?_ hb) | (refine below_step ?_ B2)))⟩
    · have hl := polys_bad hz
      obtain ⟨z, hze⟩ : ∃ z, z = (polysR rs).2 := ⟨_, rfl⟩
      have HL := Lib.hid hl
      have qz : (z != 0) = true := by rw [hze]; simp [hz]
      have HZ := Lib.hid hze
      clear hl hze hz
      go_enter Try.func7, Try.ntmps7
      go_wp2_with fail
      (refine (HF.out).mono ?_; rintro e w1 ⟨rfl, hb1⟩)
      go_wp2_with fail
      refine (nest_Polygons rs _ _ _ _ (HR.out.below hb1) rfl HF2.out).mono ?_
      rintro e w2 ⟨A1, c1, rfl, hr1, hb2⟩
      rw [HL.out, ← HZ.out, List.length_nil]
      clear hr1
      go_wp2_with fail
      (refine (law22_lives _).mono ?_; rintro e w3 ⟨rfl, hb3⟩)
      go_wp2
      go_ret
      exact ⟨rfl, (by repeat (first | exact Below.refl _ _ | apply below_alloc | apply below_drewN | apply below_drew | (refine below_set2 ?_ ?_; (first | (simp; done) | (simp; omega))) | (refine below_step ?_ hb3) | (refine below_step ?_ hb2) | (refine below_step ?_ hb1)))⟩
end Go.Proofs.Ytaphjehkpdjolaa
