/- The contract of mapmakerref14.rel. -/
import Derived.Test.YtniceoinipffmaaNHas
namespace Go.Proofs.Ytniceoinipffmaa
open Go.RowKit Go.Proofs.YtniceoinipffmaaW.PrintLast
set_option linter.unusedVariables false
set_option linter.unusedSimpArgs false

theorem any_of_at {α : Type} {l : List α} {p : α → Bool} {k : Nat} (hk : k < l.length) (d : α) (h : p (l.getD k d) = true) : l.any p = true := by
  rw [List.any_eq_true]; exact ⟨l[k], List.getElem_mem hk, by simpa [hk] using h⟩
theorem any_none {α : Type} {l : List α} {p : α → Bool} (d : α) (h : ∀ j, j < l.length → p (l.getD j d) = false) : l.any p = false := by
  rw [List.any_eq_false]
  intro y hy
  obtain ⟨j, hj, rfl⟩ := List.mem_iff_getElem.1 hy
  have := h j hj
  simpa [hj] using this
theorem miss_has {ns ws : List Int} {m : Mem} (h : m.1.1 = 1 ∨ m.1.1 = 2) : missB ns ws m = !hasB ns ws m.1 := by
  unfold missB hasB
  rcases h with h | h
  · simp [h]
  · simp [h]
theorem miss_other {ns ws : List Int} {m : Mem} (h1 : m.1.1 ≠ 1) (h2 : m.1.1 ≠ 2) : missB ns ws m = true := by
  simp [missB, h1, h2]
set_option maxRecDepth 20000 in
set_option maxHeartbeats 2000000 in
theorem ref14_rel {ok : Nat → Prop} (ns : List Node) (ws : List Way) (x : Rel) (A1 A2 B1 B2 : Option Addr) (c1 c2 d1 d2 : Nat) (ub : Value) (w : World) (h1 : Row Ty.node ok w A1 ns) (h2 : Row Ty.way ok w A2 ws) (h3 : Row Ty.mem ok w B1 x.2.1) (h4 : Row Ty.tag ok w B2 x.2.2) (ho2 : ub.oneCell' = true) :
    Calls Try.prog 54 #[.agg #[.slice A1 ns.length c1, .slice A2 ws.length c2, ub], .agg #[.int .i64 x.1, .slice B1 x.2.1.length d1, .slice B2 x.2.2.length d2]] w fun e w' => e = .returned (.int .i64 (relB (ns.map (·.1)) (ws.map (·.1)) x)) ∧ Below w.heap.size w w' := by
  have hlen := h3.len
  have R1 := Lib.hid h1
  have R2 := Lib.hid h2
  have R3 := Lib.hid h3
  have R4 := Lib.hid h4
  clear h1 h2 h3 h4
  obtain ⟨Wa, hWa⟩ : ∃ Wa, Wa = w.alloc (.cells #[.slice A1 ns.length c1, .slice A2 ws.length c2, ub] 26) := ⟨_, rfl⟩
  have z0 : Wa.heap.size = w.heap.size + 1 := by rw [hWa]; simp
  have B0 : Below w.heap.size w Wa := by rw [hWa]; exact (by repeat (first | exact Below.refl _ _ | apply below_alloc | apply below_drewN | apply below_drew | (refine below_set2 ?_ ?_; (first | (simp; done) | (simp; omega)))))
  have hao : ∀ o : Nat, Wa.cell? ⟨w.heap.size, o, none⟩ = #[.slice A1 ns.length c1, .slice A2 ws.length c2, ub][o]? := fun o => by rw [hWa]; simp only [World.cell?, heap_alloc_new]; rfl
  obtain ⟨W1, hW⟩ : ∃ W1, W1 = Wa.alloc (.cells #[.int .i64 x.1, .slice B1 x.2.1.length d1, .slice B2 x.2.2.length d2] 63) := ⟨_, rfl⟩
  have B1' : Below Wa.heap.size Wa W1 := by rw [hW]; exact (by repeat (first | exact Below.refl _ _ | apply below_alloc | apply below_drewN | apply below_drew | (refine below_set2 ?_ ?_; (first | (simp; done) | (simp; omega)))))
  have B : Below w.heap.size w W1 := (by repeat (first | exact Below.refl _ _ | apply below_alloc | apply below_drewN | apply below_drew | (refine below_set2 ?_ ?_; (first | (simp; done) | (simp; omega))) | (refine below_step ?_ B1') | (refine below_step ?_ B0)))
  have hc0 : W1.cell? ⟨w.heap.size, 0, none⟩ = some (.slice A1 ns.length c1) := cell_below B1' (hao 0)
  have hc1 : W1.cell? ⟨w.heap.size, 1, none⟩ = some (.slice A2 ws.length c2) := cell_below B1' (hao 1)
  have hc2 : W1.cell? ⟨w.heap.size, 2, none⟩ = some ub := cell_below B1' (hao 2)
  have hd1 : W1.cell? ⟨w.heap.size + 1, 1, none⟩ = some (.slice B1 x.2.1.length d1) := by rw [hW, ← z0]; simp only [World.cell?, heap_alloc_new]; rfl
  have hd2 : W1.cell? ⟨w.heap.size + 1, 2, none⟩ = some (.slice B2 x.2.2.length d2) := by rw [hW, ← z0]; simp only [World.cell?, heap_alloc_new]; rfl
  rw [hWa] at hW
  clear hWa z0 B0 hao B1'
  by_cases k1 : 200 < x.2.1.length
  · have q1 : decide (200 < (x.2.1.length : Int)) = true := decide_eq_true (by omega)
    have HM : Hid (relB (ns.map (·.1)) (ws.map (·.1)) x = 5) := by show _ = _; rw [relB, if_pos k1]
    clear k1
    go_enter Try.func54, Try.ntmps54
    go_wp2_with fail
    go_ret
    exact ⟨ret_int HM.out.symm, by rw [← hW]; exact B⟩
  · have q1 : decide (200 < (x.2.1.length : Int)) = false := decide_eq_false (by omega)
    have HM0 : Hid (x.2.1.any longB = true → relB (ns.map (·.1)) (ws.map (·.1)) x = 5) := fun h => by rw [relB, if_neg k1, if_pos h]
    have HM1 : Hid (x.2.1.any longB = false → x.2.1.any (missB (ns.map (·.1)) (ws.map (·.1))) = true → relB (ns.map (·.1)) (ws.map (·.1)) x = 9) := fun h h' => by rw [relB, if_neg k1, if_neg (by simp only [h]; decide), if_pos h']
    have HM2 : Hid (x.2.1.any longB = false → x.2.1.any (missB (ns.map (·.1)) (ws.map (·.1))) = false → relB (ns.map (·.1)) (ws.map (·.1)) x = tagErr x.2.2) := fun h h' => by rw [relB, if_neg k1, if_neg (by simp only [h]; decide), if_neg (by simp only [h']; decide)]
    clear k1
    go_enter Try.func54, Try.ntmps54
    go_wp2_with fail
    rw [← hW]
    clear hW
    go_loopw [5] (fun i wr => ∃ k : Nat, k ≤ x.2.1.length ∧ i = .int .i64 k ∧ Below W1.heap.size W1 wr ∧ Hid (∀ j, j < k → longB (meD x.2.1 j) = false)) (fun i _ => x.2.1.length - (intOf i).toNat)
    case atStart => exact ⟨0, Nat.zero_le _, rfl, Below.refl _ _, fun j hj => absurd hj (Nat.not_lt_zero _)⟩
    case round =>
      obtain ⟨k, hk, rfl, hb, HS⟩ := hrel
      have hf1 := cell_below hb hd1
      have BW : Below w.heap.size w wr := (by repeat (first | exact Below.refl _ _ | apply below_alloc | apply below_drewN | apply below_drew | (refine below_set2 ?_ ?_; (first | (simp; done) | (simp; omega))) | (refine below_step ?_ hb) | (refine below_step ?_ B)))
      by_cases hlt : k < x.2.1.length
      · obtain ⟨ad, rfl, hi0, hi1, hi2⟩ := (R3.out.below BW).mem_at k hlt
        cases hl : longB (meD x.2.1 k)
        · have q2 : decide (64 < ((meD x.2.1 k).2.size : Int)) = false := by rw [longB] at hl; exact decide_eq_false (by have := of_decide_eq_false hl; omega)
          have HN := Lib.hid (all_succ HS.out hl)
          clear hl
          go_wp2
          go_roundw
          case rel => exact ⟨k + 1, by omega, by go_num, hb, HN.out⟩
          case measure => simp [intOf]; omega
        · have q2 : decide (64 < ((meD x.2.1 k).2.size : Int)) = true := by rw [longB] at hl; exact decide_eq_true (by have := of_decide_eq_true hl; omega)
          have HN := Lib.hid (HM0.out (any_of_at hlt ((0, 0), ByteArray.empty) hl))
          clear hl
          go_wp2
          go_ret
          exact ⟨ret_int HN.out.symm, (by repeat (first | exact Below.refl _ _ | apply below_alloc | apply below_drewN | apply below_drew | (refine below_set2 ?_ ?_; (first | (simp; done) | (simp; omega))) | (refine below_step ?_ hb) | (refine below_step ?_ B)))⟩
      · obtain rfl : k = x.2.1.length := by omega
        have HL := Lib.hid (any_none ((0, 0), ByteArray.empty) HS.out)
        have HM1' := Lib.hid (HM1.out HL.out)
        have HM2' := Lib.hid (HM2.out HL.out)
        clear HS HM0 HM1 HM2 HL
        go_wp2
        go_loopw [6] (fun i wx => ∃ k : Nat, k ≤ x.2.1.length ∧ i = .int .i64 k ∧ Below W1.heap.size W1 wx ∧ Hid (∀ j, j < k → missB (ns.map (·.1)) (ws.map (·.1)) (meD x.2.1 j) = false)) (fun i _ => x.2.1.length - (intOf i).toNat)
        case atStart => exact ⟨0, Nat.zero_le _, rfl, hb, fun j hj => absurd hj (Nat.not_lt_zero _)⟩
        case round =>
          clear hb hf1 BW
          obtain ⟨k, hk, rfl, hb, HS⟩ := hrel
          have BW : Below w.heap.size w wr := (by repeat (first | exact Below.refl _ _ | apply below_alloc | apply below_drewN | apply below_drew | (refine below_set2 ?_ ?_; (first | (simp; done) | (simp; omega))) | (refine below_step ?_ hb) | (refine below_step ?_ B)))
          by_cases hlt : k < x.2.1.length
          · obtain ⟨ad, rfl, hi0, hi1, hi2⟩ := (R3.out.below BW).mem_at k hlt
            obtain ⟨Wp, hWp⟩ : ∃ Wp, Wp = wr.alloc (.cells #[.int .i64 (meD x.2.1 k).1.1, .int .i64 (meD x.2.1 k).1.2] 65) := ⟨_, rfl⟩
            have BP : Below wr.heap.size wr Wp := by rw [hWp]; exact (by repeat (first | exact Below.refl _ _ | apply below_alloc | apply below_drewN | apply below_drew | (refine below_set2 ?_ ?_; (first | (simp; done) | (simp; omega)))))
            have hp0 : Wp.cell? ⟨wr.heap.size, 0, none⟩ = some (.int .i64 (meD x.2.1 k).1.1) := by rw [hWp]; simp only [World.cell?, heap_alloc_new]; rfl
            have hp1 : Wp.cell? ⟨wr.heap.size, 1, none⟩ = some (.int .i64 (meD x.2.1 k).1.2) := by rw [hWp]; simp only [World.cell?, heap_alloc_new]; rfl
            have BX : Below W1.heap.size W1 Wp := (by repeat (first | exact Below.refl _ _ | apply below_alloc | apply below_drewN | apply below_drew | (refine below_set2 ?_ ?_; (first | (simp; done) | (simp; omega))) | (refine below_step ?_ BP) | (refine below_step ?_ hb)))
            have BY : Below w.heap.size w Wp := (by repeat (first | exact Below.refl _ _ | apply below_alloc | apply below_drewN | apply below_drew | (refine below_set2 ?_ ?_; (first | (simp; done) | (simp; omega))) | (refine below_step ?_ BX) | (refine below_step ?_ B)))
            have hf1 := cell_below hb hd1
            have he0 := cell_below BX hc0
            have he1 := cell_below BX hc1
            have he2 := cell_below BX hc2
            by_cases hk12 : (meD x.2.1 k).1.1 = 1 ∨ (meD x.2.1 k).1.1 = 2
            · have HMH := Lib.hid (miss_has (ns := ns.map (·.1)) (ws := ws.map (·.1)) hk12)
              have HK := Lib.hid hk12
              have hq : ((meD x.2.1 k).1.1 != 1) = false ∨ (((meD x.2.1 k).1.1 != 1) = true ∧ ((meD x.2.1 k).1.1 != 2) = false) := by
                rcases hk12 with h | h
                · exact .inl (by simp [h])
                · exact .inr ⟨by simp [h], by simp [h]⟩
              clear hk12
              rcases hq with hq1 | ⟨hq1, hq2⟩
              all_goals
                subst hWp
                go_wp2_with fail
                refine (ref14_Has ns ws A1 A2 c1 c2 ub (meD x.2.1 k).1 _ (R1.out.below BY) (R2.out.below BY) ho2 HK.out).mono ?_
                rintro e w2 ⟨rfl, hb2⟩
                have BV : Below W1.heap.size W1 w2 := (by repeat (first | exact Below.refl _ _ | apply below_alloc | apply below_drewN | apply below_drew | (refine below_set2 ?_ ?_; (first | (simp; done) | (simp; omega))) | (refine below_step ?_ hb2) | (refine below_step ?_ hb)))
                cases hh : hasB (ns.map (·.1)) (ws.map (·.1)) (meD x.2.1 k).1
                · have HN := Lib.hid (HM1'.out (any_of_at hlt ((0, 0), ByteArray.empty) (HMH.out.trans (by rw [hh]; rfl))))
                  clear hh
                  go_wp2
                  go_ret
                  exact ⟨ret_int HN.out.symm, (by repeat (first | exact Below.refl _ _ | apply below_alloc | apply below_drewN | apply below_drew | (refine below_set2 ?_ ?_; (first | (simp; done) | (simp; omega))) | (refine below_step ?_ BV) | (refine below_step ?_ B)))⟩
                · have HN := Lib.hid (all_succ HS.out (HMH.out.trans (by rw [hh]; rfl)))
                  clear hh
                  go_wp2
                  go_roundw
                  case rel => exact ⟨k + 1, by omega, by go_num, BV, HN.out⟩
                  case measure => simp [intOf]; omega
            · have h1' : (meD x.2.1 k).1.1 ≠ 1 := fun h => hk12 (.inl h)
              have h2' : (meD x.2.1 k).1.1 ≠ 2 := fun h => hk12 (.inr h)
              have hq1 : ((meD x.2.1 k).1.1 != 1) = true := by simp [h1']
              have hq2 : ((meD x.2.1 k).1.1 != 2) = true := by simp [h2']
              have HN := Lib.hid (HM1'.out (any_of_at hlt ((0, 0), ByteArray.empty) (miss_other h1' h2')))
              clear h1' h2' hk12
              subst hWp
              go_wp2
              go_ret
              exact ⟨ret_int HN.out.symm, BY⟩
          · obtain rfl : k = x.2.1.length := by omega
            have HN := Lib.hid (HM2'.out (any_none ((0, 0), ByteArray.empty) HS.out))
            have hf1 := cell_below hb hd1
            have hf2 := cell_below hb hd2
            clear HS
            go_wp2_with fail
            refine (ref06_Check x.2.2 B2 _ d2 _ (R4.out.below BW) rfl).mono ?_
            rintro e w2 ⟨rfl, hb2⟩
            go_wp2
            go_ret
            exact ⟨ret_int HN.out.symm, (by repeat (first | exact Below.refl _ _ | apply below_alloc | apply below_drewN | apply below_drew | (refine below_set2 ?_ ?_; (first | (simp; done) | (simp; omega))) | (refine below_step ?_ hb2) | (refine below_step ?_ BW)))⟩
end Go.Proofs.Ytniceoinipffmaa
