/- The contract of mapmakerref14.Check. -/
import Derived.Test.YtniceoinipffmaaNRel14
namespace Go.Proofs.Ytniceoinipffmaa
open Go.RowKit Go.Proofs.YtniceoinipffmaaW.PrintLast
set_option linter.unusedVariables false
set_option linter.unusedSimpArgs false

theorem wayE_pos {ids : List Int} {l : List Way} {k : Nat} (h : wayE ids l k = none) : 1 ≤ (wyD l k).1 := by
  unfold wayE at h
  split at h
  · cases h
  · rename_i h0
    exact idZ_pos (show idE (fun i => (wyD l i).1) k = 0 by omega)
theorem relE_pos {ns ws : List Int} {l : List Rel} {k : Nat} (h : relE ns ws l k = none) : 1 ≤ (rlD l k).1 := by
  unfold relE at h
  split at h
  · cases h
  · rename_i h0
    exact idZ_pos (show idE (fun i => (rlD l i).1) k = 0 by omega)
theorem obj_nodes {ns : List Node} {ws : List Way} {rs : List Rel} (h : nodesErr ns ≠ 0) : nodesErr ns = objErr ns ws rs := by rw [objErr, if_pos h]
theorem obj_ways {ns : List Node} {ws : List Way} {rs : List Rel} (h : nodesErr ns = 0) {z : Int} (h2 : waysErr (ns.map (·.1)) ws = z) (h3 : z ≠ 0) : z = objErr ns ws rs := by
  subst h2; rw [objErr, if_neg (by simpa using h), if_pos h3]
theorem obj_rels {ns : List Node} {ws : List Way} {rs : List Rel} (h : nodesErr ns = 0) (h2 : waysErr (ns.map (·.1)) ws = 0) {z : Int} (h3 : relsErr (ns.map (·.1)) (ws.map (·.1)) rs = z) : z = objErr ns ws rs := by
  subst h3; rw [objErr, if_neg (by simpa using h), if_neg (by simpa using h2)]
theorem scan_ne {n : Nat} {f : Nat → Option Int} {k : Nat} {z : Int} (h : ∀ j, j < k → f j = none) (hk : k < n) (e : f k = some z) : scan n f = z := scan_hit h hk e
set_option maxRecDepth 20000 in
set_option maxHeartbeats 4000000 in
theorem ref14_Check {ok : Nat → Prop} (ns : List Node) (ws : List Way) (rs : List Rel) (A1 A2 A3 : Option Addr) (c1 c2 c3 : Nat) (w : World) (h1 : Row Ty.node ok w A1 ns) (h2 : Row Ty.way ok w A2 ws) (h3 : Row Ty.rel ok w A3 rs)
    (q1 : ns.length ≤ 10000) (q2 : ws.length ≤ 10000) (q3 : rs.length ≤ 10000) :
    Calls Try.prog 33 #[.agg #[.slice A1 ns.length c1, .slice A2 ws.length c2, .slice A3 rs.length c3]] w fun e w' => e = .returned (.int .i64 (objErr ns ws rs)) ∧ Below w.heap.size w w' := by
  have HR1 := Lib.hid h1
  have HR2 := Lib.hid h2
  have HR3 := Lib.hid h3
  have m1 : decide (10000 < (ns.length : Int)) = false := decide_eq_false (by omega)
  have m2 : decide (10000 < (ws.length : Int)) = false := decide_eq_false (by omega)
  have m3 : decide (10000 < (rs.length : Int)) = false := decide_eq_false (by omega)
  clear h1 h2 h3
  obtain ⟨W0, hW⟩ : ∃ W0, W0 = w.alloc (.cells #[.slice A1 ns.length c1, .slice A2 ws.length c2, .slice A3 rs.length c3] 26) := ⟨_, rfl⟩
  have B0 : Below w.heap.size w W0 := by rw [hW]; exact (by repeat (first | exact Below.refl _ _ | apply below_alloc | apply below_drewN | apply below_drew | (refine below_set2 ?_ ?_; (first | (simp; done) | (simp; omega)))))
  have hao : ∀ o : Nat, W0.cell? ⟨w.heap.size, o, none⟩ = #[.slice A1 ns.length c1, .slice A2 ws.length c2, .slice A3 rs.length c3][o]? := fun o => by rw [hW]; simp only [World.cell?, heap_alloc_new]; rfl
  have hc0 : W0.cell? ⟨w.heap.size, 0, none⟩ = some (.slice A1 ns.length c1) := hao 0
  have hc1 : W0.cell? ⟨w.heap.size, 1, none⟩ = some (.slice A2 ws.length c2) := hao 1
  have hc2 : W0.cell? ⟨w.heap.size, 2, none⟩ = some (.slice A3 rs.length c3) := hao 2
  clear hao
  go_enter Try.func33, Try.ntmps33
  go_wp2_with fail
  rw [← hW]
  clear hW m1 m2 m3
  refine (ref14_nodes ns A1 _ c1 W0 (HR1.out.below B0) rfl).mono ?_
  rintro e w1 ⟨rfl, hb1⟩
  have B1 : Below w.heap.size w w1 := (by repeat (first | exact Below.refl _ _ | apply below_alloc | apply below_drewN | apply below_drew | (refine below_set2 ?_ ?_; (first | (simp; done) | (simp; omega))) | (refine below_step ?_ hb1) | (refine below_step ?_ B0)))
  have hd0 := cell_below hb1 hc0
  have hd1 := cell_below hb1 hc1
  have hd2 := cell_below hb1 hc2
  clear hc0 hc1 hc2 hb1 B0
  obtain ⟨z, hz⟩ : ∃ z, z = nodesErr ns := ⟨_, rfl⟩
  rw [← hz]
  by_cases h0 : z = 0
  · subst h0
    have HZ1 := Lib.hid hz.symm
    clear hz
    go_wp2
    go_loopw [4, 5] (fun pv i wr => ∃ (k : Nat) (p : Int), k ≤ ws.length ∧ i = .int .i64 k ∧ pv = .int .i64 p ∧ 0 ≤ p ∧ Hid (k = 0 → p = 0) ∧ Hid (0 < k → p = (wyD ws (k - 1)).1 ∧ 1 ≤ p) ∧ Below w1.heap.size w1 wr ∧ Hid (∀ j, j < k → wayE (ns.map (·.1)) ws j = none)) (fun _ i _ => ws.length - (intOf i).toNat)
    case atStart => exact ⟨0, 0, Nat.zero_le _, rfl, rfl, Int.le_refl _, fun _ => rfl, fun h => absurd h (Nat.lt_irrefl _), Below.refl _ _, fun j hj => absurd hj (Nat.not_lt_zero _)⟩
    case round =>
      skip
      obtain ⟨k, p, hk, rfl, rfl, hp0, HP0, HP1, hb, HS⟩ := hrel
      have BW : Below w.heap.size w wr := (by repeat (first | exact Below.refl _ _ | apply below_alloc | apply below_drewN | apply below_drew | (refine below_set2 ?_ ?_; (first | (simp; done) | (simp; omega))) | (refine below_step ?_ hb) | (refine below_step ?_ B1)))
      have he0 := cell_below hb hd0
      have he1 := cell_below hb hd1
      have he2 := cell_below hb hd2
      by_cases hlt : k < ws.length
      · have HRk := Lib.hid (HR2.out.below BW)
        obtain ⟨ad, A4, c4, A5, c5, rfl, hx1, hx2, hx3, hl4, hr4, hl5, hr5⟩ := HRk.out.way_at k hlt
        have R4 := Lib.hid hr4
        have R5 := Lib.hid hr5
        clear hr4 hr5
        go_wp2_with fail
        refine (ref14_id (wyD ws k).1 p wr hp0).mono ?_
        rintro e w2 ⟨rfl, hb2⟩
        rw [idE_prev (f := fun i => (wyD ws i).1) HP0.out HP1.out]
        have BV : Below w1.heap.size w1 w2 := (by repeat (first | exact Below.refl _ _ | apply below_alloc | apply below_drewN | apply below_drew | (refine below_set2 ?_ ?_; (first | (simp; done) | (simp; omega))) | (refine below_step ?_ hb2) | (refine below_step ?_ hb)))
        have BVw : Below w.heap.size w w2 := (by repeat (first | exact Below.refl _ _ | apply below_alloc | apply below_drewN | apply below_drew | (refine below_set2 ?_ ?_; (first | (simp; done) | (simp; omega))) | (refine below_step ?_ hb2) | (refine below_step ?_ BW)))
        have hf0 := cell_below hb2 he0
        have hf1 := cell_below hb2 he1
        have hf2 := cell_below hb2 he2
        have hy1 := cell_below hb2 hx1
        have hy2 := cell_below hb2 hx2
        have hy3 := cell_below hb2 hx3
        have R42 := Lib.hid (R4.out.below hb2)
        have R52 := Lib.hid (R5.out.below hb2)
        clear he0 he1 he2 hx1 hx2 hx3 R4 R5
        obtain ⟨z, hz⟩ : ∃ z, z = idE (fun i => (wyD ws i).1) k := ⟨_, rfl⟩
        rw [← hz]
        by_cases h0 : z = 0
        · subst h0
          have HZ := Lib.hid hz.symm
          clear hz
          go_wp2_with fail
          refine start_ (n := 8) (S := fun w' => w'.cell? ⟨w.heap.size, 0, none⟩ = some (.slice A1 ns.length c1) ∧ w'.cell? ⟨w.heap.size, 1, none⟩ = some (.slice (some ad) ws.length c2) ∧ w'.cell? ⟨w.heap.size, 2, none⟩ = some (.slice A3 rs.length c3) ∧ w'.cell? (ad.add (k * 3)) = some (.int .i64 (wyD ws k).1) ∧ w'.cell? ⟨(ad.add (k * 3)).block, (ad.add (k * 3)).off + 1, none⟩ = some (.slice A4 (wyD ws k).2.1.length c4) ∧ w'.cell? ⟨(ad.add (k * 3)).block, (ad.add (k * 3)).off + 2, none⟩ = some (.slice A5 (wyD ws k).2.2.length c5)) (ds := []) #[false, false, false, false, false, false, false, false] (by kernel_rfl) rfl rfl ⟨hf0, hf1, hf2, hy1, hy2, hy3⟩ (fun hHeld => ?_)
          refine pure_ (i := 1) (N := some 52) (v := ?_) (a' := ?_) #[false, true, false, false, false, false, false, false] rfl rfl (by kernel_rfl) (fun _ _ _ h => h) (Or.inl ⟨by rfl, ?_⟩) ?_ ?_
          rotate_left
          · intro w'
            go_simp
            with_reducible rfl
          rotate_left
          · simp only [Act.put, List.setIfInBounds_toArray, List.set_cons_zero, List.set_cons_succ, i64_w, i32_w]
            rfl
          refine pure_ (i := 3) (N := some 54) (v := ?_) (a' := ?_) #[false, true, false, true, false, false, false, false] rfl rfl (by kernel_rfl) (fun _ _ _ h => h) (Or.inl ⟨by rfl, ?_⟩) ?_ ?_
          rotate_left
          · intro w'
            go_simp
            with_reducible rfl
          rotate_left
          · simp only [Act.put, List.setIfInBounds_toArray, List.set_cons_zero, List.set_cons_succ, i64_w, i32_w]
            rfl
          refine take_ (i := 0) (N := some 51) (v := ?_) (a' := ?_) #[true, true, false, true, false, false, false, false] rfl rfl (by kernel_rfl) (fun _ _ _ h => h) (Or.inl ⟨by rfl, ?_⟩) hHeld ?_ ?_
          rotate_left
          · rintro w' ⟨s0, s1, s2, s3, s4, s5⟩
            go_simp
            with_reducible rfl
          rotate_left
          · simp only [Act.put, List.setIfInBounds_toArray, List.set_cons_zero, List.set_cons_succ, i64_w, i32_w]
            rfl
          refine take_ (i := 2) (N := some 53) (v := ?_) (a' := ?_) #[true, true, true, true, false, false, false, false] rfl rfl (by kernel_rfl) (fun _ _ _ h => h) (Or.inl ⟨by rfl, ?_⟩) hHeld ?_ ?_
          rotate_left
          · rintro w' ⟨s0, s1, s2, s3, s4, s5⟩
            go_simp
            with_reducible rfl
          rotate_left
          · simp only [Act.put, List.setIfInBounds_toArray, List.set_cons_zero, List.set_cons_succ, i64_w, i32_w]
            rfl
          refine pure_ (i := 4) (N := some 55) (v := ?_) (a' := ?_) #[true, true, true, true, true, false, false, false] rfl rfl (by kernel_rfl) (fun _ _ _ h => h) (Or.inl ⟨by rfl, ?_⟩) ?_ ?_
          rotate_left
          · intro w'
            go_simp
            with_reducible rfl
          rotate_left
          · simp only [Act.put, List.setIfInBounds_toArray, List.set_cons_zero, List.set_cons_succ, i64_w, i32_w]
            rfl
          refine take_ (i := 5) (N := some 56) (v := ?_) (a' := ?_) #[true, true, true, true, true, true, false, false] rfl rfl (by kernel_rfl) (fun _ _ _ h => h) (Or.inl ⟨by rfl, ?_⟩) hHeld ?_ ?_
          rotate_left
          · rintro w' ⟨s0, s1, s2, s3, s4, s5⟩
            go_simp
            with_reducible rfl
          rotate_left
          · simp only [Act.put, List.setIfInBounds_toArray, List.set_cons_zero, List.set_cons_succ, i64_w, i32_w]
            rfl
          refine one_ (i := 6) (N := some 57) #[true, true, true, true, true, true, true, false] rfl rfl (by kernel_rfl) (by decide) (fun K hK => ?_)
          refine goes_ Try.func53 (by kernel_rfl) rfl #[.agg #[.slice A1 ns.length c1, .slice (some ad) ws.length c2, .slice A3 rs.length c3], .agg #[.int .i64 (wyD ws k).1, .slice A4 (wyD ws k).2.1.length c4, .slice A5 (wyD ws k).2.2.length c5]] (by rfl) rfl rfl (by simp only [List.map_toArray, List.map_cons, List.map_nil]; rfl) ?_
          with_reducible refine (ref14_way ns (wyD ws k) A1 A4 A5 c1 c4 c5 _ _ _ ((HR1.out.below BVw).below (below_drew (Below.refl _ _))) (R42.out.below (below_drew (Below.refl _ _))) (R52.out.below (below_drew (Below.refl _ _))) rfl rfl).mono ?_
          rintro e w3 ⟨rfl, hb3⟩
          refine ⟨_, rfl, ?_⟩
          refine hK.out _ _ ⟨cell_below hb3 hf0, cell_below hb3 hf1, cell_below hb3 hf2, cell_below hb3 hy1, cell_below hb3 hy2, cell_below hb3 hy3⟩ (fun hHeld => ?_)
          clear hK K
          refine norm_ (a' := ?_) ?_ ?_
          rotate_left
          · show Act.put _ (some 57) _ = _
            simp only [Act.put, List.setIfInBounds_toArray, List.set_cons_zero, List.set_cons_succ, i64_w, i32_w]
            rfl
          refine pure_ (i := 7) (N := some 7) (v := ?_) (a' := ?_) #[true, true, true, true, true, true, true, true] rfl rfl (by kernel_rfl) (fun _ _ _ h => h) (Or.inl ⟨by rfl, ?_⟩) ?_ ?_
          rotate_left
          · intro w'
            go_simp
            with_reducible rfl
          rotate_left
          · simp only [Act.put, List.setIfInBounds_toArray, List.set_cons_zero, List.set_cons_succ, i64_w, i32_w]
            rfl
          refine done_ (by kernel_rfl) ?_
          have BU : Below w1.heap.size w1 w3 := by refine below_step BV ?_; exact ⟨hb3.os, hb3.tape, hb3.output, hb3.size, hb3.block⟩
          have g0 : w3.cell? ⟨w.heap.size, 0, none⟩ = some (.slice A1 ns.length c1) := cell_below hb3 hf0
          have g1 : w3.cell? ⟨w.heap.size, 1, none⟩ = some (.slice (some ad) ws.length c2) := cell_below hb3 hf1
          have g2 : w3.cell? ⟨w.heap.size, 2, none⟩ = some (.slice A3 rs.length c3) := cell_below hb3 hf2
          have gy : w3.cell? (ad.add (k * 3)) = some (.int .i64 (wyD ws k).1) := cell_below hb3 hy1
          clear hf0 hf1 hf2 hy1 hy2 hy3 R42 R52
          obtain ⟨y, hy⟩ : ∃ y, y = wayB (ns.map (·.1)) (wyD ws k) := ⟨_, rfl⟩
          rw [← hy]
          by_cases h5 : y = 0
          · subst h5
            have HN := Lib.hid (wayE_ok HZ.out hy.symm)
            have hpos := wayE_pos HN.out
            clear hy
            go_wp2
            go_roundw
            case rel => exact ⟨k + 1, (wyD ws k).1, by omega, by go_num, rfl, by omega, fun h => absurd h (Nat.succ_ne_zero _), fun _ => ⟨rfl, hpos⟩, BU, below_succ HS.out HN.out⟩
            case measure => simp [intOf]; omega
          · have q5 : (y != 0) = true := by simp [h5]
            have HO : Hid (y = objErr ns ws rs) := obj_ways HZ1.out (scan_hit HS.out hlt (wayE_b HZ.out hy.symm h5)) h5
            clear hy h5
            go_wp2
            go_ret
            exact ⟨ret_int HO.out, (by repeat (first | exact Below.refl _ _ | apply below_alloc | apply below_drewN | apply below_drew | (refine below_set2 ?_ ?_; (first | (simp; done) | (simp; omega))) | (refine below_step ?_ BU) | (refine below_step ?_ B1)))⟩
        · have q5 : (z != 0) = true := by simp [h0]
          have HO : Hid (z = objErr ns ws rs) := obj_ways HZ1.out (by rw [hz]; exact scan_hit HS.out hlt (wayE_id (by rw [← hz]; exact h0))) h0
          clear hz h0
          go_wp2
          go_ret
          exact ⟨ret_int HO.out, (by repeat (first | exact Below.refl _ _ | apply below_alloc | apply below_drewN | apply below_drew | (refine below_set2 ?_ ?_; (first | (simp; done) | (simp; omega))) | (refine below_step ?_ BV) | (refine below_step ?_ B1)))⟩
      · obtain rfl : k = ws.length := by omega
        have HZ2 : Hid (waysErr (ns.map (·.1)) ws = 0) := scan_none HS.out
        have hbw := hb
        go_wp2
        go_loopw [4, 8] (fun pv i wr => ∃ (k : Nat) (p : Int), k ≤ rs.length ∧ i = .int .i64 k ∧ pv = .int .i64 p ∧ 0 ≤ p ∧ Hid (k = 0 → p = 0) ∧ Hid (0 < k → p = (rlD rs (k - 1)).1 ∧ 1 ≤ p) ∧ Below w1.heap.size w1 wr ∧ Hid (∀ j, j < k → relE (ns.map (·.1)) (ws.map (·.1)) rs j = none)) (fun _ i _ => rs.length - (intOf i).toNat)
        case atStart => exact ⟨0, 0, Nat.zero_le _, rfl, rfl, Int.le_refl _, fun _ => rfl, fun h => absurd h (Nat.lt_irrefl _), hbw, fun j hj => absurd hj (Nat.not_lt_zero _)⟩
        case round =>
          clear hb BW he0 he1 he2 HS hbw
          obtain ⟨k, p, hk, rfl, rfl, hp0, HP0, HP1, hb, HS⟩ := hrel
          have BW : Below w.heap.size w wr := (by repeat (first | exact Below.refl _ _ | apply below_alloc | apply below_drewN | apply below_drew | (refine below_set2 ?_ ?_; (first | (simp; done) | (simp; omega))) | (refine below_step ?_ hb) | (refine below_step ?_ B1)))
          have he0 := cell_below hb hd0
          have he1 := cell_below hb hd1
          have he2 := cell_below hb hd2
          by_cases hlt : k < rs.length
          · have HRk := Lib.hid (HR3.out.below BW)
            obtain ⟨ad, A4, c4, A5, c5, rfl, hx1, hx2, hx3, hl4, hr4, hl5, hr5⟩ := HRk.out.rel_at k hlt
            have R4 := Lib.hid hr4
            have R5 := Lib.hid hr5
            clear hr4 hr5
            go_wp2_with fail
            refine (ref14_id (rlD rs k).1 p wr hp0).mono ?_
            rintro e w2 ⟨rfl, hb2⟩
            rw [idE_prev (f := fun i => (rlD rs i).1) HP0.out HP1.out]
            have BV : Below w1.heap.size w1 w2 := (by repeat (first | exact Below.refl _ _ | apply below_alloc | apply below_drewN | apply below_drew | (refine below_set2 ?_ ?_; (first | (simp; done) | (simp; omega))) | (refine below_step ?_ hb2) | (refine below_step ?_ hb)))
            have BVw : Below w.heap.size w w2 := (by repeat (first | exact Below.refl _ _ | apply below_alloc | apply below_drewN | apply below_drew | (refine below_set2 ?_ ?_; (first | (simp; done) | (simp; omega))) | (refine below_step ?_ hb2) | (refine below_step ?_ BW)))
            have hf0 := cell_below hb2 he0
            have hf1 := cell_below hb2 he1
            have hf2 := cell_below hb2 he2
            have hy1 := cell_below hb2 hx1
            have hy2 := cell_below hb2 hx2
            have hy3 := cell_below hb2 hx3
            have R42 := Lib.hid (R4.out.below hb2)
            have R52 := Lib.hid (R5.out.below hb2)
            clear he0 he1 he2 hx1 hx2 hx3 R4 R5
            obtain ⟨z, hz⟩ : ∃ z, z = idE (fun i => (rlD rs i).1) k := ⟨_, rfl⟩
            rw [← hz]
            by_cases h0 : z = 0
            · subst h0
              have HZ := Lib.hid hz.symm
              clear hz
              go_wp2_with fail
              refine start_ (n := 8) (S := fun w' => w'.cell? ⟨w.heap.size, 0, none⟩ = some (.slice A1 ns.length c1) ∧ w'.cell? ⟨w.heap.size, 1, none⟩ = some (.slice A2 ws.length c2) ∧ w'.cell? ⟨w.heap.size, 2, none⟩ = some (.slice (some ad) rs.length c3) ∧ w'.cell? (ad.add (k * 3)) = some (.int .i64 (rlD rs k).1) ∧ w'.cell? ⟨(ad.add (k * 3)).block, (ad.add (k * 3)).off + 1, none⟩ = some (.slice A4 (rlD rs k).2.1.length c4) ∧ w'.cell? ⟨(ad.add (k * 3)).block, (ad.add (k * 3)).off + 2, none⟩ = some (.slice A5 (rlD rs k).2.2.length c5)) (ds := []) #[false, false, false, false, false, false, false, false] (by kernel_rfl) rfl rfl ⟨hf0, hf1, hf2, hy1, hy2, hy3⟩ (fun hHeld => ?_)
              refine pure_ (i := 1) (N := some 86) (v := ?_) (a' := ?_) #[false, true, false, false, false, false, false, false] rfl rfl (by kernel_rfl) (fun _ _ _ h => h) (Or.inl ⟨by rfl, ?_⟩) ?_ ?_
              rotate_left
              · intro w'
                go_simp
                with_reducible rfl
              rotate_left
              · simp only [Act.put, List.setIfInBounds_toArray, List.set_cons_zero, List.set_cons_succ, i64_w, i32_w]
                rfl
              refine pure_ (i := 3) (N := some 88) (v := ?_) (a' := ?_) #[false, true, false, true, false, false, false, false] rfl rfl (by kernel_rfl) (fun _ _ _ h => h) (Or.inl ⟨by rfl, ?_⟩) ?_ ?_
              rotate_left
              · intro w'
                go_simp
                with_reducible rfl
              rotate_left
              · simp only [Act.put, List.setIfInBounds_toArray, List.set_cons_zero, List.set_cons_succ, i64_w, i32_w]
                rfl
              refine take_ (i := 0) (N := some 85) (v := ?_) (a' := ?_) #[true, true, false, true, false, false, false, false] rfl rfl (by kernel_rfl) (fun _ _ _ h => h) (Or.inl ⟨by rfl, ?_⟩) hHeld ?_ ?_
              rotate_left
              · rintro w' ⟨s0, s1, s2, s3, s4, s5⟩
                go_simp
                with_reducible rfl
              rotate_left
              · simp only [Act.put, List.setIfInBounds_toArray, List.set_cons_zero, List.set_cons_succ, i64_w, i32_w]
                rfl
              refine take_ (i := 2) (N := some 87) (v := ?_) (a' := ?_) #[true, true, true, true, false, false, false, false] rfl rfl (by kernel_rfl) (fun _ _ _ h => h) (Or.inl ⟨by rfl, ?_⟩) hHeld ?_ ?_
              rotate_left
              · rintro w' ⟨s0, s1, s2, s3, s4, s5⟩
                go_simp
                with_reducible rfl
              rotate_left
              · simp only [Act.put, List.setIfInBounds_toArray, List.set_cons_zero, List.set_cons_succ, i64_w, i32_w]
                rfl
              refine pure_ (i := 4) (N := some 89) (v := ?_) (a' := ?_) #[true, true, true, true, true, false, false, false] rfl rfl (by kernel_rfl) (fun _ _ _ h => h) (Or.inl ⟨by rfl, ?_⟩) ?_ ?_
              rotate_left
              · intro w'
                go_simp
                with_reducible rfl
              rotate_left
              · simp only [Act.put, List.setIfInBounds_toArray, List.set_cons_zero, List.set_cons_succ, i64_w, i32_w]
                rfl
              refine take_ (i := 5) (N := some 90) (v := ?_) (a' := ?_) #[true, true, true, true, true, true, false, false] rfl rfl (by kernel_rfl) (fun _ _ _ h => h) (Or.inl ⟨by rfl, ?_⟩) hHeld ?_ ?_
              rotate_left
              · rintro w' ⟨s0, s1, s2, s3, s4, s5⟩
                go_simp
                with_reducible rfl
              rotate_left
              · simp only [Act.put, List.setIfInBounds_toArray, List.set_cons_zero, List.set_cons_succ, i64_w, i32_w]
                rfl
              refine one_ (i := 6) (N := some 91) #[true, true, true, true, true, true, true, false] rfl rfl (by kernel_rfl) (by decide) (fun K hK => ?_)
              refine goes_ Try.func54 (by kernel_rfl) rfl #[.agg #[.slice A1 ns.length c1, .slice A2 ws.length c2, .slice (some ad) rs.length c3], .agg #[.int .i64 (rlD rs k).1, .slice A4 (rlD rs k).2.1.length c4, .slice A5 (rlD rs k).2.2.length c5]] (by rfl) rfl rfl (by simp only [List.map_toArray, List.map_cons, List.map_nil]; rfl) ?_
              with_reducible refine (ref14_rel ns ws (rlD rs k) A1 A2 A4 A5 c1 c2 c4 c5 _ _ ((HR1.out.below BVw).below (below_drew (Below.refl _ _))) ((HR2.out.below BVw).below (below_drew (Below.refl _ _))) (R42.out.below (below_drew (Below.refl _ _))) (R52.out.below (below_drew (Below.refl _ _))) rfl).mono ?_
              rintro e w3 ⟨rfl, hb3⟩
              refine ⟨_, rfl, ?_⟩
              refine hK.out _ _ ⟨cell_below hb3 hf0, cell_below hb3 hf1, cell_below hb3 hf2, cell_below hb3 hy1, cell_below hb3 hy2, cell_below hb3 hy3⟩ (fun hHeld => ?_)
              clear hK K
              refine norm_ (a' := ?_) ?_ ?_
              rotate_left
              · show Act.put _ (some 91) _ = _
                simp only [Act.put, List.setIfInBounds_toArray, List.set_cons_zero, List.set_cons_succ, i64_w, i32_w]
                rfl
              refine pure_ (i := 7) (N := some 10) (v := ?_) (a' := ?_) #[true, true, true, true, true, true, true, true] rfl rfl (by kernel_rfl) (fun _ _ _ h => h) (Or.inl ⟨by rfl, ?_⟩) ?_ ?_
              rotate_left
              · intro w'
                go_simp
                with_reducible rfl
              rotate_left
              · simp only [Act.put, List.setIfInBounds_toArray, List.set_cons_zero, List.set_cons_succ, i64_w, i32_w]
                rfl
              refine done_ (by kernel_rfl) ?_
              have BU : Below w1.heap.size w1 w3 := by refine below_step BV ?_; exact ⟨hb3.os, hb3.tape, hb3.output, hb3.size, hb3.block⟩
              have g0 : w3.cell? ⟨w.heap.size, 0, none⟩ = some (.slice A1 ns.length c1) := cell_below hb3 hf0
              have g1 : w3.cell? ⟨w.heap.size, 1, none⟩ = some (.slice A2 ws.length c2) := cell_below hb3 hf1
              have g2 : w3.cell? ⟨w.heap.size, 2, none⟩ = some (.slice (some ad) rs.length c3) := cell_below hb3 hf2
              have gy : w3.cell? (ad.add (k * 3)) = some (.int .i64 (rlD rs k).1) := cell_below hb3 hy1
              clear hf0 hf1 hf2 hy1 hy2 hy3 R42 R52
              obtain ⟨y, hy⟩ : ∃ y, y = relB (ns.map (·.1)) (ws.map (·.1)) (rlD rs k) := ⟨_, rfl⟩
              rw [← hy]
              by_cases h5 : y = 0
              · subst h5
                have HN := Lib.hid (relE_ok HZ.out hy.symm)
                have hpos := relE_pos HN.out
                clear hy
                go_wp2
                go_roundw
                case rel => exact ⟨k + 1, (rlD rs k).1, by omega, by go_num, rfl, by omega, fun h => absurd h (Nat.succ_ne_zero _), fun _ => ⟨rfl, hpos⟩, BU, below_succ HS.out HN.out⟩
                case measure => simp [intOf]; omega
              · have q5 : (y != 0) = true := by simp [h5]
                have HO : Hid (y = objErr ns ws rs) := obj_rels HZ1.out HZ2.out (scan_hit HS.out hlt (relE_b HZ.out hy.symm h5))
                clear hy h5
                go_wp2
                go_ret
                exact ⟨ret_int HO.out, (by repeat (first | exact Below.refl _ _ | apply below_alloc | apply below_drewN | apply below_drew | (refine below_set2 ?_ ?_; (first | (simp; done) | (simp; omega))) | (refine below_step ?_ BU) | (refine below_step ?_ B1)))⟩
            · have q5 : (z != 0) = true := by simp [h0]
              have HO : Hid (z = objErr ns ws rs) := obj_rels HZ1.out HZ2.out (by rw [hz]; exact scan_hit HS.out hlt (relE_id (by rw [← hz]; exact h0)))
              clear hz h0
              go_wp2
              go_ret
              exact ⟨ret_int HO.out, (by repeat (first | exact Below.refl _ _ | apply below_alloc | apply below_drewN | apply below_drew | (refine below_set2 ?_ ?_; (first | (simp; done) | (simp; omega))) | (refine below_step ?_ BV) | (refine below_step ?_ B1)))⟩
          · obtain rfl : k = rs.length := by omega
            have HO : Hid ((0 : Int) = objErr ns ws rs) := obj_rels HZ1.out HZ2.out (scan_none HS.out)
            go_wp2
            go_ret
            exact ⟨ret_int HO.out, (by repeat (first | exact Below.refl _ _ | apply below_alloc | apply below_drewN | apply below_drew | (refine below_set2 ?_ ?_; (first | (simp; done) | (simp; omega))) | (refine below_step ?_ hb) | (refine below_step ?_ B1)))⟩
  · have q5 : (z != 0) = true := by simp [h0]
    have HO : Hid (z = objErr ns ws rs) := by show _ = _; rw [hz]; exact obj_nodes (by rw [← hz]; exact h0)
    clear h0 hz
    go_wp2
    go_ret
    exact ⟨ret_int HO.out, B1⟩
end Go.Proofs.Ytniceoinipffmaa
