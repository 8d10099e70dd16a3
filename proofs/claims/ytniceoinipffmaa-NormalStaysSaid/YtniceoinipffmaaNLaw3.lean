/- The law NormalStays, walked. -/
import Derived.Test.YtniceoinipffmaaNLaw2
namespace Go.Proofs.Ytniceoinipffmaa
open Go.RowKit Go.Proofs.YtniceoinipffmaaW.PrintLast
set_option linter.unusedVariables false
set_option linter.unusedSimpArgs false

theorem obj_parts {ns : List Node} {ws : List Way} {rs : List Rel} (h : objErr ns ws rs = 0) : nodesErr ns = 0 ∧ waysErr (ns.map (·.1)) ws = 0 := by
  by_cases h0 : nodesErr ns = 0
  · refine ⟨h0, ?_⟩
    by_cases h1 : waysErr (ns.map (·.1)) ws = 0
    · exact h1
    · rw [objErr, if_neg (by simpa using h0), if_pos h1] at h; exact h
  · rw [objErr, if_pos h0] at h; exact absurd h h0
theorem wayE_ne {ids : List Int} {l : List Way} : ∀ j e, wayE ids l j = some e → e ≠ 0 := by
  intro j e h
  unfold wayE at h
  split at h
  · rename_i h0; injection h with h; subst h; exact h0
  · split at h
    · rename_i h0; injection h with h; subst h; exact h0
    · cases h
theorem ways_take {ids : List Int} {ws : List Way} (h : waysErr ids ws = 0) (m : Nat) : waysErr ids (ws.take m) = 0 := by
  have h1 := scan_zero wayE_ne h
  refine scan_none (fun j hj => ?_)
  rw [List.length_take] at hj
  have hw : ∀ i, i ≤ j → wyD (ws.take m) i = wyD ws i := fun i hi => by
    simp only [wyD, List.getD_eq_getElem?_getD, List.getElem?_take]
    rw [if_pos (by omega)]
  have e1 : idE (fun i => (wyD (ws.take m) i).1) j = idE (fun i => (wyD ws i).1) j := by
    show idZ (wyD (ws.take m) j).1 (wyD (ws.take m) (j - 1)).1 (decide (j = 0)) = idZ (wyD ws j).1 (wyD ws (j - 1)).1 (decide (j = 0))
    rw [hw j (Nat.le_refl _), hw (j - 1) (by omega)]
  have := h1 j (by omega)
  unfold wayE at this ⊢
  rw [e1, hw j (Nat.le_refl _)]
  exact this
theorem obj_take {ns : List Node} {ws : List Way} {rs : List Rel} (h : objErr ns ws rs = 0) (m : Nat) : objErr ns (ws.take m) [] = 0 := by
  obtain ⟨h0, h1⟩ := obj_parts h
  rw [objErr, if_neg (by simpa using h0), if_neg (by simpa using ways_take h1 m)]
  exact scan_none (fun j hj => absurd hj (Nat.not_lt_zero _))
theorem obj_bare {ns : List Node} {ws : List Way} {rs : List Rel} (h : objErr ns ws rs = 0) : objErr ns ws [] = 0 := by
  have := obj_take h ws.length
  rwa [List.take_length] at this
theorem Row.take {α : Type} {T : Ty α} {ok : Nat → Prop} {w : World} {A : Option Addr} {xs : List α} (h : Row T ok w A xs) (m : Nat) : Row T ok w A (xs.take m) := by
  refine ⟨by have := h.len; rw [List.length_take]; omega, fun hp => ?_⟩
  have hp' : 0 < xs.length := by rw [List.length_take] at hp; omega
  obtain ⟨ad, e, hb, hc⟩ := h.2 hp'
  refine ⟨ad, e, hb, fun i x hx => hc i x ?_⟩
  rw [List.getElem?_take] at hx
  split at hx
  · exact hx
  · cases hx
theorem lines_bytes {ws : List Way} (f : Int → Option Pt) (m : Nat) (q : ws.length ≤ 10000) : ((linesZ f (ws.take m)).length + 1) * 80 ≤ 140737488355328 := by
  have h1 := lines_len f (ws.take m)
  rw [List.length_take] at h1; omega
theorem places_obj {ns : List Node} {ws : List Way} {rs : List Rel} (h : placesZ ns ws rs ≠ []) : objErr ns ws rs = 0 := by
  by_cases h0 : objErr ns ws rs = 0
  · exact h0
  · exact absurd (by rw [placesZ, if_neg h0]) h

set_option maxRecDepth 20000 in
set_option maxHeartbeats 1000000 in
theorem law19_NormalStays {ok : Nat → Prop} (ns : List Node) (ws : List Way) (rs : List Rel) (A1 A2 A3 : Option Addr) (c1 c2 c3 : Nat) (w : World) (h1 : Row Ty.node ok w A1 ns) (h2 : Row Ty.way ok w A2 ws) (h3 : Row Ty.rel ok w A3 rs) (hcap : ws.length ≤ c2) :
    Calls Try.prog 7 #[.agg #[.slice A1 ns.length c1, .slice A2 ws.length c2, .slice A3 rs.length c3]] w fun e w' => e = .returned (.bool true) ∧ Below w.heap.size w w' := by
  have HR1 := Lib.hid h1
  have HR2 := Lib.hid h2
  have HR3 := Lib.hid h3
  have HR2' : Hid (Row Ty.way (fun k => k < w.heap.size) w A2 ws) := h2.bnd.mono (fun k hk => hk.2)
  have HCAP := Lib.hid hcap
  have hl1 := h1.len
  clear h1 h2 h3 hcap
  obtain ⟨W0, hW⟩ : ∃ W0, W0 = w.alloc (.cells #[.slice A1 ns.length c1, .slice A2 ws.length c2, .slice A3 rs.length c3] 26) := ⟨_, rfl⟩
  have B0 : Below w.heap.size w W0 := by rw [hW]; exact (by repeat (first | exact Below.refl _ _ | apply below_alloc | apply below_drewN | apply below_drew | (refine below_set2 ?_ ?_; (first | (simp; done) | (simp; omega)))))
  have hao : ∀ o : Nat, W0.cell? ⟨w.heap.size, o, none⟩ = #[.slice A1 ns.length c1, .slice A2 ws.length c2, .slice A3 rs.length c3][o]? := fun o => by rw [hW]; simp only [World.cell?, heap_alloc_new]; rfl
  have hc0 : W0.cell? ⟨w.heap.size, 0, none⟩ = some (.slice A1 ns.length c1) := hao 0
  have hc1 : W0.cell? ⟨w.heap.size, 1, none⟩ = some (.slice A2 ws.length c2) := hao 1
  have hc2 : W0.cell? ⟨w.heap.size, 2, none⟩ = some (.slice A3 rs.length c3) := hao 2
  clear hao
  go_enter Try.func7, Try.ntmps7
  go_wp2_with fail
  rw [← hW]
  clear hW
  refine (law19_Few ns ws rs A1 A2 A3 c1 c2 c3 _ (HR1.out.below B0) (HR2.out.below B0) (HR3.out.below B0)).mono ?_
  rintro e w1 ⟨⟨b, rfl, himp⟩, hb1⟩
  have Bw1 : Below w.heap.size w w1 := (by repeat (first | exact Below.refl _ _ | apply below_alloc | apply below_drewN | apply below_drew | (refine below_set2 ?_ ?_; (first | (simp; done) | (simp; omega))) | (refine below_step ?_ hb1) | (refine below_step ?_ B0)))
  have d0 := cell_below hb1 hc0
  have d1 := cell_below hb1 hc1
  have d2 := cell_below hb1 hc2
  clear hc0 hc1 hc2 hb1
  cases b
  · go_wp2_with fail
    refine (law19_lives _).mono ?_
    rintro e w2 ⟨rfl, hb2⟩
    go_wp2
    go_ret
    exact ⟨rfl, (by repeat (first | exact Below.refl _ _ | apply below_alloc | apply below_drewN | apply below_drew | (refine below_set2 ?_ ?_; (first | (simp; done) | (simp; omega))) | (refine below_step ?_ hb2) | (refine below_step ?_ Bw1)))⟩
  have HF := Lib.hid (himp rfl)
  have q1 : ns.length ≤ 10000 := by have := HF.out.1; omega
  have q1' : ns.length ≤ 24 := by have := HF.out.1; omega
  have q2 : ws.length ≤ 10000 := by have := HF.out.2.1; omega
  have q3 : rs.length ≤ 10000 := by have := HF.out.2.2.1; omega
  have q4 := Lib.hid HF.out.ways
  clear himp HF
  by_cases hn0 : ns.length = 0
  · have hq : ((ns.length : Int) == 0) = true := by simp [hn0]
    clear hn0
    go_wp2_with fail
    refine (law19_lives _).mono ?_
    rintro e w2 ⟨rfl, hb2⟩
    go_wp2
    go_ret
    exact ⟨rfl, (by repeat (first | exact Below.refl _ _ | apply below_alloc | apply below_drewN | apply below_drew | (refine below_set2 ?_ ?_; (first | (simp; done) | (simp; omega))) | (refine below_step ?_ hb2) | (refine below_step ?_ Bw1)))⟩
  have hq : ((ns.length : Int) == 0) = false := beq_eq_false_iff_ne.2 (by omega)
  clear hn0
  go_wp2_with fail
  refine (normal_Points ns ws rs A1 A2 A3 c1 c2 c3 _ (HR1.out.below Bw1) (HR2.out.below Bw1) (HR3.out.below Bw1) q1 q2 q3).mono ?_
  rintro e w2 ⟨v, rfl, ho, hb2⟩
  obtain ⟨P, kp, rfl, _, _⟩ := ho.reads
  have Bw2 : Below w.heap.size w w2 := (by repeat (first | exact Below.refl _ _ | apply below_alloc | apply below_drewN | apply below_drew | (refine below_set2 ?_ ?_; (first | (simp; done) | (simp; omega))) | (refine below_step ?_ hb2) | (refine below_step ?_ Bw1)))
  have e0 := cell_below hb2 d0
  have e1 := cell_below hb2 d1
  have e2 := cell_below hb2 d2
  clear ho hb2 d0 d1 d2 hq
  by_cases hp0 : (placesZ ns ws rs).length = 0
  · have hq : (((placesZ ns ws rs).length : Int) == 0) = true := by simp [hp0]
    clear hp0
    go_wp2_with fail
    refine (law19_lives _).mono ?_
    rintro e w3 ⟨rfl, hb3⟩
    go_wp2
    go_ret
    exact ⟨rfl, (by repeat (first | exact Below.refl _ _ | apply below_alloc | apply below_drewN | apply below_drew | (refine below_set2 ?_ ?_; (first | (simp; done) | (simp; omega))) | (refine below_step ?_ hb3) | (refine below_step ?_ Bw2)))⟩
  have hq : (((placesZ ns ws rs).length : Int) == 0) = false := by simp; intro e; rw [e] at hp0; exact hp0 rfl
  have HOB : Hid (objErr ns ws rs = 0) := places_obj (fun e => hp0 (by rw [e]; rfl))
  have HPE : Hid (placesZ ns ws [] = placesZ ns ws rs) := by show _ = _; rw [placesZ, placesZ, if_pos HOB.out, if_pos (obj_bare HOB.out)]
  have HFE : Hid (ptF ns ws [] = ptF ns ws rs) := by show _ = _; rw [ptF_ok HOB.out, ptF_ok (obj_bare HOB.out)]
  have HPB : Hid (∀ W, Below w.heap.size w W → Calls Try.prog 12 #[.agg #[.slice A1 ns.length c1, .slice A2 ws.length c2, .slice none 0 0]] W fun e w' => ∃ v, e = .returned v ∧ Own1 Ty.place 48 W.heap.size w' v (placesZ ns ws rs) ∧ Below W.heap.size W w') := fun W hW => by
    have := normal_Points ns ws [] A1 A2 none c1 c2 0 W (HR1.out.below hW) (HR2.out.below hW) (Row.nil _ _ _ _) q1 q2 (by simp)
    rw [HPE.out] at this; exact this
  have HLB : Hid (∀ W, Below w.heap.size w W → Calls Try.prog 17 #[.agg #[.slice A1 ns.length c1, .slice A2 ws.length c2, .slice none 0 0]] W fun e w' => ∃ v, e = .returned v ∧ Own1 Ty.line 42 W.heap.size w' v (linesZ (ptF ns ws rs) ws) ∧ Below W.heap.size W w') := fun W hW => by
    have := normal_Lines ns ws [] A1 A2 none c1 c2 0 W (HR1.out.below hW) (HR2.out.below hW) (Row.nil _ _ _ _) q1 q2 (by simp) q4.out
    rw [HFE.out] at this; exact this
  have HMB : Hid (∀ W, Below w.heap.size w W → Calls Try.prog 20 #[.agg #[.slice A1 ns.length c1, .slice A2 ws.length c2, .slice none 0 0]] W fun e w' => ∃ v, e = .returned v ∧ Own1 Ty.ids 39 W.heap.size w' v (mergedZ (placesZ ns ws rs)) ∧ Below W.heap.size W w') := fun W hW => by
    have := normal_Merged ns ws [] A1 A2 none c1 c2 0 W (HR1.out.below hW) (HR2.out.below hW) (Row.nil _ _ _ _) q1' q2 (by simp)
    rw [HPE.out] at this; exact this
  have HPD : Hid (∀ W, Below w.heap.size w W → Calls Try.prog 12 #[.agg #[.slice A1 ns.length c1, .slice A2 ws.length c2, .slice A3 rs.length c3]] W fun e w' => ∃ v, e = .returned v ∧ Own1 Ty.place 48 W.heap.size w' v (placesZ ns ws rs) ∧ Below W.heap.size W w') := fun W hW => normal_Points ns ws rs A1 A2 A3 c1 c2 c3 W (HR1.out.below hW) (HR2.out.below hW) (HR3.out.below hW) q1 q2 q3
  have HLD : Hid (∀ W, Below w.heap.size w W → Calls Try.prog 17 #[.agg #[.slice A1 ns.length c1, .slice A2 ws.length c2, .slice A3 rs.length c3]] W fun e w' => ∃ v, e = .returned v ∧ Own1 Ty.line 42 W.heap.size w' v (linesZ (ptF ns ws rs) ws) ∧ Below W.heap.size W w') := fun W hW => normal_Lines ns ws rs A1 A2 A3 c1 c2 c3 W (HR1.out.below hW) (HR2.out.below hW) (HR3.out.below hW) q1 q2 q3 q4.out
  have HMD : Hid (∀ W, Below w.heap.size w W → Calls Try.prog 20 #[.agg #[.slice A1 ns.length c1, .slice A2 ws.length c2, .slice A3 rs.length c3]] W fun e w' => ∃ v, e = .returned v ∧ Own1 Ty.ids 39 W.heap.size w' v (mergedZ (placesZ ns ws rs)) ∧ Below W.heap.size W w') := fun W hW => normal_Merged ns ws rs A1 A2 A3 c1 c2 c3 W (HR1.out.below hW) (HR2.out.below hW) (HR3.out.below hW) q1' q2 q3
  clear hp0
  obtain ⟨Wb, hWb⟩ : ∃ Wb, Wb = w2.alloc (.cells #[.slice A1 ns.length c1, .slice A2 ws.length c2, .slice none 0 0] 26) := ⟨_, rfl⟩
  have Bb : Below w2.heap.size w2 Wb := by rw [hWb]; exact (by repeat (first | exact Below.refl _ _ | apply below_alloc | apply below_drewN | apply below_drew | (refine below_set2 ?_ ?_; (first | (simp; done) | (simp; omega)))))
  have B3 : Below w.heap.size w Wb := (by repeat (first | exact Below.refl _ _ | apply below_alloc | apply below_drewN | apply below_drew | (refine below_set2 ?_ ?_; (first | (simp; done) | (simp; omega))) | (refine below_step ?_ Bb) | (refine below_step ?_ Bw2)))
  have b0 : Wb.cell? ⟨w2.heap.size, 0, none⟩ = some (.slice A1 ns.length c1) := by rw [hWb]; simp only [World.cell?, heap_alloc_new]; rfl
  have b1 : Wb.cell? ⟨w2.heap.size, 1, none⟩ = some (.slice A2 ws.length c2) := by rw [hWb]; simp only [World.cell?, heap_alloc_new]; rfl
  have b2 : Wb.cell? ⟨w2.heap.size, 2, none⟩ = some (.slice none 0 0) := by rw [hWb]; simp only [World.cell?, heap_alloc_new]; rfl
  have g0 := cell_below Bb e0
  have g1 := cell_below Bb e1
  have g2 := cell_below Bb e2
  have Bd3 : Below w.heap.size w Wb.drew := below_drew B3
  go_wp2_with fail
  rw [← hWb]
  clear hWb Bb e0 e1 e2 hq
  refine start_ (n := 22) (S := fun w' => w'.cell? ⟨w.heap.size, 0, none⟩ = some (.slice A1 ns.length c1) ∧ w'.cell? ⟨w.heap.size, 1, none⟩ = some (.slice A2 ws.length c2) ∧ w'.cell? ⟨w.heap.size, 2, none⟩ = some (.slice A3 rs.length c3) ∧ w'.cell? ⟨w2.heap.size, 0, none⟩ = some (.slice A1 ns.length c1) ∧ w'.cell? ⟨w2.heap.size, 1, none⟩ = some (.slice A2 ws.length c2) ∧ w'.cell? ⟨w2.heap.size, 2, none⟩ = some (.slice none 0 0)) (ds := []) #[false, false, false, false, false, false, false, false, false, false, false, false, false, false, false, false, false, false, false, false, false, false] (by kernel_rfl) rfl rfl ⟨g0, g1, g2, b0, b1, b2⟩ (fun hHeld => ?_)
  refine take_ (i := 0) (N := some 29) (v := ?_) (a' := ?_) #[true, false, false, false, false, false, false, false, false, false, false, false, false, false, false, false, false, false, false, false, false, false] rfl rfl (by kernel_rfl) (fun _ _ _ h => h) (Or.inl ⟨by rfl, ?_⟩) hHeld ?_ ?_
  rotate_left
  · rintro w' ⟨s0, s1, s2, s3, s4, s5⟩
    go_simp
    with_reducible rfl
  rotate_left
  · simp only [Act.put, List.setIfInBounds_toArray, List.set_cons_zero, List.set_cons_succ, i64_w, i32_w]
    rfl
  refine take_ (i := 2) (N := some 31) (v := ?_) (a' := ?_) #[true, false, true, false, false, false, false, false, false, false, false, false, false, false, false, false, false, false, false, false, false, false] rfl rfl (by kernel_rfl) (fun _ _ _ h => h) (Or.inl ⟨by rfl, ?_⟩) hHeld ?_ ?_
  rotate_left
  · rintro w' ⟨s0, s1, s2, s3, s4, s5⟩
    go_simp
    with_reducible rfl
  rotate_left
  · simp only [Act.put, List.setIfInBounds_toArray, List.set_cons_zero, List.set_cons_succ, i64_w, i32_w]
    rfl
  refine one_ (i := 1) (N := some 30) #[true, true, true, false, false, false, false, false, false, false, false, false, false, false, false, false, false, false, false, false, false, false] rfl rfl (by kernel_rfl) (by decide) (fun K hK => ?_)
  refine goes_ Try.func12 (by kernel_rfl) rfl #[.agg #[.slice A1 ns.length c1, .slice A2 ws.length c2, .slice none 0 0]] (by rfl) rfl rfl (by simp only [List.map_toArray, List.map_cons, List.map_nil]; rfl) ?_
  with_reducible refine (HPB.out _ Bd3).mono ?_
  rintro e wz1 ⟨vz1, rfl, hoz1, hbz1⟩
  refine ⟨_, rfl, ?_⟩
  have z1g0 := cell_below hbz1 g0
  have z1g1 := cell_below hbz1 g1
  have z1g2 := cell_below hbz1 g2
  have z1g3 := cell_below hbz1 b0
  have z1g4 := cell_below hbz1 b1
  have z1g5 := cell_below hbz1 b2
  have Bz1 : Below w.heap.size w wz1 := (by repeat (first | exact Below.refl _ _ | apply below_alloc | apply below_drewN | apply below_drew | (refine below_set2 ?_ ?_; (first | (simp; done) | (simp; omega))) | (refine below_step ?_ hbz1) | (refine below_step ?_ B3)))
  obtain ⟨Pz1, kz1, rfl, _, hrz1⟩ := hoz1.reads
  have Rz1 := Lib.hid hrz1
  clear hoz1 hrz1
  refine hK.out _ _ ⟨z1g0, z1g1, z1g2, z1g3, z1g4, z1g5⟩ (fun hHeld => ?_)
  clear hK K
  refine norm_ (a' := ?_) ?_ ?_
  rotate_left
  · show Act.put _ (some 30) _ = _
    simp only [Act.put, List.setIfInBounds_toArray, List.set_cons_zero, List.set_cons_succ, i64_w, i32_w]
    rfl
  refine one_ (i := 3) (N := some 32) #[true, true, true, true, false, false, false, false, false, false, false, false, false, false, false, false, false, false, false, false, false, false] rfl rfl (by kernel_rfl) (by decide) (fun K hK => ?_)
  refine goes_ Try.func12 (by kernel_rfl) rfl #[.agg #[.slice A1 ns.length c1, .slice A2 ws.length c2, .slice A3 rs.length c3]] (by rfl) rfl rfl (by simp only [List.map_toArray, List.map_cons, List.map_nil]; rfl) ?_
  with_reducible refine (HPD.out _ Bz1).mono ?_
  rintro e wz2 ⟨vz2, rfl, hoz2, hbz2⟩
  refine ⟨_, rfl, ?_⟩
  have z2g0 := cell_below hbz2 z1g0
  have z2g1 := cell_below hbz2 z1g1
  have z2g2 := cell_below hbz2 z1g2
  have z2g3 := cell_below hbz2 z1g3
  have z2g4 := cell_below hbz2 z1g4
  have z2g5 := cell_below hbz2 z1g5
  have Bz2 : Below w.heap.size w wz2 := (by repeat (first | exact Below.refl _ _ | apply below_alloc | apply below_drewN | apply below_drew | (refine below_set2 ?_ ?_; (first | (simp; done) | (simp; omega))) | (refine below_step ?_ hbz2) | (refine below_step ?_ Bz1)))
  obtain ⟨Pz2, kz2, rfl, _, hrz2⟩ := hoz2.reads
  have Rz2 := Lib.hid hrz2
  clear hoz2 hrz2
  refine hK.out _ _ ⟨z2g0, z2g1, z2g2, z2g3, z2g4, z2g5⟩ (fun hHeld => ?_)
  clear hK K
  refine norm_ (a' := ?_) ?_ ?_
  rotate_left
  · show Act.put _ (some 32) _ = _
    simp only [Act.put, List.setIfInBounds_toArray, List.set_cons_zero, List.set_cons_succ, i64_w, i32_w]
    rfl
  refine one_ (i := 4) (N := some 33) #[true, true, true, true, true, false, false, false, false, false, false, false, false, false, false, false, false, false, false, false, false, false] rfl rfl (by kernel_rfl) (by decide) (fun K hK => ?_)
  refine goes_ Try.func11 (by kernel_rfl) rfl #[.slice Pz1 (placesZ ns ws rs).length kz1, .slice Pz2 (placesZ ns ws rs).length kz2] (by rfl) rfl rfl (by simp only [List.map_toArray, List.map_cons, List.map_nil]; rfl) ?_
  with_reducible refine (law19_samePlaces (placesZ ns ws rs) Pz1 Pz2 _ _ kz1 kz2 _ (Rz1.out.below hbz2) Rz2.out rfl rfl).mono ?_
  rintro e wz3 ⟨rfl, hbz3⟩
  refine ⟨_, rfl, ?_⟩
  have z3g0 := cell_below hbz3 z2g0
  have z3g1 := cell_below hbz3 z2g1
  have z3g2 := cell_below hbz3 z2g2
  have z3g3 := cell_below hbz3 z2g3
  have z3g4 := cell_below hbz3 z2g4
  have z3g5 := cell_below hbz3 z2g5
  have Bz3 : Below w.heap.size w wz3 := (by repeat (first | exact Below.refl _ _ | apply below_alloc | apply below_drewN | apply below_drew | (refine below_set2 ?_ ?_; (first | (simp; done) | (simp; omega))) | (refine below_step ?_ hbz3) | (refine below_step ?_ Bz2)))
  refine hK.out _ _ ⟨z3g0, z3g1, z3g2, z3g3, z3g4, z3g5⟩ (fun hHeld => ?_)
  clear hK K
  refine norm_ (a' := ?_) ?_ ?_
  rotate_left
  · show Act.put _ (some 33) _ = _
    simp only [Act.put, List.setIfInBounds_toArray, List.set_cons_zero, List.set_cons_succ, i64_w, i32_w]
    rfl
  refine pure_ (i := 5) (N := some 34) (v := ?_) (a' := ?_) #[true, true, true, true, true, true, false, false, false, false, false, false, false, false, false, false, false, false, false, false, false, false] rfl rfl (by kernel_rfl) (fun _ _ _ h => h) (Or.inl ⟨by rfl, ?_⟩) ?_ ?_
  rotate_left
  · intro w'
    go_simp
    with_reducible rfl
  rotate_left
  · simp only [Act.put, List.setIfInBounds_toArray, List.set_cons_zero, List.set_cons_succ, i64_w, i32_w]
    rfl
  refine pure_ (i := 6) (N := some 35) (v := ?_) (a' := ?_) #[true, true, true, true, true, true, true, false, false, false, false, false, false, false, false, false, false, false, false, false, false, false] rfl rfl (by kernel_rfl) (fun _ _ _ h => h) (Or.inl ⟨by rfl, ?_⟩) ?_ ?_
  rotate_left
  · intro w'
    go_simp
    with_reducible rfl
  rotate_left
  · simp only [Act.put, List.setIfInBounds_toArray, List.set_cons_zero, List.set_cons_succ, i64_w, i32_w]
    rfl
  refine take_ (i := 7) (N := some 36) (v := ?_) (a' := ?_) #[true, true, true, true, true, true, true, true, false, false, false, false, false, false, false, false, false, false, false, false, false, false] rfl rfl (by kernel_rfl) (fun _ _ _ h => h) (Or.inl ⟨by rfl, ?_⟩) hHeld ?_ ?_
  rotate_left
  · rintro w' ⟨s0, s1, s2, s3, s4, s5⟩
    go_simp
    with_reducible rfl
  rotate_left
  · simp only [Act.put, List.setIfInBounds_toArray, List.set_cons_zero, List.set_cons_succ, i64_w, i32_w]
    rfl
  refine take_ (i := 9) (N := some 38) (v := ?_) (a' := ?_) #[true, true, true, true, true, true, true, true, false, true, false, false, false, false, false, false, false, false, false, false, false, false] rfl rfl (by kernel_rfl) (fun _ _ _ h => h) (Or.inl ⟨by rfl, ?_⟩) hHeld ?_ ?_
  rotate_left
  · rintro w' ⟨s0, s1, s2, s3, s4, s5⟩
    go_simp
    with_reducible rfl
  rotate_left
  · simp only [Act.put, List.setIfInBounds_toArray, List.set_cons_zero, List.set_cons_succ, i64_w, i32_w]
    rfl
  refine one_ (i := 8) (N := some 37) #[true, true, true, true, true, true, true, true, true, true, false, false, false, false, false, false, false, false, false, false, false, false] rfl rfl (by kernel_rfl) (by decide) (fun K hK => ?_)
  refine goes_ Try.func17 (by kernel_rfl) rfl #[.agg #[.slice A1 ns.length c1, .slice A2 ws.length c2, .slice none 0 0]] (by rfl) rfl rfl (by simp only [List.map_toArray, List.map_cons, List.map_nil]; rfl) ?_
  with_reducible refine (HLB.out _ Bz3).mono ?_
  rintro e wz4 ⟨vz4, rfl, hoz4, hbz4⟩
  refine ⟨_, rfl, ?_⟩
  have z4g0 := cell_below hbz4 z3g0
  have z4g1 := cell_below hbz4 z3g1
  have z4g2 := cell_below hbz4 z3g2
  have z4g3 := cell_below hbz4 z3g3
  have z4g4 := cell_below hbz4 z3g4
  have z4g5 := cell_below hbz4 z3g5
  have Bz4 : Below w.heap.size w wz4 := (by repeat (first | exact Below.refl _ _ | apply below_alloc | apply below_drewN | apply below_drew | (refine below_set2 ?_ ?_; (first | (simp; done) | (simp; omega))) | (refine below_step ?_ hbz4) | (refine below_step ?_ Bz3)))
  obtain ⟨Pz4, kz4, rfl, _, hrz4⟩ := hoz4.reads
  have Rz4 := Lib.hid hrz4
  clear hoz4 hrz4
  refine hK.out _ _ ⟨z4g0, z4g1, z4g2, z4g3, z4g4, z4g5⟩ (fun hHeld => ?_)
  clear hK K
  refine norm_ (a' := ?_) ?_ ?_
  rotate_left
  · show Act.put _ (some 37) _ = _
    simp only [Act.put, List.setIfInBounds_toArray, List.set_cons_zero, List.set_cons_succ, i64_w, i32_w]
    rfl
  refine one_ (i := 10) (N := some 39) #[true, true, true, true, true, true, true, true, true, true, true, false, false, false, false, false, false, false, false, false, false, false] rfl rfl (by kernel_rfl) (by decide) (fun K hK => ?_)
  refine goes_ Try.func17 (by kernel_rfl) rfl #[.agg #[.slice A1 ns.length c1, .slice A2 ws.length c2, .slice A3 rs.length c3]] (by rfl) rfl rfl (by simp only [List.map_toArray, List.map_cons, List.map_nil]; rfl) ?_
  with_reducible refine (HLD.out _ Bz4).mono ?_
  rintro e wz5 ⟨vz5, rfl, hoz5, hbz5⟩
  refine ⟨_, rfl, ?_⟩
  have z5g0 := cell_below hbz5 z4g0
  have z5g1 := cell_below hbz5 z4g1
  have z5g2 := cell_below hbz5 z4g2
  have z5g3 := cell_below hbz5 z4g3
  have z5g4 := cell_below hbz5 z4g4
  have z5g5 := cell_below hbz5 z4g5
  have Bz5 : Below w.heap.size w wz5 := (by repeat (first | exact Below.refl _ _ | apply below_alloc | apply below_drewN | apply below_drew | (refine below_set2 ?_ ?_; (first | (simp; done) | (simp; omega))) | (refine below_step ?_ hbz5) | (refine below_step ?_ Bz4)))
  obtain ⟨Pz5, kz5, rfl, _, hrz5⟩ := hoz5.reads
  have Rz5 := Lib.hid hrz5
  clear hoz5 hrz5
  refine hK.out _ _ ⟨z5g0, z5g1, z5g2, z5g3, z5g4, z5g5⟩ (fun hHeld => ?_)
  clear hK K
  refine norm_ (a' := ?_) ?_ ?_
  rotate_left
  · show Act.put _ (some 39) _ = _
    simp only [Act.put, List.setIfInBounds_toArray, List.set_cons_zero, List.set_cons_succ, i64_w, i32_w]
    rfl
  refine one_ (i := 11) (N := some 40) #[true, true, true, true, true, true, true, true, true, true, true, true, false, false, false, false, false, false, false, false, false, false] rfl rfl (by kernel_rfl) (by decide) (fun K hK => ?_)
  refine goes_ Try.func16 (by kernel_rfl) rfl #[.slice Pz4 (linesZ (ptF ns ws rs) ws).length kz4, .slice Pz5 (linesZ (ptF ns ws rs) ws).length kz5] (by rfl) rfl rfl (by simp only [List.map_toArray, List.map_cons, List.map_nil]; rfl) ?_
  with_reducible refine (law19_sameLines (linesZ (ptF ns ws rs) ws) Pz4 Pz5 _ _ kz4 kz5 _ (Rz4.out.below hbz5) Rz5.out rfl rfl).mono ?_
  rintro e wz6 ⟨rfl, hbz6⟩
  refine ⟨_, rfl, ?_⟩
  have z6g0 := cell_below hbz6 z5g0
  have z6g1 := cell_below hbz6 z5g1
  have z6g2 := cell_below hbz6 z5g2
  have z6g3 := cell_below hbz6 z5g3
  have z6g4 := cell_below hbz6 z5g4
  have z6g5 := cell_below hbz6 z5g5
  have Bz6 : Below w.heap.size w wz6 := (by repeat (first | exact Below.refl _ _ | apply below_alloc | apply below_drewN | apply below_drew | (refine below_set2 ?_ ?_; (first | (simp; done) | (simp; omega))) | (refine below_step ?_ hbz6) | (refine below_step ?_ Bz5)))
  refine hK.out _ _ ⟨z6g0, z6g1, z6g2, z6g3, z6g4, z6g5⟩ (fun hHeld => ?_)
  clear hK K
  refine norm_ (a' := ?_) ?_ ?_
  rotate_left
  · show Act.put _ (some 40) _ = _
    simp only [Act.put, List.setIfInBounds_toArray, List.set_cons_zero, List.set_cons_succ, i64_w, i32_w]
    rfl
  refine pure_ (i := 12) (N := some 41) (v := ?_) (a' := ?_) #[true, true, true, true, true, true, true, true, true, true, true, true, true, false, false, false, false, false, false, false, false, false] rfl rfl (by kernel_rfl) (fun _ _ _ h => h) (Or.inl ⟨by rfl, ?_⟩) ?_ ?_
  rotate_left
  · intro w'
    go_simp
    with_reducible rfl
  rotate_left
  · simp only [Act.put, List.setIfInBounds_toArray, List.set_cons_zero, List.set_cons_succ, i64_w, i32_w]
    rfl
  refine pure_ (i := 13) (N := some 42) (v := ?_) (a' := ?_) #[true, true, true, true, true, true, true, true, true, true, true, true, true, true, false, false, false, false, false, false, false, false] rfl rfl (by kernel_rfl) (fun _ _ _ h => h) (Or.inl ⟨by rfl, ?_⟩) ?_ ?_
  rotate_left
  · intro w'
    go_simp
    with_reducible rfl
  rotate_left
  · simp only [Act.put, List.setIfInBounds_toArray, List.set_cons_zero, List.set_cons_succ, i64_w, i32_w]
    rfl
  refine pure_ (i := 14) (N := some 43) (v := ?_) (a' := ?_) #[true, true, true, true, true, true, true, true, true, true, true, true, true, true, true, false, false, false, false, false, false, false] rfl rfl (by kernel_rfl) (fun _ _ _ h => h) (Or.inl ⟨by rfl, ?_⟩) ?_ ?_
  rotate_left
  · intro w'
    go_simp
    with_reducible rfl
  rotate_left
  · simp only [Act.put, List.setIfInBounds_toArray, List.set_cons_zero, List.set_cons_succ, i64_w, i32_w]
    rfl
  refine take_ (i := 15) (N := some 44) (v := ?_) (a' := ?_) #[true, true, true, true, true, true, true, true, true, true, true, true, true, true, true, true, false, false, false, false, false, false] rfl rfl (by kernel_rfl) (fun _ _ _ h => h) (Or.inl ⟨by rfl, ?_⟩) hHeld ?_ ?_
  rotate_left
  · rintro w' ⟨s0, s1, s2, s3, s4, s5⟩
    go_simp
    with_reducible rfl
  rotate_left
  · simp only [Act.put, List.setIfInBounds_toArray, List.set_cons_zero, List.set_cons_succ, i64_w, i32_w]
    rfl
  refine take_ (i := 17) (N := some 46) (v := ?_) (a' := ?_) #[true, true, true, true, true, true, true, true, true, true, true, true, true, true, true, true, false, true, false, false, false, false] rfl rfl (by kernel_rfl) (fun _ _ _ h => h) (Or.inl ⟨by rfl, ?_⟩) hHeld ?_ ?_
  rotate_left
  · rintro w' ⟨s0, s1, s2, s3, s4, s5⟩
    go_simp
    with_reducible rfl
  rotate_left
  · simp only [Act.put, List.setIfInBounds_toArray, List.set_cons_zero, List.set_cons_succ, i64_w, i32_w]
    rfl
  refine one_ (i := 16) (N := some 45) #[true, true, true, true, true, true, true, true, true, true, true, true, true, true, true, true, true, true, false, false, false, false] rfl rfl (by kernel_rfl) (by decide) (fun K hK => ?_)
  refine goes_ Try.func20 (by kernel_rfl) rfl #[.agg #[.slice A1 ns.length c1, .slice A2 ws.length c2, .slice none 0 0]] (by rfl) rfl rfl (by simp only [List.map_toArray, List.map_cons, List.map_nil]; rfl) ?_
  with_reducible refine (HMB.out _ Bz6).mono ?_
  rintro e wz7 ⟨vz7, rfl, hoz7, hbz7⟩
  refine ⟨_, rfl, ?_⟩
  have z7g0 := cell_below hbz7 z6g0
  have z7g1 := cell_below hbz7 z6g1
  have z7g2 := cell_below hbz7 z6g2
  have z7g3 := cell_below hbz7 z6g3
  have z7g4 := cell_below hbz7 z6g4
  have z7g5 := cell_below hbz7 z6g5
  have Bz7 : Below w.heap.size w wz7 := (by repeat (first | exact Below.refl _ _ | apply below_alloc | apply below_drewN | apply below_drew | (refine below_set2 ?_ ?_; (first | (simp; done) | (simp; omega))) | (refine below_step ?_ hbz7) | (refine below_step ?_ Bz6)))
  obtain ⟨Pz7, kz7, rfl, _, hrz7⟩ := hoz7.reads
  have Rz7 := Lib.hid hrz7
  clear hoz7 hrz7
  refine hK.out _ _ ⟨z7g0, z7g1, z7g2, z7g3, z7g4, z7g5⟩ (fun hHeld => ?_)
  clear hK K
  refine norm_ (a' := ?_) ?_ ?_
  rotate_left
  · show Act.put _ (some 45) _ = _
    simp only [Act.put, List.setIfInBounds_toArray, List.set_cons_zero, List.set_cons_succ, i64_w, i32_w]
    rfl
  refine one_ (i := 18) (N := some 47) #[true, true, true, true, true, true, true, true, true, true, true, true, true, true, true, true, true, true, true, false, false, false] rfl rfl (by kernel_rfl) (by decide) (fun K hK => ?_)
  refine goes_ Try.func20 (by kernel_rfl) rfl #[.agg #[.slice A1 ns.length c1, .slice A2 ws.length c2, .slice A3 rs.length c3]] (by rfl) rfl rfl (by simp only [List.map_toArray, List.map_cons, List.map_nil]; rfl) ?_
  with_reducible refine (HMD.out _ Bz7).mono ?_
  rintro e wz8 ⟨vz8, rfl, hoz8, hbz8⟩
  refine ⟨_, rfl, ?_⟩
  have z8g0 := cell_below hbz8 z7g0
  have z8g1 := cell_below hbz8 z7g1
  have z8g2 := cell_below hbz8 z7g2
  have z8g3 := cell_below hbz8 z7g3
  have z8g4 := cell_below hbz8 z7g4
  have z8g5 := cell_below hbz8 z7g5
  have Bz8 : Below w.heap.size w wz8 := (by repeat (first | exact Below.refl _ _ | apply below_alloc | apply below_drewN | apply below_drew | (refine below_set2 ?_ ?_; (first | (simp; done) | (simp; omega))) | (refine below_step ?_ hbz8) | (refine below_step ?_ Bz7)))
  obtain ⟨Pz8, kz8, rfl, _, hrz8⟩ := hoz8.reads
  have Rz8 := Lib.hid hrz8
  clear hoz8 hrz8
  refine hK.out _ _ ⟨z8g0, z8g1, z8g2, z8g3, z8g4, z8g5⟩ (fun hHeld => ?_)
  clear hK K
  refine norm_ (a' := ?_) ?_ ?_
  rotate_left
  · show Act.put _ (some 47) _ = _
    simp only [Act.put, List.setIfInBounds_toArray, List.set_cons_zero, List.set_cons_succ, i64_w, i32_w]
    rfl
  refine one_ (i := 19) (N := some 48) #[true, true, true, true, true, true, true, true, true, true, true, true, true, true, true, true, true, true, true, true, false, false] rfl rfl (by kernel_rfl) (by decide) (fun K hK => ?_)
  refine goes_ Try.func19 (by kernel_rfl) rfl #[.slice Pz7 (mergedZ (placesZ ns ws rs)).length kz7, .slice Pz8 (mergedZ (placesZ ns ws rs)).length kz8] (by rfl) rfl rfl (by simp only [List.map_toArray, List.map_cons, List.map_nil]; rfl) ?_
  with_reducible refine (law19_sameSets (mergedZ (placesZ ns ws rs)) Pz7 Pz8 _ _ kz7 kz8 _ (Rz7.out.below hbz8) Rz8.out rfl rfl).mono ?_
  rintro e w9 ⟨rfl, hb9⟩
  refine ⟨_, rfl, ?_⟩
  have s90 := cell_below hb9 z8g0
  have s91 := cell_below hb9 z8g1
  have s92 := cell_below hb9 z8g2
  have s93 := cell_below hb9 z8g3
  have s94 := cell_below hb9 z8g4
  have s95 := cell_below hb9 z8g5
  have B9 : Below w.heap.size w w9 := (by repeat (first | exact Below.refl _ _ | apply below_alloc | apply below_drewN | apply below_drew | (refine below_set2 ?_ ?_; (first | (simp; done) | (simp; omega))) | (refine below_step ?_ hb9) | (refine below_step ?_ Bz8)))
  refine hK.out _ _ ⟨s90, s91, s92, s93, s94, s95⟩ (fun hHeld => ?_)
  clear hK K
  refine norm_ (a' := ?_) ?_ ?_
  rotate_left
  · show Act.put _ (some 48) _ = _
    simp only [Act.put, List.setIfInBounds_toArray, List.set_cons_zero, List.set_cons_succ, i64_w, i32_w]
    rfl
  refine pure_ (i := 20) (N := some 49) (v := ?_) (a' := ?_) #[true, true, true, true, true, true, true, true, true, true, true, true, true, true, true, true, true, true, true, true, true, false] rfl rfl (by kernel_rfl) (fun _ _ _ h => h) (Or.inl ⟨by rfl, ?_⟩) ?_ ?_
  rotate_left
  · intro w'
    go_simp
    with_reducible rfl
  rotate_left
  · simp only [Act.put, List.setIfInBounds_toArray, List.set_cons_zero, List.set_cons_succ, i64_w, i32_w]
    rfl
  refine pure_ (i := 21) (N := some 50) (v := ?_) (a' := ?_) #[true, true, true, true, true, true, true, true, true, true, true, true, true, true, true, true, true, true, true, true, true, true] rfl rfl (by kernel_rfl) (fun _ _ _ h => h) (Or.inl ⟨by rfl, ?_⟩) ?_ ?_
  rotate_left
  · intro w'
    go_simp
    with_reducible rfl
  rotate_left
  · simp only [Act.put, List.setIfInBounds_toArray, List.set_cons_zero, List.set_cons_succ, i64_w, i32_w]
    rfl
  refine done_ (by kernel_rfl) ?_
  clear HPB HLB HMB HPD HMD hHeld
  have k0 := s90
  have k1 := s91
  have k2 := s92
  clear s90 s91 s92
  by_cases hw0 : ws.length = 0
  · have hq : ((ws.length : Int) == 0) = true := by simp [hw0]
    clear hw0
    go_wp2_with fail
    refine (law19_lives _).mono ?_
    rintro e w20 ⟨rfl, hb20⟩
    go_wp2
    go_ret
    exact ⟨rfl, (by repeat (first | exact Below.refl _ _ | apply below_alloc | apply below_drewN | apply below_drew | (refine below_set2 ?_ ?_; (first | (simp; done) | (simp; omega))) | (refine below_step ?_ hb20) | (refine below_step ?_ B9)))⟩
  obtain ⟨m, hm⟩ : ∃ m, ws.length = m + 1 := ⟨ws.length - 1, by omega⟩
  have hq : ((m : Int) + 1 == 0) = false := by simp; omega
  obtain ⟨ad, D4, t4, D5, t5, hA2, x0, x1, x2, _, rx4, lx5, rx5⟩ := (HR2'.out.below B9).way_at m (by omega)
  subst hA2
  have RX4 := Lib.hid rx4
  have RX5 := Lib.hid rx5
  have HL1 : Hid (∀ W, Below w.heap.size w W → Calls Try.prog 17 #[.agg #[.slice A1 ns.length c1, .slice (some ad) m c2, .slice none 0 0]] W fun e w' => ∃ v, e = .returned v ∧ Own1 Ty.line 42 W.heap.size w' v (linesZ (ptF ns ws rs) (ws.take m)) ∧ Below W.heap.size W w') := fun W hW => by
    have := normal_Lines ns (ws.take m) [] A1 (some ad) none c1 c2 0 W (HR1.out.below hW) ((HR2.out.take m).below hW) (Row.nil _ _ _ _) q1 (by rw [List.length_take]; omega) (by simp) (fun x hx => q4.out x (List.mem_of_mem_take hx))
    rw [show ptF ns (ws.take m) [] = ptF ns ws rs by rw [ptF_ok HOB.out, ptF_ok (obj_take HOB.out m)], show (ws.take m).length = m by rw [List.length_take]; omega] at this
    exact this
  have hqm := q4.out (wyD ws m) (by simp only [wyD, List.getD_eq_getElem?_getD, List.getElem?_eq_getElem (show m < ws.length by omega), Option.getD_some]; exact List.getElem_mem _)
  have HLN : Hid (∀ W, Below w.heap.size w W → Below w9.heap.size w9 W → Calls Try.prog 23 #[.agg #[.slice A1 ns.length c1, .slice (some ad) ws.length c2, .slice A3 rs.length c3], .agg #[.int .i64 (wyD ws m).1, .slice D4 (wyD ws m).2.1.length t4, .slice D5 (wyD ws m).2.2.length t5]] W fun e w' => RetL (lineZ (ptF ns ws rs) (wyD ws m)) (.slice D5 (wyD ws m).2.2.length t5) W.heap.size e w' ∧ Below W.heap.size W w') := fun W hW hW9 =>
    normal_Line ns ws rs (wyD ws m) A1 (some ad) A3 D4 D5 c1 c2 c3 t4 t5 W ((HR1.out.below hW).mono (ok' := fun _ => True) (fun _ _ => trivial)) ((HR2.out.below hW).mono (fun _ _ => trivial)) ((HR3.out.below hW).mono (fun _ _ => trivial)) ((RX4.out.below hW9).mono (fun _ _ => trivial)) ((RX5.out.below hW9).mono (fun _ _ => trivial)) q1 q2 q3 hqm
  have HTK : Hid (ws = ws.take (m + 1)) := by show _ = _; rw [← hm, List.take_length]
  have HLL := Lib.hid lx5
  have hmlt : m < ws.length := by omega
  have qw : wrap64 (m : Int) = m := by unfold wrap64; omega
  have qlt : (m : Int) < m + 1 := by omega
  have qle : (m : Int) ≤ m + 1 := by omega
  have qcap : m ≤ c2 := Nat.le_trans (Nat.le_succ m) (by have h := HCAP.out; rw [hm] at h; exact h)
  have hmN : Hid (ws.length = m + 1) := hm
  rw [hm] at k1 HLD HLN
  rw [hm]
  clear hm hw0 rx4 rx5 lx5
  obtain ⟨Wc, hWc⟩ : ∃ Wc, Wc = w9.alloc (.cells #[.int .i64 (wyD ws m).1, .slice D4 (wyD ws m).2.1.length t4, .slice D5 (wyD ws m).2.2.length t5] 50) := ⟨_, rfl⟩
  have Bc : Below w9.heap.size w9 Wc := by rw [hWc]; exact (by repeat (first | exact Below.refl _ _ | apply below_alloc | apply below_drewN | apply below_drew | (refine below_set2 ?_ ?_; (first | (simp; done) | (simp; omega)))))
  have B10 : Below w.heap.size w Wc := (by repeat (first | exact Below.refl _ _ | apply below_alloc | apply below_drewN | apply below_drew | (refine below_set2 ?_ ?_; (first | (simp; done) | (simp; omega))) | (refine below_step ?_ Bc) | (refine below_step ?_ B9)))
  have B10c : w.heap.size < Wc.heap.size := by have h1 := World.block_lt_of_cell? w9 _ k0; have h2 := Bc.size; simp only at h1; omega
  have y0 : Wc.cell? ⟨w9.heap.size, 0, none⟩ = some (.int .i64 (wyD ws m).1) := by rw [hWc]; simp only [World.cell?, heap_alloc_new]; rfl
  have y1 : Wc.cell? ⟨w9.heap.size, 1, none⟩ = some (.slice D4 (wyD ws m).2.1.length t4) := by rw [hWc]; simp only [World.cell?, heap_alloc_new]; rfl
  have y2 : Wc.cell? ⟨w9.heap.size, 2, none⟩ = some (.slice D5 (wyD ws m).2.2.length t5) := by rw [hWc]; simp only [World.cell?, heap_alloc_new]; rfl
  have l0 := cell_below Bc k0
  have l1 := cell_below Bc k1
  have l2 := cell_below Bc k2
  go_wp2_with fail
  rw [← hWc]
  clear hWc k0 k1 k2 x0 x1 x2 hq
  refine start_ (n := 12) (S := fun w' => w'.cell? ⟨w.heap.size, 0, none⟩ = some (.slice A1 ns.length c1) ∧ w'.cell? ⟨w.heap.size, 1, none⟩ = some (.slice (some ad) (m + 1) c2)) (ds := [10]) #[false, false, false, false, false, false, false, false, false, false, false, false] (by kernel_rfl) rfl rfl ⟨l0, l1⟩ (fun hHeld => ?_)
  refine pure_ (i := 0) (N := some 64) (v := ?_) (a' := ?_) #[true, false, false, false, false, false, false, false, false, false, false, false] rfl rfl (by kernel_rfl) (fun _ _ _ h => h) (Or.inl ⟨by rfl, ?_⟩) ?_ ?_
  rotate_left
  · intro w'
    go_simp
    with_reducible rfl
  rotate_left
  · simp only [Act.put, List.setIfInBounds_toArray, List.set_cons_zero, List.set_cons_succ, i64_w, i32_w]
    rfl
  refine pure_ (i := 2) (N := some 66) (v := ?_) (a' := ?_) #[true, false, true, false, false, false, false, false, false, false, false, false] rfl rfl (by kernel_rfl) (fun _ _ _ h => h) (Or.inl ⟨by rfl, ?_⟩) ?_ ?_
  rotate_left
  · intro w'
    go_simp
    with_reducible rfl
  rotate_left
  · simp only [Act.put, List.setIfInBounds_toArray, List.set_cons_zero, List.set_cons_succ, i64_w, i32_w]
    rfl
  refine pure_ (i := 4) (N := some 68) (v := ?_) (a' := ?_) #[true, false, true, false, true, false, false, false, false, false, false, false] rfl rfl (by kernel_rfl) (fun _ _ _ h => h) (Or.inl ⟨by rfl, ?_⟩) ?_ ?_
  rotate_left
  · intro w'
    go_simp
    with_reducible rfl
  rotate_left
  · simp only [Act.put, List.setIfInBounds_toArray, List.set_cons_zero, List.set_cons_succ, i64_w, i32_w]
    rfl
  refine take_ (i := 1) (N := some 65) (v := ?_) (a' := ?_) #[true, true, true, false, true, false, false, false, false, false, false, false] rfl rfl (by kernel_rfl) (fun _ _ _ h => h) (Or.inl ⟨by rfl, ?_⟩) hHeld ?_ ?_
  rotate_left
  · rintro w' ⟨s0, s1⟩
    go_simp
    with_reducible rfl
  rotate_left
  · simp only [Act.put, List.setIfInBounds_toArray, List.set_cons_zero, List.set_cons_succ, i64_w, i32_w]
    rfl
  refine take_ (i := 3) (N := some 67) (v := ?_) (a' := ?_) #[true, true, true, true, true, false, false, false, false, false, false, false] rfl rfl (by kernel_rfl) (fun _ _ _ h => h) (Or.inl ⟨by rfl, ?_⟩) hHeld ?_ ?_
  rotate_left
  · rintro w' ⟨s0, s1⟩
    go_simp
    with_reducible rfl
  rotate_left
  · simp only [Act.put, List.setIfInBounds_toArray, List.set_cons_zero, List.set_cons_succ, i64_w, i32_w]
    rfl
  refine take_ (i := 5) (N := some 69) (v := ?_) (a' := ?_) #[true, true, true, true, true, true, false, false, false, false, false, false] rfl rfl (by kernel_rfl) (fun _ _ _ h => h) (Or.inl ⟨by rfl, ?_⟩) hHeld ?_ ?_
  rotate_left
  · rintro w' ⟨s0, s1⟩
    go_simp
    with_reducible rfl
  rotate_left
  · simp only [Act.put, List.setIfInBounds_toArray, List.set_cons_zero, List.set_cons_succ, i64_w, i32_w]
    rfl
  refine pure_ (i := 6) (N := some 70) (v := ?_) (a' := ?_) #[true, true, true, true, true, true, true, false, false, false, false, false] rfl rfl (by kernel_rfl) (fun _ _ _ h => h) (Or.inl ⟨by rfl, ?_⟩) ?_ ?_
  rotate_left
  · intro w'
    go_simp
    with_reducible rfl
  rotate_left
  · simp only [Act.put, List.setIfInBounds_toArray, List.set_cons_zero, List.set_cons_succ, i64_w, i32_w]
    rfl
  refine pure_ (i := 7) (N := some 71) (v := ?_) (a' := ?_) #[true, true, true, true, true, true, true, true, false, false, false, false] rfl rfl (by kernel_rfl) (fun _ _ _ h => h) (Or.inl ⟨by rfl, ?_⟩) ?_ ?_
  rotate_left
  · intro w'
    go_simp
    with_reducible rfl
  rotate_left
  · simp only [Act.put, List.setIfInBounds_toArray, List.set_cons_zero, List.set_cons_succ, i64_w, i32_w]
    rfl
  refine pure_ (i := 8) (N := some 72) (v := ?_) (a' := ?_) #[true, true, true, true, true, true, true, true, true, false, false, false] rfl rfl (by kernel_rfl) (fun _ _ _ h => h) (Or.inl ⟨by rfl, ?_⟩) ?_ ?_
  rotate_left
  · intro w'
    go_simp
    with_reducible rfl
  rotate_left
  · simp only [Act.put, List.setIfInBounds_toArray, List.set_cons_zero, List.set_cons_succ, i64_w, i32_w]
    rfl
  refine pure_ (i := 9) (N := some 73) (v := ?_) (a' := ?_) #[true, true, true, true, true, true, true, true, true, true, false, false] rfl rfl (by kernel_rfl) (fun _ _ _ h => h) (Or.inl ⟨by rfl, ?_⟩) ?_ ?_
  rotate_left
  · intro w'
    go_simp
    with_reducible rfl
  rotate_left
  · simp only [Act.put, List.setIfInBounds_toArray, List.set_cons_zero, List.set_cons_succ, i64_w, i32_w]
    rfl
  refine last_ (i := 10) (N := some 74) #[true, true, true, true, true, true, true, true, true, true, true, false] rfl rfl (by kernel_rfl) (by decide) (fun K hK => ?_)
  refine goes_ Try.func17 (by kernel_rfl) rfl #[.agg #[.slice A1 ns.length c1, .slice (some ad) m c2, .slice none 0 0]] (by rfl) rfl rfl (by simp only [List.map_toArray, List.map_cons, List.map_nil]; rfl) ?_
  with_reducible refine (HL1.out _ (below_drew B10)).mono ?_
  rintro e w10 ⟨v, rfl, ho, hb10⟩
  refine ⟨_, rfl, ?_⟩
  have HO := Lib.hid ho
  clear ho
  refine hK.out _ _ ?_
  clear hK K
  refine norm_ (a' := ?_) ?_ ?_
  rotate_left
  · show Act.put _ (some 74) _ = _
    simp only [Act.put, List.setIfInBounds_toArray, List.set_cons_zero, List.set_cons_succ, i64_w, i32_w]
    rfl
  refine pure_ (i := 11) (N := some 5) (v := ?_) (a' := ?_) #[true, true, true, true, true, true, true, true, true, true, true, true] rfl rfl (by kernel_rfl) (fun _ _ _ h => h) (Or.inl ⟨by rfl, ?_⟩) ?_ ?_
  rotate_left
  · intro w'
    go_simp
    with_reducible rfl
  rotate_left
  · simp only [Act.put, List.setIfInBounds_toArray, List.set_cons_zero, List.set_cons_succ, i64_w, i32_w]
    rfl
  refine done_ (by kernel_rfl) ?_
  have B11 : Below Wc.heap.size Wc w10 := below_step (below_drew (Below.refl _ _)) hb10
  have Bw10 : Below w.heap.size w w10 := (by repeat (first | exact Below.refl _ _ | apply below_alloc | apply below_drewN | apply below_drew | (refine below_set2 ?_ ?_; (first | (simp; done) | (simp; omega))) | (refine below_step ?_ B11) | (refine below_step ?_ B10)))
  have B911 : Below w9.heap.size w9 w10 := (by repeat (first | exact Below.refl _ _ | apply below_alloc | apply below_drewN | apply below_drew | (refine below_set2 ?_ ?_; (first | (simp; done) | (simp; omega))) | (refine below_step ?_ B11) | (refine below_step ?_ Bc)))
  have m0 := cell_below B11 l0
  have m1 := cell_below B11 l1
  have m2 := cell_below B11 l2
  have n0 := cell_below B11 y0
  have n1 := cell_below B11 y1
  have n2 := cell_below B11 y2
  clear l0 l1 l2 y0 y1 y2 hb10 B11 hHeld HL1
  go_wp2_with fail
  refine (HLN.out w10 Bw10 B911).mono ?_
  rintro e w11 ⟨hret, hb11⟩
  have Bw11 : Below w.heap.size w w11 := (by repeat (first | exact Below.refl _ _ | apply below_alloc | apply below_drewN | apply below_drew | (refine below_set2 ?_ ?_; (first | (simp; done) | (simp; omega))) | (refine below_step ?_ hb11) | (refine below_step ?_ Bw10)))
  have RX52 := Lib.hid (RX5.out.below (show Below w9.heap.size w9 w11 from (by repeat (first | exact Below.refl _ _ | apply below_alloc | apply below_drewN | apply below_drew | (refine below_set2 ?_ ?_; (first | (simp; done) | (simp; omega))) | (refine below_step ?_ hb11) | (refine below_step ?_ B911)))))
  have HO2 := Lib.hid (Own1.below HO.out hb11)
  have p0 := cell_below hb11 m0
  have p1 := cell_below hb11 m1
  have p2 := cell_below hb11 m2
  have hzw : ∀ b, v.ownBlock = some b → b < w10.heap.size := fun b e => (OwnR.lt HO.out b e).2
  have hzv : ∀ b, v.ownBlock = some b → w.heap.size ≤ b := fun b e => Nat.le_trans (below_drew B10).size (OwnR.lt HO.out b e).1
  have hp0 : w.heap.size < w11.heap.size := World.block_lt_of_cell? w11 _ p0
  have hs10 := B911.size
  clear m0 m1 m2 n0 n1 n2 HLN RX4
  rcases hret with ⟨hn, rfl⟩ | ⟨l, vp, vi, hx, rfl, hop, hoi⟩
  · have HN : Hid (linesZ (ptF ns ws rs) (ws.take m) = linesZ (ptF ns ws rs) ws) := by
      show _ = _
      have := lines_none hmlt hn
      rw [← HTK.out] at this; exact this.symm
    rw [HN.out] at HO2
    clear hn
    obtain ⟨Q, kq, rfl, _, hrq⟩ := HO2.out.reads
    obtain ⟨Wd, hWd⟩ : ∃ Wd, Wd = w11.alloc (.cells #[.int .i64 0, .slice none 0 0, .slice none 0 0, .slice none 0 0] 42) := ⟨_, rfl⟩
    have Bd : Below w11.heap.size w11 Wd := by rw [hWd]; exact (by repeat (first | exact Below.refl _ _ | apply below_alloc | apply below_drewN | apply below_drew | (refine below_set2 ?_ ?_; (first | (simp; done) | (simp; omega)))))
    have BWd : Below w.heap.size w Wd := (by repeat (first | exact Below.refl _ _ | apply below_alloc | apply below_drewN | apply below_drew | (refine below_set2 ?_ ?_; (first | (simp; done) | (simp; omega))) | (refine below_step ?_ Bd) | (refine below_step ?_ Bw11)))
    have RQ := Lib.hid (hrq.below Bd)
    clear hrq
    go_wp2_with fail
    rw [← hWd]
    clear hWd
    refine (HLD.out Wd BWd).mono ?_
    rintro e w12 ⟨v12, rfl, ho12, hb12⟩
    obtain ⟨Q2, kq2, rfl, _, hr12⟩ := ho12.reads
    have Bw12 : Below w.heap.size w w12 := (by repeat (first | exact Below.refl _ _ | apply below_alloc | apply below_drewN | apply below_drew | (refine below_set2 ?_ ?_; (first | (simp; done) | (simp; omega))) | (refine below_step ?_ hb12) | (refine below_step ?_ BWd)))
    have R12 := Lib.hid hr12
    have RQ2 := Lib.hid (RQ.out.below hb12)
    clear ho12 hr12
    go_wp2_with fail
    refine (law19_sameLines (linesZ (ptF ns ws rs) ws) Q Q2 _ _ kq kq2 _ RQ2.out R12.out rfl rfl).mono ?_
    rintro e w13 ⟨rfl, hb13⟩
    go_wp2_with fail
    refine (law19_lives _).mono ?_
    rintro e w14 ⟨rfl, hb14⟩
    go_wp2
    go_ret
    exact ⟨rfl, (by repeat (first | exact Below.refl _ _ | apply below_alloc | apply below_drewN | apply below_drew | (refine below_set2 ?_ ?_; (first | (simp; done) | (simp; omega))) | (refine below_step ?_ hb14) | (refine below_step ?_ hb13) | (refine below_step ?_ Bw12)))⟩
  · obtain ⟨e1, e2⟩ := lineZ_tags hx
    have HN : Hid (linesZ (ptF ns ws rs) (ws.take m) ++ [l] = linesZ (ptF ns ws rs) ws) := by
      show _ = _
      have := lines_some hmlt hx
      rw [← HTK.out] at this; exact this.symm
    have RP : Hid (Ty.line.R (fun j => ¬ v.ownBlock = some j) w11 l #[.int .i64 l.1, vp, vi, .slice D5 (wyD ws m).2.2.length t5].toList) :=
      lineR hop hoi (by rw [e2]) HLL.out (by rw [e2]; exact RX52.out.mono (fun b hb' e => by have := hzv b e; omega)) (fun b hb' e => by have := (OwnR.lt hop b hb').1; have := hzw b e; omega) (fun b hb' e => by have := (OwnR.lt hoi b hb').1; have := hzw b e; omega)
    obtain ⟨Ap, cp, rfl, _, _⟩ := hop.reads
    obtain ⟨Ai, ci, rfl, _, _⟩ := hoi.reads
    have hlen := lines_bytes (ptF ns ws rs) m q2
    clear hx e1 e2 hop hoi
    obtain ⟨Wq, hWq⟩ : ∃ Wq, Wq = w11.alloc (.cells #[.int .i64 l.1, .slice Ap l.2.1.length cp, .slice Ai l.2.2.1.length ci, .slice D5 (wyD ws m).2.2.length t5] 42) := ⟨_, rfl⟩
    have BQ : Below w11.heap.size w11 Wq := by rw [hWq]; exact (by repeat (first | exact Below.refl _ _ | apply below_alloc | apply below_drewN | apply below_drew | (refine below_set2 ?_ ?_; (first | (simp; done) | (simp; omega)))))
    have BWq : Below w.heap.size w Wq := (by repeat (first | exact Below.refl _ _ | apply below_alloc | apply below_drewN | apply below_drew | (refine below_set2 ?_ ?_; (first | (simp; done) | (simp; omega))) | (refine below_step ?_ BQ) | (refine below_step ?_ Bw11)))
    have RPq : Hid (Ty.line.R (fun j => ¬ v.ownBlock = some j) Wq l [.int .i64 l.1, .slice Ap l.2.1.length cp, .slice Ai l.2.2.1.length ci, .slice D5 (wyD ws m).2.2.length t5]) := Ty.line.below RP.out BQ
    have HOq := Lib.hid (Own1.base (Own1.below HO2.out BQ) (below_drew B10).size)
    have hzq := BWq.size
    have s0 := cell_below BQ p0
    have s1 := cell_below BQ p1
    have s2 := cell_below BQ p2
    have hzv2 : ∀ b, v.ownBlock = some b → w.heap.size < b := fun b e => by
      have h1 : Wc.drew.heap.size ≤ b := (OwnR.lt HO.out b e).1
      have h2 : Wc.drew.heap.size = Wc.heap.size := rfl
      have h3 := B10c
      omega
    subst hWq
    clear RP HO2 RX52
    go_wp2_with (first | (at_builtin; refine app_one Ty.line (W := w11.alloc (.cells #[.int .i64 l.1, .slice Ap l.2.1.length cp, .slice Ai l.2.2.1.length ci, .slice D5 (wyD ws m).2.2.length t5] 42)) w.heap.size rfl _ _ 33 42 _ 80 rfl Try.underlying33 infoLine rfl (by decide) v (linesZ (ptF ns ws rs) (ws.take m)) l [.int .i64 l.1, .slice Ap l.2.1.length cp, .slice Ai l.2.2.1.length ci, .slice D5 (wyD ws m).2.2.length t5] _ rfl rfl (by simp) RPq.out HOq.out hzq hlen ?_; intro v1 wz HO1 hg1 hat1; have KG := kept_grown (S := fun k => v.ownBlock = some k) hg1 (fun b e => e); have r0 := KG.cell s0 (fun e => by have := hzv2 _ e; simp at this); have r1 := KG.cell s1 (fun e => by have := hzv2 _ e; simp at this); have r2 := KG.cell s2 (fun e => by have := hzv2 _ e; simp at this); have BZ : Below w.heap.size w wz := below_own BWq hg1 (fun b e => by have := hzv2 b e; omega); have HO4 : Hid (Own1 Ty.line 42 w.heap.size wz v1 (linesZ (ptF ns ws rs) ws)) := (by show Own1 _ _ _ _ _ _; rw [← HN.out]; exact Own1.of HO1); obtain ⟨Q, kq, rfl, _, hrq⟩ := HO4.out.reads; have RQ := Lib.hid hrq; clear HO1 hg1 hat1 KG hrq))
    refine (HLD.out wz BZ).mono ?_
    rintro e w12 ⟨v12, rfl, ho12, hb12⟩
    obtain ⟨Q2, kq2, rfl, _, hr12⟩ := ho12.reads
    have Bw12 : Below w.heap.size w w12 := (by repeat (first | exact Below.refl _ _ | apply below_alloc | apply below_drewN | apply below_drew | (refine below_set2 ?_ ?_; (first | (simp; done) | (simp; omega))) | (refine below_step ?_ hb12) | (refine below_step ?_ BZ)))
    have R12 := Lib.hid hr12
    have RQ2 := Lib.hid (RQ.out.below hb12)
    clear ho12 hr12
    go_wp2_with fail
    refine (law19_sameLines (linesZ (ptF ns ws rs) ws) Q Q2 _ _ kq kq2 _ RQ2.out R12.out rfl rfl).mono ?_
    rintro e w13 ⟨rfl, hb13⟩
    go_wp2_with fail
    refine (law19_lives _).mono ?_
    rintro e w14 ⟨rfl, hb14⟩
    go_wp2
    go_ret
    exact ⟨rfl, (by repeat (first | exact Below.refl _ _ | apply below_alloc | apply below_drewN | apply below_drew | (refine below_set2 ?_ ?_; (first | (simp; done) | (simp; omega))) | (refine below_step ?_ hb14) | (refine below_step ?_ hb13) | (refine below_step ?_ Bw12)))⟩
end Go.Proofs.Ytniceoinipffmaa
