/- Contracts of mapmakerref14.Has and way. -/
import Derived.Test.YtniceoinipffmaaNRef14
namespace Go.Proofs.Ytniceoinipffmaa
open Go.RowKit Go.Proofs.YtniceoinipffmaaW.PrintLast
set_option linter.unusedVariables false
set_option linter.unusedSimpArgs false

theorem sto {v : Value} (h : v.oneCell' = true) (a : Addr) (W : World) (m : Mode) : (store a v m).run Try.prog W = stored Try.prog W a v m := run_store _ W a v m h
/-- Whether a dataset has a node or way. -/
def hasB (ns ws : List Int) (r : Pt) : Bool := if r.1 = 1 then decide (r.2 ∈ ns) else decide (r.2 ∈ ws)
set_option maxRecDepth 20000 in
theorem ref14_Has {ok : Nat → Prop} (ns : List Node) (ws : List Way) (A1 A2 : Option Addr) (c1 c2 : Nat) (ub : Value) (r : Pt) (w : World) (h1 : Row Ty.node ok w A1 ns) (h2 : Row Ty.way ok w A2 ws) (ho2 : ub.oneCell' = true) (hk : r.1 = 1 ∨ r.1 = 2) :
    Calls Try.prog 78 #[.agg #[.slice A1 ns.length c1, .slice A2 ws.length c2, ub], .agg #[.int .i64 r.1, .int .i64 r.2]] w fun e w' => e = .returned (.bool (hasB (ns.map (·.1)) (ws.map (·.1)) r)) ∧ Below w.heap.size w w' := by
  obtain ⟨Wa, hWa⟩ : ∃ Wa, Wa = w.alloc (.cells #[.slice A1 ns.length c1, .slice A2 ws.length c2, ub] 26) := ⟨_, rfl⟩
  have z0 : Wa.heap.size = w.heap.size + 1 := by rw [hWa]; simp
  have B0 : Below w.heap.size w Wa := by rw [hWa]; exact (by repeat (first | exact Below.refl _ _ | apply below_alloc | apply below_drewN | apply below_drew | (refine below_set2 ?_ ?_; (first | (simp; done) | (simp; omega)))))
  have hao : ∀ o : Nat, Wa.cell? ⟨w.heap.size, o, none⟩ = #[.slice A1 ns.length c1, .slice A2 ws.length c2, ub][o]? := fun o => by rw [hWa]; simp only [World.cell?, heap_alloc_new]; rfl
  obtain ⟨W1, hW⟩ : ∃ W1, W1 = Wa.alloc (.cells #[.int .i64 r.1, .int .i64 r.2] 65) := ⟨_, rfl⟩
  have B1 : Below Wa.heap.size Wa W1 := by rw [hW]; exact (by repeat (first | exact Below.refl _ _ | apply below_alloc | apply below_drewN | apply below_drew | (refine below_set2 ?_ ?_; (first | (simp; done) | (simp; omega)))))
  have B : Below w.heap.size w W1 := (by repeat (first | exact Below.refl _ _ | apply below_alloc | apply below_drewN | apply below_drew | (refine below_set2 ?_ ?_; (first | (simp; done) | (simp; omega))) | (refine below_step ?_ B1) | (refine below_step ?_ B0)))
  have hc0 := cell_below B1 (show _ = some _ from hao 0)
  have hc1 := cell_below B1 (show _ = some _ from hao 1)
  have hc2 := cell_below B1 (show _ = some _ from hao 2)
  have hd0 : W1.cell? ⟨w.heap.size + 1, 0, none⟩ = some (.int .i64 r.1) := by rw [hW, ← z0]; simp only [World.cell?, heap_alloc_new]; rfl
  have hd1 : W1.cell? ⟨w.heap.size + 1, 1, none⟩ = some (.int .i64 r.2) := by rw [hW, ← z0]; simp only [World.cell?, heap_alloc_new]; rfl
  rw [hWa] at hW
  clear hWa z0 B0 hao B1
  by_cases hk1 : r.1 = 1
  · have q1 : (r.1 == 1) = true := by simp [hk1]
    have HM : Hid (hasB (ns.map (·.1)) (ws.map (·.1)) r = decide (r.2 ∈ ns.map (·.1))) := by show _ = _; simp [hasB, hk1]
    clear hk hk1
    go_enter Try.func78, Try.ntmps78
    go_wp2_with fail
    rw [← hW]
    clear hW
    go_wp2_with fail
    refine (ref14_Node ns A1 c1 _ _ r.2 W1 (h1.below B) rfl ho2).mono ?_
    rintro e w1 ⟨v1, v2, v3, v4, rfl, o1, o2, o3, o4, hb1⟩
    have s1 := sto o1
    have s2 := sto o2
    have s3 := sto o3
    have s4 := sto o4
    go_wp2
    go_ret
    exact ⟨ret_bool HM.out.symm, (by repeat (first | exact Below.refl _ _ | apply below_alloc | apply below_drewN | apply below_drew | (refine below_set2 ?_ ?_; (first | (simp; done) | (simp; omega))) | (refine below_step ?_ hb1) | (refine below_step ?_ B)))⟩
  · have q1 : (r.1 == 1) = false := by simp [hk1]
    have q2 : (r.1 == 2) = true := by rcases hk with h | h; exact absurd h hk1; simp [h]
    have HM : Hid (hasB (ns.map (·.1)) (ws.map (·.1)) r = decide (r.2 ∈ ws.map (·.1))) := by show _ = _; simp [hasB, hk1]
    clear hk hk1
    go_enter Try.func78, Try.ntmps78
    go_wp2_with fail
    rw [← hW]
    clear hW
    go_wp2_with fail
    refine (ref14_Way ws A2 c2 _ _ r.2 W1 (h2.below B) rfl ho2).mono ?_
    rintro e w1 ⟨v1, v2, v3, rfl, o1, o2, o3, hb1⟩
    have s1 := sto o1
    have s2 := sto o2
    have s3 := sto o3
    go_wp2
    go_ret
    exact ⟨ret_bool HM.out.symm, (by repeat (first | exact Below.refl _ _ | apply below_alloc | apply below_drewN | apply below_drew | (refine below_set2 ?_ ?_; (first | (simp; done) | (simp; omega))) | (refine below_step ?_ hb1) | (refine below_step ?_ B)))⟩
set_option maxRecDepth 20000 in
set_option maxHeartbeats 2000000 in
theorem ref14_way {ok : Nat → Prop} (ns : List Node) (x : Way) (A1 B1 B2 : Option Addr) (c1 d1 d2 : Nat) (ua ub : Value) (w : World) (h1 : Row Ty.node ok w A1 ns) (h2 : Row Ty.i64 ok w B1 x.2.1) (h3 : Row Ty.tag ok w B2 x.2.2) (ho1 : ua.oneCell' = true) (ho2 : ub.oneCell' = true) :
    Calls Try.prog 53 #[.agg #[.slice A1 ns.length c1, ua, ub], .agg #[.int .i64 x.1, .slice B1 x.2.1.length d1, .slice B2 x.2.2.length d2]] w fun e w' => e = .returned (.int .i64 (wayB (ns.map (·.1)) x)) ∧ Below w.heap.size w w' := by
  have hlen := h2.len
  have R1 := Lib.hid h1
  have R2 := Lib.hid h2
  have R3 := Lib.hid h3
  clear h1 h2 h3
  obtain ⟨Wa, hWa⟩ : ∃ Wa, Wa = w.alloc (.cells #[.slice A1 ns.length c1, ua, ub] 26) := ⟨_, rfl⟩
  have z0 : Wa.heap.size = w.heap.size + 1 := by rw [hWa]; simp
  have B0 : Below w.heap.size w Wa := by rw [hWa]; exact (by repeat (first | exact Below.refl _ _ | apply below_alloc | apply below_drewN | apply below_drew | (refine below_set2 ?_ ?_; (first | (simp; done) | (simp; omega)))))
  have hao : ∀ o : Nat, Wa.cell? ⟨w.heap.size, o, none⟩ = #[.slice A1 ns.length c1, ua, ub][o]? := fun o => by rw [hWa]; simp only [World.cell?, heap_alloc_new]; rfl
  obtain ⟨W1, hW⟩ : ∃ W1, W1 = Wa.alloc (.cells #[.int .i64 x.1, .slice B1 x.2.1.length d1, .slice B2 x.2.2.length d2] 50) := ⟨_, rfl⟩
  have B1' : Below Wa.heap.size Wa W1 := by rw [hW]; exact (by repeat (first | exact Below.refl _ _ | apply below_alloc | apply below_drewN | apply below_drew | (refine below_set2 ?_ ?_; (first | (simp; done) | (simp; omega)))))
  have B : Below w.heap.size w W1 := (by repeat (first | exact Below.refl _ _ | apply below_alloc | apply below_drewN | apply below_drew | (refine below_set2 ?_ ?_; (first | (simp; done) | (simp; omega))) | (refine below_step ?_ B1') | (refine below_step ?_ B0)))
  have hc0 : W1.cell? ⟨w.heap.size, 0, none⟩ = some (.slice A1 ns.length c1) := cell_below B1' (hao 0)
  have hc1 : W1.cell? ⟨w.heap.size, 1, none⟩ = some ua := cell_below B1' (hao 1)
  have hc2 : W1.cell? ⟨w.heap.size, 2, none⟩ = some ub := cell_below B1' (hao 2)
  have hd1 : W1.cell? ⟨w.heap.size + 1, 1, none⟩ = some (.slice B1 x.2.1.length d1) := by rw [hW, ← z0]; simp only [World.cell?, heap_alloc_new]; rfl
  have hd2 : W1.cell? ⟨w.heap.size + 1, 2, none⟩ = some (.slice B2 x.2.2.length d2) := by rw [hW, ← z0]; simp only [World.cell?, heap_alloc_new]; rfl
  have hz : w.heap.size + 1 < W1.heap.size := by rw [hW]; simp [z0]
  rw [hWa] at hW
  clear hWa z0 B0 hao B1'
  by_cases k1 : x.2.1.length < 2
  · have q1 : decide ((x.2.1.length : Int) < 2) = true := decide_eq_true (by omega)
    have HM : Hid (wayB (ns.map (·.1)) x = 12) := by show _ = _; rw [wayB, if_pos k1]
    clear k1
    go_enter Try.func53, Try.ntmps53
    go_wp2_with fail
    go_ret
    exact ⟨ret_int HM.out.symm, by rw [← hW]; exact B⟩
  · have q1 : decide ((x.2.1.length : Int) < 2) = false := decide_eq_false (by omega)
    by_cases k2 : 2000 < x.2.1.length
    · have q2 : decide (2000 < (x.2.1.length : Int)) = true := decide_eq_true (by omega)
      have HM : Hid (wayB (ns.map (·.1)) x = 5) := by show _ = _; rw [wayB, if_neg k1, if_pos k2]
      clear k1 k2
      go_enter Try.func53, Try.ntmps53
      go_wp2_with fail
      go_ret
      exact ⟨ret_int HM.out.symm, by rw [← hW]; exact B⟩
    · have q2 : decide (2000 < (x.2.1.length : Int)) = false := decide_eq_false (by omega)
      have HM1 : Hid (x.2.1.any (fun n => !decide (n ∈ ns.map (·.1))) = true → wayB (ns.map (·.1)) x = 9) := fun h => by rw [wayB, if_neg k1, if_neg k2, if_pos h]
      have HM2 : Hid (x.2.1.any (fun n => !decide (n ∈ ns.map (·.1))) = false → wayB (ns.map (·.1)) x = tagErr x.2.2) := fun h => by rw [wayB, if_neg k1, if_neg k2, if_neg (by simp only [h]; decide)]
      clear k1 k2
      go_enter Try.func53, Try.ntmps53
      go_wp2_with fail
      rw [← hW]
      clear hW
      go_loopw [5] (fun i wr => ∃ k : Nat, k ≤ x.2.1.length ∧ i = .int .i64 k ∧ Below W1.heap.size W1 wr ∧ Hid (∀ j, j < k → inD x.2.1 j ∈ ns.map (·.1))) (fun i _ => x.2.1.length - (intOf i).toNat)
      case atStart => exact ⟨0, Nat.zero_le _, rfl, Below.refl _ _, fun j hj => absurd hj (Nat.not_lt_zero _)⟩
      case round =>
        obtain ⟨k, hk, rfl, hb, HS⟩ := hrel
        have he0 := cell_below hb hc0
        have he1 := cell_below hb hc1
        have he2 := cell_below hb hc2
        have hf1 := cell_below hb hd1
        have hf2 := cell_below hb hd2
        have BW : Below w.heap.size w wr := (by repeat (first | exact Below.refl _ _ | apply below_alloc | apply below_drewN | apply below_drew | (refine below_set2 ?_ ?_; (first | (simp; done) | (simp; omega))) | (refine below_step ?_ hb) | (refine below_step ?_ B)))
        by_cases hlt : k < x.2.1.length
        · obtain ⟨ad, rfl, hi⟩ := (R2.out.below BW).int_at k hlt
          go_wp2_with fail
          refine start_ (n := 13) (S := fun w' => w'.cell? ⟨w.heap.size, 0, none⟩ = some (.slice A1 ns.length c1) ∧ w'.cell? ⟨w.heap.size, 1, none⟩ = some ua ∧ w'.cell? ⟨w.heap.size, 2, none⟩ = some ub ∧ w'.cell? ⟨w.heap.size + 1, 1, none⟩ = some (.slice (some ad) x.2.1.length d1) ∧ w'.cell? (ad.add k) = some (.int .i64 (inD x.2.1 k))) (ds := [11]) #[false, false, false, false, false, false, false, false, false, false, false, false, false] (by kernel_rfl) rfl rfl ⟨he0, he1, he2, hf1, hi⟩ (fun hHeld => ?_)
          refine pure_ (i := 1) (N := some 25) (v := ?_) (a' := ?_) #[false, true, false, false, false, false, false, false, false, false, false, false, false] rfl rfl (by kernel_rfl) (fun _ _ _ h => h) (Or.inl ⟨by rfl, ?_⟩) ?_ ?_
          rotate_left
          · intro w'
            go_simp
            with_reducible rfl
          rotate_left
          · simp only [Act.put, List.setIfInBounds_toArray, List.set_cons_zero, List.set_cons_succ, i64_w, i32_w]
            rfl
          refine pure_ (i := 3) (N := some 27) (v := ?_) (a' := ?_) #[false, true, false, true, false, false, false, false, false, false, false, false, false] rfl rfl (by kernel_rfl) (fun _ _ _ h => h) (Or.inl ⟨by rfl, ?_⟩) ?_ ?_
          rotate_left
          · intro w'
            go_simp
            with_reducible rfl
          rotate_left
          · simp only [Act.put, List.setIfInBounds_toArray, List.set_cons_zero, List.set_cons_succ, i64_w, i32_w]
            rfl
          refine take_ (i := 0) (N := some 24) (v := ?_) (a' := ?_) #[true, true, false, true, false, false, false, false, false, false, false, false, false] rfl rfl (by kernel_rfl) (fun _ _ _ h => h) (Or.inl ⟨by rfl, ?_⟩) hHeld ?_ ?_
          rotate_left
          · rintro w' ⟨s0, s1, s2, s3, s4⟩
            go_simp
            with_reducible rfl
          rotate_left
          · simp only [Act.put, List.setIfInBounds_toArray, List.set_cons_zero, List.set_cons_succ, i64_w, i32_w]
            rfl
          refine take_ (i := 2) (N := some 26) (v := ?_) (a' := ?_) #[true, true, true, true, false, false, false, false, false, false, false, false, false] rfl rfl (by kernel_rfl) (fun _ _ _ h => h) (Or.inl ⟨by rfl, ?_⟩) hHeld ?_ ?_
          rotate_left
          · rintro w' ⟨s0, s1, s2, s3, s4⟩
            go_simp
            with_reducible rfl
          rotate_left
          · simp only [Act.put, List.setIfInBounds_toArray, List.set_cons_zero, List.set_cons_succ, i64_w, i32_w]
            rfl
          refine pure_ (i := 4) (N := some 28) (v := ?_) (a' := ?_) #[true, true, true, true, true, false, false, false, false, false, false, false, false] rfl rfl (by kernel_rfl) (fun _ _ _ h => h) (Or.inl ⟨by rfl, ?_⟩) ?_ ?_
          rotate_left
          · intro w'
            go_simp
            with_reducible rfl
          rotate_left
          · simp only [Act.put, List.setIfInBounds_toArray, List.set_cons_zero, List.set_cons_succ, i64_w, i32_w]
            rfl
          refine take_ (i := 5) (N := some 29) (v := ?_) (a' := ?_) #[true, true, true, true, true, true, false, false, false, false, false, false, false] rfl rfl (by kernel_rfl) (fun _ _ _ h => h) (Or.inl ⟨by rfl, ?_⟩) hHeld ?_ ?_
          rotate_left
          · rintro w' ⟨s0, s1, s2, s3, s4⟩
            go_simp
            with_reducible rfl
          rotate_left
          · simp only [Act.put, List.setIfInBounds_toArray, List.set_cons_zero, List.set_cons_succ, i64_w, i32_w]
            rfl
          refine join_ (σ := Nat × Value × Value × Value × Value) 2 #[true, true, true, true, true, true, true, true, true, true, true, false, false] (fun s => [(30, .tuple #[.agg #[s.2.1, s.2.2.1, s.2.2.2.1, s.2.2.2.2], .bool (decide (inD x.2.1 k ∈ ns.map (·.1)))]), (23, .tuple #[.agg #[s.2.1, s.2.2.1, s.2.2.2.1, s.2.2.2.2], .bool (decide (inD x.2.1 k ∈ ns.map (·.1)))]), (31, .agg #[s.2.1, s.2.2.1, s.2.2.2.1, s.2.2.2.2]), (32, .bool (decide (inD x.2.1 k ∈ ns.map (·.1)))), (6, .pointer (some ⟨s.1, 0, none⟩))]) (fun s w' => (s.2.1.oneCell' = true ∧ s.2.2.1.oneCell' = true ∧ s.2.2.2.1.oneCell' = true ∧ s.2.2.2.2.oneCell' = true) ∧ wr.heap.size ≤ s.1 ∧ w'.heap[s.1]? = some (.cells #[.int .i64 0, .int .i64 0, .int .i64 0, .slice none 0 0] 60 (0, 0)) ∧ Below wr.heap.size wr w') ?_ ?_
          rotate_left
          · intro hCont
            refine two_ (i := 6) (j := 10) (Ni := some 30) (Nj := some 6) #[true, true, true, true, true, true, true, false, false, false, false, false, false] #[true, true, true, true, true, true, false, false, false, false, true, false, false] rfl rfl rfl rfl (by kernel_rfl) (by decide) (by decide) (fun K hK => ?_) (fun K hK => ?_)
            · skip
              refine goes_ Try.func77 (by kernel_rfl) rfl #[.agg #[.slice A1 ns.length c1, ua, ub], .int .i64 (inD x.2.1 k)] (by rfl) rfl rfl (by simp only [List.map_toArray, List.map_cons, List.map_nil]; rfl) ?_
              with_reducible refine (ref14_Node ns A1 c1 ua ub (inD x.2.1 k) _ ((R1.out.below BW).below (below_drew (Below.refl _ _))) ho1 ho2).mono ?_
              rintro e w1 ⟨v1, v2, v3, v4, rfl, o1, o2, o3, o4, hb1⟩
              refine ⟨_, rfl, ?_⟩
              refine hK.out _ _ ⟨cell_below hb1 he0, cell_below hb1 he1, cell_below hb1 he2, cell_below hb1 hf1, cell_below hb1 hi⟩ (fun hHeld => ?_)
              clear hK K
              refine norm_ (a' := ?_) ?_ ?_
              rotate_left
              · show Act.put _ (some 30) _ = _
                simp only [Act.put, List.setIfInBounds_toArray, List.set_cons_zero, List.set_cons_succ, i64_w, i32_w]
                rfl
              refine pure_ (i := 7) (N := some 23) (v := ?_) (a' := ?_) #[true, true, true, true, true, true, true, true, false, false, false, false, false] rfl rfl (by kernel_rfl) (fun _ _ _ h => h) (Or.inl ⟨by rfl, ?_⟩) ?_ ?_
              rotate_left
              · intro w'
                go_simp
                with_reducible rfl
              rotate_left
              · simp only [Act.put, List.setIfInBounds_toArray, List.set_cons_zero, List.set_cons_succ, i64_w, i32_w]
                rfl
              refine pure_ (i := 8) (N := some 31) (v := ?_) (a' := ?_) #[true, true, true, true, true, true, true, true, true, false, false, false, false] rfl rfl (by kernel_rfl) (fun _ _ _ h => h) (Or.inl ⟨by rfl, ?_⟩) ?_ ?_
              rotate_left
              · intro w'
                go_simp
                with_reducible rfl
              rotate_left
              · simp only [Act.put, List.setIfInBounds_toArray, List.set_cons_zero, List.set_cons_succ, i64_w, i32_w]
                rfl
              refine pure_ (i := 9) (N := some 32) (v := ?_) (a' := ?_) #[true, true, true, true, true, true, true, true, true, true, false, false, false] rfl rfl (by kernel_rfl) (fun _ _ _ h => h) (Or.inl ⟨by rfl, ?_⟩) ?_ ?_
              rotate_left
              · intro w'
                go_simp
                with_reducible rfl
              rotate_left
              · simp only [Act.put, List.setIfInBounds_toArray, List.set_cons_zero, List.set_cons_succ, i64_w, i32_w]
                rfl
              refine one_ (i := 10) (N := some 6) #[true, true, true, true, true, true, true, true, true, true, true, false, false] rfl rfl (by kernel_rfl) (by decide) (fun K hK => ?_)
              refine value_ (w1 := ?_) (v := ?_) (by rfl) rfl ?_ ?_
              rotate_left 2
              · go_simp
                constructor
                · rfl
                · rfl
              refine hK.out _ _ ⟨cell_below (below_alloc (Below.refl _ _) _) (cell_below hb1 he0), cell_below (below_alloc (Below.refl _ _) _) (cell_below hb1 he1), cell_below (below_alloc (Below.refl _ _) _) (cell_below hb1 he2), cell_below (below_alloc (Below.refl _ _) _) (cell_below hb1 hf1), cell_below (below_alloc (Below.refl _ _) _) (cell_below hb1 hi)⟩ (fun hHeld => ?_)
              clear hK K
              refine norm_ (a' := ?_) ?_ ?_
              rotate_left
              · show Act.put _ (some 6) _ = _
                simp only [Act.put, List.setIfInBounds_toArray, List.set_cons_zero, List.set_cons_succ, i64_w, i32_w]
                rfl
              exact norm_ (by simp only [putAll, Act.put, List.setIfInBounds_toArray, List.set_cons_zero, List.set_cons_succ]) (hCont (w1.heap.size, v1, v2, v3, v4) _ ⟨⟨o1, o2, o3, o4⟩, hb1.size, heap_alloc_new _ _, below_alloc (below_step (below_drew (Below.refl _ _)) hb1) _⟩)
            · skip
              refine value_ (w1 := ?_) (v := ?_) (by rfl) rfl ?_ ?_
              rotate_left 2
              · go_simp
                constructor
                · rfl
                · rfl
              refine hK.out _ _ ⟨cell_below (below_alloc (Below.refl _ _) _) he0, cell_below (below_alloc (Below.refl _ _) _) he1, cell_below (below_alloc (Below.refl _ _) _) he2, cell_below (below_alloc (Below.refl _ _) _) hf1, cell_below (below_alloc (Below.refl _ _) _) hi⟩ (fun hHeld => ?_)
              clear hK K
              refine norm_ (a' := ?_) ?_ ?_
              rotate_left
              · show Act.put _ (some 6) _ = _
                simp only [Act.put, List.setIfInBounds_toArray, List.set_cons_zero, List.set_cons_succ, i64_w, i32_w]
                rfl
              refine one_ (i := 6) (N := some 30) #[true, true, true, true, true, true, true, false, false, false, true, false, false] rfl rfl (by kernel_rfl) (by decide) (fun K hK => ?_)
              refine goes_ Try.func77 (by kernel_rfl) rfl #[.agg #[.slice A1 ns.length c1, ua, ub], .int .i64 (inD x.2.1 k)] (by rfl) rfl rfl (by simp only [List.map_toArray, List.map_cons, List.map_nil]; rfl) ?_
              with_reducible refine (ref14_Node ns A1 c1 ua ub (inD x.2.1 k) _ (((R1.out.below BW).alloc _).below (below_drew (Below.refl _ _))) ho1 ho2).mono ?_
              rintro e w1 ⟨v1, v2, v3, v4, rfl, o1, o2, o3, o4, hb1⟩
              refine ⟨_, rfl, ?_⟩
              refine hK.out _ _ ⟨cell_below hb1 (cell_below (below_drew (below_alloc (Below.refl _ _) _)) he0), cell_below hb1 (cell_below (below_drew (below_alloc (Below.refl _ _) _)) he1), cell_below hb1 (cell_below (below_drew (below_alloc (Below.refl _ _) _)) he2), cell_below hb1 (cell_below (below_drew (below_alloc (Below.refl _ _) _)) hf1), cell_below hb1 (cell_below (below_drew (below_alloc (Below.refl _ _) _)) hi)⟩ (fun hHeld => ?_)
              clear hK K
              refine norm_ (a' := ?_) ?_ ?_
              rotate_left
              · show Act.put _ (some 30) _ = _
                simp only [Act.put, List.setIfInBounds_toArray, List.set_cons_zero, List.set_cons_succ, i64_w, i32_w]
                rfl
              refine pure_ (i := 7) (N := some 23) (v := ?_) (a' := ?_) #[true, true, true, true, true, true, true, true, false, false, true, false, false] rfl rfl (by kernel_rfl) (fun _ _ _ h => h) (Or.inl ⟨by rfl, ?_⟩) ?_ ?_
              rotate_left
              · intro w'
                go_simp
                with_reducible rfl
              rotate_left
              · simp only [Act.put, List.setIfInBounds_toArray, List.set_cons_zero, List.set_cons_succ, i64_w, i32_w]
                rfl
              refine pure_ (i := 8) (N := some 31) (v := ?_) (a' := ?_) #[true, true, true, true, true, true, true, true, true, false, true, false, false] rfl rfl (by kernel_rfl) (fun _ _ _ h => h) (Or.inl ⟨by rfl, ?_⟩) ?_ ?_
              rotate_left
              · intro w'
                go_simp
                with_reducible rfl
              rotate_left
              · simp only [Act.put, List.setIfInBounds_toArray, List.set_cons_zero, List.set_cons_succ, i64_w, i32_w]
                rfl
              refine pure_ (i := 9) (N := some 32) (v := ?_) (a' := ?_) #[true, true, true, true, true, true, true, true, true, true, true, false, false] rfl rfl (by kernel_rfl) (fun _ _ _ h => h) (Or.inl ⟨by rfl, ?_⟩) ?_ ?_
              rotate_left
              · intro w'
                go_simp
                with_reducible rfl
              rotate_left
              · simp only [Act.put, List.setIfInBounds_toArray, List.set_cons_zero, List.set_cons_succ, i64_w, i32_w]
                rfl
              exact norm_ (by simp only [putAll, Act.put, List.setIfInBounds_toArray, List.set_cons_zero, List.set_cons_succ]) (hCont (wr.heap.size, v1, v2, v3, v4) _ ⟨⟨o1, o2, o3, o4⟩, Nat.le_refl _, (hb1.block _ (lt_of_block (heap_alloc_new _ _))).trans (heap_alloc_new _ _), below_step (below_drew (below_alloc (Below.refl _ _) _)) hb1⟩)
          rintro ⟨g, v1, v2, v3, v4⟩ w2 ⟨⟨o1, o2, o3, o4⟩, hg, hbk, hbw⟩
          have hHeld := And.intro (cell_below hbw he0) (And.intro (cell_below hbw he1) (And.intro (cell_below hbw he2) (And.intro (cell_below hbw hf1) (cell_below hbw hi))))
          have s1 := sto o1
          have s2 := sto o2
          have s3 := sto o3
          have s4 := sto o4
          have bc0 := blk_cell hbk 0 rfl
          have bc1 := blk_cell hbk 1 rfl
          have bc2 := blk_cell hbk 2 rfl
          have bc3 := blk_cell hbk 3 rfl
          have bf0 := blk_free hbk 0
          have bf1 := blk_free hbk 1
          have bf2 := blk_free hbk 2
          have bf3 := blk_free hbk 3
          refine norm_ (a' := ?_) ?_ ?_
          rotate_left
          · simp only [putAll, Act.put, List.setIfInBounds_toArray, List.set_cons_zero, List.set_cons_succ]
            rfl
          refine last_ (i := 11) (N := none) #[true, true, true, true, true, true, true, true, true, true, true, true, false] rfl rfl (by kernel_rfl) (by decide) (fun K hK => ?_)
          refine skip_ (w1 := ?_) (by rfl) rfl ?_ ?_
          rotate_left
          · go_simp
            rfl
          refine hK.out _ _ ?_
          clear hK K
          refine pure_ (i := 12) (N := some 7) (v := ?_) (a' := ?_) #[true, true, true, true, true, true, true, true, true, true, true, true, true] rfl rfl (by kernel_rfl) (fun _ _ _ h => h) (Or.inl ⟨by rfl, ?_⟩) ?_ ?_
          rotate_left
          · intro w'
            go_simp
            with_reducible rfl
          rotate_left
          · simp only [Act.put, List.setIfInBounds_toArray, List.set_cons_zero, List.set_cons_succ, i64_w, i32_w]
            rfl
          refine done_ (by kernel_rfl) ?_
          clear s1 s2 s3 s4 bc0 bc1 bc2 bc3 bf0 bf1 bf2 bf3 hHeld hbk
          have hgw : W1.heap.size ≤ g := Nat.le_trans hb.size hg
          have BV : Below W1.heap.size W1 ((((w2.setCell ⟨g, 0, none⟩ v1).setCell ⟨g, 1, none⟩ v2).setCell ⟨g, 2, none⟩ v3).setCell ⟨g, 3, none⟩ v4) :=
            below_set2 hgw (below_set2 hgw (below_set2 hgw (below_set2 hgw (below_step hb hbw))))
          obtain ⟨w3, hw3⟩ : ∃ w3, w3 = (((w2.setCell ⟨g, 0, none⟩ v1).setCell ⟨g, 1, none⟩ v2).setCell ⟨g, 2, none⟩ v3).setCell ⟨g, 3, none⟩ v4 := ⟨_, rfl⟩
          rw [← hw3]
          rw [← hw3] at BV
          clear hw3 he0 he1 he2 hf1 hf2 hi
          by_cases hm : inD x.2.1 k ∈ ns.map (·.1)
          · have qm : decide (inD x.2.1 k ∈ ns.map (·.1)) = true := decide_eq_true hm
            have HN : Hid (∀ j, j < k + 1 → inD x.2.1 j ∈ ns.map (·.1)) := fun j hj => by
              by_cases e : j = k
              · rw [e]; exact hm
              · exact HS.out j (by omega)
            rw [qm]
            clear hm qm
            go_wp2
            go_roundw
            case rel => exact ⟨k + 1, by omega, by go_num, BV, HN⟩
            case measure => simp [intOf]; omega
          · have qm : decide (inD x.2.1 k ∈ ns.map (·.1)) = false := decide_eq_false hm
            have HN : Hid (wayB (ns.map (·.1)) x = 9) := HM1.out (by
              rw [List.any_eq_true]
              exact ⟨x.2.1[k], List.getElem_mem hlt, by have : x.2.1[k] = inD x.2.1 k := by simp [inD, hlt]
                                                        rw [this, qm]; rfl⟩)
            rw [qm]
            clear hm qm
            go_wp2
            go_ret
            exact ⟨ret_int HN.out.symm, (by repeat (first | exact Below.refl _ _ | apply below_alloc | apply below_drewN | apply below_drew | (refine below_set2 ?_ ?_; (first | (simp; done) | (simp; omega))) | (refine below_step ?_ BV) | (refine below_step ?_ B)))⟩
        · obtain rfl : k = x.2.1.length := by omega
          have HN : Hid (wayB (ns.map (·.1)) x = tagErr x.2.2) := HM2.out (by
            rw [List.any_eq_false]
            intro y hy
            obtain ⟨j, hj, rfl⟩ := List.mem_iff_getElem.1 hy
            have : inD x.2.1 j = x.2.1[j] := by simp [inD, hj]
            have := HS.out j hj
            simp_all)
          clear HS
          go_wp2_with fail
          refine (ref06_Check x.2.2 B2 _ d2 _ (R3.out.below BW) rfl).mono ?_
          rintro e w2 ⟨rfl, hb2⟩
          go_wp2
          go_ret
          exact ⟨ret_int HN.out.symm, (by repeat (first | exact Below.refl _ _ | apply below_alloc | apply below_drewN | apply below_drew | (refine below_set2 ?_ ?_; (first | (simp; done) | (simp; omega))) | (refine below_step ?_ hb2) | (refine below_step ?_ BW)))⟩
end Go.Proofs.Ytniceoinipffmaa
