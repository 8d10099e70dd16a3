/- Contract of mapmakerref19.line: the line of a way of a valid dataset. -/
import Derived.Test.YtniceoinipffmaaNLine
namespace Go.Proofs.Ytniceoinipffmaa
open Go.RowKit Go.Proofs.YtniceoinipffmaaW.PrintLast
set_option linter.unusedVariables false
set_option linter.unusedSimpArgs false

set_option maxRecDepth 20000 in
set_option maxHeartbeats 4000000 in
theorem ref19_line {ok : Nat → Prop} (ns : List Node) (x : Way) (A1 B1 B2 : Option Addr) (c1 d1 d2 : Nat) (ua ub : Value) (w : World) (h1 : Row Ty.node ok w A1 ns) (ho1 : ua.oneCell' = true) (ho2 : ub.oneCell' = true) (hc : ∀ k, k < ns.length → okC (ndD ns k).2.1) (h2 : Row Ty.i64 ok w B1 x.2.1) (h3 : Row Ty.tag ok w B2 x.2.2) (hlen : x.2.1.length ≤ 10000) :
    Calls Try.prog 41 #[.agg #[.slice A1 ns.length c1, ua, ub], .agg #[.int .i64 x.1, .slice B1 x.2.1.length d1, .slice B2 x.2.2.length d2]] w fun e w' => RetL (lineZ (nodeF ns) x) (.slice B2 x.2.2.length d2) w.heap.size e w' ∧ Below w.heap.size w w' := by
  have R1 := Lib.hid h1
  have HC := Lib.hid hc
  have R2 := Lib.hid h2
  have R3 := Lib.hid h3
  clear h1 hc h2 h3
  obtain ⟨Wa, hWa⟩ : ∃ Wa, Wa = w.alloc (.cells #[.slice A1 ns.length c1, ua, ub] 26) := ⟨_, rfl⟩
  have za : Wa.heap.size = w.heap.size + 1 := by rw [hWa]; simp
  have Ba : Below w.heap.size w Wa := by rw [hWa]; exact (by repeat (first | exact Below.refl _ _ | apply below_alloc | apply below_drewN | apply below_drew | (refine below_set2 ?_ ?_; (first | (simp; done) | (simp; omega)))))
  have hao : ∀ o : Nat, Wa.cell? ⟨w.heap.size, o, none⟩ = #[.slice A1 ns.length c1, ua, ub][o]? := fun o => by rw [hWa]; simp only [World.cell?, heap_alloc_new]; rfl
  obtain ⟨W0, hW0⟩ : ∃ W0, W0 = Wa.alloc (.cells #[.int .i64 x.1, .slice B1 x.2.1.length d1, .slice B2 x.2.2.length d2] 50) := ⟨_, rfl⟩
  have Bb : Below Wa.heap.size Wa W0 := by rw [hW0]; exact (by repeat (first | exact Below.refl _ _ | apply below_alloc | apply below_drewN | apply below_drew | (refine below_set2 ?_ ?_; (first | (simp; done) | (simp; omega)))))
  have B0 : Below w.heap.size w W0 := (by repeat (first | exact Below.refl _ _ | apply below_alloc | apply below_drewN | apply below_drew | (refine below_set2 ?_ ?_; (first | (simp; done) | (simp; omega))) | (refine below_step ?_ Bb) | (refine below_step ?_ Ba)))
  have z0 : W0.heap.size = w.heap.size + 1 + 1 := by rw [hW0, World.alloc]; simp [za]
  have hc0 := cell_below Bb (show _ = some _ from hao 0)
  have hc1 := cell_below Bb (show _ = some _ from hao 1)
  have hc2 := cell_below Bb (show _ = some _ from hao 2)
  have hd1 : W0.cell? ⟨w.heap.size + 1, 1, none⟩ = some (.slice B1 x.2.1.length d1) := by rw [hW0, ← za]; simp only [World.cell?, heap_alloc_new]; rfl
  have hS := LS.start W0 (.int .i64 x.1) (.slice B2 x.2.2.length d2)
  obtain ⟨W1, hW1⟩ : ∃ W1, W1 = (W0.alloc (.cells #[.int .i64 0, .slice none 0 0, .slice none 0 0, .slice none 0 0] 42)).alloc (.cells #[.int .i64 x.1, .slice none 0 0, .slice none 0 0, .slice B2 x.2.2.length d2] 42) := ⟨_, rfl⟩
  rw [← hW1] at hS
  rw [hW0, hWa] at hW1
  have HS := Lib.hid hS
  clear hW0 hWa za Ba Bb hao hS
  go_enter Try.func41, Try.ntmps41
  go_wp2_with fail
  rw [← hW1]
  clear hW1
  go_loopw [7] (fun i wr => ∃ (k : Nat) (ps : Pts) (is : List Int) (vp vi : Value), k ≤ x.2.1.length ∧ i = .int .i64 k ∧ ps.length ≤ k ∧ is.length ≤ k ∧ Hid (LS W0 (.int .i64 x.1) (.slice B2 x.2.2.length d2) wr vp vi ps is) ∧ Hid (runL (nodeF ns) (x.2.1.drop k) (ps, is) = runL (nodeF ns) x.2.1 ([], []))) (fun i _ => x.2.1.length - (intOf i).toNat)
  case atStart => exact ⟨0, [], [], _, _, Nat.zero_le _, rfl, Nat.le_refl _, Nat.le_refl _, HS.out, rfl⟩
  case round =>
    obtain ⟨k, ps, is, vp, vi, hk, rfl, hlp, hli, HL, HR⟩ := hrel
    have BW : Below w.heap.size w wr := below_step B0 HL.out.below
    have he0 := cell_below HL.out.below hc0
    have he1 := cell_below HL.out.below hc1
    have he2 := cell_below HL.out.below hc2
    have hf1 := cell_below HL.out.below hd1
    by_cases hlt : k < x.2.1.length
    · obtain ⟨ad, rfl, hi⟩ := (R2.out.below BW).int_at k hlt
      obtain ⟨p, hp⟩ : ∃ p, p = (nodeF ns (inD x.2.1 k)).getD (0, 0) := ⟨_, rfl⟩
      obtain ⟨bb, hbb⟩ : ∃ bb, bb = (nodeF ns (inD x.2.1 k)).isSome := ⟨_, rfl⟩
      have HPT : Hid (∀ W, Below wr.heap.size wr W → Calls Try.prog 62 #[.agg #[.slice A1 ns.length c1, ua, ub], .int .i64 (inD x.2.1 k)] W fun e w' => e = .returned (.tuple #[.agg #[.int .i64 p.1, .int .i64 p.2], .bool bb]) ∧ Below W.heap.size W w') := fun W hW => by
        have := ref19_point ns A1 c1 ua ub (inD x.2.1 k) W ((R1.out.below BW).below hW) ho1 ho2 HC.out
        rw [← hp, ← hbb] at this
        exact this
      have HPP := Lib.hid hp
      have HBB := Lib.hid hbb
      clear hp hbb
      go_wp2_with fail
      refine start_ (n := 13) (S := fun w' => w'.cell? ⟨w.heap.size, 0, none⟩ = some (.slice A1 ns.length c1) ∧ w'.cell? ⟨w.heap.size, 1, none⟩ = some ua ∧ w'.cell? ⟨w.heap.size, 2, none⟩ = some ub ∧ w'.cell? ⟨w.heap.size + 1, 1, none⟩ = some (.slice (some ad) x.2.1.length d1) ∧ w'.cell? (ad.add k) = some (.int .i64 (inD x.2.1 k))) (ds := [11]) #[false, false, false, false, false, false, false, false, false, false, false, false, false] (by kernel_rfl) rfl rfl ⟨he0, he1, he2, hf1, hi⟩ (fun hHeld => ?_)
      refine pure_ (i := 1) (N := some 24) (v := ?_) (a' := ?_) #[false, true, false, false, false, false, false, false, false, false, false, false, false] rfl rfl (by kernel_rfl) (fun _ _ _ h => h) (Or.inl ⟨by rfl, ?_⟩) ?_ ?_
      rotate_left
      · intro w'
        go_simp
        with_reducible rfl
      rotate_left
      · simp only [Act.put, List.setIfInBounds_toArray, List.set_cons_zero, List.set_cons_succ, i64_w, i32_w]
        rfl
      refine pure_ (i := 3) (N := some 26) (v := ?_) (a' := ?_) #[false, true, false, true, false, false, false, false, false, false, false, false, false] rfl rfl (by kernel_rfl) (fun _ _ _ h => h) (Or.inl ⟨by rfl, ?_⟩) ?_ ?_
      rotate_left
      · intro w'
        go_simp
        with_reducible rfl
      rotate_left
      · simp only [Act.put, List.setIfInBounds_toArray, List.set_cons_zero, List.set_cons_succ, i64_w, i32_w]
        rfl
      refine take_ (i := 0) (N := some 23) (v := ?_) (a' := ?_) #[true, true, false, true, false, false, false, false, false, false, false, false, false] rfl rfl (by kernel_rfl) (fun _ _ _ h => h) (Or.inl ⟨by rfl, ?_⟩) hHeld ?_ ?_
      rotate_left
      · rintro w' ⟨s0, s1, s2, s3, s4⟩
        go_simp
        with_reducible rfl
      rotate_left
      · simp only [Act.put, List.setIfInBounds_toArray, List.set_cons_zero, List.set_cons_succ, i64_w, i32_w]
        rfl
      refine take_ (i := 2) (N := some 25) (v := ?_) (a' := ?_) #[true, true, true, true, false, false, false, false, false, false, false, false, false] rfl rfl (by kernel_rfl) (fun _ _ _ h => h) (Or.inl ⟨by rfl, ?_⟩) hHeld ?_ ?_
      rotate_left
      · rintro w' ⟨s0, s1, s2, s3, s4⟩
        go_simp
        with_reducible rfl
      rotate_left
      · simp only [Act.put, List.setIfInBounds_toArray, List.set_cons_zero, List.set_cons_succ, i64_w, i32_w]
        rfl
      refine pure_ (i := 4) (N := some 27) (v := ?_) (a' := ?_) #[true, true, true, true, true, false, false, false, false, false, false, false, false] rfl rfl (by kernel_rfl) (fun _ _ _ h => h) (Or.inl ⟨by rfl, ?_⟩) ?_ ?_
      rotate_left
      · intro w'
        go_simp
        with_reducible rfl
      rotate_left
      · simp only [Act.put, List.setIfInBounds_toArray, List.set_cons_zero, List.set_cons_succ, i64_w, i32_w]
        rfl
      refine take_ (i := 5) (N := some 28) (v := ?_) (a' := ?_) #[true, true, true, true, true, true, false, false, false, false, false, false, false] rfl rfl (by kernel_rfl) (fun _ _ _ h => h) (Or.inl ⟨by rfl, ?_⟩) hHeld ?_ ?_
      rotate_left
      · rintro w' ⟨s0, s1, s2, s3, s4⟩
        go_simp
        with_reducible rfl
      rotate_left
      · simp only [Act.put, List.setIfInBounds_toArray, List.set_cons_zero, List.set_cons_succ, i64_w, i32_w]
        rfl
      refine join_ (σ := Nat) 2 #[true, true, true, true, true, true, true, true, true, true, true, false, false] (fun s => [(29, .tuple #[.agg #[.int .i64 p.1, .int .i64 p.2], .bool bb]), (22, .tuple #[.agg #[.int .i64 p.1, .int .i64 p.2], .bool bb]), (30, .agg #[.int .i64 p.1, .int .i64 p.2]), (31, .bool bb), (8, .pointer (some ⟨s, 0, none⟩))]) (fun s w' => wr.heap.size ≤ s ∧ w'.heap[s]? = some (.cells #[.int .i64 0, .int .i64 0] 44 (0, 0)) ∧ Below wr.heap.size wr w') ?_ ?_
      rotate_left
      · intro hCont
        refine two_ (i := 6) (j := 10) (Ni := some 29) (Nj := some 8) #[true, true, true, true, true, true, true, false, false, false, false, false, false] #[true, true, true, true, true, true, false, false, false, false, true, false, false] rfl rfl rfl rfl (by kernel_rfl) (by decide) (by decide) (fun K hK => ?_) (fun K hK => ?_)
        · skip
          refine goes_ Try.func62 (by kernel_rfl) rfl #[.agg #[.slice A1 ns.length c1, ua, ub], .int .i64 (inD x.2.1 k)] (by rfl) rfl rfl (by simp only [List.map_toArray, List.map_cons, List.map_nil]; rfl) ?_
          with_reducible refine (HPT.out _ (below_drew (Below.refl _ _))).mono ?_
          rintro e w1 ⟨rfl, hb1⟩
          refine ⟨_, rfl, ?_⟩
          refine hK.out _ _ ⟨cell_below hb1 he0, cell_below hb1 he1, cell_below hb1 he2, cell_below hb1 hf1, cell_below hb1 hi⟩ (fun hHeld => ?_)
          clear hK K
          refine norm_ (a' := ?_) ?_ ?_
          rotate_left
          · show Act.put _ (some 29) _ = _
            simp only [Act.put, List.setIfInBounds_toArray, List.set_cons_zero, List.set_cons_succ, i64_w, i32_w]
            rfl
          refine pure_ (i := 7) (N := some 22) (v := ?_) (a' := ?_) #[true, true, true, true, true, true, true, true, false, false, false, false, false] rfl rfl (by kernel_rfl) (fun _ _ _ h => h) (Or.inl ⟨by rfl, ?_⟩) ?_ ?_
          rotate_left
          · intro w'
            go_simp
            with_reducible rfl
          rotate_left
          · simp only [Act.put, List.setIfInBounds_toArray, List.set_cons_zero, List.set_cons_succ, i64_w, i32_w]
            rfl
          refine pure_ (i := 8) (N := some 30) (v := ?_) (a' := ?_) #[true, true, true, true, true, true, true, true, true, false, false, false, false] rfl rfl (by kernel_rfl) (fun _ _ _ h => h) (Or.inl ⟨by rfl, ?_⟩) ?_ ?_
          rotate_left
          · intro w'
            go_simp
            with_reducible rfl
          rotate_left
          · simp only [Act.put, List.setIfInBounds_toArray, List.set_cons_zero, List.set_cons_succ, i64_w, i32_w]
            rfl
          refine pure_ (i := 9) (N := some 31) (v := ?_) (a' := ?_) #[true, true, true, true, true, true, true, true, true, true, false, false, false] rfl rfl (by kernel_rfl) (fun _ _ _ h => h) (Or.inl ⟨by rfl, ?_⟩) ?_ ?_
          rotate_left
          · intro w'
            go_simp
            with_reducible rfl
          rotate_left
          · simp only [Act.put, List.setIfInBounds_toArray, List.set_cons_zero, List.set_cons_succ, i64_w, i32_w]
            rfl
          refine one_ (i := 10) (N := some 8) #[true, true, true, true, true, true, true, true, true, true, true, false, false] rfl rfl (by kernel_rfl) (by decide) (fun K hK => ?_)
          refine value_ (w1 := ?_) (v := ?_) (by rfl) rfl ?_ ?_
          rotate_left 2
          · go_simp
            constructor
            · rfl
            · rfl
          refine hK.out _ _ ⟨cell_below (below_alloc (Below.refl _ _) _) (cell_below hb1 he0), cell_below (below_alloc (Below.refl _ _) _) (cell_below hb1 he1), cell_below (below_alloc (Below.refl _ _) _) (cell_below hb1 he2), cell_below (below_alloc (Below.refl _ _) _) (cell_below hb1 hf1), cell_below (below_alloc (Below.refl _ _) _) (cell_below hb1 hi)⟩ (fun hHeld => ?_)
          clear hK K
          refine norm_ (a' := ?_) ?_ ?_
          rotate_left
          · show Act.put _ (some 8) _ = _
            simp only [Act.put, List.setIfInBounds_toArray, List.set_cons_zero, List.set_cons_succ, i64_w, i32_w]
            rfl
          exact norm_ (by simp only [putAll, Act.put, List.setIfInBounds_toArray, List.set_cons_zero, List.set_cons_succ]) (hCont w1.heap.size _ ⟨hb1.size, heap_alloc_new _ _, below_alloc (below_step (below_drew (Below.refl _ _)) hb1) _⟩)
        · skip
          refine value_ (w1 := ?_) (v := ?_) (by rfl) rfl ?_ ?_
          rotate_left 2
          · go_simp
            constructor
            · rfl
            · rfl
          refine hK.out _ _ ⟨cell_below (below_alloc (Below.refl _ _) _) he0, cell_below (below_alloc (Below.refl _ _) _) he1, cell_below (below_alloc (Below.refl _ _) _) he2, cell_below (below_alloc (Below.refl _ _) _) hf1, cell_below (below_alloc (Below.refl _ _) _) hi⟩ (fun hHeld => ?_)
          clear hK K
          refine norm_ (a' := ?_) ?_ ?_
          rotate_left
          · show Act.put _ (some 8) _ = _
            simp only [Act.put, List.setIfInBounds_toArray, List.set_cons_zero, List.set_cons_succ, i64_w, i32_w]
            rfl
          refine one_ (i := 6) (N := some 29) #[true, true, true, true, true, true, true, false, false, false, true, false, false] rfl rfl (by kernel_rfl) (by decide) (fun K hK => ?_)
          refine goes_ Try.func62 (by kernel_rfl) rfl #[.agg #[.slice A1 ns.length c1, ua, ub], .int .i64 (inD x.2.1 k)] (by rfl) rfl rfl (by simp only [List.map_toArray, List.map_cons, List.map_nil]; rfl) ?_
          with_reducible refine (HPT.out _ (below_drew (below_alloc (Below.refl _ _) _))).mono ?_
          rintro e w1 ⟨rfl, hb1⟩
          refine ⟨_, rfl, ?_⟩
          refine hK.out _ _ ⟨cell_below hb1 (cell_below (below_drew (below_alloc (Below.refl _ _) _)) he0), cell_below hb1 (cell_below (below_drew (below_alloc (Below.refl _ _) _)) he1), cell_below hb1 (cell_below (below_drew (below_alloc (Below.refl _ _) _)) he2), cell_below hb1 (cell_below (below_drew (below_alloc (Below.refl _ _) _)) hf1), cell_below hb1 (cell_below (below_drew (below_alloc (Below.refl _ _) _)) hi)⟩ (fun hHeld => ?_)
          clear hK K
          refine norm_ (a' := ?_) ?_ ?_
          rotate_left
          · show Act.put _ (some 29) _ = _
            simp only [Act.put, List.setIfInBounds_toArray, List.set_cons_zero, List.set_cons_succ, i64_w, i32_w]
            rfl
          refine pure_ (i := 7) (N := some 22) (v := ?_) (a' := ?_) #[true, true, true, true, true, true, true, true, false, false, true, false, false] rfl rfl (by kernel_rfl) (fun _ _ _ h => h) (Or.inl ⟨by rfl, ?_⟩) ?_ ?_
          rotate_left
          · intro w'
            go_simp
            with_reducible rfl
          rotate_left
          · simp only [Act.put, List.setIfInBounds_toArray, List.set_cons_zero, List.set_cons_succ, i64_w, i32_w]
            rfl
          refine pure_ (i := 8) (N := some 30) (v := ?_) (a' := ?_) #[true, true, true, true, true, true, true, true, true, false, true, false, false] rfl rfl (by kernel_rfl) (fun _ _ _ h => h) (Or.inl ⟨by rfl, ?_⟩) ?_ ?_
          rotate_left
          · intro w'
            go_simp
            with_reducible rfl
          rotate_left
          · simp only [Act.put, List.setIfInBounds_toArray, List.set_cons_zero, List.set_cons_succ, i64_w, i32_w]
            rfl
          refine pure_ (i := 9) (N := some 31) (v := ?_) (a' := ?_) #[true, true, true, true, true, true, true, true, true, true, true, false, false] rfl rfl (by kernel_rfl) (fun _ _ _ h => h) (Or.inl ⟨by rfl, ?_⟩) ?_ ?_
          rotate_left
          · intro w'
            go_simp
            with_reducible rfl
          rotate_left
          · simp only [Act.put, List.setIfInBounds_toArray, List.set_cons_zero, List.set_cons_succ, i64_w, i32_w]
            rfl
          exact norm_ (by simp only [putAll, Act.put, List.setIfInBounds_toArray, List.set_cons_zero, List.set_cons_succ]) (hCont wr.heap.size _ ⟨Nat.le_refl _, (hb1.block _ (lt_of_block (heap_alloc_new _ _))).trans (heap_alloc_new _ _), below_step (below_drew (below_alloc (Below.refl _ _) _)) hb1⟩)
      rintro g w2 ⟨hg, hbk, hbw⟩
      have hHeld := And.intro (cell_below hbw he0) (And.intro (cell_below hbw he1) (And.intro (cell_below hbw he2) (And.intro (cell_below hbw hf1) (cell_below hbw hi))))
      have bc0 := blk_cell hbk 0 rfl
      have bc1 := blk_cell hbk 1 rfl
      have bf0 := blk_free hbk 0
      have bf1 := blk_free hbk 1
      refine norm_ (a' := ?_) ?_ ?_
      rotate_left
      · simp only [putAll, Act.put, List.setIfInBounds_toArray, List.set_cons_zero, List.set_cons_succ]
        rfl
      refine last_ (i := 11) (N := none) #[true, true, true, true, true, true, true, true, true, true, true, true, false] rfl rfl (by kernel_rfl) (by decide) (fun K hK => ?_)
      refine skip_ (w1 := ?_) (by rfl) rfl ?_ ?_
      rotate_left
      · go_simp
        rfl
      refine hK.out _ _ ?_
      clear hK K
      refine pure_ (i := 12) (N := some 9) (v := ?_) (a' := ?_) #[true, true, true, true, true, true, true, true, true, true, true, true, true] rfl rfl (by kernel_rfl) (fun _ _ _ h => h) (Or.inl ⟨by rfl, ?_⟩) ?_ ?_
      rotate_left
      · intro w'
        go_simp
        with_reducible rfl
      rotate_left
      · simp only [Act.put, List.setIfInBounds_toArray, List.set_cons_zero, List.set_cons_succ, i64_w, i32_w]
        rfl
      refine done_ (by kernel_rfl) ?_
      have BV : Below wr.heap.size wr ((w2.setCell ⟨g, 0, none⟩ (.int .i64 p.1)).setCell ⟨g, 1, none⟩ (.int .i64 p.2)) := below_set2 hg (below_set2 hg hbw)
      have hpk := blk_set (i := 1) (blk_set (i := 0) hbk (.int .i64 p.1)) (.int .i64 p.2)
      obtain ⟨Wp, hWp⟩ : ∃ Wp, Wp = (w2.setCell ⟨g, 0, none⟩ (.int .i64 p.1)).setCell ⟨g, 1, none⟩ (.int .i64 p.2) := ⟨_, rfl⟩
      rw [← hWp] at BV hpk ⊢
      have hp0 := blk_cell hpk 0 rfl
      have hp1 := blk_cell hpk 1 rfl
      have HLp := Lib.hid (HL.out.step BV)
      have ge1 := cell_below BV hf1
      have ge2 := cell_below BV hi
      have BWp : Below w.heap.size w Wp := (by repeat (first | exact Below.refl _ _ | apply below_alloc | apply below_drewN | apply below_drew | (refine below_set2 ?_ ?_; (first | (simp; done) | (simp; omega))) | (refine below_step ?_ BV) | (refine below_step ?_ BW)))
      clear hHeld bc0 bc1 bf0 bf1 hbk hbw hWp he0 he1 he2 hf1 hi HPT hpk hg
      cases bb
      · have HN : Hid (lineZ (nodeF ns) x = none) := lineZ_none (runL_none hlt HR.out (by have := HBB.out; cases hn : nodeF ns (inD x.2.1 k) with | none => rfl | some q => rw [hn] at this; cases this))
        obtain ⟨y0, y1, y2, y3, yf0, yf1, yf2, yf3⟩ := HLp.out.zeroAt z0
        go_wp2
        refine bodyPost_ret (v := .tuple #[.agg #[.int .i64 0, .slice none 0 0, .slice none 0 0, .slice none 0 0], .bool false]) ?_ rfl ⟨.inl ⟨HN.out, rfl⟩, by repeat (first | exact BWp | (apply below_alloc) | (refine below_set2 (by simp; omega) ?_))⟩
        simp [results, Try.results41]
        go_simp
      · have HF : nodeF ns (inD x.2.1 k) = some p := by
          have h1 := HBB.out
          have h2 := HPP.out
          cases hn : nodeF ns (inD x.2.1 k) with
          | none => rw [hn] at h1; cases h1
          | some q => rw [hn] at h2; rw [h2]; rfl
        have HRn := Lib.hid (runL_some hlt HR.out HF)
        clear HF HBB HPP
        obtain ⟨x0, x1, x2, x3, xf1, xf2, xz⟩ := HLp.out.cellsAt z0
        have HKp : Hid (Below Wp.heap.size Wp Wp.drew) := below_drew (Below.refl _ _)
        by_cases hps : ps.length = 0
        · have hpe : ps = [] := List.eq_nil_of_length_eq_zero hps
          subst hpe
          obtain ⟨Ap, cp, rfl, _, _⟩ := HL.out.op.reads
          have HRm : Hid (runL (nodeF ns) (x.2.1.drop (k + 1)) ([] ++ [p], is ++ [inD x.2.1 k]) = runL (nodeF ns) x.2.1 ([], [])) := by show _ = _; rw [← HRn.out, stepL_add (by simp)]
          clear HRn HR HL hps
          go_wp2_with fail
          refine start_ (n := 16) (S := fun w' => w'.cell? ⟨w.heap.size + 1 + 1 + 1, 1, none⟩ = some (.slice Ap ([] : Pts).length cp)) (ds := []) #[false, false, false, false, false, false, false, false, false, false, false, false, false, false, false, false] (by kernel_rfl) rfl rfl (x1) (fun hHeld => ?_)
          refine pure_ (i := 0) (N := some 35) (v := ?_) (a' := ?_) #[true, false, false, false, false, false, false, false, false, false, false, false, false, false, false, false] rfl rfl (by kernel_rfl) (fun _ _ _ h => h) (Or.inl ⟨by rfl, ?_⟩) ?_ ?_
          rotate_left
          · intro w'
            go_simp
            with_reducible rfl
          rotate_left
          · simp only [Act.put, List.setIfInBounds_toArray, List.set_cons_zero, List.set_cons_succ, i64_w, i32_w]
            rfl
          refine take_ (i := 1) (N := some 36) (v := ?_) (a' := ?_) #[true, true, false, false, false, false, false, false, false, false, false, false, false, false, false, false] rfl rfl (by kernel_rfl) (fun _ _ _ h => h) (Or.inl ⟨by rfl, ?_⟩) hHeld ?_ ?_
          rotate_left
          · intro w' s0
            go_simp
            with_reducible rfl
          rotate_left
          · simp only [Act.put, List.setIfInBounds_toArray, List.set_cons_zero, List.set_cons_succ, i64_w, i32_w]
            rfl
          refine pure_ (i := 2) (N := some 37) (v := ?_) (a' := ?_) #[true, true, true, false, false, false, false, false, false, false, false, false, false, false, false, false] rfl rfl (by kernel_rfl) (fun _ _ _ h => h) (Or.inl ⟨by rfl, ?_⟩) ?_ ?_
          rotate_left
          · intro w'
            go_simp
            with_reducible rfl
          rotate_left
          · simp only [Act.put, List.setIfInBounds_toArray, List.set_cons_zero, List.set_cons_succ, i64_w, i32_w]
            rfl
          refine pure_ (i := 3) (N := some 38) (v := ?_) (a' := ?_) #[true, true, true, true, false, false, false, false, false, false, false, false, false, false, false, false] rfl rfl (by kernel_rfl) (fun _ _ _ h => h) (Or.inl ⟨by rfl, ?_⟩) ?_ ?_
          rotate_left
          · intro w'
            go_simp
            with_reducible rfl
          rotate_left
          · simp only [Act.put, List.setIfInBounds_toArray, List.set_cons_zero, List.set_cons_succ, i64_w, i32_w]
            rfl
          refine pure_ (i := 4) (N := some 39) (v := ?_) (a' := ?_) #[true, true, true, true, true, false, false, false, false, false, false, false, false, false, false, false] rfl rfl (by kernel_rfl) (fun _ _ _ h => h) (Or.inl ⟨by rfl, ?_⟩) ?_ ?_
          rotate_left
          · intro w'
            go_simp
            with_reducible rfl
          rotate_left
          · simp only [Act.put, List.setIfInBounds_toArray, List.set_cons_zero, List.set_cons_succ, i64_w, i32_w]
            rfl
          refine pure_ (i := 5) (N := some 40) (v := undef) (a' := ?_) #[true, true, true, true, true, true, false, false, false, false, false, false, false, false, false, false] rfl rfl (by kernel_rfl) (fun _ _ _ h => h) (Or.inr ⟨by rfl, rfl⟩) ?_ ?_
          rotate_left
          · simp only [Act.put, List.setIfInBounds_toArray, List.set_cons_zero, List.set_cons_succ, i64_w, i32_w]
            rfl
          refine pure_ (i := 6) (N := some 41) (v := undef) (a' := ?_) #[true, true, true, true, true, true, true, false, false, false, false, false, false, false, false, false] rfl rfl (by kernel_rfl) (fun _ _ _ h => h) (Or.inr ⟨by rfl, rfl⟩) ?_ ?_
          rotate_left
          · simp only [Act.put, List.setIfInBounds_toArray, List.set_cons_zero, List.set_cons_succ, i64_w, i32_w]
            rfl
          refine pure_ (i := 7) (N := some 42) (v := undef) (a' := ?_) #[true, true, true, true, true, true, true, true, false, false, false, false, false, false, false, false] rfl rfl (by kernel_rfl) (fun _ _ _ h => h) (Or.inr ⟨by rfl, rfl⟩) ?_ ?_
          rotate_left
          · simp only [Act.put, List.setIfInBounds_toArray, List.set_cons_zero, List.set_cons_succ, i64_w, i32_w]
            rfl
          refine pure_ (i := 8) (N := some 43) (v := undef) (a' := ?_) #[true, true, true, true, true, true, true, true, true, false, false, false, false, false, false, false] rfl rfl (by kernel_rfl) (fun _ _ _ h => h) (Or.inr ⟨by rfl, rfl⟩) ?_ ?_
          rotate_left
          · simp only [Act.put, List.setIfInBounds_toArray, List.set_cons_zero, List.set_cons_succ, i64_w, i32_w]
            rfl
          refine pure_ (i := 9) (N := some 44) (v := undef) (a' := ?_) #[true, true, true, true, true, true, true, true, true, true, false, false, false, false, false, false] rfl rfl (by kernel_rfl) (fun _ _ _ h => h) (Or.inr ⟨by rfl, rfl⟩) ?_ ?_
          rotate_left
          · simp only [Act.put, List.setIfInBounds_toArray, List.set_cons_zero, List.set_cons_succ, i64_w, i32_w]
            rfl
          refine pure_ (i := 10) (N := some 45) (v := undef) (a' := ?_) #[true, true, true, true, true, true, true, true, true, true, true, false, false, false, false, false] rfl rfl (by kernel_rfl) (fun _ _ _ h => h) (Or.inr ⟨by rfl, rfl⟩) ?_ ?_
          rotate_left
          · simp only [Act.put, List.setIfInBounds_toArray, List.set_cons_zero, List.set_cons_succ, i64_w, i32_w]
            rfl
          refine pure_ (i := 11) (N := some 46) (v := undef) (a' := ?_) #[true, true, true, true, true, true, true, true, true, true, true, true, false, false, false, false] rfl rfl (by kernel_rfl) (fun _ _ _ h => h) (Or.inr ⟨by rfl, rfl⟩) ?_ ?_
          rotate_left
          · simp only [Act.put, List.setIfInBounds_toArray, List.set_cons_zero, List.set_cons_succ, i64_w, i32_w]
            rfl
          refine pure_ (i := 12) (N := some 47) (v := undef) (a' := ?_) #[true, true, true, true, true, true, true, true, true, true, true, true, true, false, false, false] rfl rfl (by kernel_rfl) (fun _ _ _ h => h) (Or.inr ⟨by rfl, rfl⟩) ?_ ?_
          rotate_left
          · simp only [Act.put, List.setIfInBounds_toArray, List.set_cons_zero, List.set_cons_succ, i64_w, i32_w]
            rfl
          refine pure_ (i := 13) (N := some 48) (v := undef) (a' := ?_) #[true, true, true, true, true, true, true, true, true, true, true, true, true, true, false, false] rfl rfl (by kernel_rfl) (fun _ _ _ h => h) (Or.inr ⟨by rfl, rfl⟩) ?_ ?_
          rotate_left
          · simp only [Act.put, List.setIfInBounds_toArray, List.set_cons_zero, List.set_cons_succ, i64_w, i32_w]
            rfl
          refine pure_ (i := 14) (N := some 49) (v := undef) (a' := ?_) #[true, true, true, true, true, true, true, true, true, true, true, true, true, true, true, false] rfl rfl (by kernel_rfl) (fun _ _ _ h => h) (Or.inr ⟨by rfl, rfl⟩) ?_ ?_
          rotate_left
          · simp only [Act.put, List.setIfInBounds_toArray, List.set_cons_zero, List.set_cons_succ, i64_w, i32_w]
            rfl
          refine pure_ (i := 15) (N := some 50) (v := ?_) (a' := ?_) #[true, true, true, true, true, true, true, true, true, true, true, true, true, true, true, true] rfl rfl (by kernel_rfl) (fun _ _ _ h => h) (Or.inl ⟨by rfl, ?_⟩) ?_ ?_
          rotate_left
          · intro w'
            go_simp
            with_reducible rfl
          rotate_left
          · simp only [Act.put, List.setIfInBounds_toArray, List.set_cons_zero, List.set_cons_succ, i64_w, i32_w]
            rfl
          refine done_ (by kernel_rfl) ?_
          clear hHeld
          obtain ⟨Ai, ci, rfl, _, _⟩ := HLp.out.oi.reads
          obtain ⟨Wq, hWq⟩ : ∃ Wq, Wq = Wp.drew := ⟨_, rfl⟩
          have BQ : Below Wp.heap.size Wp Wq := by rw [hWq]; exact below_drew (Below.refl _ _)
          have HLq := Lib.hid (HLp.out.step BQ)
          have hq0 := cell_below BQ hp0
          have hq1 := cell_below BQ hp1
          have hzq : g < Wq.heap.size := World.block_lt_of_cell? Wq _ hq0
          obtain ⟨e0, e1, e2, e3, ef1, ef2, ez⟩ := HLq.out.cellsAt z0
          have zq : W0.heap.size + 2 ≤ Wq.heap.size := by omega
          have hlen1 : ((([] : Pts)).length + 1) * 16 ≤ 140737488355328 := by first | omega | (simp; done)
          have hlen2 : (is.length + 1) * 8 ≤ 140737488355328 := by omega
          have ge3 := cell_below BQ ge1
          have hzw : w.heap.size + 1 < Wq.heap.size := by omega
          have BWq : Below w.heap.size w Wq := (by repeat (first | exact Below.refl _ _ | apply below_alloc | apply below_drewN | apply below_drew | (refine below_set2 ?_ ?_; (first | (simp; done) | (simp; omega))) | (refine below_step ?_ BQ) | (refine below_step ?_ BWp)))
          rw [← hWq]
          clear hWq x0 x1 x2 x3 xf1 xf2 hp0 hp1 HLp HKp ge1 ge2
          go_wp2_with (first | (at_builtin; refine app_one Ty.pt (W := Wq) (W0.heap.size + 2) rfl _ _ 38 44 _ 16 rfl Try.underlying38 infoPt rfl (by decide) (.slice Ap ([] : Pts).length cp) (([] : Pts)) p [.int .i64 p.1, .int .i64 p.2] _ rfl rfl (by simp) rfl HLq.out.op zq hlen1 ?_; intro v1 w4 HO1 hg1 hat1; obtain ⟨Av, nv, cv, rfl⟩ : ∃ Av nv cv, v1 = .slice Av nv cv := (by obtain ⟨Av, cv, e, _⟩ := OwnR.reads HO1; exact ⟨_, _, _, e⟩); have bk1 := HLq.out.atP hg1; rw [z0] at bk1; have bc1 := blk_cell bk1 1 rfl; have bf1 := blk_free bk1 1; have bc2 := blk_cell bk1 2 rfl; have HL5 := HLq.out.pushP HO1 hg1; rw [z0] at HL5; have H5 := Lib.hid HL5; have ge4 := (cell_heap (a := ⟨w.heap.size + 1, 1, none⟩) (hg1.block _ hzw (fun e => by have : W0.heap.size + 2 ≤ w.heap.size + 1 := (OwnR.lt HLq.out.op _ e.symm).1; omega))).trans ge3; clear HL5 HO1 hat1 bk1 e0 e1 e2 e3 ef1 ef2))
          obtain ⟨W5, hW5⟩ : ∃ W5, W5 = w4.setCell ⟨w.heap.size + 1 + 1 + 1, 1, none⟩ (.slice Av nv cv) := ⟨_, rfl⟩
          rw [← hW5] at H5 ⊢
          have ge5 : W5.cell? ⟨w.heap.size + 1, 1, none⟩ = some (.slice (some ad) x.2.1.length d1) := by rw [hW5]; exact (cell_heap (a := ⟨w.heap.size + 1, 1, none⟩) (Below.heap_setCell w4 _ _ _ (by simp))).trans ge4
          have B5 : Below w.heap.size w W5 := below_step B0 H5.out.below
          obtain ⟨ad', e', hi5⟩ := (R2.out.below B5).int_at k hlt
          cases e'
          obtain ⟨k0, k1, k2, k3, kf1, kf2, kz⟩ := H5.out.cellsAt z0
          have H6 := Lib.hid (H5.out.step (below_drew (Below.refl _ _)))
          have zq6 : W0.heap.size + 2 ≤ W5.drew.heap.size := by show _ ≤ W5.heap.size; omega
          clear hW5 bc1 bf1 bc2 ge3 ge4 hg1 HLq
          refine start_ (n := 11) (S := fun w' => w'.cell? ⟨w.heap.size + 1 + 1 + 1, 2, none⟩ = some (.slice Ai is.length ci) ∧ w'.cell? ⟨w.heap.size + 1, 1, none⟩ = some (.slice (some ad) x.2.1.length d1) ∧ w'.cell? (ad.add k) = some (.int .i64 (inD x.2.1 k))) (ds := [8, 10]) #[false, false, false, false, false, false, false, false, false, false, false] (by kernel_rfl) rfl rfl ⟨k2, ge5, hi5⟩ (fun hHeld => ?_)
          refine pure_ (i := 0) (N := some 57) (v := ?_) (a' := ?_) #[true, false, false, false, false, false, false, false, false, false, false] rfl rfl (by kernel_rfl) (fun _ _ _ h => h) (Or.inl ⟨by rfl, ?_⟩) ?_ ?_
          rotate_left
          · intro w'
            go_simp
            with_reducible rfl
          rotate_left
          · simp only [Act.put, List.setIfInBounds_toArray, List.set_cons_zero, List.set_cons_succ, i64_w, i32_w]
            rfl
          refine pure_ (i := 2) (N := some 59) (v := ?_) (a' := ?_) #[true, false, true, false, false, false, false, false, false, false, false] rfl rfl (by kernel_rfl) (fun _ _ _ h => h) (Or.inl ⟨by rfl, ?_⟩) ?_ ?_
          rotate_left
          · intro w'
            go_simp
            with_reducible rfl
          rotate_left
          · simp only [Act.put, List.setIfInBounds_toArray, List.set_cons_zero, List.set_cons_succ, i64_w, i32_w]
            rfl
          refine pure_ (i := 4) (N := some 61) (v := ?_) (a' := ?_) #[true, false, true, false, true, false, false, false, false, false, false] rfl rfl (by kernel_rfl) (fun _ _ _ h => h) (Or.inl ⟨by rfl, ?_⟩) ?_ ?_
          rotate_left
          · intro w'
            go_simp
            with_reducible rfl
          rotate_left
          · simp only [Act.put, List.setIfInBounds_toArray, List.set_cons_zero, List.set_cons_succ, i64_w, i32_w]
            rfl
          refine take_ (i := 1) (N := some 58) (v := ?_) (a' := ?_) #[true, true, true, false, true, false, false, false, false, false, false] rfl rfl (by kernel_rfl) (fun _ _ _ h => h) (Or.inl ⟨by rfl, ?_⟩) hHeld ?_ ?_
          rotate_left
          · rintro w' ⟨s0, s1, s2⟩
            go_simp
            with_reducible rfl
          rotate_left
          · simp only [Act.put, List.setIfInBounds_toArray, List.set_cons_zero, List.set_cons_succ, i64_w, i32_w]
            rfl
          refine take_ (i := 3) (N := some 60) (v := ?_) (a' := ?_) #[true, true, true, true, true, false, false, false, false, false, false] rfl rfl (by kernel_rfl) (fun _ _ _ h => h) (Or.inl ⟨by rfl, ?_⟩) hHeld ?_ ?_
          rotate_left
          · rintro w' ⟨s0, s1, s2⟩
            go_simp
            with_reducible rfl
          rotate_left
          · simp only [Act.put, List.setIfInBounds_toArray, List.set_cons_zero, List.set_cons_succ, i64_w, i32_w]
            rfl
          refine pure_ (i := 5) (N := some 62) (v := ?_) (a' := ?_) #[true, true, true, true, true, true, false, false, false, false, false] rfl rfl (by kernel_rfl) (fun _ _ _ h => h) (Or.inl ⟨by rfl, ?_⟩) ?_ ?_
          rotate_left
          · intro w'
            go_simp
            with_reducible rfl
          rotate_left
          · simp only [Act.put, List.setIfInBounds_toArray, List.set_cons_zero, List.set_cons_succ, i64_w, i32_w]
            rfl
          refine take_ (i := 6) (N := some 63) (v := ?_) (a' := ?_) #[true, true, true, true, true, true, true, false, false, false, false] rfl rfl (by kernel_rfl) (fun _ _ _ h => h) (Or.inl ⟨by rfl, ?_⟩) hHeld ?_ ?_
          rotate_left
          · rintro w' ⟨s0, s1, s2⟩
            go_simp
            with_reducible rfl
          rotate_left
          · simp only [Act.put, List.setIfInBounds_toArray, List.set_cons_zero, List.set_cons_succ, i64_w, i32_w]
            rfl
          refine one_ (i := 7) (N := some 64) #[true, true, true, true, true, true, true, true, false, false, false] rfl rfl (by kernel_rfl) (by decide) (fun K hK => ?_)
          refine value_ (w1 := ?_) (v := ?_) (by rfl) rfl ?_ ?_
          rotate_left 2
          · go_simp
            constructor
            · rfl
            · rfl
          refine hK.out _ _ ⟨cell_below (below_alloc (below_drew (Below.refl _ _)) _) k2, cell_below (below_alloc (below_drew (Below.refl _ _)) _) ge5, cell_below (below_alloc (below_drew (Below.refl _ _)) _) hi5⟩ (fun hHeld => ?_)
          clear hK K
          refine norm_ (a' := ?_) ?_ ?_
          rotate_left
          · show Act.put _ (some 64) _ = _
            simp only [Act.put, List.setIfInBounds_toArray, List.set_cons_zero, List.set_cons_succ, i64_w, i32_w]
            rfl
          refine last_ (i := 8) (N := some 65) #[true, true, true, true, true, true, true, true, true, false, false] rfl rfl (by kernel_rfl) (by decide) (fun K hK => ?_)
          refine step_one Ty.i64 (W := W5.drew) (W0.heap.size + 2) rfl (.tmp 58) (.tmp 64) 39 3 _ 8 rfl Try.underlying39 infoInt rfl (by decide) (.slice Ai is.length ci) is (inD x.2.1 k) [.int .i64 (inD x.2.1 k)] _ rfl rfl (by simp) rfl H6.out.oi zq6 hlen2 ?_
          intro v2 w6 HO2 hg2 hat2
          obtain ⟨Au, nu, cu, rfl⟩ : ∃ Av nv cv, v2 = .slice Av nv cv := by obtain ⟨Av, cv, e, _⟩ := OwnR.reads HO2; exact ⟨_, _, _, e⟩
          have bk2 := H6.out.atI hg2
          rw [z0] at bk2
          have bc3 := blk_cell bk2 2 rfl
          have bf2 := blk_free bk2 2
          refine hK.out _ _ ?_
          clear hK K
          refine norm_ (a' := ?_) ?_ ?_
          rotate_left
          · show Act.put _ (some 65) _ = _
            simp only [Act.put, List.setIfInBounds_toArray, List.set_cons_zero, List.set_cons_succ, i64_w, i32_w]
            rfl
          refine pure_ (i := 9) (N := some 66) (v := ?_) (a' := ?_) #[true, true, true, true, true, true, true, true, true, true, false] rfl rfl (by kernel_rfl) (fun _ _ _ h => h) (Or.inl ⟨by rfl, ?_⟩) ?_ ?_
          rotate_left
          · intro w'
            go_simp
            with_reducible rfl
          rotate_left
          · simp only [Act.put, List.setIfInBounds_toArray, List.set_cons_zero, List.set_cons_succ, i64_w, i32_w]
            rfl
          refine last_ (i := 10) (N := none) #[true, true, true, true, true, true, true, true, true, true, true] rfl rfl (by kernel_rfl) (by decide) (fun K hK => ?_)
          refine skip_ (w1 := ?_) (by rfl) rfl ?_ ?_
          rotate_left
          · go_simp
            rfl
          refine hK.out _ _ ?_
          clear hK K
          refine done_ (by kernel_rfl) ?_
          have HL7 := H6.out.pushI HO2 hg2
          rw [z0] at HL7
          have H7 := Lib.hid HL7
          clear HL7 HO2 hg2 hat2 bk2 H5 H6 bc3 bf2 k0 k1 k2 k3 kf1 kf2
          go_wp2
          go_roundw
          case rel => exact ⟨k + 1, ([] : Pts) ++ [p], is ++ [inD x.2.1 k], _, _, by omega, by go_num, (by first | (simp; done) | (simp; omega)), (by first | (simp; done) | (simp; omega)), H7.out, HRm.out⟩
          case measure => simp [intOf]; omega
        · obtain ⟨m, hm⟩ : ∃ m, ps.length = m + 1 := ⟨ps.length - 1, by omega⟩
          obtain ⟨Ap, cp, hvp, _, hrp⟩ := HLp.out.op.reads
          obtain ⟨adp, hAp, z1, z2⟩ := hrp.pt_at m (by omega)
          rw [hm, hAp] at hvp
          subst hvp
          obtain ⟨q, hqe⟩ : ∃ q, q = ptD ps m := ⟨_, rfl⟩
          have HLAST : Hid (ps.getLast? = some q) := by show _ = _; rw [last_at (by omega), hm, hqe]; rfl
          rw [← hqe] at z1 z2
          obtain ⟨qx, qy⟩ := q
          simp only at z1 z2
          have qw : wrap64 (m : Int) = m := by unfold wrap64; omega
          have qlt : (m : Int) < m + 1 := by omega
          have HLEN := Lib.hid hm
          clear hps hm hrp hAp hqe
          by_cases hqx : qx = p.1
          · subst hqx
            by_cases hqy : qy = p.2
            · subst hqy
              have HRm : Hid (runL (nodeF ns) (x.2.1.drop (k + 1)) (ps, is) = runL (nodeF ns) x.2.1 ([], [])) := by show _ = _; rw [← HRn.out, stepL_skip HLAST.out]
              clear HRn HR HL HLAST
              go_wp2_with fail
              refine start_ (n := 16) (S := fun w' => w'.cell? ⟨w.heap.size + 1 + 1 + 1, 1, none⟩ = some (.slice (some adp) (m + 1) cp) ∧ w'.cell? (adp.add (m * 2)) = some (.int .i64 (p.1)) ∧ w'.cell? ⟨(adp.add (m * 2)).block, (adp.add (m * 2)).off + 1, none⟩ = some (.int .i64 (p.2)) ∧ w'.cell? ⟨g, 0, none⟩ = some (.int .i64 p.1) ∧ w'.cell? ⟨g, 1, none⟩ = some (.int .i64 p.2)) (ds := []) #[false, false, false, false, false, false, false, false, false, false, false, false, false, false, false, false] (by kernel_rfl) rfl rfl ⟨x1, z1, z2, hp0, hp1⟩ (fun hHeld => ?_)
              refine pure_ (i := 0) (N := some 35) (v := ?_) (a' := ?_) #[true, false, false, false, false, false, false, false, false, false, false, false, false, false, false, false] rfl rfl (by kernel_rfl) (fun _ _ _ h => h) (Or.inl ⟨by rfl, ?_⟩) ?_ ?_
              rotate_left
              · intro w'
                go_simp
                with_reducible rfl
              rotate_left
              · simp only [Act.put, List.setIfInBounds_toArray, List.set_cons_zero, List.set_cons_succ, i64_w, i32_w]
                rfl
              refine take_ (i := 1) (N := some 36) (v := ?_) (a' := ?_) #[true, true, false, false, false, false, false, false, false, false, false, false, false, false, false, false] rfl rfl (by kernel_rfl) (fun _ _ _ h => h) (Or.inl ⟨by rfl, ?_⟩) hHeld ?_ ?_
              rotate_left
              · rintro w' ⟨s0, s1, s2, s3, s4⟩
                go_simp
                with_reducible rfl
              rotate_left
              · simp only [Act.put, List.setIfInBounds_toArray, List.set_cons_zero, List.set_cons_succ, i64_w, i32_w]
                rfl
              refine pure_ (i := 2) (N := some 37) (v := ?_) (a' := ?_) #[true, true, true, false, false, false, false, false, false, false, false, false, false, false, false, false] rfl rfl (by kernel_rfl) (fun _ _ _ h => h) (Or.inl ⟨by rfl, ?_⟩) ?_ ?_
              rotate_left
              · intro w'
                go_simp
                with_reducible rfl
              rotate_left
              · simp only [Act.put, List.setIfInBounds_toArray, List.set_cons_zero, List.set_cons_succ, i64_w, i32_w]
                rfl
              refine pure_ (i := 3) (N := some 38) (v := ?_) (a' := ?_) #[true, true, true, true, false, false, false, false, false, false, false, false, false, false, false, false] rfl rfl (by kernel_rfl) (fun _ _ _ h => h) (Or.inl ⟨by rfl, ?_⟩) ?_ ?_
              rotate_left
              · intro w'
                go_simp
                with_reducible rfl
              rotate_left
              · simp only [Act.put, List.setIfInBounds_toArray, List.set_cons_zero, List.set_cons_succ, i64_w, i32_w]
                rfl
              refine pure_ (i := 4) (N := some 39) (v := ?_) (a' := ?_) #[true, true, true, true, true, false, false, false, false, false, false, false, false, false, false, false] rfl rfl (by kernel_rfl) (fun _ _ _ h => h) (Or.inl ⟨by rfl, ?_⟩) ?_ ?_
              rotate_left
              · intro w'
                go_simp
                with_reducible rfl
              rotate_left
              · simp only [Act.put, List.setIfInBounds_toArray, List.set_cons_zero, List.set_cons_succ, i64_w, i32_w]
                rfl
              refine pure_ (i := 5) (N := some 40) (v := ?_) (a' := ?_) #[true, true, true, true, true, true, false, false, false, false, false, false, false, false, false, false] rfl rfl (by kernel_rfl) (fun _ _ _ h => h) (Or.inl ⟨by rfl, ?_⟩) ?_ ?_
              rotate_left
              · intro w'
                go_simp
                with_reducible rfl
              rotate_left
              · simp only [Act.put, List.setIfInBounds_toArray, List.set_cons_zero, List.set_cons_succ, i64_w, i32_w]
                rfl
              refine pure_ (i := 7) (N := some 42) (v := ?_) (a' := ?_) #[true, true, true, true, true, true, false, true, false, false, false, false, false, false, false, false] rfl rfl (by kernel_rfl) (fun _ _ _ h => h) (Or.inl ⟨by rfl, ?_⟩) ?_ ?_
              rotate_left
              · intro w'
                go_simp
                with_reducible rfl
              rotate_left
              · simp only [Act.put, List.setIfInBounds_toArray, List.set_cons_zero, List.set_cons_succ, i64_w, i32_w]
                rfl
              refine take_ (i := 6) (N := some 41) (v := ?_) (a' := ?_) #[true, true, true, true, true, true, true, true, false, false, false, false, false, false, false, false] rfl rfl (by kernel_rfl) (fun _ _ _ h => h) (Or.inl ⟨by rfl, ?_⟩) hHeld ?_ ?_
              rotate_left
              · rintro w' ⟨s0, s1, s2, s3, s4⟩
                go_simp
                with_reducible rfl
              rotate_left
              · simp only [Act.put, List.setIfInBounds_toArray, List.set_cons_zero, List.set_cons_succ, i64_w, i32_w]
                rfl
              refine take_ (i := 8) (N := some 43) (v := ?_) (a' := ?_) #[true, true, true, true, true, true, true, true, true, false, false, false, false, false, false, false] rfl rfl (by kernel_rfl) (fun _ _ _ h => h) (Or.inl ⟨by rfl, ?_⟩) hHeld ?_ ?_
              rotate_left
              · rintro w' ⟨s0, s1, s2, s3, s4⟩
                go_simp
                with_reducible rfl
              rotate_left
              · simp only [Act.put, List.setIfInBounds_toArray, List.set_cons_zero, List.set_cons_succ, i64_w, i32_w]
                rfl
              refine pure_ (i := 9) (N := some 44) (v := ?_) (a' := ?_) #[true, true, true, true, true, true, true, true, true, true, false, false, false, false, false, false] rfl rfl (by kernel_rfl) (fun _ _ _ h => h) (Or.inl ⟨by rfl, ?_⟩) ?_ ?_
              rotate_left
              · intro w'
                go_simp
                with_reducible rfl
              rotate_left
              · simp only [Act.put, List.setIfInBounds_toArray, List.set_cons_zero, List.set_cons_succ, i64_w, i32_w]
                rfl
              refine pure_ (i := 10) (N := some 45) (v := ?_) (a' := ?_) #[true, true, true, true, true, true, true, true, true, true, true, false, false, false, false, false] rfl rfl (by kernel_rfl) (fun _ _ _ h => h) (Or.inl ⟨by rfl, ?_⟩) ?_ ?_
              rotate_left
              · intro w'
                go_simp
                with_reducible rfl
              rotate_left
              · simp only [Act.put, List.setIfInBounds_toArray, List.set_cons_zero, List.set_cons_succ, i64_w, i32_w]
                rfl
              refine pure_ (i := 11) (N := some 46) (v := ?_) (a' := ?_) #[true, true, true, true, true, true, true, true, true, true, true, true, false, false, false, false] rfl rfl (by kernel_rfl) (fun _ _ _ h => h) (Or.inl ⟨by rfl, ?_⟩) ?_ ?_
              rotate_left
              · intro w'
                go_simp
                with_reducible rfl
              rotate_left
              · simp only [Act.put, List.setIfInBounds_toArray, List.set_cons_zero, List.set_cons_succ, i64_w, i32_w]
                rfl
              refine take_ (i := 12) (N := some 47) (v := ?_) (a' := ?_) #[true, true, true, true, true, true, true, true, true, true, true, true, true, false, false, false] rfl rfl (by kernel_rfl) (fun _ _ _ h => h) (Or.inl ⟨by rfl, ?_⟩) hHeld ?_ ?_
              rotate_left
              · rintro w' ⟨s0, s1, s2, s3, s4⟩
                go_simp
                with_reducible rfl
              rotate_left
              · simp only [Act.put, List.setIfInBounds_toArray, List.set_cons_zero, List.set_cons_succ, i64_w, i32_w]
                rfl
              refine take_ (i := 13) (N := some 48) (v := ?_) (a' := ?_) #[true, true, true, true, true, true, true, true, true, true, true, true, true, true, false, false] rfl rfl (by kernel_rfl) (fun _ _ _ h => h) (Or.inl ⟨by rfl, ?_⟩) hHeld ?_ ?_
              rotate_left
              · rintro w' ⟨s0, s1, s2, s3, s4⟩
                go_simp
                with_reducible rfl
              rotate_left
              · simp only [Act.put, List.setIfInBounds_toArray, List.set_cons_zero, List.set_cons_succ, i64_w, i32_w]
                rfl
              refine pure_ (i := 14) (N := some 49) (v := ?_) (a' := ?_) #[true, true, true, true, true, true, true, true, true, true, true, true, true, true, true, false] rfl rfl (by kernel_rfl) (fun _ _ _ h => h) (Or.inl ⟨by rfl, ?_⟩) ?_ ?_
              rotate_left
              · intro w'
                go_simp
                with_reducible rfl
              rotate_left
              · simp only [Act.put, List.setIfInBounds_toArray, List.set_cons_zero, List.set_cons_succ, i64_w, i32_w]
                rfl
              refine pure_ (i := 15) (N := some 50) (v := ?_) (a' := ?_) #[true, true, true, true, true, true, true, true, true, true, true, true, true, true, true, true] rfl rfl (by kernel_rfl) (fun _ _ _ h => h) (Or.inl ⟨by rfl, ?_⟩) ?_ ?_
              rotate_left
              · intro w'
                go_simp
                with_reducible rfl
              rotate_left
              · simp only [Act.put, List.setIfInBounds_toArray, List.set_cons_zero, List.set_cons_succ, i64_w, i32_w]
                rfl
              refine done_ (by kernel_rfl) ?_
              have H9 := Lib.hid (HLp.out.step HKp.out)
              clear HLp HKp x0 x1 x2 x3 xf1 xf2 z1 z2 hp0 hp1 hHeld
              go_wp2
              go_roundw
              case rel => exact ⟨k + 1, ps, is, _, _, by omega, by go_num, by omega, by omega, H9.out, HRm.out⟩
              case measure => simp [intOf]; omega
            · have HRm : Hid (runL (nodeF ns) (x.2.1.drop (k + 1)) (ps ++ [p], is ++ [inD x.2.1 k]) = runL (nodeF ns) x.2.1 ([], [])) := by
                show _ = _; rw [← HRn.out, stepL_add (by rw [HLAST.out]; intro e; injection e with e; exact hqy (congrArg Prod.snd e))]
              clear HRn HR HL HLAST
              go_wp2_with fail
              refine start_ (n := 16) (S := fun w' => w'.cell? ⟨w.heap.size + 1 + 1 + 1, 1, none⟩ = some (.slice (some adp) (m + 1) cp) ∧ w'.cell? (adp.add (m * 2)) = some (.int .i64 (p.1)) ∧ w'.cell? ⟨(adp.add (m * 2)).block, (adp.add (m * 2)).off + 1, none⟩ = some (.int .i64 (qy)) ∧ w'.cell? ⟨g, 0, none⟩ = some (.int .i64 p.1) ∧ w'.cell? ⟨g, 1, none⟩ = some (.int .i64 p.2)) (ds := []) #[false, false, false, false, false, false, false, false, false, false, false, false, false, false, false, false] (by kernel_rfl) rfl rfl ⟨x1, z1, z2, hp0, hp1⟩ (fun hHeld => ?_)
              refine pure_ (i := 0) (N := some 35) (v := ?_) (a' := ?_) #[true, false, false, false, false, false, false, false, false, false, false, false, false, false, false, false] rfl rfl (by kernel_rfl) (fun _ _ _ h => h) (Or.inl ⟨by rfl, ?_⟩) ?_ ?_
              rotate_left
              · intro w'
                go_simp
                with_reducible rfl
              rotate_left
              · simp only [Act.put, List.setIfInBounds_toArray, List.set_cons_zero, List.set_cons_succ, i64_w, i32_w]
                rfl
              refine take_ (i := 1) (N := some 36) (v := ?_) (a' := ?_) #[true, true, false, false, false, false, false, false, false, false, false, false, false, false, false, false] rfl rfl (by kernel_rfl) (fun _ _ _ h => h) (Or.inl ⟨by rfl, ?_⟩) hHeld ?_ ?_
              rotate_left
              · rintro w' ⟨s0, s1, s2, s3, s4⟩
                go_simp
                with_reducible rfl
              rotate_left
              · simp only [Act.put, List.setIfInBounds_toArray, List.set_cons_zero, List.set_cons_succ, i64_w, i32_w]
                rfl
              refine pure_ (i := 2) (N := some 37) (v := ?_) (a' := ?_) #[true, true, true, false, false, false, false, false, false, false, false, false, false, false, false, false] rfl rfl (by kernel_rfl) (fun _ _ _ h => h) (Or.inl ⟨by rfl, ?_⟩) ?_ ?_
              rotate_left
              · intro w'
                go_simp
                with_reducible rfl
              rotate_left
              · simp only [Act.put, List.setIfInBounds_toArray, List.set_cons_zero, List.set_cons_succ, i64_w, i32_w]
                rfl
              refine pure_ (i := 3) (N := some 38) (v := ?_) (a' := ?_) #[true, true, true, true, false, false, false, false, false, false, false, false, false, false, false, false] rfl rfl (by kernel_rfl) (fun _ _ _ h => h) (Or.inl ⟨by rfl, ?_⟩) ?_ ?_
              rotate_left
              · intro w'
                go_simp
                with_reducible rfl
              rotate_left
              · simp only [Act.put, List.setIfInBounds_toArray, List.set_cons_zero, List.set_cons_succ, i64_w, i32_w]
                rfl
              refine pure_ (i := 4) (N := some 39) (v := ?_) (a' := ?_) #[true, true, true, true, true, false, false, false, false, false, false, false, false, false, false, false] rfl rfl (by kernel_rfl) (fun _ _ _ h => h) (Or.inl ⟨by rfl, ?_⟩) ?_ ?_
              rotate_left
              · intro w'
                go_simp
                with_reducible rfl
              rotate_left
              · simp only [Act.put, List.setIfInBounds_toArray, List.set_cons_zero, List.set_cons_succ, i64_w, i32_w]
                rfl
              refine pure_ (i := 5) (N := some 40) (v := ?_) (a' := ?_) #[true, true, true, true, true, true, false, false, false, false, false, false, false, false, false, false] rfl rfl (by kernel_rfl) (fun _ _ _ h => h) (Or.inl ⟨by rfl, ?_⟩) ?_ ?_
              rotate_left
              · intro w'
                go_simp
                with_reducible rfl
              rotate_left
              · simp only [Act.put, List.setIfInBounds_toArray, List.set_cons_zero, List.set_cons_succ, i64_w, i32_w]
                rfl
              refine pure_ (i := 7) (N := some 42) (v := ?_) (a' := ?_) #[true, true, true, true, true, true, false, true, false, false, false, false, false, false, false, false] rfl rfl (by kernel_rfl) (fun _ _ _ h => h) (Or.inl ⟨by rfl, ?_⟩) ?_ ?_
              rotate_left
              · intro w'
                go_simp
                with_reducible rfl
              rotate_left
              · simp only [Act.put, List.setIfInBounds_toArray, List.set_cons_zero, List.set_cons_succ, i64_w, i32_w]
                rfl
              refine take_ (i := 6) (N := some 41) (v := ?_) (a' := ?_) #[true, true, true, true, true, true, true, true, false, false, false, false, false, false, false, false] rfl rfl (by kernel_rfl) (fun _ _ _ h => h) (Or.inl ⟨by rfl, ?_⟩) hHeld ?_ ?_
              rotate_left
              · rintro w' ⟨s0, s1, s2, s3, s4⟩
                go_simp
                with_reducible rfl
              rotate_left
              · simp only [Act.put, List.setIfInBounds_toArray, List.set_cons_zero, List.set_cons_succ, i64_w, i32_w]
                rfl
              refine take_ (i := 8) (N := some 43) (v := ?_) (a' := ?_) #[true, true, true, true, true, true, true, true, true, false, false, false, false, false, false, false] rfl rfl (by kernel_rfl) (fun _ _ _ h => h) (Or.inl ⟨by rfl, ?_⟩) hHeld ?_ ?_
              rotate_left
              · rintro w' ⟨s0, s1, s2, s3, s4⟩
                go_simp
                with_reducible rfl
              rotate_left
              · simp only [Act.put, List.setIfInBounds_toArray, List.set_cons_zero, List.set_cons_succ, i64_w, i32_w]
                rfl
              refine pure_ (i := 9) (N := some 44) (v := ?_) (a' := ?_) #[true, true, true, true, true, true, true, true, true, true, false, false, false, false, false, false] rfl rfl (by kernel_rfl) (fun _ _ _ h => h) (Or.inl ⟨by rfl, ?_⟩) ?_ ?_
              rotate_left
              · intro w'
                go_simp
                with_reducible rfl
              rotate_left
              · simp only [Act.put, List.setIfInBounds_toArray, List.set_cons_zero, List.set_cons_succ, i64_w, i32_w]
                rfl
              refine pure_ (i := 10) (N := some 45) (v := ?_) (a' := ?_) #[true, true, true, true, true, true, true, true, true, true, true, false, false, false, false, false] rfl rfl (by kernel_rfl) (fun _ _ _ h => h) (Or.inl ⟨by rfl, ?_⟩) ?_ ?_
              rotate_left
              · intro w'
                go_simp
                with_reducible rfl
              rotate_left
              · simp only [Act.put, List.setIfInBounds_toArray, List.set_cons_zero, List.set_cons_succ, i64_w, i32_w]
                rfl
              refine pure_ (i := 11) (N := some 46) (v := ?_) (a' := ?_) #[true, true, true, true, true, true, true, true, true, true, true, true, false, false, false, false] rfl rfl (by kernel_rfl) (fun _ _ _ h => h) (Or.inl ⟨by rfl, ?_⟩) ?_ ?_
              rotate_left
              · intro w'
                go_simp
                with_reducible rfl
              rotate_left
              · simp only [Act.put, List.setIfInBounds_toArray, List.set_cons_zero, List.set_cons_succ, i64_w, i32_w]
                rfl
              refine take_ (i := 12) (N := some 47) (v := ?_) (a' := ?_) #[true, true, true, true, true, true, true, true, true, true, true, true, true, false, false, false] rfl rfl (by kernel_rfl) (fun _ _ _ h => h) (Or.inl ⟨by rfl, ?_⟩) hHeld ?_ ?_
              rotate_left
              · rintro w' ⟨s0, s1, s2, s3, s4⟩
                go_simp
                with_reducible rfl
              rotate_left
              · simp only [Act.put, List.setIfInBounds_toArray, List.set_cons_zero, List.set_cons_succ, i64_w, i32_w]
                rfl
              refine take_ (i := 13) (N := some 48) (v := ?_) (a' := ?_) #[true, true, true, true, true, true, true, true, true, true, true, true, true, true, false, false] rfl rfl (by kernel_rfl) (fun _ _ _ h => h) (Or.inl ⟨by rfl, ?_⟩) hHeld ?_ ?_
              rotate_left
              · rintro w' ⟨s0, s1, s2, s3, s4⟩
                go_simp
                with_reducible rfl
              rotate_left
              · simp only [Act.put, List.setIfInBounds_toArray, List.set_cons_zero, List.set_cons_succ, i64_w, i32_w]
                rfl
              refine pure_ (i := 14) (N := some 49) (v := ?_) (a' := ?_) #[true, true, true, true, true, true, true, true, true, true, true, true, true, true, true, false] rfl rfl (by kernel_rfl) (fun _ _ _ h => h) (Or.inl ⟨by rfl, ?_⟩) ?_ ?_
              rotate_left
              · intro w'
                go_simp
                with_reducible rfl
              rotate_left
              · simp only [Act.put, List.setIfInBounds_toArray, List.set_cons_zero, List.set_cons_succ, i64_w, i32_w]
                rfl
              refine pure_ (i := 15) (N := some 50) (v := ?_) (a' := ?_) #[true, true, true, true, true, true, true, true, true, true, true, true, true, true, true, true] rfl rfl (by kernel_rfl) (fun _ _ _ h => h) (Or.inl ⟨by rfl, ?_⟩) ?_ ?_
              rotate_left
              · intro w'
                go_simp
                with_reducible rfl
              rotate_left
              · simp only [Act.put, List.setIfInBounds_toArray, List.set_cons_zero, List.set_cons_succ, i64_w, i32_w]
                rfl
              refine done_ (by kernel_rfl) ?_
              clear hHeld z1 z2
              obtain ⟨Ai, ci, rfl, _, _⟩ := HLp.out.oi.reads
              obtain ⟨Wq, hWq⟩ : ∃ Wq, Wq = Wp.drew := ⟨_, rfl⟩
              have BQ : Below Wp.heap.size Wp Wq := by rw [hWq]; exact below_drew (Below.refl _ _)
              have HLq := Lib.hid (HLp.out.step BQ)
              have hq0 := cell_below BQ hp0
              have hq1 := cell_below BQ hp1
              have hzq : g < Wq.heap.size := World.block_lt_of_cell? Wq _ hq0
              obtain ⟨e0, e1, e2, e3, ef1, ef2, ez⟩ := HLq.out.cellsAt z0
              have zq : W0.heap.size + 2 ≤ Wq.heap.size := by omega
              have hlen1 : ((ps).length + 1) * 16 ≤ 140737488355328 := by first | omega | (simp; done)
              have hlen2 : (is.length + 1) * 8 ≤ 140737488355328 := by omega
              have ge3 := cell_below BQ ge1
              have hzw : w.heap.size + 1 < Wq.heap.size := by omega
              have BWq : Below w.heap.size w Wq := (by repeat (first | exact Below.refl _ _ | apply below_alloc | apply below_drewN | apply below_drew | (refine below_set2 ?_ ?_; (first | (simp; done) | (simp; omega))) | (refine below_step ?_ BQ) | (refine below_step ?_ BWp)))
              rw [← hWq]
              clear hWq x0 x1 x2 x3 xf1 xf2 hp0 hp1 HLp HKp ge1 ge2
              go_wp2_with (first | (at_builtin; refine app_one Ty.pt (W := Wq) (W0.heap.size + 2) rfl _ _ 38 44 _ 16 rfl Try.underlying38 infoPt rfl (by decide) (.slice (some adp) (m + 1) cp) (ps) p [.int .i64 p.1, .int .i64 p.2] _ rfl rfl (by simp) rfl HLq.out.op zq hlen1 ?_; intro v1 w4 HO1 hg1 hat1; obtain ⟨Av, nv, cv, rfl⟩ : ∃ Av nv cv, v1 = .slice Av nv cv := (by obtain ⟨Av, cv, e, _⟩ := OwnR.reads HO1; exact ⟨_, _, _, e⟩); have bk1 := HLq.out.atP hg1; rw [z0] at bk1; have bc1 := blk_cell bk1 1 rfl; have bf1 := blk_free bk1 1; have bc2 := blk_cell bk1 2 rfl; have HL5 := HLq.out.pushP HO1 hg1; rw [z0] at HL5; have H5 := Lib.hid HL5; have ge4 := (cell_heap (a := ⟨w.heap.size + 1, 1, none⟩) (hg1.block _ hzw (fun e => by have : W0.heap.size + 2 ≤ w.heap.size + 1 := (OwnR.lt HLq.out.op _ e.symm).1; omega))).trans ge3; clear HL5 HO1 hat1 bk1 e0 e1 e2 e3 ef1 ef2))
              obtain ⟨W5, hW5⟩ : ∃ W5, W5 = w4.setCell ⟨w.heap.size + 1 + 1 + 1, 1, none⟩ (.slice Av nv cv) := ⟨_, rfl⟩
              rw [← hW5] at H5 ⊢
              have ge5 : W5.cell? ⟨w.heap.size + 1, 1, none⟩ = some (.slice (some ad) x.2.1.length d1) := by rw [hW5]; exact (cell_heap (a := ⟨w.heap.size + 1, 1, none⟩) (Below.heap_setCell w4 _ _ _ (by simp))).trans ge4
              have B5 : Below w.heap.size w W5 := below_step B0 H5.out.below
              obtain ⟨ad', e', hi5⟩ := (R2.out.below B5).int_at k hlt
              cases e'
              obtain ⟨k0, k1, k2, k3, kf1, kf2, kz⟩ := H5.out.cellsAt z0
              have H6 := Lib.hid (H5.out.step (below_drew (Below.refl _ _)))
              have zq6 : W0.heap.size + 2 ≤ W5.drew.heap.size := by show _ ≤ W5.heap.size; omega
              clear hW5 bc1 bf1 bc2 ge3 ge4 hg1 HLq
              refine start_ (n := 11) (S := fun w' => w'.cell? ⟨w.heap.size + 1 + 1 + 1, 2, none⟩ = some (.slice Ai is.length ci) ∧ w'.cell? ⟨w.heap.size + 1, 1, none⟩ = some (.slice (some ad) x.2.1.length d1) ∧ w'.cell? (ad.add k) = some (.int .i64 (inD x.2.1 k))) (ds := [8, 10]) #[false, false, false, false, false, false, false, false, false, false, false] (by kernel_rfl) rfl rfl ⟨k2, ge5, hi5⟩ (fun hHeld => ?_)
              refine pure_ (i := 0) (N := some 57) (v := ?_) (a' := ?_) #[true, false, false, false, false, false, false, false, false, false, false] rfl rfl (by kernel_rfl) (fun _ _ _ h => h) (Or.inl ⟨by rfl, ?_⟩) ?_ ?_
              rotate_left
              · intro w'
                go_simp
                with_reducible rfl
              rotate_left
              · simp only [Act.put, List.setIfInBounds_toArray, List.set_cons_zero, List.set_cons_succ, i64_w, i32_w]
                rfl
              refine pure_ (i := 2) (N := some 59) (v := ?_) (a' := ?_) #[true, false, true, false, false, false, false, false, false, false, false] rfl rfl (by kernel_rfl) (fun _ _ _ h => h) (Or.inl ⟨by rfl, ?_⟩) ?_ ?_
              rotate_left
              · intro w'
                go_simp
                with_reducible rfl
              rotate_left
              · simp only [Act.put, List.setIfInBounds_toArray, List.set_cons_zero, List.set_cons_succ, i64_w, i32_w]
                rfl
              refine pure_ (i := 4) (N := some 61) (v := ?_) (a' := ?_) #[true, false, true, false, true, false, false, false, false, false, false] rfl rfl (by kernel_rfl) (fun _ _ _ h => h) (Or.inl ⟨by rfl, ?_⟩) ?_ ?_
              rotate_left
              · intro w'
                go_simp
                with_reducible rfl
              rotate_left
              · simp only [Act.put, List.setIfInBounds_toArray, List.set_cons_zero, List.set_cons_succ, i64_w, i32_w]
                rfl
              refine take_ (i := 1) (N := some 58) (v := ?_) (a' := ?_) #[true, true, true, false, true, false, false, false, false, false, false] rfl rfl (by kernel_rfl) (fun _ _ _ h => h) (Or.inl ⟨by rfl, ?_⟩) hHeld ?_ ?_
              rotate_left
              · rintro w' ⟨s0, s1, s2⟩
                go_simp
                with_reducible rfl
              rotate_left
              · simp only [Act.put, List.setIfInBounds_toArray, List.set_cons_zero, List.set_cons_succ, i64_w, i32_w]
                rfl
              refine take_ (i := 3) (N := some 60) (v := ?_) (a' := ?_) #[true, true, true, true, true, false, false, false, false, false, false] rfl rfl (by kernel_rfl) (fun _ _ _ h => h) (Or.inl ⟨by rfl, ?_⟩) hHeld ?_ ?_
              rotate_left
              · rintro w' ⟨s0, s1, s2⟩
                go_simp
                with_reducible rfl
              rotate_left
              · simp only [Act.put, List.setIfInBounds_toArray, List.set_cons_zero, List.set_cons_succ, i64_w, i32_w]
                rfl
              refine pure_ (i := 5) (N := some 62) (v := ?_) (a' := ?_) #[true, true, true, true, true, true, false, false, false, false, false] rfl rfl (by kernel_rfl) (fun _ _ _ h => h) (Or.inl ⟨by rfl, ?_⟩) ?_ ?_
              rotate_left
              · intro w'
                go_simp
                with_reducible rfl
              rotate_left
              · simp only [Act.put, List.setIfInBounds_toArray, List.set_cons_zero, List.set_cons_succ, i64_w, i32_w]
                rfl
              refine take_ (i := 6) (N := some 63) (v := ?_) (a' := ?_) #[true, true, true, true, true, true, true, false, false, false, false] rfl rfl (by kernel_rfl) (fun _ _ _ h => h) (Or.inl ⟨by rfl, ?_⟩) hHeld ?_ ?_
              rotate_left
              · rintro w' ⟨s0, s1, s2⟩
                go_simp
                with_reducible rfl
              rotate_left
              · simp only [Act.put, List.setIfInBounds_toArray, List.set_cons_zero, List.set_cons_succ, i64_w, i32_w]
                rfl
              refine one_ (i := 7) (N := some 64) #[true, true, true, true, true, true, true, true, false, false, false] rfl rfl (by kernel_rfl) (by decide) (fun K hK => ?_)
              refine value_ (w1 := ?_) (v := ?_) (by rfl) rfl ?_ ?_
              rotate_left 2
              · go_simp
                constructor
                · rfl
                · rfl
              refine hK.out _ _ ⟨cell_below (below_alloc (below_drew (Below.refl _ _)) _) k2, cell_below (below_alloc (below_drew (Below.refl _ _)) _) ge5, cell_below (below_alloc (below_drew (Below.refl _ _)) _) hi5⟩ (fun hHeld => ?_)
              clear hK K
              refine norm_ (a' := ?_) ?_ ?_
              rotate_left
              · show Act.put _ (some 64) _ = _
                simp only [Act.put, List.setIfInBounds_toArray, List.set_cons_zero, List.set_cons_succ, i64_w, i32_w]
                rfl
              refine last_ (i := 8) (N := some 65) #[true, true, true, true, true, true, true, true, true, false, false] rfl rfl (by kernel_rfl) (by decide) (fun K hK => ?_)
              refine step_one Ty.i64 (W := W5.drew) (W0.heap.size + 2) rfl (.tmp 58) (.tmp 64) 39 3 _ 8 rfl Try.underlying39 infoInt rfl (by decide) (.slice Ai is.length ci) is (inD x.2.1 k) [.int .i64 (inD x.2.1 k)] _ rfl rfl (by simp) rfl H6.out.oi zq6 hlen2 ?_
              intro v2 w6 HO2 hg2 hat2
              obtain ⟨Au, nu, cu, rfl⟩ : ∃ Av nv cv, v2 = .slice Av nv cv := by obtain ⟨Av, cv, e, _⟩ := OwnR.reads HO2; exact ⟨_, _, _, e⟩
              have bk2 := H6.out.atI hg2
              rw [z0] at bk2
              have bc3 := blk_cell bk2 2 rfl
              have bf2 := blk_free bk2 2
              refine hK.out _ _ ?_
              clear hK K
              refine norm_ (a' := ?_) ?_ ?_
              rotate_left
              · show Act.put _ (some 65) _ = _
                simp only [Act.put, List.setIfInBounds_toArray, List.set_cons_zero, List.set_cons_succ, i64_w, i32_w]
                rfl
              refine pure_ (i := 9) (N := some 66) (v := ?_) (a' := ?_) #[true, true, true, true, true, true, true, true, true, true, false] rfl rfl (by kernel_rfl) (fun _ _ _ h => h) (Or.inl ⟨by rfl, ?_⟩) ?_ ?_
              rotate_left
              · intro w'
                go_simp
                with_reducible rfl
              rotate_left
              · simp only [Act.put, List.setIfInBounds_toArray, List.set_cons_zero, List.set_cons_succ, i64_w, i32_w]
                rfl
              refine last_ (i := 10) (N := none) #[true, true, true, true, true, true, true, true, true, true, true] rfl rfl (by kernel_rfl) (by decide) (fun K hK => ?_)
              refine skip_ (w1 := ?_) (by rfl) rfl ?_ ?_
              rotate_left
              · go_simp
                rfl
              refine hK.out _ _ ?_
              clear hK K
              refine done_ (by kernel_rfl) ?_
              have HL7 := H6.out.pushI HO2 hg2
              rw [z0] at HL7
              have H7 := Lib.hid HL7
              clear HL7 HO2 hg2 hat2 bk2 H5 H6 bc3 bf2 k0 k1 k2 k3 kf1 kf2
              go_wp2
              go_roundw
              case rel => exact ⟨k + 1, ps ++ [p], is ++ [inD x.2.1 k], _, _, by omega, by go_num, (by first | (simp; done) | (simp; omega)), (by first | (simp; done) | (simp; omega)), H7.out, HRm.out⟩
              case measure => simp [intOf]; omega
          · have HRm : Hid (runL (nodeF ns) (x.2.1.drop (k + 1)) (ps ++ [p], is ++ [inD x.2.1 k]) = runL (nodeF ns) x.2.1 ([], [])) := by
              show _ = _; rw [← HRn.out, stepL_add (by rw [HLAST.out]; intro e; injection e with e; exact hqx (congrArg Prod.fst e))]
            clear HRn HR HL HLAST
            go_wp2_with fail
            refine start_ (n := 16) (S := fun w' => w'.cell? ⟨w.heap.size + 1 + 1 + 1, 1, none⟩ = some (.slice (some adp) (m + 1) cp) ∧ w'.cell? (adp.add (m * 2)) = some (.int .i64 (qx)) ∧ w'.cell? ⟨(adp.add (m * 2)).block, (adp.add (m * 2)).off + 1, none⟩ = some (.int .i64 (qy)) ∧ w'.cell? ⟨g, 0, none⟩ = some (.int .i64 p.1) ∧ w'.cell? ⟨g, 1, none⟩ = some (.int .i64 p.2)) (ds := []) #[false, false, false, false, false, false, false, false, false, false, false, false, false, false, false, false] (by kernel_rfl) rfl rfl ⟨x1, z1, z2, hp0, hp1⟩ (fun hHeld => ?_)
            refine pure_ (i := 0) (N := some 35) (v := ?_) (a' := ?_) #[true, false, false, false, false, false, false, false, false, false, false, false, false, false, false, false] rfl rfl (by kernel_rfl) (fun _ _ _ h => h) (Or.inl ⟨by rfl, ?_⟩) ?_ ?_
            rotate_left
            · intro w'
              go_simp
              with_reducible rfl
            rotate_left
            · simp only [Act.put, List.setIfInBounds_toArray, List.set_cons_zero, List.set_cons_succ, i64_w, i32_w]
              rfl
            refine take_ (i := 1) (N := some 36) (v := ?_) (a' := ?_) #[true, true, false, false, false, false, false, false, false, false, false, false, false, false, false, false] rfl rfl (by kernel_rfl) (fun _ _ _ h => h) (Or.inl ⟨by rfl, ?_⟩) hHeld ?_ ?_
            rotate_left
            · rintro w' ⟨s0, s1, s2, s3, s4⟩
              go_simp
              with_reducible rfl
            rotate_left
            · simp only [Act.put, List.setIfInBounds_toArray, List.set_cons_zero, List.set_cons_succ, i64_w, i32_w]
              rfl
            refine pure_ (i := 2) (N := some 37) (v := ?_) (a' := ?_) #[true, true, true, false, false, false, false, false, false, false, false, false, false, false, false, false] rfl rfl (by kernel_rfl) (fun _ _ _ h => h) (Or.inl ⟨by rfl, ?_⟩) ?_ ?_
            rotate_left
            · intro w'
              go_simp
              with_reducible rfl
            rotate_left
            · simp only [Act.put, List.setIfInBounds_toArray, List.set_cons_zero, List.set_cons_succ, i64_w, i32_w]
              rfl
            refine pure_ (i := 3) (N := some 38) (v := ?_) (a' := ?_) #[true, true, true, true, false, false, false, false, false, false, false, false, false, false, false, false] rfl rfl (by kernel_rfl) (fun _ _ _ h => h) (Or.inl ⟨by rfl, ?_⟩) ?_ ?_
            rotate_left
            · intro w'
              go_simp
              with_reducible rfl
            rotate_left
            · simp only [Act.put, List.setIfInBounds_toArray, List.set_cons_zero, List.set_cons_succ, i64_w, i32_w]
              rfl
            refine pure_ (i := 4) (N := some 39) (v := ?_) (a' := ?_) #[true, true, true, true, true, false, false, false, false, false, false, false, false, false, false, false] rfl rfl (by kernel_rfl) (fun _ _ _ h => h) (Or.inl ⟨by rfl, ?_⟩) ?_ ?_
            rotate_left
            · intro w'
              go_simp
              with_reducible rfl
            rotate_left
            · simp only [Act.put, List.setIfInBounds_toArray, List.set_cons_zero, List.set_cons_succ, i64_w, i32_w]
              rfl
            refine pure_ (i := 5) (N := some 40) (v := ?_) (a' := ?_) #[true, true, true, true, true, true, false, false, false, false, false, false, false, false, false, false] rfl rfl (by kernel_rfl) (fun _ _ _ h => h) (Or.inl ⟨by rfl, ?_⟩) ?_ ?_
            rotate_left
            · intro w'
              go_simp
              with_reducible rfl
            rotate_left
            · simp only [Act.put, List.setIfInBounds_toArray, List.set_cons_zero, List.set_cons_succ, i64_w, i32_w]
              rfl
            refine pure_ (i := 7) (N := some 42) (v := ?_) (a' := ?_) #[true, true, true, true, true, true, false, true, false, false, false, false, false, false, false, false] rfl rfl (by kernel_rfl) (fun _ _ _ h => h) (Or.inl ⟨by rfl, ?_⟩) ?_ ?_
            rotate_left
            · intro w'
              go_simp
              with_reducible rfl
            rotate_left
            · simp only [Act.put, List.setIfInBounds_toArray, List.set_cons_zero, List.set_cons_succ, i64_w, i32_w]
              rfl
            refine take_ (i := 6) (N := some 41) (v := ?_) (a' := ?_) #[true, true, true, true, true, true, true, true, false, false, false, false, false, false, false, false] rfl rfl (by kernel_rfl) (fun _ _ _ h => h) (Or.inl ⟨by rfl, ?_⟩) hHeld ?_ ?_
            rotate_left
            · rintro w' ⟨s0, s1, s2, s3, s4⟩
              go_simp
              with_reducible rfl
            rotate_left
            · simp only [Act.put, List.setIfInBounds_toArray, List.set_cons_zero, List.set_cons_succ, i64_w, i32_w]
              rfl
            refine take_ (i := 8) (N := some 43) (v := ?_) (a' := ?_) #[true, true, true, true, true, true, true, true, true, false, false, false, false, false, false, false] rfl rfl (by kernel_rfl) (fun _ _ _ h => h) (Or.inl ⟨by rfl, ?_⟩) hHeld ?_ ?_
            rotate_left
            · rintro w' ⟨s0, s1, s2, s3, s4⟩
              go_simp
              with_reducible rfl
            rotate_left
            · simp only [Act.put, List.setIfInBounds_toArray, List.set_cons_zero, List.set_cons_succ, i64_w, i32_w]
              rfl
            refine pure_ (i := 9) (N := some 44) (v := ?_) (a' := ?_) #[true, true, true, true, true, true, true, true, true, true, false, false, false, false, false, false] rfl rfl (by kernel_rfl) (fun _ _ _ h => h) (Or.inl ⟨by rfl, ?_⟩) ?_ ?_
            rotate_left
            · intro w'
              go_simp
              with_reducible rfl
            rotate_left
            · simp only [Act.put, List.setIfInBounds_toArray, List.set_cons_zero, List.set_cons_succ, i64_w, i32_w]
              rfl
            refine pure_ (i := 10) (N := some 45) (v := ?_) (a' := ?_) #[true, true, true, true, true, true, true, true, true, true, true, false, false, false, false, false] rfl rfl (by kernel_rfl) (fun _ _ _ h => h) (Or.inl ⟨by rfl, ?_⟩) ?_ ?_
            rotate_left
            · intro w'
              go_simp
              with_reducible rfl
            rotate_left
            · simp only [Act.put, List.setIfInBounds_toArray, List.set_cons_zero, List.set_cons_succ, i64_w, i32_w]
              rfl
            refine pure_ (i := 11) (N := some 46) (v := ?_) (a' := ?_) #[true, true, true, true, true, true, true, true, true, true, true, true, false, false, false, false] rfl rfl (by kernel_rfl) (fun _ _ _ h => h) (Or.inl ⟨by rfl, ?_⟩) ?_ ?_
            rotate_left
            · intro w'
              go_simp
              with_reducible rfl
            rotate_left
            · simp only [Act.put, List.setIfInBounds_toArray, List.set_cons_zero, List.set_cons_succ, i64_w, i32_w]
              rfl
            refine take_ (i := 12) (N := some 47) (v := ?_) (a' := ?_) #[true, true, true, true, true, true, true, true, true, true, true, true, true, false, false, false] rfl rfl (by kernel_rfl) (fun _ _ _ h => h) (Or.inl ⟨by rfl, ?_⟩) hHeld ?_ ?_
            rotate_left
            · rintro w' ⟨s0, s1, s2, s3, s4⟩
              go_simp
              with_reducible rfl
            rotate_left
            · simp only [Act.put, List.setIfInBounds_toArray, List.set_cons_zero, List.set_cons_succ, i64_w, i32_w]
              rfl
            refine take_ (i := 13) (N := some 48) (v := ?_) (a' := ?_) #[true, true, true, true, true, true, true, true, true, true, true, true, true, true, false, false] rfl rfl (by kernel_rfl) (fun _ _ _ h => h) (Or.inl ⟨by rfl, ?_⟩) hHeld ?_ ?_
            rotate_left
            · rintro w' ⟨s0, s1, s2, s3, s4⟩
              go_simp
              with_reducible rfl
            rotate_left
            · simp only [Act.put, List.setIfInBounds_toArray, List.set_cons_zero, List.set_cons_succ, i64_w, i32_w]
              rfl
            refine pure_ (i := 14) (N := some 49) (v := ?_) (a' := ?_) #[true, true, true, true, true, true, true, true, true, true, true, true, true, true, true, false] rfl rfl (by kernel_rfl) (fun _ _ _ h => h) (Or.inl ⟨by rfl, ?_⟩) ?_ ?_
            rotate_left
            · intro w'
              go_simp
              with_reducible rfl
            rotate_left
            · simp only [Act.put, List.setIfInBounds_toArray, List.set_cons_zero, List.set_cons_succ, i64_w, i32_w]
              rfl
            refine pure_ (i := 15) (N := some 50) (v := ?_) (a' := ?_) #[true, true, true, true, true, true, true, true, true, true, true, true, true, true, true, true] rfl rfl (by kernel_rfl) (fun _ _ _ h => h) (Or.inl ⟨by rfl, ?_⟩) ?_ ?_
            rotate_left
            · intro w'
              go_simp
              with_reducible rfl
            rotate_left
            · simp only [Act.put, List.setIfInBounds_toArray, List.set_cons_zero, List.set_cons_succ, i64_w, i32_w]
              rfl
            refine done_ (by kernel_rfl) ?_
            clear hHeld z1 z2
            obtain ⟨Ai, ci, rfl, _, _⟩ := HLp.out.oi.reads
            obtain ⟨Wq, hWq⟩ : ∃ Wq, Wq = Wp.drew := ⟨_, rfl⟩
            have BQ : Below Wp.heap.size Wp Wq := by rw [hWq]; exact below_drew (Below.refl _ _)
            have HLq := Lib.hid (HLp.out.step BQ)
            have hq0 := cell_below BQ hp0
            have hq1 := cell_below BQ hp1
            have hzq : g < Wq.heap.size := World.block_lt_of_cell? Wq _ hq0
            obtain ⟨e0, e1, e2, e3, ef1, ef2, ez⟩ := HLq.out.cellsAt z0
            have zq : W0.heap.size + 2 ≤ Wq.heap.size := by omega
            have hlen1 : ((ps).length + 1) * 16 ≤ 140737488355328 := by first | omega | (simp; done)
            have hlen2 : (is.length + 1) * 8 ≤ 140737488355328 := by omega
            have ge3 := cell_below BQ ge1
            have hzw : w.heap.size + 1 < Wq.heap.size := by omega
            have BWq : Below w.heap.size w Wq := (by repeat (first | exact Below.refl _ _ | apply below_alloc | apply below_drewN | apply below_drew | (refine below_set2 ?_ ?_; (first | (simp; done) | (simp; omega))) | (refine below_step ?_ BQ) | (refine below_step ?_ BWp)))
            rw [← hWq]
            clear hWq x0 x1 x2 x3 xf1 xf2 hp0 hp1 HLp HKp ge1 ge2
            go_wp2_with (first | (at_builtin; refine app_one Ty.pt (W := Wq) (W0.heap.size + 2) rfl _ _ 38 44 _ 16 rfl Try.underlying38 infoPt rfl (by decide) (.slice (some adp) (m + 1) cp) (ps) p [.int .i64 p.1, .int .i64 p.2] _ rfl rfl (by simp) rfl HLq.out.op zq hlen1 ?_; intro v1 w4 HO1 hg1 hat1; obtain ⟨Av, nv, cv, rfl⟩ : ∃ Av nv cv, v1 = .slice Av nv cv := (by obtain ⟨Av, cv, e, _⟩ := OwnR.reads HO1; exact ⟨_, _, _, e⟩); have bk1 := HLq.out.atP hg1; rw [z0] at bk1; have bc1 := blk_cell bk1 1 rfl; have bf1 := blk_free bk1 1; have bc2 := blk_cell bk1 2 rfl; have HL5 := HLq.out.pushP HO1 hg1; rw [z0] at HL5; have H5 := Lib.hid HL5; have ge4 := (cell_heap (a := ⟨w.heap.size + 1, 1, none⟩) (hg1.block _ hzw (fun e => by have : W0.heap.size + 2 ≤ w.heap.size + 1 := (OwnR.lt HLq.out.op _ e.symm).1; omega))).trans ge3; clear HL5 HO1 hat1 bk1 e0 e1 e2 e3 ef1 ef2))
            obtain ⟨W5, hW5⟩ : ∃ W5, W5 = w4.setCell ⟨w.heap.size + 1 + 1 + 1, 1, none⟩ (.slice Av nv cv) := ⟨_, rfl⟩
            rw [← hW5] at H5 ⊢
            have ge5 : W5.cell? ⟨w.heap.size + 1, 1, none⟩ = some (.slice (some ad) x.2.1.length d1) := by rw [hW5]; exact (cell_heap (a := ⟨w.heap.size + 1, 1, none⟩) (Below.heap_setCell w4 _ _ _ (by simp))).trans ge4
            have B5 : Below w.heap.size w W5 := below_step B0 H5.out.below
            obtain ⟨ad', e', hi5⟩ := (R2.out.below B5).int_at k hlt
            cases e'
            obtain ⟨k0, k1, k2, k3, kf1, kf2, kz⟩ := H5.out.cellsAt z0
            have H6 := Lib.hid (H5.out.step (below_drew (Below.refl _ _)))
            have zq6 : W0.heap.size + 2 ≤ W5.drew.heap.size := by show _ ≤ W5.heap.size; omega
            clear hW5 bc1 bf1 bc2 ge3 ge4 hg1 HLq
            refine start_ (n := 11) (S := fun w' => w'.cell? ⟨w.heap.size + 1 + 1 + 1, 2, none⟩ = some (.slice Ai is.length ci) ∧ w'.cell? ⟨w.heap.size + 1, 1, none⟩ = some (.slice (some ad) x.2.1.length d1) ∧ w'.cell? (ad.add k) = some (.int .i64 (inD x.2.1 k))) (ds := [8, 10]) #[false, false, false, false, false, false, false, false, false, false, false] (by kernel_rfl) rfl rfl ⟨k2, ge5, hi5⟩ (fun hHeld => ?_)
            refine pure_ (i := 0) (N := some 57) (v := ?_) (a' := ?_) #[true, false, false, false, false, false, false, false, false, false, false] rfl rfl (by kernel_rfl) (fun _ _ _ h => h) (Or.inl ⟨by rfl, ?_⟩) ?_ ?_
            rotate_left
            · intro w'
              go_simp
              with_reducible rfl
            rotate_left
            · simp only [Act.put, List.setIfInBounds_toArray, List.set_cons_zero, List.set_cons_succ, i64_w, i32_w]
              rfl
            refine pure_ (i := 2) (N := some 59) (v := ?_) (a' := ?_) #[true, false, true, false, false, false, false, false, false, false, false] rfl rfl (by kernel_rfl) (fun _ _ _ h => h) (Or.inl ⟨by rfl, ?_⟩) ?_ ?_
            rotate_left
            · intro w'
              go_simp
              with_reducible rfl
            rotate_left
            · simp only [Act.put, List.setIfInBounds_toArray, List.set_cons_zero, List.set_cons_succ, i64_w, i32_w]
              rfl
            refine pure_ (i := 4) (N := some 61) (v := ?_) (a' := ?_) #[true, false, true, false, true, false, false, false, false, false, false] rfl rfl (by kernel_rfl) (fun _ _ _ h => h) (Or.inl ⟨by rfl, ?_⟩) ?_ ?_
            rotate_left
            · intro w'
              go_simp
              with_reducible rfl
            rotate_left
            · simp only [Act.put, List.setIfInBounds_toArray, List.set_cons_zero, List.set_cons_succ, i64_w, i32_w]
              rfl
            refine take_ (i := 1) (N := some 58) (v := ?_) (a' := ?_) #[true, true, true, false, true, false, false, false, false, false, false] rfl rfl (by kernel_rfl) (fun _ _ _ h => h) (Or.inl ⟨by rfl, ?_⟩) hHeld ?_ ?_
            rotate_left
            · rintro w' ⟨s0, s1, s2⟩
              go_simp
              with_reducible rfl
            rotate_left
            · simp only [Act.put, List.setIfInBounds_toArray, List.set_cons_zero, List.set_cons_succ, i64_w, i32_w]
              rfl
            refine take_ (i := 3) (N := some 60) (v := ?_) (a' := ?_) #[true, true, true, true, true, false, false, false, false, false, false] rfl rfl (by kernel_rfl) (fun _ _ _ h => h) (Or.inl ⟨by rfl, ?_⟩) hHeld ?_ ?_
            rotate_left
            · rintro w' ⟨s0, s1, s2⟩
              go_simp
              with_reducible rfl
            rotate_left
            · simp only [Act.put, List.setIfInBounds_toArray, List.set_cons_zero, List.set_cons_succ, i64_w, i32_w]
              rfl
            refine pure_ (i := 5) (N := some 62) (v := ?_) (a' := ?_) #[true, true, true, true, true, true, false, false, false, false, false] rfl rfl (by kernel_rfl) (fun _ _ _ h => h) (Or.inl ⟨by rfl, ?_⟩) ?_ ?_
            rotate_left
            · intro w'
              go_simp
              with_reducible rfl
            rotate_left
            · simp only [Act.put, List.setIfInBounds_toArray, List.set_cons_zero, List.set_cons_succ, i64_w, i32_w]
              rfl
            refine take_ (i := 6) (N := some 63) (v := ?_) (a' := ?_) #[true, true, true, true, true, true, true, false, false, false, false] rfl rfl (by kernel_rfl) (fun _ _ _ h => h) (Or.inl ⟨by rfl, ?_⟩) hHeld ?_ ?_
            rotate_left
            · rintro w' ⟨s0, s1, s2⟩
              go_simp
              with_reducible rfl
            rotate_left
            · simp only [Act.put, List.setIfInBounds_toArray, List.set_cons_zero, List.set_cons_succ, i64_w, i32_w]
              rfl
            refine one_ (i := 7) (N := some 64) #[true, true, true, true, true, true, true, true, false, false, false] rfl rfl (by kernel_rfl) (by decide) (fun K hK => ?_)
            refine value_ (w1 := ?_) (v := ?_) (by rfl) rfl ?_ ?_
            rotate_left 2
            · go_simp
              constructor
              · rfl
              · rfl
            refine hK.out _ _ ⟨cell_below (below_alloc (below_drew (Below.refl _ _)) _) k2, cell_below (below_alloc (below_drew (Below.refl _ _)) _) ge5, cell_below (below_alloc (below_drew (Below.refl _ _)) _) hi5⟩ (fun hHeld => ?_)
            clear hK K
            refine norm_ (a' := ?_) ?_ ?_
            rotate_left
            · show Act.put _ (some 64) _ = _
              simp only [Act.put, List.setIfInBounds_toArray, List.set_cons_zero, List.set_cons_succ, i64_w, i32_w]
              rfl
            refine last_ (i := 8) (N := some 65) #[true, true, true, true, true, true, true, true, true, false, false] rfl rfl (by kernel_rfl) (by decide) (fun K hK => ?_)
            refine step_one Ty.i64 (W := W5.drew) (W0.heap.size + 2) rfl (.tmp 58) (.tmp 64) 39 3 _ 8 rfl Try.underlying39 infoInt rfl (by decide) (.slice Ai is.length ci) is (inD x.2.1 k) [.int .i64 (inD x.2.1 k)] _ rfl rfl (by simp) rfl H6.out.oi zq6 hlen2 ?_
            intro v2 w6 HO2 hg2 hat2
            obtain ⟨Au, nu, cu, rfl⟩ : ∃ Av nv cv, v2 = .slice Av nv cv := by obtain ⟨Av, cv, e, _⟩ := OwnR.reads HO2; exact ⟨_, _, _, e⟩
            have bk2 := H6.out.atI hg2
            rw [z0] at bk2
            have bc3 := blk_cell bk2 2 rfl
            have bf2 := blk_free bk2 2
            refine hK.out _ _ ?_
            clear hK K
            refine norm_ (a' := ?_) ?_ ?_
            rotate_left
            · show Act.put _ (some 65) _ = _
              simp only [Act.put, List.setIfInBounds_toArray, List.set_cons_zero, List.set_cons_succ, i64_w, i32_w]
              rfl
            refine pure_ (i := 9) (N := some 66) (v := ?_) (a' := ?_) #[true, true, true, true, true, true, true, true, true, true, false] rfl rfl (by kernel_rfl) (fun _ _ _ h => h) (Or.inl ⟨by rfl, ?_⟩) ?_ ?_
            rotate_left
            · intro w'
              go_simp
              with_reducible rfl
            rotate_left
            · simp only [Act.put, List.setIfInBounds_toArray, List.set_cons_zero, List.set_cons_succ, i64_w, i32_w]
              rfl
            refine last_ (i := 10) (N := none) #[true, true, true, true, true, true, true, true, true, true, true] rfl rfl (by kernel_rfl) (by decide) (fun K hK => ?_)
            refine skip_ (w1 := ?_) (by rfl) rfl ?_ ?_
            rotate_left
            · go_simp
              rfl
            refine hK.out _ _ ?_
            clear hK K
            refine done_ (by kernel_rfl) ?_
            have HL7 := H6.out.pushI HO2 hg2
            rw [z0] at HL7
            have H7 := Lib.hid HL7
            clear HL7 HO2 hg2 hat2 bk2 H5 H6 bc3 bf2 k0 k1 k2 k3 kf1 kf2
            go_wp2
            go_roundw
            case rel => exact ⟨k + 1, ps ++ [p], is ++ [inD x.2.1 k], _, _, by omega, by go_num, (by first | (simp; done) | (simp; omega)), (by first | (simp; done) | (simp; omega)), H7.out, HRm.out⟩
            case measure => simp [intOf]; omega
    · obtain rfl : k = x.2.1.length := by omega
      have HE : Hid (some (ps, is) = runL (nodeF ns) x.2.1 ([], [])) := by show _ = _; have := HR.out; rw [List.drop_length] at this; exact this
      obtain ⟨Ap, cp, rfl, _, _⟩ := HL.out.op.reads
      obtain ⟨Ai, ci, rfl, _, _⟩ := HL.out.oi.reads
      obtain ⟨x0, x1, x2, x3, xf1, xf2, xz⟩ := HL.out.cellsAt z0
      obtain ⟨y0, y1, y2, y3, yf0, yf1, yf2, yf3⟩ := HL.out.zeroAt z0
      clear HR
      by_cases hsh : ps.length < 2
      · have q : decide ((ps.length : Int) < 2) = true := decide_eq_true (by omega)
        have HN : Hid (lineZ (nodeF ns) x = none) := lineZ_short HE.out hsh
        clear hsh
        go_wp2
        refine bodyPost_ret (v := .tuple #[.agg #[.int .i64 0, .slice none 0 0, .slice none 0 0, .slice none 0 0], .bool false]) ?_ rfl ⟨.inl ⟨HN.out, rfl⟩, by repeat (first | exact BW | (apply below_alloc) | (refine below_set2 (by simp; omega) ?_))⟩
        simp [results, Try.results41]
        go_simp
      · have q : decide ((ps.length : Int) < 2) = false := decide_eq_false (by omega)
        have HN : Hid (lineZ (nodeF ns) x = some (x.1, (ps, (is, x.2.2)))) := lineZ_long HE.out hsh
        clear hsh
        go_wp2
        refine bodyPost_ret (v := .tuple #[.agg #[.int .i64 x.1, .slice Ap ps.length cp, .slice Ai is.length ci, .slice B2 x.2.2.length d2], .bool true]) ?_ rfl ⟨.inr ⟨_, _, _, HN.out, rfl, ?_, ?_⟩, by repeat (first | exact BW | (apply below_alloc) | (refine below_set2 (by simp; omega) ?_))⟩
        · simp [results, Try.results41]
          go_simp
        · exact (Own1.flat_kept pt_flat HL.out.op (S := fun k => k = w.heap.size + 1 + 1) (by repeat (first | exact kept_refl _ _ | (refine kept_set rfl ?_))) (fun b hb e => by have := (OwnR.lt HL.out.op b hb).1; omega)).base (by omega)
        · exact (Own1.flat_kept int_flat HL.out.oi (S := fun k => k = w.heap.size + 1 + 1) (by repeat (first | exact kept_refl _ _ | (refine kept_set rfl ?_))) (fun b hb e => by have := (OwnR.lt HL.out.oi b hb).1; omega)).base (by omega)
end Go.Proofs.Ytniceoinipffmaa
