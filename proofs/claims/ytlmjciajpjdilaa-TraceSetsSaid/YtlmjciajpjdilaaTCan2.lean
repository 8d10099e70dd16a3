/- Contract of poly.Canon. -/
import Derived.Test.YtlmjciajpjdilaaTLists
namespace Go.Proofs.Ytlmjciajpjdilaa
open Go.RowKit Go.Proofs.YtlmjciajpjdilaaW.PrintLast
set_option linter.unusedVariables false
set_option linter.unusedSimpArgs false

theorem Row.drop {α : Type} {T : Ty α} {ok : Nat → Prop} {w : World} {ad : Addr} {xs : List α} (h : Row T ok w (some ad) xs) (m : Nat) : Row T ok w (some (ad.add (m * T.sz))) (xs.drop m) := by
  refine ⟨by rw [List.length_drop]; have := h.1; omega, fun hn => ?_⟩
  rw [List.length_drop] at hn
  obtain ⟨ad', e, hok, hc⟩ := h.2 (by omega)
  injection e with e
  subst e
  refine ⟨_, rfl, by rw [add_block]; exact hok, fun i x hx => ?_⟩
  rw [List.getElem?_drop] at hx
  obtain ⟨cs, hR, hcs⟩ := hc (m + i) x hx
  refine ⟨cs, hR, fun j u hu => ?_⟩
  have := hcs j u hu
  rw [add_add]
  rwa [show m * T.sz + (i * T.sz + j) = (m + i) * T.sz + j by rw [Nat.add_mul]; omega]
theorem Row.take' {α : Type} {T : Ty α} {ok : Nat → Prop} {w : World} {A : Option Addr} {xs : List α} (h : Row T ok w A xs) (m : Nat) : Row T ok w A (xs.take m) := by
  refine ⟨by rw [List.length_take]; have := h.1; omega, fun hn => ?_⟩
  rw [List.length_take] at hn
  obtain ⟨ad, e, hok, hc⟩ := h.2 (by omega)
  refine ⟨ad, e, hok, fun i x hx => ?_⟩
  rw [List.getElem?_take] at hx
  split at hx
  · exact hc i x hx
  · cases hx
theorem minIx_snoc (r : Pts) (k : Nat) : minIx r (k + 1) = if lessB (ptD r k) (ptD r (minIx r k)) = true then k else minIx r k := by
  unfold minIx
  rw [List.range_succ, List.foldl_append]; rfl
theorem minIx_lt (r : Pts) : ∀ k, minIx r k ≤ k - 1
  | 0 => by simp [minIx]
  | k + 1 => by
    have := minIx_lt r k
    rw [minIx_snoc]
    split <;> omega
set_option maxRecDepth 100000 in
set_option maxHeartbeats 1000000 in
theorem poly_Canon {ok : Nat → Prop} (r : Pts) (A : Option Addr) (n c : Nat) (w : World) (hr : Row Ty.pt ok w A r) (hn : n = r.length) (hc : r.length ≤ c) (hpos : 0 < r.length) (hlen : r.length ≤ 1000000) :
    Calls Try.prog 26 #[.slice A n c] w fun e w' => ∃ v, e = .returned v ∧ Own1 Ty.pt 25 w.heap.size w' v (canonR r) ∧ Below w.heap.size w w' := by
  subst hn
  obtain ⟨ad, rfl, _⟩ := hr.2 hpos
  have HR := Lib.hid (hr.bnd.mono (ok' := fun k => k < w.heap.size) (fun k hk => hk.2))
  clear hr
  have HC : Hid (canonR r = r.drop (minIx r r.length) ++ r.take (minIx r r.length)) := rfl
  generalize canonR r = res at *
  go_enter Try.func26, Try.ntmps26
  go_wp2
  go_loopw [3, 8] (fun f i wr => ∃ k : Nat, k ≤ r.length ∧ i = .int .i64 k ∧ f = .int .i64 (minIx r k : Nat) ∧ Hid (Below w.heap.size w wr)) (fun _ i _ => r.length - (intOf i).toNat)
  case atStart => exact ⟨0, Nat.zero_le _, rfl, rfl, Below.refl _ _⟩
  case round =>
    obtain ⟨k, hk, rfl, rfl, HB⟩ := hrel
    by_cases hlt : k < r.length
    · have HRk := Lib.hid (HR.out.below HB.out)
      have hml := minIx_lt r k
      have hm2 : minIx r k < r.length := by omega
      obtain ⟨ad', e, hx0, hx1⟩ := HRk.out.pt_at k hlt
      cases e
      obtain ⟨ad', e, hy0, hy1⟩ := HRk.out.pt_at (minIx r k) hm2
      cases e
      have HS := Lib.hid (minIx_snoc r k)
      generalize minIx r k = m at *
      clear HRk
      go_wp2_with fail
      obtain ⟨W0, hW0⟩ : ∃ W0, W0 = wr.alloc (.cells #[.int .i64 (ptD r k).1, .int .i64 (ptD r k).2] 25) := ⟨_, rfl⟩
      have HP : W0.heap[wr.heap.size]? = some (.cells #[.int .i64 (ptD r k).1, .int .i64 (ptD r k).2] 25 (0, 0)) := by rw [hW0]; exact heap_alloc_new _ _
      have BW0 : Below wr.heap.size wr W0 := by rw [hW0]; exact below_alloc (Below.refl _ _) _
      have zy0 := cell_below BW0 hy0
      have zy1 := cell_below BW0 hy1
      rw [← hW0]
      clear hW0 hx0 hx1 hy0 hy1
      have hlm : m < r.length := hm2
      cases hl : lessB ((ptD r k).1, (ptD r k).2) ((ptD r m).1, (ptD r m).2)
      · have HL := Lib.hid hl
        have HS2 : Hid (minIx r (k + 1) = m) := HS.out.trans (if_neg (by rw [show lessB (ptD r k) (ptD r m) = false from hl]; decide))
        clear hl
        refine start_ (n := 6) (S := fun w' => w'.cell? ⟨wr.heap.size, 0, none⟩ = some (.int .i64 (ptD r k).1) ∧ w'.cell? ⟨wr.heap.size, 1, none⟩ = some (.int .i64 (ptD r k).2) ∧ w'.cell? (ad.add (m * 2)) = some (.int .i64 (ptD r m).1) ∧ w'.cell? ⟨(ad.add (m * 2)).block, (ad.add (m * 2)).off + 1, none⟩ = some (.int .i64 (ptD r m).2)) (ds := []) #[false, false, false, false, false, false] (by kernel_rfl) rfl rfl ⟨blk_cell HP 0 rfl, blk_cell HP 1 rfl, zy0, zy1⟩ (fun hHeld => ?_)
        refine pure_ (i := 1) (N := some 14) (v := ?_) (a' := ?_) #[false, true, false, false, false, false] rfl rfl (by kernel_rfl) (fun _ _ _ h => h) (Or.inl ⟨by rfl, ?_⟩) ?_ ?_
        rotate_left
        · intro w'
          go_simp
          with_reducible rfl
        rotate_left
        · simp only [Act.put, List.setIfInBounds_toArray, List.set_cons_zero, List.set_cons_succ, i64_w, i32_w]
          rfl
        refine pure_ (i := 2) (N := some 15) (v := ?_) (a' := ?_) #[false, true, true, false, false, false] rfl rfl (by kernel_rfl) (fun _ _ _ h => h) (Or.inl ⟨by rfl, ?_⟩) ?_ ?_
        rotate_left
        · intro w'
          go_simp
          with_reducible rfl
        rotate_left
        · simp only [Act.put, List.setIfInBounds_toArray, List.set_cons_zero, List.set_cons_succ, i64_w, i32_w]
          rfl
        refine pure_ (i := 3) (N := some 16) (v := ?_) (a' := ?_) #[false, true, true, true, false, false] rfl rfl (by kernel_rfl) (fun _ _ _ h => h) (Or.inl ⟨by rfl, ?_⟩) ?_ ?_
        rotate_left
        · intro w'
          go_simp
          with_reducible rfl
        rotate_left
        · simp only [Act.put, List.setIfInBounds_toArray, List.set_cons_zero, List.set_cons_succ, i64_w, i32_w]
          rfl
        refine take_ (i := 0) (N := some 13) (v := ?_) (a' := ?_) #[true, true, true, true, false, false] rfl rfl (by kernel_rfl) (fun _ _ _ h => h) (Or.inl ⟨by rfl, ?_⟩) hHeld ?_ ?_
        rotate_left
        · rintro w' ⟨s0, s1, s2, s3⟩
          go_simp
          with_reducible rfl
        rotate_left
        · simp only [Act.put, List.setIfInBounds_toArray, List.set_cons_zero, List.set_cons_succ, i64_w, i32_w]
          rfl
        refine take_ (i := 4) (N := some 17) (v := ?_) (a' := ?_) #[true, true, true, true, true, false] rfl rfl (by kernel_rfl) (fun _ _ _ h => h) (Or.inl ⟨by rfl, ?_⟩) hHeld ?_ ?_
        rotate_left
        · rintro w' ⟨s0, s1, s2, s3⟩
          go_simp
          with_reducible rfl
        rotate_left
        · simp only [Act.put, List.setIfInBounds_toArray, List.set_cons_zero, List.set_cons_succ, i64_w, i32_w]
          rfl
        refine one_ (i := 5) (N := some 18) #[true, true, true, true, true, true] rfl rfl (by kernel_rfl) (by decide) (fun K hK => ?_)
        refine goes_ Try.func33 (by kernel_rfl) rfl #[.agg #[.int .i64 (ptD r k).1, .int .i64 (ptD r k).2], .agg #[.int .i64 (ptD r m).1, .int .i64 (ptD r m).2]] (by rfl) rfl rfl (by simp only [List.map_toArray, List.map_cons, List.map_nil]; rfl) ?_
        with_reducible refine (grid_Less _ _ _ _ _).mono ?_
        rintro e w2 ⟨rfl, hb2⟩
        refine ⟨_, rfl, ?_⟩
        refine hK.out _ _ ⟨blk_cell (blk_below (W := W0.drew) HP hb2) 0 rfl, blk_cell (blk_below (W := W0.drew) HP hb2) 1 rfl, cell_below (w := W0.drew) hb2 zy0, cell_below (w := W0.drew) hb2 zy1⟩ (fun hHeld => ?_)
        clear hK K
        refine norm_ (a' := ?_) ?_ ?_
        rotate_left
        · show Act.put _ (some 18) _ = _
          simp only [Act.put, List.setIfInBounds_toArray, List.set_cons_zero, List.set_cons_succ, i64_w, i32_w]
          rfl
        refine done_ (by kernel_rfl) ?_
        rw [HL.out]
        have HB1 : Hid (Below w.heap.size w w2) := below_step (below_drew (below_step HB.out BW0)) hb2
        clear hHeld zy0 zy1 HP BW0 hb2 HB
        go_wp2
        go_roundw
        case rel => exact ⟨k + 1, by omega, by go_num, by rw [HS2.out], HB1⟩
        case measure => simp [intOf]; omega
      · have HL := Lib.hid hl
        have HS2 : Hid (minIx r (k + 1) = k) := HS.out.trans (if_pos hl)
        clear hl
        refine start_ (n := 6) (S := fun w' => w'.cell? ⟨wr.heap.size, 0, none⟩ = some (.int .i64 (ptD r k).1) ∧ w'.cell? ⟨wr.heap.size, 1, none⟩ = some (.int .i64 (ptD r k).2) ∧ w'.cell? (ad.add (m * 2)) = some (.int .i64 (ptD r m).1) ∧ w'.cell? ⟨(ad.add (m * 2)).block, (ad.add (m * 2)).off + 1, none⟩ = some (.int .i64 (ptD r m).2)) (ds := []) #[false, false, false, false, false, false] (by kernel_rfl) rfl rfl ⟨blk_cell HP 0 rfl, blk_cell HP 1 rfl, zy0, zy1⟩ (fun hHeld => ?_)
        refine pure_ (i := 1) (N := some 14) (v := ?_) (a' := ?_) #[false, true, false, false, false, false] rfl rfl (by kernel_rfl) (fun _ _ _ h => h) (Or.inl ⟨by rfl, ?_⟩) ?_ ?_
        rotate_left
        · intro w'
          go_simp
          with_reducible rfl
        rotate_left
        · simp only [Act.put, List.setIfInBounds_toArray, List.set_cons_zero, List.set_cons_succ, i64_w, i32_w]
          rfl
        refine pure_ (i := 2) (N := some 15) (v := ?_) (a' := ?_) #[false, true, true, false, false, false] rfl rfl (by kernel_rfl) (fun _ _ _ h => h) (Or.inl ⟨by rfl, ?_⟩) ?_ ?_
        rotate_left
        · intro w'
          go_simp
          with_reducible rfl
        rotate_left
        · simp only [Act.put, List.setIfInBounds_toArray, List.set_cons_zero, List.set_cons_succ, i64_w, i32_w]
          rfl
        refine pure_ (i := 3) (N := some 16) (v := ?_) (a' := ?_) #[false, true, true, true, false, false] rfl rfl (by kernel_rfl) (fun _ _ _ h => h) (Or.inl ⟨by rfl, ?_⟩) ?_ ?_
        rotate_left
        · intro w'
          go_simp
          with_reducible rfl
        rotate_left
        · simp only [Act.put, List.setIfInBounds_toArray, List.set_cons_zero, List.set_cons_succ, i64_w, i32_w]
          rfl
        refine take_ (i := 0) (N := some 13) (v := ?_) (a' := ?_) #[true, true, true, true, false, false] rfl rfl (by kernel_rfl) (fun _ _ _ h => h) (Or.inl ⟨by rfl, ?_⟩) hHeld ?_ ?_
        rotate_left
        · rintro w' ⟨s0, s1, s2, s3⟩
          go_simp
          with_reducible rfl
        rotate_left
        · simp only [Act.put, List.setIfInBounds_toArray, List.set_cons_zero, List.set_cons_succ, i64_w, i32_w]
          rfl
        refine take_ (i := 4) (N := some 17) (v := ?_) (a' := ?_) #[true, true, true, true, true, false] rfl rfl (by kernel_rfl) (fun _ _ _ h => h) (Or.inl ⟨by rfl, ?_⟩) hHeld ?_ ?_
        rotate_left
        · rintro w' ⟨s0, s1, s2, s3⟩
          go_simp
          with_reducible rfl
        rotate_left
        · simp only [Act.put, List.setIfInBounds_toArray, List.set_cons_zero, List.set_cons_succ, i64_w, i32_w]
          rfl
        refine one_ (i := 5) (N := some 18) #[true, true, true, true, true, true] rfl rfl (by kernel_rfl) (by decide) (fun K hK => ?_)
        refine goes_ Try.func33 (by kernel_rfl) rfl #[.agg #[.int .i64 (ptD r k).1, .int .i64 (ptD r k).2], .agg #[.int .i64 (ptD r m).1, .int .i64 (ptD r m).2]] (by rfl) rfl rfl (by simp only [List.map_toArray, List.map_cons, List.map_nil]; rfl) ?_
        with_reducible refine (grid_Less _ _ _ _ _).mono ?_
        rintro e w2 ⟨rfl, hb2⟩
        refine ⟨_, rfl, ?_⟩
        refine hK.out _ _ ⟨blk_cell (blk_below (W := W0.drew) HP hb2) 0 rfl, blk_cell (blk_below (W := W0.drew) HP hb2) 1 rfl, cell_below (w := W0.drew) hb2 zy0, cell_below (w := W0.drew) hb2 zy1⟩ (fun hHeld => ?_)
        clear hK K
        refine norm_ (a' := ?_) ?_ ?_
        rotate_left
        · show Act.put _ (some 18) _ = _
          simp only [Act.put, List.setIfInBounds_toArray, List.set_cons_zero, List.set_cons_succ, i64_w, i32_w]
          rfl
        refine done_ (by kernel_rfl) ?_
        rw [HL.out]
        have HB1 : Hid (Below w.heap.size w w2) := below_step (below_drew (below_step HB.out BW0)) hb2
        clear hHeld zy0 zy1 HP BW0 hb2 HB
        go_wp2
        go_roundw
        case rel => exact ⟨k + 1, by omega, by go_num, by rw [HS2.out], HB1⟩
        case measure => simp [intOf]; omega
    · obtain rfl : k = r.length := by omega
      have hml := minIx_lt r r.length
      have hm2 : minIx r r.length < r.length := by omega
      have HRW := Lib.hid (HR.out.below HB.out)
      have hwz := HB.out.size
      generalize minIx r r.length = m at *
      have hcm : ¬ c = m := by omega
      have hml2 : m ≤ r.length := by omega
      have hmc : m ≤ c := by omega
      have hdl : (r.drop m).length = r.length - m := List.length_drop ..
      have hdl2 := Lib.hid hdl
      clear hdl
      go_wp2_with fail
      refine start_ (n := 9) (S := fun w' => True) (ds := []) #[false, false, false, false, false, false, false, false, false] (by kernel_rfl) rfl rfl trivial (fun hHeld => ?_)
      refine pure_ (i := 0) (N := some 21) (v := ?_) (a' := ?_) #[true, false, false, false, false, false, false, false, false] rfl rfl (by kernel_rfl) (fun _ _ _ h => h) (Or.inl ⟨by rfl, ?_⟩) ?_ ?_
      rotate_left
      · intro w'
        go_simp
        with_reducible rfl
      rotate_left
      · simp only [Act.put, List.setIfInBounds_toArray, List.set_cons_zero, List.set_cons_succ, i64_w, i32_w]
        rfl
      refine pure_ (i := 1) (N := some 22) (v := ?_) (a' := ?_) #[true, true, false, false, false, false, false, false, false] rfl rfl (by kernel_rfl) (fun _ _ _ h => h) (Or.inl ⟨by rfl, ?_⟩) ?_ ?_
      rotate_left
      · intro w'
        go_simp
        with_reducible rfl
      rotate_left
      · simp only [Act.put, List.setIfInBounds_toArray, List.set_cons_zero, List.set_cons_succ, i64_w, i32_w]
        rfl
      refine pure_ (i := 2) (N := some 23) (v := ?_) (a' := ?_) #[true, true, true, false, false, false, false, false, false] rfl rfl (by kernel_rfl) (fun _ _ _ h => h) (Or.inl ⟨by rfl, ?_⟩) ?_ ?_
      rotate_left
      · intro w'
        go_simp
        with_reducible rfl
      rotate_left
      · simp only [Act.put, List.setIfInBounds_toArray, List.set_cons_zero, List.set_cons_succ, i64_w, i32_w]
        rfl
      refine pure_ (i := 4) (N := some 25) (v := ?_) (a' := ?_) #[true, true, true, false, true, false, false, false, false] rfl rfl (by kernel_rfl) (fun _ _ _ h => h) (Or.inl ⟨by rfl, ?_⟩) ?_ ?_
      rotate_left
      · intro w'
        go_simp
        with_reducible rfl
      rotate_left
      · simp only [Act.put, List.setIfInBounds_toArray, List.set_cons_zero, List.set_cons_succ, i64_w, i32_w]
        rfl
      refine pure_ (i := 5) (N := some 26) (v := ?_) (a' := ?_) #[true, true, true, false, true, true, false, false, false] rfl rfl (by kernel_rfl) (fun _ _ _ h => h) (Or.inl ⟨by rfl, ?_⟩) ?_ ?_
      rotate_left
      · intro w'
        go_simp
        with_reducible rfl
      rotate_left
      · simp only [Act.put, List.setIfInBounds_toArray, List.set_cons_zero, List.set_cons_succ, i64_w, i32_w]
        rfl
      refine pure_ (i := 6) (N := some 27) (v := ?_) (a' := ?_) #[true, true, true, false, true, true, true, false, false] rfl rfl (by kernel_rfl) (fun _ _ _ h => h) (Or.inl ⟨by rfl, ?_⟩) ?_ ?_
      rotate_left
      · intro w'
        go_simp
        with_reducible rfl
      rotate_left
      · simp only [Act.put, List.setIfInBounds_toArray, List.set_cons_zero, List.set_cons_succ, i64_w, i32_w]
        rfl
      refine one_ (i := 3) (N := some 24) #[true, true, true, true, true, true, true, false, false] rfl rfl (by kernel_rfl) (by decide) (fun K hK => ?_)
      refine goes_ Try.func27 (by kernel_rfl) rfl #[.slice (some (ad.add (m * 2))) (r.length - m) (c - m)] (by rfl) rfl rfl (by simp only [List.map_toArray, List.map_cons, List.map_nil]; rfl) ?_
      with_reducible refine (Clone_pt (r.drop m) (some (ad.add (m * 2))) _ (c - m) _ ((HRW.out.below (below_drew (Below.refl _ _))).drop m) hdl2.out.symm (by rw [hdl2.out]; omega)).mono ?_
      rintro e w2 ⟨v2, rfl, HO2, hb2⟩
      refine ⟨_, rfl, ?_⟩
      have hw2 : wr.heap.size ≤ w2.heap.size := hb2.size
      have hrow : Row Ty.pt (fun k => ¬ v2.ownBlock = some k) w2 (some ad) (r.take m) := (((HRW.out.below (below_drew (Below.refl _ _))).below hb2).take' m).mono (fun k hk e => by have : wr.heap.size ≤ k := (OwnR.lt HO2 k e).1; omega)
      refine hK.out _ _ trivial (fun hHeld => ?_)
      clear hK K
      refine norm_ (a' := ?_) ?_ ?_
      rotate_left
      · show Act.put _ (some 24) _ = _
        simp only [Act.put, List.setIfInBounds_toArray, List.set_cons_zero, List.set_cons_succ, i64_w, i32_w]
        rfl
      refine one_ (i := 7) (N := some 28) #[true, true, true, true, true, true, true, true, false] rfl rfl (by kernel_rfl) (by decide) (fun K hK => ?_)
      refine step_row Ty.pt (W := w2) wr.heap.size rfl (.tmp 24) (.tmp 27) 36 25 _ 16 rfl Try.underlying36 infoPt rfl (by decide) v2 (r.drop m) (r.take m) (some ad) m c _ rfl rfl (by rw [List.length_take]; omega) hrow HO2 hw2 (by rw [hdl2.out]; omega) ?_
      intro v3 w3 HO3 hg3 hat3
      refine hK.out _ _ trivial (fun hHeld => ?_)
      clear hK K
      refine norm_ (a' := ?_) ?_ ?_
      rotate_left
      · show Act.put _ (some 28) _ = _
        simp only [Act.put, List.setIfInBounds_toArray, List.set_cons_zero, List.set_cons_succ, i64_w, i32_w]
        rfl
      refine pure_ (i := 8) (N := some 2) (v := ?_) (a' := ?_) #[true, true, true, true, true, true, true, true, true] rfl rfl (by kernel_rfl) (fun _ _ _ h => h) (Or.inl ⟨by rfl, ?_⟩) ?_ ?_
      rotate_left
      · intro w'
        go_simp
        with_reducible rfl
      rotate_left
      · simp only [Act.put, List.setIfInBounds_toArray, List.set_cons_zero, List.set_cons_succ, i64_w, i32_w]
        rfl
      refine done_ (by kernel_rfl) ?_
      have HO4 : Hid (Own1 Ty.pt 25 w.heap.size w3 v3 res) := by show Own1 _ _ _ _ _ _; rw [HC.out]; exact Own1.base (Own1.of HO3) hwz
      have HB4 : Hid (Below w.heap.size w w3) := below_own (below_step (below_drew HB.out) hb2) hg3 (fun b e => by have : wr.heap.size ≤ b := (OwnR.lt HO2 b e).1; omega)
      go_wp2
      go_ret
      exact ⟨_, rfl, HO4.out, HB4.out⟩
end Go.Proofs.Ytlmjciajpjdilaa
