/- Contracts of slices.Compact at segments and at points: neighbours that repeat are taken out. -/
import Derived.Test.YtlmjciajpjdilaaTEq
namespace Go.Proofs.Ytlmjciajpjdilaa
open Go.RowKit Go.Proofs.YtlmjciajpjdilaaW.PrintLast
set_option linter.unusedVariables false
set_option linter.unusedSimpArgs false

attribute [local go_sem high] eqPt eqSg

set_option maxHeartbeats 2000000 in
theorem Compact_sg (xs : List _) (v : Value) (base : Nat) (w : World) (ho : Own1 Ty.sg 27 base w v xs) :
    Calls Try.prog 29 #[v] w fun e w' => ∃ v', e = .returned v' ∧ Own1 Ty.sg 27 base w' v' (compactZ xs) ∧ KeptS (fun b => v.ownBlock = some b) w w' := by
  obtain ⟨A, c, rfl, hlc, hr⟩ := ho.reads
  have HO := Lib.hid ho
  have hmx := hr.len
  clear ho hr
  by_cases h2 : xs.length < 2
  · have HE : Hid (compactZ xs = xs) := compact_one h2
    go_enter Try.func29, Try.ntmps29
    go_wp2
    go_ret
    exact ⟨_, rfl, by rw [HE.out]; exact Own1.below HO.out (by repeat (first | exact Below.refl _ _ | apply below_alloc | apply below_drewN | apply below_drew | (refine below_set2 ?_ ?_; (first | (simp; done) | (simp; omega))))), kept_of_below (by repeat (first | exact Below.refl _ _ | apply below_alloc | apply below_drewN | apply below_drew | (refine below_set2 ?_ ?_; (first | (simp; done) | (simp; omega)))))⟩
  · obtain ⟨g, c', hv, _⟩ := HO.out.form (by omega)
    injection hv with hv _ hc'
    subst hv hc'
    go_enter Try.func29, Try.ntmps29
    go_wp2
    go_loopw [3] (fun i wr => ∃ k : Nat, 1 ≤ k ∧ k ≤ xs.length ∧ i = .int .i64 k ∧ Hid (KeptS (fun b => b = g) w wr) ∧ Hid (Own1 Ty.sg 27 base wr (.slice (some ⟨g, 0, none⟩) xs.length c) xs) ∧ Hid (compactZ (xs.take k) = xs.take k)) (fun i _ => xs.length - (intOf i).toNat)
    case atStart => exact ⟨1, Nat.le_refl _, by omega, rfl, kept_refl _ _, HO, by show _ = _; exact compact_one (by rw [List.length_take]; omega)⟩
    case round =>
      obtain ⟨k, hk1, hk, rfl, HB, HOk, HC⟩ := hrel
      clear HO
      by_cases hlt : k < xs.length
      · obtain ⟨hx0, hx1, hx2, hx3⟩ := OwnR.sg_at HOk.out k hlt
        obtain ⟨hy0, hy1, hy2, hy3⟩ := OwnR.sg_at HOk.out (k - 1) (by omega)
        have ek : ((k : Int) - 1).toNat = k - 1 := by omega
        have ew : wrap64 ((k : Int) - 1) = (k : Int) - 1 := by unfold wrap64; omega
        have eb : (0 : Int) ≤ (k : Int) - 1 := by omega
        have eb2 : (k : Int) - 1 < xs.length := by omega
        by_cases hq : sgD xs k = sgD xs (k - 1)
        · have hd := (sgB (sgD xs k) (sgD xs (k - 1))).trans (decide_eq_true hq)
          have HQ := Lib.hid hq
          clear hq
          go_wp2_with fail
          go_quiet (fail)
          clear ek ew eb eb2 hd hx0 hx1 hx2 hx3 hy0 hy1 hy2 hy3
          go_wp2
          go_loopw [3, 5] (fun i j wr => ∃ (i' j' : Nat) (ys : List _), i = .int .i64 i' ∧ j = .int .i64 j' ∧ 1 ≤ i' ∧ 1 ≤ j' ∧ i' + 1 ≤ k + j' ∧ k + j' ≤ xs.length ∧ ys.length = xs.length ∧ Hid (KeptS (fun b => b = g) w wr) ∧ Hid (Own1 Ty.sg 27 base wr (.slice (some ⟨g, 0, none⟩) xs.length c) ys) ∧
            Hid (ys.take i' = compactZ (xs.take (k + j'))) ∧ Hid (∀ m, k + j' ≤ m + 1 → ys[m]? = xs[m]?)) (fun _ j _ => xs.length - k - (intOf j).toNat)
          case atStart => exact ⟨k, 1, xs, rfl, rfl, hk1, Nat.le_refl _, by omega, by omega, rfl, kept_drewN HB.out _, Own1.below HOk.out (by repeat (first | exact Below.refl _ _ | apply below_alloc | apply below_drewN | apply below_drew | (refine below_set2 ?_ ?_; (first | (simp; done) | (simp; omega))))), by show _ = _; rw [compact_eq xs ((0, 0), (0, 0)) k (by omega) hlt HQ.out, HC.out], fun m _ => rfl⟩
          case round =>
            obtain ⟨i, j, ys, rfl, rfl, hi1, hj1, hij, hjn, hyl, HB1, HOy, HI, HJ⟩ := hrel
            clear HB HOk HC
            by_cases hlt2 : k + j < xs.length
            · obtain ⟨hx0, hx1, hx2, hx3⟩ := OwnR.sg_at HOy.out (k + j) (by omega)
              obtain ⟨hy0, hy1, hy2, hy3⟩ := OwnR.sg_at HOy.out (k + j - 1) (by omega)
              have e1 : sgD ys (k + j) = sgD xs (k + j) := by simp only [sgD, List.getD_eq_getElem?_getD, HJ.out (k + j) (by omega)]
              have e2 : sgD ys (k + j - 1) = sgD xs (k + j - 1) := by simp only [sgD, List.getD_eq_getElem?_getD, HJ.out (k + j - 1) (by omega)]
              rw [e1] at hx0 hx1 hx2 hx3
              rw [e2] at hy0 hy1 hy2 hy3
              have ek : ((j : Int) - 1).toNat = j - 1 := by omega
              have ew : wrap64 ((j : Int) - 1) = (j : Int) - 1 := by unfold wrap64; omega
              have eb : (0 : Int) ≤ (j : Int) - 1 := by omega
              have hj2 : j < xs.length - k := by omega
              have ea : k * 4 + j * 4 = (k + j) * 4 := by omega
              have ea2 : k * 4 + (j - 1) * 4 = (k + j - 1) * 4 := by omega
              by_cases hq : sgD xs (k + j) = sgD xs (k + j - 1)
              · have hd := (sgB (sgD xs (k + j)) (sgD xs (k + j - 1))).trans (decide_eq_true hq)
                have HQ := Lib.hid hq
                clear hq
                go_wp2_with fail
                go_quiet (fail)
                go_wp2
                go_roundw
                case rel => exact ⟨i, j + 1, ys, rfl, by go_num, hi1, by omega, by omega, by omega, hyl, kept_drewN HB1.out _, Own1.below HOy.out (by repeat (first | exact Below.refl _ _ | apply below_alloc | apply below_drewN | apply below_drew | (refine below_set2 ?_ ?_; (first | (simp; done) | (simp; omega))))), by show _ = _; rw [HI.out]; exact (compact_eq xs ((0, 0), (0, 0)) (k + j) (by omega) hlt2 HQ.out).symm, fun m hm => HJ.out m (by omega)⟩
                case measure => simp [intOf]; omega
              · have hd := (sgB (sgD xs (k + j)) (sgD xs (k + j - 1))).trans (decide_eq_false hq)
                have HQ := Lib.hid hq
                clear hq
                go_wp2_with fail
                go_quiet (fail)
                clear ek ew eb hd
                go_wp2_with (refine wpList_storeT (T := Ty.sg) (y := sgD xs (k + j)) (i := i) rfl (.tmp 51) (.tmp 50) 27 rfl (by kernel_rfl) rfl rfl (Own1.below HOy.out (by repeat (first | exact Below.refl _ _ | apply below_alloc | apply below_drewN | apply below_drew | (refine below_set2 ?_ ?_; (first | (simp; done) | (simp; omega)))))) (by omega) rfl rfl ?_; intro w3 HO3 HK3 hs3)
                have HB3 := Lib.hid (kept_step (kept_below HB1.out (by repeat (first | exact Below.refl _ _ | apply below_alloc | apply below_drewN | apply below_drew | (refine below_set2 ?_ ?_; (first | (simp; done) | (simp; omega)))))) HK3)
                have HO3' := Lib.hid HO3
                clear HO3 HK3 hs3 hx0 hx1 hx2 hx3 hy0 hy1 hy2 hy3
                go_wp2
                go_roundw
                case rel => exact ⟨i + 1, j + 1, ys.set i (sgD xs (k + j)), by go_num, by go_num, by omega, by omega, by omega, by omega, by rw [List.length_set]; exact hyl, HB3, HO3', by show _ = _; rw [set_take_snoc _ (by omega), HI.out]; exact (compact_ne xs ((0, 0), (0, 0)) (k + j) (by omega) hlt2 HQ.out).symm, fun m hm => by rw [List.getElem?_set_ne (by omega)]; exact HJ.out m (by omega)⟩
                case measure => simp [intOf]; omega
            · obtain rfl : j = xs.length - k := by omega
              have HE : Hid (ys.take i = compactZ xs) := by have := HI.out; rw [show k + (xs.length - k) = xs.length by omega, List.take_length] at this; exact this
              go_wp2_with (refine wpList_clearT (T := Ty.sg) (i := i) rfl (.tmp 56) 22 rfl Try.underlying22 (z := .agg #[.int .i64 0, .int .i64 0, .int .i64 0, .int .i64 0]) (fun w => by kernel_rfl) rfl (by decide) rfl HOy.out rfl (by omega) (by omega) ?_; intro w3 HO3 HK3 hs3)
              have HB3 := Lib.hid (kept_step HB1.out HK3)
              have HO3' := Lib.hid HO3
              clear HO3 HK3 hs3
              rw [HE.out] at HO3'
              go_wp2
              go_ret
              exact ⟨_, rfl, HO3'.out, kept_mono HB3.out (fun k _ hk => by rw [hk]; rfl)⟩
        · have hd := (sgB (sgD xs k) (sgD xs (k - 1))).trans (decide_eq_false hq)
          have HQ := Lib.hid hq
          clear hq
          go_wp2_with fail
          go_quiet (fail)
          go_wp2
          go_roundw
          case rel => exact ⟨k + 1, by omega, by omega, by go_num, kept_drewN HB.out _, Own1.below HOk.out (by repeat (first | exact Below.refl _ _ | apply below_alloc | apply below_drewN | apply below_drew | (refine below_set2 ?_ ?_; (first | (simp; done) | (simp; omega))))), by show _ = _; rw [compact_ne xs ((0, 0), (0, 0)) k (by omega) hlt HQ.out, HC.out, take_snoc xs k ((0, 0), (0, 0)) hlt]⟩
          case measure => simp [intOf]; omega
      · obtain rfl : k = xs.length := by omega
        have HE : Hid (compactZ xs = xs) := by have := HC.out; rwa [List.take_length] at this
        go_wp2
        go_ret
        exact ⟨_, rfl, by rw [HE.out]; exact Own1.below HOk.out (by repeat (first | exact Below.refl _ _ | apply below_alloc | apply below_drewN | apply below_drew | (refine below_set2 ?_ ?_; (first | (simp; done) | (simp; omega))))), kept_mono (kept_drewN HB.out 0) (fun k _ hk => by rw [hk]; rfl)⟩

set_option maxHeartbeats 2000000 in
theorem Compact_pt (xs : List _) (v : Value) (base : Nat) (w : World) (ho : Own1 Ty.pt 25 base w v xs) :
    Calls Try.prog 58 #[v] w fun e w' => ∃ v', e = .returned v' ∧ Own1 Ty.pt 25 base w' v' (compactZ xs) ∧ KeptS (fun b => v.ownBlock = some b) w w' := by
  obtain ⟨A, c, rfl, hlc, hr⟩ := ho.reads
  have HO := Lib.hid ho
  have hmx := hr.len
  clear ho hr
  by_cases h2 : xs.length < 2
  · have HE : Hid (compactZ xs = xs) := compact_one h2
    go_enter Try.func58, Try.ntmps58
    go_wp2
    go_ret
    exact ⟨_, rfl, by rw [HE.out]; exact Own1.below HO.out (by repeat (first | exact Below.refl _ _ | apply below_alloc | apply below_drewN | apply below_drew | (refine below_set2 ?_ ?_; (first | (simp; done) | (simp; omega))))), kept_of_below (by repeat (first | exact Below.refl _ _ | apply below_alloc | apply below_drewN | apply below_drew | (refine below_set2 ?_ ?_; (first | (simp; done) | (simp; omega)))))⟩
  · obtain ⟨g, c', hv, _⟩ := HO.out.form (by omega)
    injection hv with hv _ hc'
    subst hv hc'
    go_enter Try.func58, Try.ntmps58
    go_wp2
    go_loopw [3] (fun i wr => ∃ k : Nat, 1 ≤ k ∧ k ≤ xs.length ∧ i = .int .i64 k ∧ Hid (KeptS (fun b => b = g) w wr) ∧ Hid (Own1 Ty.pt 25 base wr (.slice (some ⟨g, 0, none⟩) xs.length c) xs) ∧ Hid (compactZ (xs.take k) = xs.take k)) (fun i _ => xs.length - (intOf i).toNat)
    case atStart => exact ⟨1, Nat.le_refl _, by omega, rfl, kept_refl _ _, HO, by show _ = _; exact compact_one (by rw [List.length_take]; omega)⟩
    case round =>
      obtain ⟨k, hk1, hk, rfl, HB, HOk, HC⟩ := hrel
      clear HO
      by_cases hlt : k < xs.length
      · obtain ⟨hx0, hx1⟩ := OwnR.pt_at HOk.out k hlt
        obtain ⟨hy0, hy1⟩ := OwnR.pt_at HOk.out (k - 1) (by omega)
        have ek : ((k : Int) - 1).toNat = k - 1 := by omega
        have ew : wrap64 ((k : Int) - 1) = (k : Int) - 1 := by unfold wrap64; omega
        have eb : (0 : Int) ≤ (k : Int) - 1 := by omega
        have eb2 : (k : Int) - 1 < xs.length := by omega
        by_cases hq : ptD xs k = ptD xs (k - 1)
        · have hd := (ptB (ptD xs k) (ptD xs (k - 1))).trans (decide_eq_true hq)
          have HQ := Lib.hid hq
          clear hq
          go_wp2_with fail
          go_quiet (fail)
          clear ek ew eb eb2 hd hx0 hx1 hy0 hy1
          go_wp2
          go_loopw [3, 5] (fun i j wr => ∃ (i' j' : Nat) (ys : List _), i = .int .i64 i' ∧ j = .int .i64 j' ∧ 1 ≤ i' ∧ 1 ≤ j' ∧ i' + 1 ≤ k + j' ∧ k + j' ≤ xs.length ∧ ys.length = xs.length ∧ Hid (KeptS (fun b => b = g) w wr) ∧ Hid (Own1 Ty.pt 25 base wr (.slice (some ⟨g, 0, none⟩) xs.length c) ys) ∧
            Hid (ys.take i' = compactZ (xs.take (k + j'))) ∧ Hid (∀ m, k + j' ≤ m + 1 → ys[m]? = xs[m]?)) (fun _ j _ => xs.length - k - (intOf j).toNat)
          case atStart => exact ⟨k, 1, xs, rfl, rfl, hk1, Nat.le_refl _, by omega, by omega, rfl, kept_drewN HB.out _, Own1.below HOk.out (by repeat (first | exact Below.refl _ _ | apply below_alloc | apply below_drewN | apply below_drew | (refine below_set2 ?_ ?_; (first | (simp; done) | (simp; omega))))), by show _ = _; rw [compact_eq xs (0, 0) k (by omega) hlt HQ.out, HC.out], fun m _ => rfl⟩
          case round =>
            obtain ⟨i, j, ys, rfl, rfl, hi1, hj1, hij, hjn, hyl, HB1, HOy, HI, HJ⟩ := hrel
            clear HB HOk HC
            by_cases hlt2 : k + j < xs.length
            · obtain ⟨hx0, hx1⟩ := OwnR.pt_at HOy.out (k + j) (by omega)
              obtain ⟨hy0, hy1⟩ := OwnR.pt_at HOy.out (k + j - 1) (by omega)
              have e1 : ptD ys (k + j) = ptD xs (k + j) := by simp only [ptD, List.getD_eq_getElem?_getD, HJ.out (k + j) (by omega)]
              have e2 : ptD ys (k + j - 1) = ptD xs (k + j - 1) := by simp only [ptD, List.getD_eq_getElem?_getD, HJ.out (k + j - 1) (by omega)]
              rw [e1] at hx0 hx1
              rw [e2] at hy0 hy1
              have ek : ((j : Int) - 1).toNat = j - 1 := by omega
              have ew : wrap64 ((j : Int) - 1) = (j : Int) - 1 := by unfold wrap64; omega
              have eb : (0 : Int) ≤ (j : Int) - 1 := by omega
              have hj2 : j < xs.length - k := by omega
              have ea : k * 2 + j * 2 = (k + j) * 2 := by omega
              have ea2 : k * 2 + (j - 1) * 2 = (k + j - 1) * 2 := by omega
              by_cases hq : ptD xs (k + j) = ptD xs (k + j - 1)
              · have hd := (ptB (ptD xs (k + j)) (ptD xs (k + j - 1))).trans (decide_eq_true hq)
                have HQ := Lib.hid hq
                clear hq
                go_wp2_with fail
                go_quiet (fail)
                go_wp2
                go_roundw
                case rel => exact ⟨i, j + 1, ys, rfl, by go_num, hi1, by omega, by omega, by omega, hyl, kept_drewN HB1.out _, Own1.below HOy.out (by repeat (first | exact Below.refl _ _ | apply below_alloc | apply below_drewN | apply below_drew | (refine below_set2 ?_ ?_; (first | (simp; done) | (simp; omega))))), by show _ = _; rw [HI.out]; exact (compact_eq xs (0, 0) (k + j) (by omega) hlt2 HQ.out).symm, fun m hm => HJ.out m (by omega)⟩
                case measure => simp [intOf]; omega
              · have hd := (ptB (ptD xs (k + j)) (ptD xs (k + j - 1))).trans (decide_eq_false hq)
                have HQ := Lib.hid hq
                clear hq
                go_wp2_with fail
                go_quiet (fail)
                clear ek ew eb hd
                go_wp2_with (refine wpList_storeT (T := Ty.pt) (y := ptD xs (k + j)) (i := i) rfl (.tmp 51) (.tmp 50) 25 rfl (by kernel_rfl) rfl rfl (Own1.below HOy.out (by repeat (first | exact Below.refl _ _ | apply below_alloc | apply below_drewN | apply below_drew | (refine below_set2 ?_ ?_; (first | (simp; done) | (simp; omega)))))) (by omega) rfl rfl ?_; intro w3 HO3 HK3 hs3)
                have HB3 := Lib.hid (kept_step (kept_below HB1.out (by repeat (first | exact Below.refl _ _ | apply below_alloc | apply below_drewN | apply below_drew | (refine below_set2 ?_ ?_; (first | (simp; done) | (simp; omega)))))) HK3)
                have HO3' := Lib.hid HO3
                clear HO3 HK3 hs3 hx0 hx1 hy0 hy1
                go_wp2
                go_roundw
                case rel => exact ⟨i + 1, j + 1, ys.set i (ptD xs (k + j)), by go_num, by go_num, by omega, by omega, by omega, by omega, by rw [List.length_set]; exact hyl, HB3, HO3', by show _ = _; rw [set_take_snoc _ (by omega), HI.out]; exact (compact_ne xs (0, 0) (k + j) (by omega) hlt2 HQ.out).symm, fun m hm => by rw [List.getElem?_set_ne (by omega)]; exact HJ.out m (by omega)⟩
                case measure => simp [intOf]; omega
            · obtain rfl : j = xs.length - k := by omega
              have HE : Hid (ys.take i = compactZ xs) := by have := HI.out; rw [show k + (xs.length - k) = xs.length by omega, List.take_length] at this; exact this
              go_wp2_with (refine wpList_clearT (T := Ty.pt) (i := i) rfl (.tmp 56) 36 rfl Try.underlying36 (z := .agg #[.int .i64 0, .int .i64 0]) (fun w => by kernel_rfl) rfl (by decide) rfl HOy.out rfl (by omega) (by omega) ?_; intro w3 HO3 HK3 hs3)
              have HB3 := Lib.hid (kept_step HB1.out HK3)
              have HO3' := Lib.hid HO3
              clear HO3 HK3 hs3
              rw [HE.out] at HO3'
              go_wp2
              go_ret
              exact ⟨_, rfl, HO3'.out, kept_mono HB3.out (fun k _ hk => by rw [hk]; rfl)⟩
        · have hd := (ptB (ptD xs k) (ptD xs (k - 1))).trans (decide_eq_false hq)
          have HQ := Lib.hid hq
          clear hq
          go_wp2_with fail
          go_quiet (fail)
          go_wp2
          go_roundw
          case rel => exact ⟨k + 1, by omega, by omega, by go_num, kept_drewN HB.out _, Own1.below HOk.out (by repeat (first | exact Below.refl _ _ | apply below_alloc | apply below_drewN | apply below_drew | (refine below_set2 ?_ ?_; (first | (simp; done) | (simp; omega))))), by show _ = _; rw [compact_ne xs (0, 0) k (by omega) hlt HQ.out, HC.out, take_snoc xs k (0, 0) hlt]⟩
          case measure => simp [intOf]; omega
      · obtain rfl : k = xs.length := by omega
        have HE : Hid (compactZ xs = xs) := by have := HC.out; rwa [List.take_length] at this
        go_wp2
        go_ret
        exact ⟨_, rfl, by rw [HE.out]; exact Own1.below HOk.out (by repeat (first | exact Below.refl _ _ | apply below_alloc | apply below_drewN | apply below_drew | (refine below_set2 ?_ ?_; (first | (simp; done) | (simp; omega))))), kept_mono (kept_drewN HB.out 0) (fun k _ hk => by rw [hk]; rfl)⟩
end Go.Proofs.Ytlmjciajpjdilaa
