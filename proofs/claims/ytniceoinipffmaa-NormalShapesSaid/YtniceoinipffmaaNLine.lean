/- Contract of normal.line: the line of a way. -/
import Derived.Test.YtniceoinipffmaaNLs
namespace Go.Proofs.Ytniceoinipffmaa
open Go.RowKit Go.Proofs.YtniceoinipffmaaW.PrintLast
set_option linter.unusedVariables false
set_option linter.unusedSimpArgs false

/-- What a function that makes a line of a way returns. -/
def RetL (o : Option Line) (tl : Value) (base : Nat) (e : Ending) (w : World) : Prop :=
  (o = none ∧ e = .returned (.tuple #[.agg #[.int .i64 0, .slice none 0 0, .slice none 0 0, .slice none 0 0], .bool false])) ∨
  ∃ (x : Line) (vp vi : Value), o = some x ∧ e = .returned (.tuple #[.agg #[.int .i64 x.1, vp, vi, tl], .bool true]) ∧ Own1 Ty.pt 44 base w vp x.2.1 ∧ Own1 Ty.i64 3 base w vi x.2.2.1
theorem LS.cellsAt {W0 W : World} {hd tl vp vi : Value} {ps : Pts} {is : List Int} (h : LS W0 hd tl W vp vi ps is) {g : Nat} (z : W0.heap.size = g) :
    W.cell? ⟨g + 1, 0, none⟩ = some hd ∧ W.cell? ⟨g + 1, 1, none⟩ = some vp ∧ W.cell? ⟨g + 1, 2, none⟩ = some vi ∧ W.cell? ⟨g + 1, 3, none⟩ = some tl ∧ W.frozen? ⟨g + 1, 1, none⟩ = false ∧ W.frozen? ⟨g + 1, 2, none⟩ = false ∧ g + 1 < W.heap.size := by
  subst z
  exact ⟨blk_cell h.blk 0 rfl, blk_cell h.blk 1 rfl, blk_cell h.blk 2 rfl, blk_cell h.blk 3 rfl, blk_free h.blk 1, blk_free h.blk 2, lt_of_block h.blk⟩
theorem LS.zeroAt {W0 W : World} {hd tl vp vi : Value} {ps : Pts} {is : List Int} (h : LS W0 hd tl W vp vi ps is) {g : Nat} (z : W0.heap.size = g) :
    W.cell? ⟨g, 0, none⟩ = some (.int .i64 0) ∧ W.cell? ⟨g, 1, none⟩ = some (.slice none 0 0) ∧ W.cell? ⟨g, 2, none⟩ = some (.slice none 0 0) ∧ W.cell? ⟨g, 3, none⟩ = some (.slice none 0 0) ∧ W.frozen? ⟨g, 0, none⟩ = false ∧ W.frozen? ⟨g, 1, none⟩ = false ∧ W.frozen? ⟨g, 2, none⟩ = false ∧ W.frozen? ⟨g, 3, none⟩ = false := by
  subst z
  exact ⟨blk_cell h.zero 0 rfl, blk_cell h.zero 1 rfl, blk_cell h.zero 2 rfl, blk_cell h.zero 3 rfl, blk_free h.zero 0, blk_free h.zero 1, blk_free h.zero 2, blk_free h.zero 3⟩
set_option maxRecDepth 20000 in
set_option maxHeartbeats 4000000 in
theorem normal_line {ok : Nat → Prop} (f : Int → Option Pt) (x : Way) (b : Nat) (vs : List (Int × Value)) (B1 B2 : Option Addr) (d1 d2 : Nat) (w : World) (HM : OwnMap encI w b vs) (hf : ∀ id, mapGet vs id = (f id).map ptV) (h2 : Row Ty.i64 ok w B1 x.2.1) (h3 : Row Ty.tag ok w B2 x.2.2) (hlen : x.2.1.length ≤ 10000) :
    Calls Try.prog 40 #[.map (some b), .agg #[.int .i64 x.1, .slice B1 x.2.1.length d1, .slice B2 x.2.2.length d2]] w fun e w' => RetL (lineZ f x) (.slice B2 x.2.2.length d2) w.heap.size e w' ∧ Below w.heap.size w w' := by
  have HM0 := Lib.hid HM
  have HF := Lib.hid hf
  have R2 := Lib.hid h2
  have R3 := Lib.hid h3
  clear HM hf h2 h3
  obtain ⟨W0, hW0⟩ : ∃ W0, W0 = w.alloc (.cells #[.int .i64 x.1, .slice B1 x.2.1.length d1, .slice B2 x.2.2.length d2] 50) := ⟨_, rfl⟩
  have B0 : Below w.heap.size w W0 := by rw [hW0]; exact (by repeat (first | exact Below.refl _ _ | apply below_alloc | apply below_drewN | apply below_drew | (refine below_set2 ?_ ?_; (first | (simp; done) | (simp; omega)))))
  have z0 : W0.heap.size = w.heap.size + 1 := by rw [hW0]; simp
  have hS := LS.start W0 (.int .i64 x.1) (.slice B2 x.2.2.length d2)
  obtain ⟨W1, hW1⟩ : ∃ W1, W1 = (W0.alloc (.cells #[.int .i64 0, .slice none 0 0, .slice none 0 0, .slice none 0 0] 42)).alloc (.cells #[.int .i64 x.1, .slice none 0 0, .slice none 0 0, .slice B2 x.2.2.length d2] 42) := ⟨_, rfl⟩
  rw [← hW1] at hS
  rw [hW0] at hW1
  go_enter Try.func40, Try.ntmps40
  go_wp2_with fail
  rw [← hW1]
  have HS := Lib.hid hS
  clear hW0 hW1 hS
  go_loopw [19] (fun i wr => ∃ (k : Nat) (ps : Pts) (is : List Int) (vp vi : Value), k ≤ x.2.1.length ∧ i = .int .i64 k ∧ ps.length ≤ k ∧ is.length ≤ k ∧ Hid (LS W0 (.int .i64 x.1) (.slice B2 x.2.2.length d2) wr vp vi ps is) ∧ Hid (runL f (x.2.1.drop k) (ps, is) = runL f x.2.1 ([], []))) (fun i _ => x.2.1.length - (intOf i).toNat)
  case atStart => exact ⟨0, [], [], _, _, Nat.zero_le _, rfl, Nat.le_refl _, Nat.le_refl _, HS.out, rfl⟩
  case round =>
    obtain ⟨k, ps, is, vp, vi, hk, rfl, hlp, hli, HL, HR⟩ := hrel
    have BW : Below w.heap.size w wr := below_step B0 HL.out.below
    by_cases hlt : k < x.2.1.length
    · obtain ⟨ad, rfl, hi⟩ := (R2.out.below BW).int_at k hlt
      have hL := (HM0.out.below BW).lookup keyI (t := 83) (et := 44) (by kernel_rfl) (z := .agg #[.int .i64 0, .int .i64 0]) (by kernel_rfl) (inD x.2.1 k) true
      rw [HF.out] at hL
      cases hfk : f (inD x.2.1 k) with
      | none =>
        rw [hfk] at hL
        simp only [Option.map_none, Option.getD_none, Option.isSome_none, if_true] at hL
        have HN : Hid (lineZ f x = none) := lineZ_none (runL_none hlt HR.out hfk)
        obtain ⟨y0, y1, y2, y3, yf0, yf1, yf2, yf3⟩ := HL.out.zeroAt z0
        have yz : w.heap.size + 1 < wr.heap.size := by have := (HL.out.cellsAt z0).2.2.2.2.2.2; omega
        clear hfk
        go_wp2
        refine bodyPost_ret (v := .tuple #[.agg #[.int .i64 0, .slice none 0 0, .slice none 0 0, .slice none 0 0], .bool false]) ?_ rfl ⟨.inl ⟨HN.out, rfl⟩, by repeat (first | exact BW | (apply below_alloc) | (refine below_set2 (by simp) ?_))⟩
        simp [results, Try.results40]
        go_simp
      | some p =>
        rw [hfk] at hL
        simp only [Option.map_some, Option.getD_some, Option.isSome_some, if_true, ptV] at hL
        have HRn := Lib.hid (runL_some hlt HR.out hfk)
        clear hfk
        obtain ⟨Wp, hWp⟩ : ∃ Wp, Wp = wr.alloc (.cells #[.int .i64 p.1, .int .i64 p.2] 44) := ⟨_, rfl⟩
        have BP : Below wr.heap.size wr Wp := by rw [hWp]; exact (by repeat (first | exact Below.refl _ _ | apply below_alloc | apply below_drewN | apply below_drew | (refine below_set2 ?_ ?_; (first | (simp; done) | (simp; omega)))))
        have hp0 : Wp.cell? ⟨wr.heap.size, 0, none⟩ = some (.int .i64 p.1) := by rw [hWp]; simp only [World.cell?, heap_alloc_new]; rfl
        have hp1 : Wp.cell? ⟨wr.heap.size, 1, none⟩ = some (.int .i64 p.2) := by rw [hWp]; simp only [World.cell?, heap_alloc_new]; rfl
        have HLp := Lib.hid (HL.out.step BP)
        obtain ⟨x0, x1, x2, x3, xf1, xf2, xz⟩ := HLp.out.cellsAt z0
        have HKp : Hid (Below Wp.heap.size Wp Wp.drew) := below_drew (Below.refl _ _)
        by_cases hps : ps.length = 0
        · have hpe : ps = [] := List.eq_nil_of_length_eq_zero hps
          subst hpe
          obtain ⟨Ap, cp, rfl, _, _⟩ := HL.out.op.reads
          have HRm : Hid (runL f (x.2.1.drop (k + 1)) ([] ++ [p], is ++ [inD x.2.1 k]) = runL f x.2.1 ([], [])) := by show _ = _; rw [← HRn.out, stepL_add (by simp)]
          clear HRn HR HL hps
          go_wp2_with fail
          rw [← hWp]
          clear hWp hL
          refine start_ (n := 16) (S := fun w' => w'.cell? ⟨w.heap.size + 1 + 1, 1, none⟩ = some (.slice Ap ([] : Pts).length cp)) (ds := []) #[false, false, false, false, false, false, false, false, false, false, false, false, false, false, false, false] (by kernel_rfl) rfl rfl (x1) (fun hHeld => ?_)
          refine pure_ (i := 0) (N := some 32) (v := ?_) (a' := ?_) #[true, false, false, false, false, false, false, false, false, false, false, false, false, false, false, false] rfl rfl (by kernel_rfl) (fun _ _ _ h => h) (Or.inl ⟨by rfl, ?_⟩) ?_ ?_
          rotate_left
          · intro w'
            go_simp
            with_reducible rfl
          rotate_left
          · simp only [Act.put, List.setIfInBounds_toArray, List.set_cons_zero, List.set_cons_succ, i64_w, i32_w]
            rfl
          refine take_ (i := 1) (N := some 33) (v := ?_) (a' := ?_) #[true, true, false, false, false, false, false, false, false, false, false, false, false, false, false, false] rfl rfl (by kernel_rfl) (fun _ _ _ h => h) (Or.inl ⟨by rfl, ?_⟩) hHeld ?_ ?_
          rotate_left
          · intro w' s0
            go_simp
            with_reducible rfl
          rotate_left
          · simp only [Act.put, List.setIfInBounds_toArray, List.set_cons_zero, List.set_cons_succ, i64_w, i32_w]
            rfl
          refine pure_ (i := 2) (N := some 34) (v := ?_) (a' := ?_) #[true, true, true, false, false, false, false, false, false, false, false, false, false, false, false, false] rfl rfl (by kernel_rfl) (fun _ _ _ h => h) (Or.inl ⟨by rfl, ?_⟩) ?_ ?_
          rotate_left
          · intro w'
            go_simp
            with_reducible rfl
          rotate_left
          · simp only [Act.put, List.setIfInBounds_toArray, List.set_cons_zero, List.set_cons_succ, i64_w, i32_w]
            rfl
          refine pure_ (i := 3) (N := some 35) (v := ?_) (a' := ?_) #[true, true, true, true, false, false, false, false, false, false, false, false, false, false, false, false] rfl rfl (by kernel_rfl) (fun _ _ _ h => h) (Or.inl ⟨by rfl, ?_⟩) ?_ ?_
          rotate_left
          · intro w'
            go_simp
            with_reducible rfl
          rotate_left
          · simp only [Act.put, List.setIfInBounds_toArray, List.set_cons_zero, List.set_cons_succ, i64_w, i32_w]
            rfl
          refine pure_ (i := 4) (N := some 36) (v := ?_) (a' := ?_) #[true, true, true, true, true, false, false, false, false, false, false, false, false, false, false, false] rfl rfl (by kernel_rfl) (fun _ _ _ h => h) (Or.inl ⟨by rfl, ?_⟩) ?_ ?_
          rotate_left
          · intro w'
            go_simp
            with_reducible rfl
          rotate_left
          · simp only [Act.put, List.setIfInBounds_toArray, List.set_cons_zero, List.set_cons_succ, i64_w, i32_w]
            rfl
          refine pure_ (i := 5) (N := some 37) (v := undef) (a' := ?_) #[true, true, true, true, true, true, false, false, false, false, false, false, false, false, false, false] rfl rfl (by kernel_rfl) (fun _ _ _ h => h) (Or.inr ⟨by rfl, rfl⟩) ?_ ?_
          rotate_left
          · simp only [Act.put, List.setIfInBounds_toArray, List.set_cons_zero, List.set_cons_succ, i64_w, i32_w]
            rfl
          refine pure_ (i := 6) (N := some 38) (v := undef) (a' := ?_) #[true, true, true, true, true, true, true, false, false, false, false, false, false, false, false, false] rfl rfl (by kernel_rfl) (fun _ _ _ h => h) (Or.inr ⟨by rfl, rfl⟩) ?_ ?_
          rotate_left
          · simp only [Act.put, List.setIfInBounds_toArray, List.set_cons_zero, List.set_cons_succ, i64_w, i32_w]
            rfl
          refine pure_ (i := 7) (N := some 39) (v := undef) (a' := ?_) #[true, true, true, true, true, true, true, true, false, false, false, false, false, false, false, false] rfl rfl (by kernel_rfl) (fun _ _ _ h => h) (Or.inr ⟨by rfl, rfl⟩) ?_ ?_
          rotate_left
          · simp only [Act.put, List.setIfInBounds_toArray, List.set_cons_zero, List.set_cons_succ, i64_w, i32_w]
            rfl
          refine pure_ (i := 8) (N := some 40) (v := undef) (a' := ?_) #[true, true, true, true, true, true, true, true, true, false, false, false, false, false, false, false] rfl rfl (by kernel_rfl) (fun _ _ _ h => h) (Or.inr ⟨by rfl, rfl⟩) ?_ ?_
          rotate_left
          · simp only [Act.put, List.setIfInBounds_toArray, List.set_cons_zero, List.set_cons_succ, i64_w, i32_w]
            rfl
          refine pure_ (i := 9) (N := some 41) (v := undef) (a' := ?_) #[true, true, true, true, true, true, true, true, true, true, false, false, false, false, false, false] rfl rfl (by kernel_rfl) (fun _ _ _ h => h) (Or.inr ⟨by rfl, rfl⟩) ?_ ?_
          rotate_left
          · simp only [Act.put, List.setIfInBounds_toArray, List.set_cons_zero, List.set_cons_succ, i64_w, i32_w]
            rfl
          refine pure_ (i := 10) (N := some 42) (v := undef) (a' := ?_) #[true, true, true, true, true, true, true, true, true, true, true, false, false, false, false, false] rfl rfl (by kernel_rfl) (fun _ _ _ h => h) (Or.inr ⟨by rfl, rfl⟩) ?_ ?_
          rotate_left
          · simp only [Act.put, List.setIfInBounds_toArray, List.set_cons_zero, List.set_cons_succ, i64_w, i32_w]
            rfl
          refine pure_ (i := 11) (N := some 43) (v := undef) (a' := ?_) #[true, true, true, true, true, true, true, true, true, true, true, true, false, false, false, false] rfl rfl (by kernel_rfl) (fun _ _ _ h => h) (Or.inr ⟨by rfl, rfl⟩) ?_ ?_
          rotate_left
          · simp only [Act.put, List.setIfInBounds_toArray, List.set_cons_zero, List.set_cons_succ, i64_w, i32_w]
            rfl
          refine pure_ (i := 12) (N := some 44) (v := undef) (a' := ?_) #[true, true, true, true, true, true, true, true, true, true, true, true, true, false, false, false] rfl rfl (by kernel_rfl) (fun _ _ _ h => h) (Or.inr ⟨by rfl, rfl⟩) ?_ ?_
          rotate_left
          · simp only [Act.put, List.setIfInBounds_toArray, List.set_cons_zero, List.set_cons_succ, i64_w, i32_w]
            rfl
          refine pure_ (i := 13) (N := some 45) (v := undef) (a' := ?_) #[true, true, true, true, true, true, true, true, true, true, true, true, true, true, false, false] rfl rfl (by kernel_rfl) (fun _ _ _ h => h) (Or.inr ⟨by rfl, rfl⟩) ?_ ?_
          rotate_left
          · simp only [Act.put, List.setIfInBounds_toArray, List.set_cons_zero, List.set_cons_succ, i64_w, i32_w]
            rfl
          refine pure_ (i := 14) (N := some 46) (v := undef) (a' := ?_) #[true, true, true, true, true, true, true, true, true, true, true, true, true, true, true, false] rfl rfl (by kernel_rfl) (fun _ _ _ h => h) (Or.inr ⟨by rfl, rfl⟩) ?_ ?_
          rotate_left
          · simp only [Act.put, List.setIfInBounds_toArray, List.set_cons_zero, List.set_cons_succ, i64_w, i32_w]
            rfl
          refine pure_ (i := 15) (N := some 47) (v := ?_) (a' := ?_) #[true, true, true, true, true, true, true, true, true, true, true, true, true, true, true, true] rfl rfl (by kernel_rfl) (fun _ _ _ h => h) (Or.inl ⟨by rfl, ?_⟩) ?_ ?_
          rotate_left
          · intro w'
            go_simp
            with_reducible rfl
          rotate_left
          · simp only [Act.put, List.setIfInBounds_toArray, List.set_cons_zero, List.set_cons_succ, i64_w, i32_w]
            rfl
          refine done_ (by kernel_rfl) ?_
          obtain ⟨Ai, ci, rfl, _, _⟩ := HLp.out.oi.reads
          obtain ⟨Wq, hWq⟩ : ∃ Wq, Wq = Wp.drew := ⟨_, rfl⟩
          have BQ : Below Wp.heap.size Wp Wq := by rw [hWq]; exact below_drew (Below.refl _ _)
          have HLq := Lib.hid (HLp.out.step BQ)
          have hq0 := cell_below BQ hp0
          have hq1 := cell_below BQ hp1
          have hzq : wr.heap.size < Wq.heap.size := World.block_lt_of_cell? Wq _ hq0
          obtain ⟨e0, e1, e2, e3, ef1, ef2, ez⟩ := HLq.out.cellsAt z0
          have zq : W0.heap.size + 2 ≤ Wq.heap.size := by omega
          have hlen1 : ((([] : Pts)).length + 1) * 16 ≤ 140737488355328 := by first | omega | (simp; done)
          have hlen2 : (is.length + 1) * 8 ≤ 140737488355328 := by omega
          rw [← hWq]
          clear hWq x0 x1 x2 x3 xf1 xf2 hp0 hp1 HLp HKp BP
          go_wp2_with (first | (at_builtin; refine app_one Ty.pt (W := Wq) (W0.heap.size + 2) rfl _ _ 38 44 _ 16 rfl Try.underlying38 infoPt rfl (by decide) (.slice Ap ([] : Pts).length cp) (([] : Pts)) p [.int .i64 p.1, .int .i64 p.2] _ rfl rfl (by simp) rfl HLq.out.op zq hlen1 ?_; intro v1 w4 HO1 hg1 hat1; obtain ⟨Av, nv, cv, rfl⟩ : ∃ Av nv cv, v1 = .slice Av nv cv := (by obtain ⟨Av, cv, e, _⟩ := OwnR.reads HO1; exact ⟨_, _, _, e⟩); have bk1 := HLq.out.atP hg1; rw [z0] at bk1; have bc1 := blk_cell bk1 1 rfl; have bf1 := blk_free bk1 1; have bc2 := blk_cell bk1 2 rfl; have HL5 := HLq.out.pushP HO1 hg1; rw [z0] at HL5; have H5 := Lib.hid HL5; clear HL5 HO1 hg1 hat1 bk1 HLq e0 e1 e2 e3 ef1 ef2) | (at_builtin; have hz5 := (H5.out.cellsAt z0).2.2.2.2.2.2; have zq5 : W0.heap.size + 2 ≤ (w4.setCell ⟨w.heap.size + 1 + 1, 1, none⟩ (.slice Av nv cv)).heap.size := (by omega); refine app_one Ty.i64 (W := w4.setCell ⟨w.heap.size + 1 + 1, 1, none⟩ (.slice Av nv cv)) (W0.heap.size + 2) rfl _ _ 39 3 _ 8 rfl Try.underlying39 infoInt rfl (by decide) (.slice Ai is.length ci) is (inD x.2.1 k) [.int .i64 (inD x.2.1 k)] _ rfl rfl (by simp) rfl H5.out.oi zq5 hlen2 ?_; intro v2 w6 HO2 hg2 hat2; obtain ⟨Au, nu, cu, rfl⟩ : ∃ Av nv cv, v2 = .slice Av nv cv := (by obtain ⟨Av, cv, e, _⟩ := OwnR.reads HO2; exact ⟨_, _, _, e⟩); have bk2 := H5.out.atI hg2; rw [z0] at bk2; have bc3 := blk_cell bk2 2 rfl; have bf2 := blk_free bk2 2; have HL7 := H5.out.pushI HO2 hg2; rw [z0] at HL7; have H7 := Lib.hid HL7; clear HL7 HO2 hg2 hat2 bk2 H5 hz5 zq5))
          go_wp2
          go_roundw
          case rel => exact ⟨k + 1, ([] : Pts) ++ [p], is ++ [inD x.2.1 k], _, _, by omega, by go_num, (by first | (simp; done) | (simp; omega)), (by first | (simp; done) | (simp; omega)), H7.out, HRm.out⟩
          case measure => simp [intOf]; omega
        · obtain ⟨m, hm⟩ : ∃ m, ps.length = m + 1 := ⟨ps.length - 1, by omega⟩
          obtain ⟨Ap, cp, hvp, _, hrp⟩ := HLp.out.op.reads
          obtain ⟨adp, hAp, z1, z2⟩ := hrp.pt_at m (by omega)
          rw [hm, hAp] at hvp
          subst hvp
          obtain ⟨q, hqe⟩ : ∃ q, q = ptD ps m := ⟨_, rfl⟩
          have HLAST : Hid (ps.getLast? = some q) := by show _ = _; rw [last_at (by omega), hm, hqe]; rfl
          rw [← hqe] at z1 z2
          obtain ⟨qx, qy⟩ := q
          simp only at z1 z2
          have qw : wrap64 (m : Int) = m := by unfold wrap64; omega
          have qlt : (m : Int) < m + 1 := by omega
          have HLEN := Lib.hid hm
          clear hps hm hrp hAp hqe
          by_cases hqx : qx = p.1
          · subst hqx
            by_cases hqy : qy = p.2
            · subst hqy
              have HRm : Hid (runL f (x.2.1.drop (k + 1)) (ps, is) = runL f x.2.1 ([], [])) := by show _ = _; rw [← HRn.out, stepL_skip HLAST.out]
              clear HRn HR HL HLAST
              go_wp2_with fail
              rw [← hWp]
              clear hWp hL
              refine start_ (n := 16) (S := fun w' => w'.cell? ⟨w.heap.size + 1 + 1, 1, none⟩ = some (.slice (some adp) (m + 1) cp) ∧ w'.cell? (adp.add (m * 2)) = some (.int .i64 (p.1)) ∧ w'.cell? ⟨(adp.add (m * 2)).block, (adp.add (m * 2)).off + 1, none⟩ = some (.int .i64 (p.2)) ∧ w'.cell? ⟨wr.heap.size, 0, none⟩ = some (.int .i64 p.1) ∧ w'.cell? ⟨wr.heap.size, 1, none⟩ = some (.int .i64 p.2)) (ds := []) #[false, false, false, false, false, false, false, false, false, false, false, false, false, false, false, false] (by kernel_rfl) rfl rfl ⟨x1, z1, z2, hp0, hp1⟩ (fun hHeld => ?_)
              refine pure_ (i := 0) (N := some 32) (v := ?_) (a' := ?_) #[true, false, false, false, false, false, false, false, false, false, false, false, false, false, false, false] rfl rfl (by kernel_rfl) (fun _ _ _ h => h) (Or.inl ⟨by rfl, ?_⟩) ?_ ?_
              rotate_left
              · intro w'
                go_simp
                with_reducible rfl
              rotate_left
              · simp only [Act.put, List.setIfInBounds_toArray, List.set_cons_zero, List.set_cons_succ, i64_w, i32_w]
                rfl
              refine take_ (i := 1) (N := some 33) (v := ?_) (a' := ?_) #[true, true, false, false, false, false, false, false, false, false, false, false, false, false, false, false] rfl rfl (by kernel_rfl) (fun _ _ _ h => h) (Or.inl ⟨by rfl, ?_⟩) hHeld ?_ ?_
              rotate_left
              · rintro w' ⟨s0, s1, s2, s3, s4⟩
                go_simp
                with_reducible rfl
              rotate_left
              · simp only [Act.put, List.setIfInBounds_toArray, List.set_cons_zero, List.set_cons_succ, i64_w, i32_w]
                rfl
              refine pure_ (i := 2) (N := some 34) (v := ?_) (a' := ?_) #[true, true, true, false, false, false, false, false, false, false, false, false, false, false, false, false] rfl rfl (by kernel_rfl) (fun _ _ _ h => h) (Or.inl ⟨by rfl, ?_⟩) ?_ ?_
              rotate_left
              · intro w'
                go_simp
                with_reducible rfl
              rotate_left
              · simp only [Act.put, List.setIfInBounds_toArray, List.set_cons_zero, List.set_cons_succ, i64_w, i32_w]
                rfl
              refine pure_ (i := 3) (N := some 35) (v := ?_) (a' := ?_) #[true, true, true, true, false, false, false, false, false, false, false, false, false, false, false, false] rfl rfl (by kernel_rfl) (fun _ _ _ h => h) (Or.inl ⟨by rfl, ?_⟩) ?_ ?_
              rotate_left
              · intro w'
                go_simp
                with_reducible rfl
              rotate_left
              · simp only [Act.put, List.setIfInBounds_toArray, List.set_cons_zero, List.set_cons_succ, i64_w, i32_w]
                rfl
              refine pure_ (i := 4) (N := some 36) (v := ?_) (a' := ?_) #[true, true, true, true, true, false, false, false, false, false, false, false, false, false, false, false] rfl rfl (by kernel_rfl) (fun _ _ _ h => h) (Or.inl ⟨by rfl, ?_⟩) ?_ ?_
              rotate_left
              · intro w'
                go_simp
                with_reducible rfl
              rotate_left
              · simp only [Act.put, List.setIfInBounds_toArray, List.set_cons_zero, List.set_cons_succ, i64_w, i32_w]
                rfl
              refine pure_ (i := 5) (N := some 37) (v := ?_) (a' := ?_) #[true, true, true, true, true, true, false, false, false, false, false, false, false, false, false, false] rfl rfl (by kernel_rfl) (fun _ _ _ h => h) (Or.inl ⟨by rfl, ?_⟩) ?_ ?_
              rotate_left
              · intro w'
                go_simp
                with_reducible rfl
              rotate_left
              · simp only [Act.put, List.setIfInBounds_toArray, List.set_cons_zero, List.set_cons_succ, i64_w, i32_w]
                rfl
              refine pure_ (i := 7) (N := some 39) (v := ?_) (a' := ?_) #[true, true, true, true, true, true, false, true, false, false, false, false, false, false, false, false] rfl rfl (by kernel_rfl) (fun _ _ _ h => h) (Or.inl ⟨by rfl, ?_⟩) ?_ ?_
              rotate_left
              · intro w'
                go_simp
                with_reducible rfl
              rotate_left
              · simp only [Act.put, List.setIfInBounds_toArray, List.set_cons_zero, List.set_cons_succ, i64_w, i32_w]
                rfl
              refine take_ (i := 6) (N := some 38) (v := ?_) (a' := ?_) #[true, true, true, true, true, true, true, true, false, false, false, false, false, false, false, false] rfl rfl (by kernel_rfl) (fun _ _ _ h => h) (Or.inl ⟨by rfl, ?_⟩) hHeld ?_ ?_
              rotate_left
              · rintro w' ⟨s0, s1, s2, s3, s4⟩
                go_simp
                with_reducible rfl
              rotate_left
              · simp only [Act.put, List.setIfInBounds_toArray, List.set_cons_zero, List.set_cons_succ, i64_w, i32_w]
                rfl
              refine take_ (i := 8) (N := some 40) (v := ?_) (a' := ?_) #[true, true, true, true, true, true, true, true, true, false, false, false, false, false, false, false] rfl rfl (by kernel_rfl) (fun _ _ _ h => h) (Or.inl ⟨by rfl, ?_⟩) hHeld ?_ ?_
              rotate_left
              · rintro w' ⟨s0, s1, s2, s3, s4⟩
                go_simp
                with_reducible rfl
              rotate_left
              · simp only [Act.put, List.setIfInBounds_toArray, List.set_cons_zero, List.set_cons_succ, i64_w, i32_w]
                rfl
              refine pure_ (i := 9) (N := some 41) (v := ?_) (a' := ?_) #[true, true, true, true, true, true, true, true, true, true, false, false, false, false, false, false] rfl rfl (by kernel_rfl) (fun _ _ _ h => h) (Or.inl ⟨by rfl, ?_⟩) ?_ ?_
              rotate_left
              · intro w'
                go_simp
                with_reducible rfl
              rotate_left
              · simp only [Act.put, List.setIfInBounds_toArray, List.set_cons_zero, List.set_cons_succ, i64_w, i32_w]
                rfl
              refine pure_ (i := 10) (N := some 42) (v := ?_) (a' := ?_) #[true, true, true, true, true, true, true, true, true, true, true, false, false, false, false, false] rfl rfl (by kernel_rfl) (fun _ _ _ h => h) (Or.inl ⟨by rfl, ?_⟩) ?_ ?_
              rotate_left
              · intro w'
                go_simp
                with_reducible rfl
              rotate_left
              · simp only [Act.put, List.setIfInBounds_toArray, List.set_cons_zero, List.set_cons_succ, i64_w, i32_w]
                rfl
              refine pure_ (i := 11) (N := some 43) (v := ?_) (a' := ?_) #[true, true, true, true, true, true, true, true, true, true, true, true, false, false, false, false] rfl rfl (by kernel_rfl) (fun _ _ _ h => h) (Or.inl ⟨by rfl, ?_⟩) ?_ ?_
              rotate_left
              · intro w'
                go_simp
                with_reducible rfl
              rotate_left
              · simp only [Act.put, List.setIfInBounds_toArray, List.set_cons_zero, List.set_cons_succ, i64_w, i32_w]
                rfl
              refine take_ (i := 12) (N := some 44) (v := ?_) (a' := ?_) #[true, true, true, true, true, true, true, true, true, true, true, true, true, false, false, false] rfl rfl (by kernel_rfl) (fun _ _ _ h => h) (Or.inl ⟨by rfl, ?_⟩) hHeld ?_ ?_
              rotate_left
              · rintro w' ⟨s0, s1, s2, s3, s4⟩
                go_simp
                with_reducible rfl
              rotate_left
              · simp only [Act.put, List.setIfInBounds_toArray, List.set_cons_zero, List.set_cons_succ, i64_w, i32_w]
                rfl
              refine take_ (i := 13) (N := some 45) (v := ?_) (a' := ?_) #[true, true, true, true, true, true, true, true, true, true, true, true, true, true, false, false] rfl rfl (by kernel_rfl) (fun _ _ _ h => h) (Or.inl ⟨by rfl, ?_⟩) hHeld ?_ ?_
              rotate_left
              · rintro w' ⟨s0, s1, s2, s3, s4⟩
                go_simp
                with_reducible rfl
              rotate_left
              · simp only [Act.put, List.setIfInBounds_toArray, List.set_cons_zero, List.set_cons_succ, i64_w, i32_w]
                rfl
              refine pure_ (i := 14) (N := some 46) (v := ?_) (a' := ?_) #[true, true, true, true, true, true, true, true, true, true, true, true, true, true, true, false] rfl rfl (by kernel_rfl) (fun _ _ _ h => h) (Or.inl ⟨by rfl, ?_⟩) ?_ ?_
              rotate_left
              · intro w'
                go_simp
                with_reducible rfl
              rotate_left
              · simp only [Act.put, List.setIfInBounds_toArray, List.set_cons_zero, List.set_cons_succ, i64_w, i32_w]
                rfl
              refine pure_ (i := 15) (N := some 47) (v := ?_) (a' := ?_) #[true, true, true, true, true, true, true, true, true, true, true, true, true, true, true, true] rfl rfl (by kernel_rfl) (fun _ _ _ h => h) (Or.inl ⟨by rfl, ?_⟩) ?_ ?_
              rotate_left
              · intro w'
                go_simp
                with_reducible rfl
              rotate_left
              · simp only [Act.put, List.setIfInBounds_toArray, List.set_cons_zero, List.set_cons_succ, i64_w, i32_w]
                rfl
              refine done_ (by kernel_rfl) ?_
              have H9 := Lib.hid (HLp.out.step HKp.out)
              clear HLp HKp x0 x1 x2 x3 xf1 xf2 z1 z2 hp0 hp1
              go_wp2
              go_roundw
              case rel => exact ⟨k + 1, ps, is, _, _, by omega, by go_num, by omega, by omega, H9.out, HRm.out⟩
              case measure => simp [intOf]; omega
            · have HRm : Hid (runL f (x.2.1.drop (k + 1)) (ps ++ [p], is ++ [inD x.2.1 k]) = runL f x.2.1 ([], [])) := by
                show _ = _; rw [← HRn.out, stepL_add (by rw [HLAST.out]; intro e; injection e with e; exact hqy (congrArg Prod.snd e))]
              clear HRn HR HL HLAST
              go_wp2_with fail
              rw [← hWp]
              clear hWp hL
              refine start_ (n := 16) (S := fun w' => w'.cell? ⟨w.heap.size + 1 + 1, 1, none⟩ = some (.slice (some adp) (m + 1) cp) ∧ w'.cell? (adp.add (m * 2)) = some (.int .i64 (p.1)) ∧ w'.cell? ⟨(adp.add (m * 2)).block, (adp.add (m * 2)).off + 1, none⟩ = some (.int .i64 (qy)) ∧ w'.cell? ⟨wr.heap.size, 0, none⟩ = some (.int .i64 p.1) ∧ w'.cell? ⟨wr.heap.size, 1, none⟩ = some (.int .i64 p.2)) (ds := []) #[false, false, false, false, false, false, false, false, false, false, false, false, false, false, false, false] (by kernel_rfl) rfl rfl ⟨x1, z1, z2, hp0, hp1⟩ (fun hHeld => ?_)
              refine pure_ (i := 0) (N := some 32) (v := ?_) (a' := ?_) #[true, false, false, false, false, false, false, false, false, false, false, false, false, false, false, false] rfl rfl (by kernel_rfl) (fun _ _ _ h => h) (Or.inl ⟨by rfl, ?_⟩) ?_ ?_
              rotate_left
              · intro w'
                go_simp
                with_reducible rfl
              rotate_left
              · simp only [Act.put, List.setIfInBounds_toArray, List.set_cons_zero, List.set_cons_succ, i64_w, i32_w]
                rfl
              refine take_ (i := 1) (N := some 33) (v := ?_) (a' := ?_) #[true, true, false, false, false, false, false, false, false, false, false, false, false, false, false, false] rfl rfl (by kernel_rfl) (fun _ _ _ h => h) (Or.inl ⟨by rfl, ?_⟩) hHeld ?_ ?_
              rotate_left
              · rintro w' ⟨s0, s1, s2, s3, s4⟩
                go_simp
                with_reducible rfl
              rotate_left
              · simp only [Act.put, List.setIfInBounds_toArray, List.set_cons_zero, List.set_cons_succ, i64_w, i32_w]
                rfl
              refine pure_ (i := 2) (N := some 34) (v := ?_) (a' := ?_) #[true, true, true, false, false, false, false, false, false, false, false, false, false, false, false, false] rfl rfl (by kernel_rfl) (fun _ _ _ h => h) (Or.inl ⟨by rfl, ?_⟩) ?_ ?_
              rotate_left
              · intro w'
                go_simp
                with_reducible rfl
              rotate_left
              · simp only [Act.put, List.setIfInBounds_toArray, List.set_cons_zero, List.set_cons_succ, i64_w, i32_w]
                rfl
              refine pure_ (i := 3) (N := some 35) (v := ?_) (a' := ?_) #[true, true, true, true, false, false, false, false, false, false, false, false, false, false, false, false] rfl rfl (by kernel_rfl) (fun _ _ _ h => h) (Or.inl ⟨by rfl, ?_⟩) ?_ ?_
              rotate_left
              · intro w'
                go_simp
                with_reducible rfl
              rotate_left
              · simp only [Act.put, List.setIfInBounds_toArray, List.set_cons_zero, List.set_cons_succ, i64_w, i32_w]
                rfl
              refine pure_ (i := 4) (N := some 36) (v := ?_) (a' := ?_) #[true, true, true, true, true, false, false, false, false, false, false, false, false, false, false, false] rfl rfl (by kernel_rfl) (fun _ _ _ h => h) (Or.inl ⟨by rfl, ?_⟩) ?_ ?_
              rotate_left
              · intro w'
                go_simp
                with_reducible rfl
              rotate_left
              · simp only [Act.put, List.setIfInBounds_toArray, List.set_cons_zero, List.set_cons_succ, i64_w, i32_w]
                rfl
              refine pure_ (i := 5) (N := some 37) (v := ?_) (a' := ?_) #[true, true, true, true, true, true, false, false, false, false, false, false, false, false, false, false] rfl rfl (by kernel_rfl) (fun _ _ _ h => h) (Or.inl ⟨by rfl, ?_⟩) ?_ ?_
              rotate_left
              · intro w'
                go_simp
                with_reducible rfl
              rotate_left
              · simp only [Act.put, List.setIfInBounds_toArray, List.set_cons_zero, List.set_cons_succ, i64_w, i32_w]
                rfl
              refine pure_ (i := 7) (N := some 39) (v := ?_) (a' := ?_) #[true, true, true, true, true, true, false, true, false, false, false, false, false, false, false, false] rfl rfl (by kernel_rfl) (fun _ _ _ h => h) (Or.inl ⟨by rfl, ?_⟩) ?_ ?_
              rotate_left
              · intro w'
                go_simp
                with_reducible rfl
              rotate_left
              · simp only [Act.put, List.setIfInBounds_toArray, List.set_cons_zero, List.set_cons_succ, i64_w, i32_w]
                rfl
              refine take_ (i := 6) (N := some 38) (v := ?_) (a' := ?_) #[true, true, true, true, true, true, true, true, false, false, false, false, false, false, false, false] rfl rfl (by kernel_rfl) (fun _ _ _ h => h) (Or.inl ⟨by rfl, ?_⟩) hHeld ?_ ?_
              rotate_left
              · rintro w' ⟨s0, s1, s2, s3, s4⟩
                go_simp
                with_reducible rfl
              rotate_left
              · simp only [Act.put, List.setIfInBounds_toArray, List.set_cons_zero, List.set_cons_succ, i64_w, i32_w]
                rfl
              refine take_ (i := 8) (N := some 40) (v := ?_) (a' := ?_) #[true, true, true, true, true, true, true, true, true, false, false, false, false, false, false, false] rfl rfl (by kernel_rfl) (fun _ _ _ h => h) (Or.inl ⟨by rfl, ?_⟩) hHeld ?_ ?_
              rotate_left
              · rintro w' ⟨s0, s1, s2, s3, s4⟩
                go_simp
                with_reducible rfl
              rotate_left
              · simp only [Act.put, List.setIfInBounds_toArray, List.set_cons_zero, List.set_cons_succ, i64_w, i32_w]
                rfl
              refine pure_ (i := 9) (N := some 41) (v := ?_) (a' := ?_) #[true, true, true, true, true, true, true, true, true, true, false, false, false, false, false, false] rfl rfl (by kernel_rfl) (fun _ _ _ h => h) (Or.inl ⟨by rfl, ?_⟩) ?_ ?_
              rotate_left
              · intro w'
                go_simp
                with_reducible rfl
              rotate_left
              · simp only [Act.put, List.setIfInBounds_toArray, List.set_cons_zero, List.set_cons_succ, i64_w, i32_w]
                rfl
              refine pure_ (i := 10) (N := some 42) (v := ?_) (a' := ?_) #[true, true, true, true, true, true, true, true, true, true, true, false, false, false, false, false] rfl rfl (by kernel_rfl) (fun _ _ _ h => h) (Or.inl ⟨by rfl, ?_⟩) ?_ ?_
              rotate_left
              · intro w'
                go_simp
                with_reducible rfl
              rotate_left
              · simp only [Act.put, List.setIfInBounds_toArray, List.set_cons_zero, List.set_cons_succ, i64_w, i32_w]
                rfl
              refine pure_ (i := 11) (N := some 43) (v := ?_) (a' := ?_) #[true, true, true, true, true, true, true, true, true, true, true, true, false, false, false, false] rfl rfl (by kernel_rfl) (fun _ _ _ h => h) (Or.inl ⟨by rfl, ?_⟩) ?_ ?_
              rotate_left
              · intro w'
                go_simp
                with_reducible rfl
              rotate_left
              · simp only [Act.put, List.setIfInBounds_toArray, List.set_cons_zero, List.set_cons_succ, i64_w, i32_w]
                rfl
              refine take_ (i := 12) (N := some 44) (v := ?_) (a' := ?_) #[true, true, true, true, true, true, true, true, true, true, true, true, true, false, false, false] rfl rfl (by kernel_rfl) (fun _ _ _ h => h) (Or.inl ⟨by rfl, ?_⟩) hHeld ?_ ?_
              rotate_left
              · rintro w' ⟨s0, s1, s2, s3, s4⟩
                go_simp
                with_reducible rfl
              rotate_left
              · simp only [Act.put, List.setIfInBounds_toArray, List.set_cons_zero, List.set_cons_succ, i64_w, i32_w]
                rfl
              refine take_ (i := 13) (N := some 45) (v := ?_) (a' := ?_) #[true, true, true, true, true, true, true, true, true, true, true, true, true, true, false, false] rfl rfl (by kernel_rfl) (fun _ _ _ h => h) (Or.inl ⟨by rfl, ?_⟩) hHeld ?_ ?_
              rotate_left
              · rintro w' ⟨s0, s1, s2, s3, s4⟩
                go_simp
                with_reducible rfl
              rotate_left
              · simp only [Act.put, List.setIfInBounds_toArray, List.set_cons_zero, List.set_cons_succ, i64_w, i32_w]
                rfl
              refine pure_ (i := 14) (N := some 46) (v := ?_) (a' := ?_) #[true, true, true, true, true, true, true, true, true, true, true, true, true, true, true, false] rfl rfl (by kernel_rfl) (fun _ _ _ h => h) (Or.inl ⟨by rfl, ?_⟩) ?_ ?_
              rotate_left
              · intro w'
                go_simp
                with_reducible rfl
              rotate_left
              · simp only [Act.put, List.setIfInBounds_toArray, List.set_cons_zero, List.set_cons_succ, i64_w, i32_w]
                rfl
              refine pure_ (i := 15) (N := some 47) (v := ?_) (a' := ?_) #[true, true, true, true, true, true, true, true, true, true, true, true, true, true, true, true] rfl rfl (by kernel_rfl) (fun _ _ _ h => h) (Or.inl ⟨by rfl, ?_⟩) ?_ ?_
              rotate_left
              · intro w'
                go_simp
                with_reducible rfl
              rotate_left
              · simp only [Act.put, List.setIfInBounds_toArray, List.set_cons_zero, List.set_cons_succ, i64_w, i32_w]
                rfl
              refine done_ (by kernel_rfl) ?_
              clear hHeld z1 z2
              obtain ⟨Ai, ci, rfl, _, _⟩ := HLp.out.oi.reads
              obtain ⟨Wq, hWq⟩ : ∃ Wq, Wq = Wp.drew := ⟨_, rfl⟩
              have BQ : Below Wp.heap.size Wp Wq := by rw [hWq]; exact below_drew (Below.refl _ _)
              have HLq := Lib.hid (HLp.out.step BQ)
              have hq0 := cell_below BQ hp0
              have hq1 := cell_below BQ hp1
              have hzq : wr.heap.size < Wq.heap.size := World.block_lt_of_cell? Wq _ hq0
              obtain ⟨e0, e1, e2, e3, ef1, ef2, ez⟩ := HLq.out.cellsAt z0
              have zq : W0.heap.size + 2 ≤ Wq.heap.size := by omega
              have hlen1 : ((ps).length + 1) * 16 ≤ 140737488355328 := by first | omega | (simp; done)
              have hlen2 : (is.length + 1) * 8 ≤ 140737488355328 := by omega
              rw [← hWq]
              clear hWq x0 x1 x2 x3 xf1 xf2 hp0 hp1 HLp HKp BP
              go_wp2_with (first | (at_builtin; refine app_one Ty.pt (W := Wq) (W0.heap.size + 2) rfl _ _ 38 44 _ 16 rfl Try.underlying38 infoPt rfl (by decide) (.slice (some adp) (m + 1) cp) (ps) p [.int .i64 p.1, .int .i64 p.2] _ rfl rfl (by simp) rfl HLq.out.op zq hlen1 ?_; intro v1 w4 HO1 hg1 hat1; obtain ⟨Av, nv, cv, rfl⟩ : ∃ Av nv cv, v1 = .slice Av nv cv := (by obtain ⟨Av, cv, e, _⟩ := OwnR.reads HO1; exact ⟨_, _, _, e⟩); have bk1 := HLq.out.atP hg1; rw [z0] at bk1; have bc1 := blk_cell bk1 1 rfl; have bf1 := blk_free bk1 1; have bc2 := blk_cell bk1 2 rfl; have HL5 := HLq.out.pushP HO1 hg1; rw [z0] at HL5; have H5 := Lib.hid HL5; clear HL5 HO1 hg1 hat1 bk1 HLq e0 e1 e2 e3 ef1 ef2) | (at_builtin; have hz5 := (H5.out.cellsAt z0).2.2.2.2.2.2; have zq5 : W0.heap.size + 2 ≤ (w4.setCell ⟨w.heap.size + 1 + 1, 1, none⟩ (.slice Av nv cv)).heap.size := (by omega); refine app_one Ty.i64 (W := w4.setCell ⟨w.heap.size + 1 + 1, 1, none⟩ (.slice Av nv cv)) (W0.heap.size + 2) rfl _ _ 39 3 _ 8 rfl Try.underlying39 infoInt rfl (by decide) (.slice Ai is.length ci) is (inD x.2.1 k) [.int .i64 (inD x.2.1 k)] _ rfl rfl (by simp) rfl H5.out.oi zq5 hlen2 ?_; intro v2 w6 HO2 hg2 hat2; obtain ⟨Au, nu, cu, rfl⟩ : ∃ Av nv cv, v2 = .slice Av nv cv := (by obtain ⟨Av, cv, e, _⟩ := OwnR.reads HO2; exact ⟨_, _, _, e⟩); have bk2 := H5.out.atI hg2; rw [z0] at bk2; have bc3 := blk_cell bk2 2 rfl; have bf2 := blk_free bk2 2; have HL7 := H5.out.pushI HO2 hg2; rw [z0] at HL7; have H7 := Lib.hid HL7; clear HL7 HO2 hg2 hat2 bk2 H5 hz5 zq5))
              go_wp2
              go_roundw
              case rel => exact ⟨k + 1, ps ++ [p], is ++ [inD x.2.1 k], _, _, by omega, by go_num, (by first | (simp; done) | (simp; omega)), (by first | (simp; done) | (simp; omega)), H7.out, HRm.out⟩
              case measure => simp [intOf]; omega
          · have HRm : Hid (runL f (x.2.1.drop (k + 1)) (ps ++ [p], is ++ [inD x.2.1 k]) = runL f x.2.1 ([], [])) := by
              show _ = _; rw [← HRn.out, stepL_add (by rw [HLAST.out]; intro e; injection e with e; exact hqx (congrArg Prod.fst e))]
            clear HRn HR HL HLAST
            go_wp2_with fail
            rw [← hWp]
            clear hWp hL
            refine start_ (n := 16) (S := fun w' => w'.cell? ⟨w.heap.size + 1 + 1, 1, none⟩ = some (.slice (some adp) (m + 1) cp) ∧ w'.cell? (adp.add (m * 2)) = some (.int .i64 (qx)) ∧ w'.cell? ⟨(adp.add (m * 2)).block, (adp.add (m * 2)).off + 1, none⟩ = some (.int .i64 (qy)) ∧ w'.cell? ⟨wr.heap.size, 0, none⟩ = some (.int .i64 p.1) ∧ w'.cell? ⟨wr.heap.size, 1, none⟩ = some (.int .i64 p.2)) (ds := []) #[false, false, false, false, false, false, false, false, false, false, false, false, false, false, false, false] (by kernel_rfl) rfl rfl ⟨x1, z1, z2, hp0, hp1⟩ (fun hHeld => ?_)
            refine pure_ (i := 0) (N := some 32) (v := ?_) (a' := ?_) #[true, false, false, false, false, false, false, false, false, false, false, false, false, false, false, false] rfl rfl (by kernel_rfl) (fun _ _ _ h => h) (Or.inl ⟨by rfl, ?_⟩) ?_ ?_
            rotate_left
            · intro w'
              go_simp
              with_reducible rfl
            rotate_left
            · simp only [Act.put, List.setIfInBounds_toArray, List.set_cons_zero, List.set_cons_succ, i64_w, i32_w]
              rfl
            refine take_ (i := 1) (N := some 33) (v := ?_) (a' := ?_) #[true, true, false, false, false, false, false, false, false, false, false, false, false, false, false, false] rfl rfl (by kernel_rfl) (fun _ _ _ h => h) (Or.inl ⟨by rfl, ?_⟩) hHeld ?_ ?_
            rotate_left
            · rintro w' ⟨s0, s1, s2, s3, s4⟩
              go_simp
              with_reducible rfl
            rotate_left
            · simp only [Act.put, List.setIfInBounds_toArray, List.set_cons_zero, List.set_cons_succ, i64_w, i32_w]
              rfl
            refine pure_ (i := 2) (N := some 34) (v := ?_) (a' := ?_) #[true, true, true, false, false, false, false, false, false, false, false, false, false, false, false, false] rfl rfl (by kernel_rfl) (fun _ _ _ h => h) (Or.inl ⟨by rfl, ?_⟩) ?_ ?_
            rotate_left
            · intro w'
              go_simp
              with_reducible rfl
            rotate_left
            · simp only [Act.put, List.setIfInBounds_toArray, List.set_cons_zero, List.set_cons_succ, i64_w, i32_w]
              rfl
            refine pure_ (i := 3) (N := some 35) (v := ?_) (a' := ?_) #[true, true, true, true, false, false, false, false, false, false, false, false, false, false, false, false] rfl rfl (by kernel_rfl) (fun _ _ _ h => h) (Or.inl ⟨by rfl, ?_⟩) ?_ ?_
            rotate_left
            · intro w'
              go_simp
              with_reducible rfl
            rotate_left
            · simp only [Act.put, List.setIfInBounds_toArray, List.set_cons_zero, List.set_cons_succ, i64_w, i32_w]
              rfl
            refine pure_ (i := 4) (N := some 36) (v := ?_) (a' := ?_) #[true, true, true, true, true, false, false, false, false, false, false, false, false, false, false, false] rfl rfl (by kernel_rfl) (fun _ _ _ h => h) (Or.inl ⟨by rfl, ?_⟩) ?_ ?_
            rotate_left
            · intro w'
              go_simp
              with_reducible rfl
            rotate_left
            · simp only [Act.put, List.setIfInBounds_toArray, List.set_cons_zero, List.set_cons_succ, i64_w, i32_w]
              rfl
            refine pure_ (i := 5) (N := some 37) (v := ?_) (a' := ?_) #[true, true, true, true, true, true, false, false, false, false, false, false, false, false, false, false] rfl rfl (by kernel_rfl) (fun _ _ _ h => h) (Or.inl ⟨by rfl, ?_⟩) ?_ ?_
            rotate_left
            · intro w'
              go_simp
              with_reducible rfl
            rotate_left
            · simp only [Act.put, List.setIfInBounds_toArray, List.set_cons_zero, List.set_cons_succ, i64_w, i32_w]
              rfl
            refine pure_ (i := 7) (N := some 39) (v := ?_) (a' := ?_) #[true, true, true, true, true, true, false, true, false, false, false, false, false, false, false, false] rfl rfl (by kernel_rfl) (fun _ _ _ h => h) (Or.inl ⟨by rfl, ?_⟩) ?_ ?_
            rotate_left
            · intro w'
              go_simp
              with_reducible rfl
            rotate_left
            · simp only [Act.put, List.setIfInBounds_toArray, List.set_cons_zero, List.set_cons_succ, i64_w, i32_w]
              rfl
            refine take_ (i := 6) (N := some 38) (v := ?_) (a' := ?_) #[true, true, true, true, true, true, true, true, false, false, false, false, false, false, false, false] rfl rfl (by kernel_rfl) (fun _ _ _ h => h) (Or.inl ⟨by rfl, ?_⟩) hHeld ?_ ?_
            rotate_left
            · rintro w' ⟨s0, s1, s2, s3, s4⟩
              go_simp
              with_reducible rfl
            rotate_left
            · simp only [Act.put, List.setIfInBounds_toArray, List.set_cons_zero, List.set_cons_succ, i64_w, i32_w]
              rfl
            refine take_ (i := 8) (N := some 40) (v := ?_) (a' := ?_) #[true, true, true, true, true, true, true, true, true, false, false, false, false, false, false, false] rfl rfl (by kernel_rfl) (fun _ _ _ h => h) (Or.inl ⟨by rfl, ?_⟩) hHeld ?_ ?_
            rotate_left
            · rintro w' ⟨s0, s1, s2, s3, s4⟩
              go_simp
              with_reducible rfl
            rotate_left
            · simp only [Act.put, List.setIfInBounds_toArray, List.set_cons_zero, List.set_cons_succ, i64_w, i32_w]
              rfl
            refine pure_ (i := 9) (N := some 41) (v := ?_) (a' := ?_) #[true, true, true, true, true, true, true, true, true, true, false, false, false, false, false, false] rfl rfl (by kernel_rfl) (fun _ _ _ h => h) (Or.inl ⟨by rfl, ?_⟩) ?_ ?_
            rotate_left
            · intro w'
              go_simp
              with_reducible rfl
            rotate_left
            · simp only [Act.put, List.setIfInBounds_toArray, List.set_cons_zero, List.set_cons_succ, i64_w, i32_w]
              rfl
            refine pure_ (i := 10) (N := some 42) (v := ?_) (a' := ?_) #[true, true, true, true, true, true, true, true, true, true, true, false, false, false, false, false] rfl rfl (by kernel_rfl) (fun _ _ _ h => h) (Or.inl ⟨by rfl, ?_⟩) ?_ ?_
            rotate_left
            · intro w'
              go_simp
              with_reducible rfl
            rotate_left
            · simp only [Act.put, List.setIfInBounds_toArray, List.set_cons_zero, List.set_cons_succ, i64_w, i32_w]
              rfl
            refine pure_ (i := 11) (N := some 43) (v := ?_) (a' := ?_) #[true, true, true, true, true, true, true, true, true, true, true, true, false, false, false, false] rfl rfl (by kernel_rfl) (fun _ _ _ h => h) (Or.inl ⟨by rfl, ?_⟩) ?_ ?_
            rotate_left
            · intro w'
              go_simp
              with_reducible rfl
            rotate_left
            · simp only [Act.put, List.setIfInBounds_toArray, List.set_cons_zero, List.set_cons_succ, i64_w, i32_w]
              rfl
            refine take_ (i := 12) (N := some 44) (v := ?_) (a' := ?_) #[true, true, true, true, true, true, true, true, true, true, true, true, true, false, false, false] rfl rfl (by kernel_rfl) (fun _ _ _ h => h) (Or.inl ⟨by rfl, ?_⟩) hHeld ?_ ?_
            rotate_left
            · rintro w' ⟨s0, s1, s2, s3, s4⟩
              go_simp
              with_reducible rfl
            rotate_left
            · simp only [Act.put, List.setIfInBounds_toArray, List.set_cons_zero, List.set_cons_succ, i64_w, i32_w]
              rfl
            refine take_ (i := 13) (N := some 45) (v := ?_) (a' := ?_) #[true, true, true, true, true, true, true, true, true, true, true, true, true, true, false, false] rfl rfl (by kernel_rfl) (fun _ _ _ h => h) (Or.inl ⟨by rfl, ?_⟩) hHeld ?_ ?_
            rotate_left
            · rintro w' ⟨s0, s1, s2, s3, s4⟩
              go_simp
              with_reducible rfl
            rotate_left
            · simp only [Act.put, List.setIfInBounds_toArray, List.set_cons_zero, List.set_cons_succ, i64_w, i32_w]
              rfl
            refine pure_ (i := 14) (N := some 46) (v := ?_) (a' := ?_) #[true, true, true, true, true, true, true, true, true, true, true, true, true, true, true, false] rfl rfl (by kernel_rfl) (fun _ _ _ h => h) (Or.inl ⟨by rfl, ?_⟩) ?_ ?_
            rotate_left
            · intro w'
              go_simp
              with_reducible rfl
            rotate_left
            · simp only [Act.put, List.setIfInBounds_toArray, List.set_cons_zero, List.set_cons_succ, i64_w, i32_w]
              rfl
            refine pure_ (i := 15) (N := some 47) (v := ?_) (a' := ?_) #[true, true, true, true, true, true, true, true, true, true, true, true, true, true, true, true] rfl rfl (by kernel_rfl) (fun _ _ _ h => h) (Or.inl ⟨by rfl, ?_⟩) ?_ ?_
            rotate_left
            · intro w'
              go_simp
              with_reducible rfl
            rotate_left
            · simp only [Act.put, List.setIfInBounds_toArray, List.set_cons_zero, List.set_cons_succ, i64_w, i32_w]
              rfl
            refine done_ (by kernel_rfl) ?_
            clear hHeld z1 z2
            obtain ⟨Ai, ci, rfl, _, _⟩ := HLp.out.oi.reads
            obtain ⟨Wq, hWq⟩ : ∃ Wq, Wq = Wp.drew := ⟨_, rfl⟩
            have BQ : Below Wp.heap.size Wp Wq := by rw [hWq]; exact below_drew (Below.refl _ _)
            have HLq := Lib.hid (HLp.out.step BQ)
            have hq0 := cell_below BQ hp0
            have hq1 := cell_below BQ hp1
            have hzq : wr.heap.size < Wq.heap.size := World.block_lt_of_cell? Wq _ hq0
            obtain ⟨e0, e1, e2, e3, ef1, ef2, ez⟩ := HLq.out.cellsAt z0
            have zq : W0.heap.size + 2 ≤ Wq.heap.size := by omega
            have hlen1 : ((ps).length + 1) * 16 ≤ 140737488355328 := by first | omega | (simp; done)
            have hlen2 : (is.length + 1) * 8 ≤ 140737488355328 := by omega
            rw [← hWq]
            clear hWq x0 x1 x2 x3 xf1 xf2 hp0 hp1 HLp HKp BP
            go_wp2_with (first | (at_builtin; refine app_one Ty.pt (W := Wq) (W0.heap.size + 2) rfl _ _ 38 44 _ 16 rfl Try.underlying38 infoPt rfl (by decide) (.slice (some adp) (m + 1) cp) (ps) p [.int .i64 p.1, .int .i64 p.2] _ rfl rfl (by simp) rfl HLq.out.op zq hlen1 ?_; intro v1 w4 HO1 hg1 hat1; obtain ⟨Av, nv, cv, rfl⟩ : ∃ Av nv cv, v1 = .slice Av nv cv := (by obtain ⟨Av, cv, e, _⟩ := OwnR.reads HO1; exact ⟨_, _, _, e⟩); have bk1 := HLq.out.atP hg1; rw [z0] at bk1; have bc1 := blk_cell bk1 1 rfl; have bf1 := blk_free bk1 1; have bc2 := blk_cell bk1 2 rfl; have HL5 := HLq.out.pushP HO1 hg1; rw [z0] at HL5; have H5 := Lib.hid HL5; clear HL5 HO1 hg1 hat1 bk1 HLq e0 e1 e2 e3 ef1 ef2) | (at_builtin; have hz5 := (H5.out.cellsAt z0).2.2.2.2.2.2; have zq5 : W0.heap.size + 2 ≤ (w4.setCell ⟨w.heap.size + 1 + 1, 1, none⟩ (.slice Av nv cv)).heap.size := (by omega); refine app_one Ty.i64 (W := w4.setCell ⟨w.heap.size + 1 + 1, 1, none⟩ (.slice Av nv cv)) (W0.heap.size + 2) rfl _ _ 39 3 _ 8 rfl Try.underlying39 infoInt rfl (by decide) (.slice Ai is.length ci) is (inD x.2.1 k) [.int .i64 (inD x.2.1 k)] _ rfl rfl (by simp) rfl H5.out.oi zq5 hlen2 ?_; intro v2 w6 HO2 hg2 hat2; obtain ⟨Au, nu, cu, rfl⟩ : ∃ Av nv cv, v2 = .slice Av nv cv := (by obtain ⟨Av, cv, e, _⟩ := OwnR.reads HO2; exact ⟨_, _, _, e⟩); have bk2 := H5.out.atI hg2; rw [z0] at bk2; have bc3 := blk_cell bk2 2 rfl; have bf2 := blk_free bk2 2; have HL7 := H5.out.pushI HO2 hg2; rw [z0] at HL7; have H7 := Lib.hid HL7; clear HL7 HO2 hg2 hat2 bk2 H5 hz5 zq5))
            go_wp2
            go_roundw
            case rel => exact ⟨k + 1, ps ++ [p], is ++ [inD x.2.1 k], _, _, by omega, by go_num, (by first | (simp; done) | (simp; omega)), (by first | (simp; done) | (simp; omega)), H7.out, HRm.out⟩
            case measure => simp [intOf]; omega
    · obtain rfl : k = x.2.1.length := by omega
      have HE : Hid (some (ps, is) = runL f x.2.1 ([], [])) := by show _ = _; have := HR.out; rw [List.drop_length] at this; exact this
      obtain ⟨Ap, cp, rfl, _, _⟩ := HL.out.op.reads
      obtain ⟨Ai, ci, rfl, _, _⟩ := HL.out.oi.reads
      obtain ⟨x0, x1, x2, x3, xf1, xf2, xz⟩ := HL.out.cellsAt z0
      obtain ⟨y0, y1, y2, y3, yf0, yf1, yf2, yf3⟩ := HL.out.zeroAt z0
      clear HR
      by_cases hsh : ps.length < 2
      · have q : decide ((ps.length : Int) < 2) = true := decide_eq_true (by omega)
        have HN : Hid (lineZ f x = none) := lineZ_short HE.out hsh
        clear hsh
        go_wp2
        refine bodyPost_ret (v := .tuple #[.agg #[.int .i64 0, .slice none 0 0, .slice none 0 0, .slice none 0 0], .bool false]) ?_ rfl ⟨.inl ⟨HN.out, rfl⟩, by repeat (first | exact BW | (apply below_alloc) | (refine below_set2 (by simp) ?_))⟩
        simp [results, Try.results40]
        go_simp
      · have q : decide ((ps.length : Int) < 2) = false := decide_eq_false (by omega)
        have HN : Hid (lineZ f x = some (x.1, (ps, (is, x.2.2)))) := lineZ_long HE.out hsh
        clear hsh
        go_wp2
        refine bodyPost_ret (v := .tuple #[.agg #[.int .i64 x.1, .slice Ap ps.length cp, .slice Ai is.length ci, .slice B2 x.2.2.length d2], .bool true]) ?_ rfl ⟨.inr ⟨_, _, _, HN.out, rfl, ?_, ?_⟩, by repeat (first | exact BW | (apply below_alloc) | (refine below_set2 (by simp) ?_))⟩
        · simp [results, Try.results40]
          go_simp
        · exact (Own1.flat_kept pt_flat HL.out.op (S := fun k => k = w.heap.size + 1) (by repeat (first | exact kept_refl _ _ | (refine kept_set rfl ?_))) (fun b hb e => by have := (OwnR.lt HL.out.op b hb).1; omega)).base (by omega)
        · exact (Own1.flat_kept int_flat HL.out.oi (S := fun k => k = w.heap.size + 1) (by repeat (first | exact kept_refl _ _ | (refine kept_set rfl ?_))) (fun b hb e => by have := (OwnR.lt HL.out.oi b hb).1; omega)).base (by omega)
end Go.Proofs.Ytniceoinipffmaa
