/- Contracts of poly.Less and of trace.Rings' comparison, with the worlds that they leave; of slices.SortFunc over rings. -/
import Derived.Test.YtlmjciajpjdilaaTDiv
import Derived.Test.YtlmjciajpjdilaaTLay
import Derived.Test.YtlmjciajpjdilaaTBridge
namespace Go.Proofs.Ytlmjciajpjdilaa
open Go.RowKit Go.Proofs.YtlmjciajpjdilaaW.PrintLast
set_option linter.unusedVariables false
set_option linter.unusedSimpArgs false

attribute [local go_sem high] eqPt
set_option maxHeartbeats 1000000 in
set_option maxRecDepth 100000 in
theorem poly_LessG {ok ok' : Nat → Prop} (a b : Pts) (A B : Option Addr) (n m c d : Nat) (w : World) (ha : Row Ty.pt ok w A a) (hb : Row Ty.pt ok' w B b) (hn : n = a.length) (hm : m = b.length) :
    Calls Try.prog 17 #[.slice A n c, .slice B m d] w fun e w' => e = .returned (.bool (lessR a b)) ∧ Gw w w' := by
  subst hn hm
  have hl1 := ha.len
  have hl2 := hb.len
  go_enter Try.func17, Try.ntmps17
  go_wp2
  all_goals
    go_loopw [11] (fun i wr => ∃ k : Nat, k ≤ a.length ∧ k ≤ b.length ∧ i = .int .i64 k ∧ Hid (Gw w wr) ∧ Hid (a.take k = b.take k)) (fun i _ => a.length - (intOf i).toNat)
    case atStart => exact ⟨0, Nat.zero_le _, Nat.zero_le _, rfl, gw_refl _, by simp [Hid]⟩
    case round =>
      obtain ⟨k, hk1, hk2, rfl, hbl, hall⟩ := hrel
      by_cases hlt1 : k < a.length
      · by_cases hlt2 : k < b.length
        · obtain ⟨ad, rfl, hc1, hc2⟩ := (ha.below hbl.out.below).pt_at k hlt1
          obtain ⟨bd, rfl, hd1, hd2⟩ := (hb.below hbl.out.below).pt_at k hlt2
          by_cases hq : ptD a k = ptD b k
          · have hd := (ptB (ptD a k) (ptD b k)).trans (decide_eq_true hq)
            have HQ := Lib.hid hq
            clear hq
            go_wp2_with fail
            go_quiet (fail)
            go_wp2
            go_roundw
            case rel => exact ⟨k + 1, by omega, by omega, by go_num, by (repeat (first | exact gw_refl _ | refine gw_step ?_ hbl.out | refine gw_alloc ?_ _ | refine gw_drewN ?_ _ | refine gw_drew ?_)), take_eq_step (0, 0) hall.out hlt1 hlt2 HQ.out⟩
            case measure => simp [intOf]; omega
          · have hd := (ptB (ptD a k) (ptD b k)).trans (decide_eq_false hq)
            have hne : Hid (lessR a b = lessB ((ptD a k).1, (ptD a k).2) ((ptD b k).1, (ptD b k).2)) := lessR_step hall.out hlt1 hlt2 hq
            clear hq
            go_wp2_with fail
            go_quiet (fail)
            go_wp2_with fail
            refine start_ (n := 10) (S := fun w' => w'.cell? (ad.add (k * 2)) = some (.int .i64 (ptD a k).1) ∧ w'.cell? ⟨(ad.add (k * 2)).block, (ad.add (k * 2)).off + 1, none⟩ = some (.int .i64 (ptD a k).2) ∧ w'.cell? (bd.add (k * 2)) = some (.int .i64 (ptD b k).1) ∧ w'.cell? ⟨(bd.add (k * 2)).block, (bd.add (k * 2)).off + 1, none⟩ = some (.int .i64 (ptD b k).2)) (ds := []) #[false, false, false, false, false, false, false, false, false, false] (by kernel_rfl) rfl rfl ⟨hc1, hc2, hd1, hd2⟩ (fun hHeld => ?_)
            refine pure_ (i := 0) (N := some 23) (v := ?_) (a' := ?_) #[true, false, false, false, false, false, false, false, false, false] rfl rfl (by kernel_rfl) (fun _ _ _ h => h) (Or.inl ⟨by rfl, ?_⟩) ?_ ?_
            rotate_left
            · intro w'
              go_simp
              with_reducible rfl
            rotate_left
            · simp only [Act.put, List.setIfInBounds_toArray, List.set_cons_zero, List.set_cons_succ, i64_w, i32_w]
              rfl
            refine pure_ (i := 1) (N := some 24) (v := ?_) (a' := ?_) #[true, true, false, false, false, false, false, false, false, false] rfl rfl (by kernel_rfl) (fun _ _ _ h => h) (Or.inl ⟨by rfl, ?_⟩) ?_ ?_
            rotate_left
            · intro w'
              go_simp
              with_reducible rfl
            rotate_left
            · simp only [Act.put, List.setIfInBounds_toArray, List.set_cons_zero, List.set_cons_succ, i64_w, i32_w]
              rfl
            refine pure_ (i := 2) (N := some 25) (v := ?_) (a' := ?_) #[true, true, true, false, false, false, false, false, false, false] rfl rfl (by kernel_rfl) (fun _ _ _ h => h) (Or.inl ⟨by rfl, ?_⟩) ?_ ?_
            rotate_left
            · intro w'
              go_simp
              with_reducible rfl
            rotate_left
            · simp only [Act.put, List.setIfInBounds_toArray, List.set_cons_zero, List.set_cons_succ, i64_w, i32_w]
              rfl
            refine pure_ (i := 4) (N := some 27) (v := ?_) (a' := ?_) #[true, true, true, false, true, false, false, false, false, false] rfl rfl (by kernel_rfl) (fun _ _ _ h => h) (Or.inl ⟨by rfl, ?_⟩) ?_ ?_
            rotate_left
            · intro w'
              go_simp
              with_reducible rfl
            rotate_left
            · simp only [Act.put, List.setIfInBounds_toArray, List.set_cons_zero, List.set_cons_succ, i64_w, i32_w]
              rfl
            refine pure_ (i := 5) (N := some 28) (v := ?_) (a' := ?_) #[true, true, true, false, true, true, false, false, false, false] rfl rfl (by kernel_rfl) (fun _ _ _ h => h) (Or.inl ⟨by rfl, ?_⟩) ?_ ?_
            rotate_left
            · intro w'
              go_simp
              with_reducible rfl
            rotate_left
            · simp only [Act.put, List.setIfInBounds_toArray, List.set_cons_zero, List.set_cons_succ, i64_w, i32_w]
              rfl
            refine pure_ (i := 6) (N := some 29) (v := ?_) (a' := ?_) #[true, true, true, false, true, true, true, false, false, false] rfl rfl (by kernel_rfl) (fun _ _ _ h => h) (Or.inl ⟨by rfl, ?_⟩) ?_ ?_
            rotate_left
            · intro w'
              go_simp
              with_reducible rfl
            rotate_left
            · simp only [Act.put, List.setIfInBounds_toArray, List.set_cons_zero, List.set_cons_succ, i64_w, i32_w]
              rfl
            refine take_ (i := 3) (N := some 26) (v := ?_) (a' := ?_) #[true, true, true, true, true, true, true, false, false, false] rfl rfl (by kernel_rfl) (fun _ _ _ h => h) (Or.inl ⟨by rfl, ?_⟩) hHeld ?_ ?_
            rotate_left
            · rintro w' ⟨s0, s1, s2, s3⟩
              go_simp
              with_reducible rfl
            rotate_left
            · simp only [Act.put, List.setIfInBounds_toArray, List.set_cons_zero, List.set_cons_succ, i64_w, i32_w]
              rfl
            refine take_ (i := 7) (N := some 30) (v := ?_) (a' := ?_) #[true, true, true, true, true, true, true, true, false, false] rfl rfl (by kernel_rfl) (fun _ _ _ h => h) (Or.inl ⟨by rfl, ?_⟩) hHeld ?_ ?_
            rotate_left
            · rintro w' ⟨s0, s1, s2, s3⟩
              go_simp
              with_reducible rfl
            rotate_left
            · simp only [Act.put, List.setIfInBounds_toArray, List.set_cons_zero, List.set_cons_succ, i64_w, i32_w]
              rfl
            refine one_ (i := 8) (N := some 31) #[true, true, true, true, true, true, true, true, true, false] rfl rfl (by kernel_rfl) (by decide) (fun K hK => ?_)
            refine goes_ Try.func33 (by kernel_rfl) rfl #[.agg #[.int .i64 (ptD a k).1, .int .i64 (ptD a k).2], .agg #[.int .i64 (ptD b k).1, .int .i64 (ptD b k).2]] (by rfl) rfl rfl (by simp only [List.map_toArray, List.map_cons, List.map_nil]; rfl) ?_
            with_reducible refine (grid_LessG _ _ _ _ _).mono ?_
            rintro e w1 ⟨rfl, hg1⟩
            refine ⟨_, rfl, ?_⟩
            refine hK.out _ _ ⟨cell_below hg1.below hc1, cell_below hg1.below hc2, cell_below hg1.below hd1, cell_below hg1.below hd2⟩ (fun hHeld => ?_)
            clear hK K
            refine norm_ (a' := ?_) ?_ ?_
            rotate_left
            · show Act.put _ (some 31) _ = _
              simp only [Act.put, List.setIfInBounds_toArray, List.set_cons_zero, List.set_cons_succ, i64_w, i32_w]
              rfl
            refine pure_ (i := 9) (N := some 4) (v := ?_) (a' := ?_) #[true, true, true, true, true, true, true, true, true, true] rfl rfl (by kernel_rfl) (fun _ _ _ h => h) (Or.inl ⟨by rfl, ?_⟩) ?_ ?_
            rotate_left
            · intro w'
              go_simp
              with_reducible rfl
            rotate_left
            · simp only [Act.put, List.setIfInBounds_toArray, List.set_cons_zero, List.set_cons_succ, i64_w, i32_w]
              rfl
            refine done_ (by kernel_rfl) ?_
            go_wp2
            go_ret
            exact ⟨ret_bool hne.out.symm, by (repeat (first | exact gw_refl _ | refine gw_step ?_ hg1 | refine gw_step ?_ hbl.out | refine gw_alloc ?_ _ | refine gw_drewN ?_ _ | refine gw_drew ?_))⟩
        · obtain rfl : k = b.length := by omega
          have HL : Hid (lessR a b = decide (a.length < b.length)) := lessR_end (by rw [show min a.length b.length = b.length from by omega]; exact hall.out)
          go_wp2
          go_ret
          exact ⟨ret_bool (by rw [HL.out]), by (repeat (first | exact gw_refl _ | refine gw_step ?_ hbl.out | refine gw_alloc ?_ _ | refine gw_drewN ?_ _ | refine gw_drew ?_))⟩
      · obtain rfl : k = a.length := by omega
        have HL : Hid (lessR a b = decide (a.length < b.length)) := lessR_end (by rw [show min a.length b.length = a.length from by omega]; exact hall.out)
        go_wp2
        all_goals go_ret
        all_goals exact ⟨ret_bool (by rw [HL.out]), by (repeat (first | exact gw_refl _ | refine gw_step ?_ hbl.out | refine gw_alloc ?_ _ | refine gw_drewN ?_ _ | refine gw_drew ?_))⟩
theorem rings_cmp {ok ok' : Nat → Prop} (a b : Pts) (A B : Option Addr) (n m c d : Nat) (w : World) (ha : Row Ty.pt ok w A a) (hb : Row Ty.pt ok' w B b) (hn : n = a.length) (hm : m = b.length) :
    Calls Try.prog 16 #[.slice A n c, .slice B m d] w fun e w' => e = .returned (.int .i64 (cmpR a b)) ∧ Gw w w' := by
  subst hn hm
  have HA := Lib.hid ha
  have HB := Lib.hid hb
  have HE : Hid (cmpR a b = if lessR a b = true then -1 else if lessR b a = true then 1 else 0) := rfl
  generalize cmpR a b = r at *
  clear ha hb
  cases h1 : lessR a b
  · have H1 := Lib.hid h1
    cases h2 : lessR b a
    · have H2 := Lib.hid h2
      have HR : Hid (r = 0) := HE.out.trans (by rw [h1, h2]; rfl)
      clear h1 h2 HE
      go_enter Try.func16, Try.ntmps16
      go_wp2_with fail
      refine (poly_LessG a b A B _ _ c d _ HA.out HB.out rfl rfl).mono ?_
      rintro e w1 ⟨rfl, hg1⟩
      rw [H1.out]
      go_wp2_with fail
      refine (poly_LessG b a B A _ _ d c _ (HB.out.below hg1.below) (HA.out.below hg1.below) rfl rfl).mono ?_
      rintro e w2 ⟨rfl, hg2⟩
      rw [H2.out]
      go_wp2
      go_ret
      exact ⟨ret_int HR.out.symm, by (repeat (first | exact gw_refl _ | refine gw_step ?_ hg2 | refine gw_step ?_ hg1 | refine gw_alloc ?_ _ | refine gw_drewN ?_ _ | refine gw_drew ?_))⟩
    · have H2 := Lib.hid h2
      have HR : Hid (r = 1) := HE.out.trans (by rw [h1, h2]; rfl)
      clear h1 h2 HE
      go_enter Try.func16, Try.ntmps16
      go_wp2_with fail
      refine (poly_LessG a b A B _ _ c d _ HA.out HB.out rfl rfl).mono ?_
      rintro e w1 ⟨rfl, hg1⟩
      rw [H1.out]
      go_wp2_with fail
      refine (poly_LessG b a B A _ _ d c _ (HB.out.below hg1.below) (HA.out.below hg1.below) rfl rfl).mono ?_
      rintro e w2 ⟨rfl, hg2⟩
      rw [H2.out]
      go_wp2
      go_ret
      exact ⟨ret_int HR.out.symm, by (repeat (first | exact gw_refl _ | refine gw_step ?_ hg2 | refine gw_step ?_ hg1 | refine gw_alloc ?_ _ | refine gw_drewN ?_ _ | refine gw_drew ?_))⟩
  · have H1 := Lib.hid h1
    have HR : Hid (r = -1) := HE.out.trans (by rw [h1]; rfl)
    clear h1 HE
    go_enter Try.func16, Try.ntmps16
    go_wp2_with fail
    refine (poly_LessG a b A B _ _ c d _ HA.out HB.out rfl rfl).mono ?_
    rintro e w1 ⟨rfl, hg1⟩
    rw [H1.out]
    go_wp2
    go_ret
    exact ⟨ret_int HR.out.symm, by (repeat (first | exact gw_refl _ | refine gw_step ?_ hg1 | refine gw_alloc ?_ _ | refine gw_drewN ?_ _ | refine gw_drew ?_))⟩

/-! ### slices.SortFunc over rings -/
def RgQ (M : Nat → Prop) (w : World) (x : Value × Pts) : Prop := Ty.ring.R (fun k => ¬ M k ∧ k < w.heap.size) w x.2 [x.1]
abbrev RgV (M : Nat → Prop) (w : World) : Type := { x : Value × Pts // RgQ M w x }
instance (M : Nat → Prop) (w : World) : Inhabited (RgV M w) := ⟨⟨(.slice none 0 0, []), ⟨none, 0, rfl, Nat.le_refl _, Row.nil _ _ _ _⟩⟩⟩
theorem reps_rgs {M : Nat → Prop} {w : World} : ∀ {rs : Rgs} {cs : List Value}, Reps Ty.ring (fun k => ¬ M k) w rs cs → ∃ ps : List (RgV M w), ps.map (fun x => x.1.1) = cs ∧ ps.map (fun x => x.1.2) = rs
  | [], _, h => ⟨[], h.symm, rfl⟩
  | r :: rs, _, ⟨c, d, e, hc, hd⟩ => by
    obtain ⟨ps, h1, h2⟩ := reps_rgs hd
    obtain ⟨A, n, he, hl, hr⟩ := hc
    subst he e
    exact ⟨⟨(.slice A r.length n, r), ⟨A, n, rfl, hl, hr.bnd⟩⟩ :: ps, by simp [h1], by simp [h2]⟩
theorem rgs_reps {M : Nat → Prop} {w : World} : ∀ ps : List (RgV M w), Reps Ty.ring (fun k => ¬ M k) w (ps.map fun x => x.1.2) (ps.map fun x => x.1.1)
  | [] => rfl
  | x :: ps => ⟨[x.1.1], _, rfl, Ty.ring.mono (fun k hk => hk.1) x.2, rgs_reps ps⟩
theorem ltRV {M : Nat → Prop} {w : World} (x y : RgV M w) : Go.Proofs.ltOf (fun x y : RgV M w => cmpR x.1.2 y.1.2) x y = lessR x.1.2 y.1.2 := ltR x.1.2 y.1.2
theorem swoR {M : Nat → Prop} {w : World} : Go.Sort.SWO (Go.Proofs.ltOf (fun x y : RgV M w => cmpR x.1.2 y.1.2)) where
  irrefl := fun x => by rw [ltRV]; exact totR.irr _
  trans := fun x y z h1 h2 => by rw [ltRV] at *; exact totR.trans h1 h2
  ntrans := fun x y z h1 h2 => by rw [ltRV] at *; exact totR.ntrans h2 h1
theorem enters_r {K : Nat} {fn : Func} {c : Code} (hf : Try.prog.funcs[K]? = some fn) (hname : (fn.name == "runtime.NumGoroutine") = false) (hb : fn.body = some c) (args : Array Value) (w : World) : (callFunc K args).run Try.prog w = .ok (.enter K args) w := by
  have h1 : fn.name ≠ "runtime.NumGoroutine" := by simpa using hname
  simp [callFunc, hf, h1, hb]
theorem SortFunc_rings {base : Nat} {M : Nat → Prop} {w : World} {rs : Rgs} (A : Option Addr) (n c : Nat) (hsm : rs.length ≤ 1000000000) (HO : OwnR Ty.ring 36 base M w (.slice A n c) rs) :
    Calls Try.prog 15 #[.slice A n c, .func (.func 16) #[] #[]] w fun e' w' => e' = .returned (.tuple #[]) ∧ OwnR Ty.ring 36 base M w' (.slice A n c) (sortG lessR rs) ∧ KeptS (fun b => (Value.slice A n c).ownBlock = some b) w w' := by
  obtain ⟨A', c', hv', hc', hr, hg⟩ := HO.reads
  injection hv' with e1 e2 e3
  subst e1 e2 e3
  rcases Nat.eq_zero_or_pos rs.length with h0 | h0
  · obtain rfl : rs = [] := List.eq_nil_of_length_eq_zero h0
    exact (AnyF.slices_SortFunc_none (ρ := Try.laysRg_ren) { Try.laysRg with } A c _ w).mono fun e' w' ⟨he, hw⟩ => ⟨he, by rw [hw]; exact HO, by rw [hw]; exact kept_refl _ _⟩
  · obtain ⟨g, rfl, _⟩ := hg h0
    obtain ⟨inner, hi, hH, hgl⟩ := HO.cellsOf
    have hMg : M g := HO.1 g rfl
    obtain ⟨ps, hp1, hp2⟩ := reps_rgs hi
    have hln : ps.length = rs.length := by rw [← hp2, List.length_map]
    have hH' : Go.Sort.Holds (fun x : RgV M w => x.1.1) w g 0 ps.toArray := fun j hj => by
      have hj0 : j < ps.length := by simpa using hj
      have hj' : j < inner.toArray.size := by rw [← hp1]; simpa using hj
      have := hH j hj'
      refine ⟨this.1.trans (congrArg some ?_), this.2⟩
      rw [getElem!_pos inner.toArray j hj', getElem!_pos ps.toArray j hj]
      simp only [← hp1, id, List.getElem_toArray, List.getElem_map]
    have hsz : ps.toArray.size < 4611686018427387904 := by
      rw [List.size_toArray]; omega
    have hC : CmpLays1 Try.prog 16 #[] (fun x : RgV M w => x.1.1) (fun x y => cmpR x.1.2 y.1.2) g 0 ps.toArray.size w := fun m os dk hs x y => by
      have hmv : ∀ k, (¬ M k ∧ k < w.heap.size) → (Go.Proofs.sortWorld (fun x : RgV M w => x.1.1) w g 0 m dk os).heap[k]? = w.heap[k]? := fun k hk => by
        unfold Go.Proofs.sortWorld
        rw [Go.Sort.heap_grow_old _ _ (by simpa using hk.2)]
        show (w.heap.modify g _)[k]? = _
        have hne : g ≠ k := by rintro rfl; exact hk.1 hMg
        rw [Array.getElem?_modify, if_neg hne]
      obtain ⟨⟨xv, xr⟩, A1, c1, hx, hxl, hxr⟩ := x
      obtain ⟨⟨yv, yr⟩, A2, c2, hy, hyl, hyr⟩ := y
      replace hx : xv = .slice A1 xr.length c1 := by injection hx
      replace hy : yv = .slice A2 yr.length c2 := by injection hy
      subst hx hy
      exact (rings_cmp xr yr A1 A2 _ _ c1 c2 _ (hxr.move hmv) (hyr.move hmv) rfl rfl).mono fun e' w' ⟨he, hgw⟩ => ⟨he, hgw⟩
    have := Any.slices_SortFunc Try.laysRg (fun x : RgV M w => x.1.1) (fun x => by obtain ⟨⟨xv, xr⟩, A1, c1, hx, _⟩ := x; (replace hx : xv = .slice A1 xr.length c1 := by injection hx); subst hx; rfl) (fun x y => cmpR x.1.2 y.1.2) swoR 16 #[] g 0 c ps.toArray w (enters_r Try.func16 (by kernel_rfl) rfl) hC hH' hgl hsz
    rw [List.size_toArray, hln] at this
    refine this.mono ?_
    rintro e' w' ⟨he, d', m, os, hp, hs, hw⟩
    have hp' : d'.toList.Perm ps := by
      obtain ⟨hs1, _, hp2'⟩ := hp
      have e1 : d'.extract 0 rs.length = d' := by rw [show rs.length = d'.size by rw [hs1]; simp [hln]]; simp
      have e2 : ps.toArray.extract 0 rs.length = ps.toArray := by rw [← hln]; simp
      rw [e1, e2] at hp2'
      simpa using hp2'
    have hl := hp'.length_eq
    have hsrt : Srt lessR (d'.toList.map fun x => x.1.2) := by
      refine List.pairwise_map.2 (List.pairwise_iff_getElem.2 fun i j hi hj hij => ?_)
      have := hs i j (Nat.zero_le _) hij (by omega)
      rw [ltRV, getElem!_pos d' i (by simpa using hi), getElem!_pos d' j (by simpa using hj)] at this
      simpa using this
    have hys := sortG_eq totR ((hp'.map fun x => x.1.2).trans (by rw [hp2])) hsrt
    have := HO.resorted (ys := d'.toList.map fun x => x.1.2) (inner' := d'.toList.map fun x => x.1.1) (by rw [List.length_map]; omega) (rgs_reps _) m os (W := w') (by rw [hw]; unfold Go.Proofs.sortWorld; rw [putRow_map, show (d'.toList.map fun x : RgV M w => x.1.1).toArray = d'.map fun x => x.1.1 from by apply Array.ext' ; rw [Array.toList_map]])
    rw [hys] at this
    exact ⟨he, this.1, kept_mono this.2 (fun k _ hk => by rw [hk]; rfl)⟩
end Go.Proofs.Ytlmjciajpjdilaa
