/- Contracts of poly.Less and of trace.Rings' comparison, with the worlds that they leave; of slices.SortFunc over rings. Contracts of trace.Rings and trace.LeftInside. Contracts of ref08.Same, ref21.Same and law21.square. Contract of law21.lives: the chapter's example holds. Plain words: a set of segments does not hang on order, direction, or a segment told twice. Contract of ref20.Crossings: how many pairs cross or overlap. Contract of ref21.ends. -/
import Derived.Test.YtlmjciajpjdilaaGreatKR12
import Derived.Test.YtlmjciajpjdilaaGreatTLay
import Derived.Test.YtlmjciajpjdilaaGreatKR7
import Derived.Test.YtlmjciajpjdilaaGreatKR9
import Derived.StillTailTactics
import Derived.Test.YtlmjciajpjdilaaGreatKR5
import Derived.Test.YtlmjciajpjdilaaGreatKR8
import Derived.Test.YtlmjciajpjdilaaGreatKR1
import Derived.Test.YtlmjciajpjdilaaGreatKR3
namespace Go.Proofs.YtlmjciajpjdilaaGreat
set_option linter.unusedVariables false
set_option linter.unusedSimpArgs false
section
open Go.RowKit Go.Proofs.YtlmjciajpjdilaaGreatW.PrintLast

attribute [local go_sem high] eqPt
set_option maxHeartbeats 1000000 in
set_option maxRecDepth 100000 in
theorem poly_LessG {ok ok' : Nat → Prop} (a b : Pts) (A B : Option Addr) (n m c d : Nat) (w : World) (ha : Row Ty.pt ok w A a) (hb : Row Ty.pt ok' w B b) (hn : n = a.length) (hm : m = b.length) :
  Calls Tryz.prog 49 #[.slice A n c, .slice B m d] w fun e w' => e = .returned (.bool (lessR a b)) ∧ Gw w w' := by
 subst hn hm
 have hl1 := ha.len
 have hl2 := hb.len
 go_enter Tryz.func49, Tryz.ntmps49
 go_wp2
 all_goals
  go_loopw [11] (fun i wr => ∃ k : Nat, k ≤ a.length ∧ k ≤ b.length ∧ i = .int .i64 k ∧ Hid (Gw w wr) ∧ Hid (a.take k = b.take k)) (fun i _ => a.length - (intOf i).toNat)
  case atStart => exact ⟨0, Nat.zero_le _, Nat.zero_le _, rfl, gw_refl _, by simp [Hid]⟩
  case round =>
   obtain ⟨k, hk1, hk2, rfl, hbl, hall⟩ := hrel
   by_cases hlt1 : k < a.length
   ·by_cases hlt2 : k < b.length
    ·obtain ⟨ad, rfl, hc1, hc2⟩ := (ha.below hbl.out.below).pt_at k hlt1
     obtain ⟨bd, rfl, hd1, hd2⟩ := (hb.below hbl.out.below).pt_at k hlt2
     by_cases hq : ptD a k = ptD b k
     ·have hd := (ptB (ptD a k) (ptD b k)).trans (decide_eq_true hq)
      have HQ := Lib.hid hq
      clear hq
      go_wp2_with fail
      go_quiet (fail)
      go_wp2
      go_roundw
      case rel => exact ⟨k + 1, by omega, by omega, by go_num, by (repeat (first | exact gw_refl _ | refine gw_step ?_ hbl.out | refine gw_alloc ?_ _ | refine gw_drewN ?_ _ | refine gw_drew ?_)), take_eq_step (0, 0) hall.out hlt1 hlt2 HQ.out⟩
      case measure => simp [intOf]; omega
     ·have hd := (ptB (ptD a k) (ptD b k)).trans (decide_eq_false hq)
      have hne : Hid (lessR a b = lessB ((ptD a k).1, (ptD a k).2) ((ptD b k).1, (ptD b k).2)) := lessR_step hall.out hlt1 hlt2 hq
      clear hq
      go_wp2_with fail
      go_quiet (fail)
      go_wp2_with fail
      refine start_ (n := 10) (S := fun w' => w'.cell? (ad.add (k * 2)) = some (.int .i64 (ptD a k).1) ∧ w'.cell? ⟨(ad.add (k * 2)).block, (ad.add (k * 2)).off + 1, none⟩ = some (.int .i64 (ptD a k).2) ∧ w'.cell? (bd.add (k * 2)) = some (.int .i64 (ptD b k).1) ∧ w'.cell? ⟨(bd.add (k * 2)).block, (bd.add (k * 2)).off + 1, none⟩ = some (.int .i64 (ptD b k).2)) (ds := []) #[Z,Z,Z,Z,Z,Z,Z,Z,Z,Z] (by kernel_rfl) rfl rfl ⟨hc1, hc2, hd1, hd2⟩ (fun hHeld => ?_)
      refine pure_ (i := 0) (N := some 23) (v := ?_) (a' := ?_) #[J,Z,Z,Z,Z,Z,Z,Z,Z,Z] rfl rfl (by kernel_rfl) (fun _ _ _ h => h) (Or.inl ⟨by rfl, ?_⟩) ?_ ?_
      rotate_left
      ·intro w'; go_simp; with_reducible rfl
      rotate_left
      ·simp only [Act.put, sA, sB, sC, i64_w, i32_w]; rfl
      refine pure_ (i := 1) (N := some 24) (v := ?_) (a' := ?_) #[J,J,Z,Z,Z,Z,Z,Z,Z,Z] rfl rfl (by kernel_rfl) (fun _ _ _ h => h) (Or.inl ⟨by rfl, ?_⟩) ?_ ?_
      rotate_left
      ·intro w'; go_simp; with_reducible rfl
      rotate_left
      ·simp only [Act.put, sA, sB, sC, i64_w, i32_w]; rfl
      refine pure_ (i := 2) (N := some 25) (v := ?_) (a' := ?_) #[J,J,J,Z,Z,Z,Z,Z,Z,Z] rfl rfl (by kernel_rfl) (fun _ _ _ h => h) (Or.inl ⟨by rfl, ?_⟩) ?_ ?_
      rotate_left
      ·intro w'; go_simp; with_reducible rfl
      rotate_left
      ·simp only [Act.put, sA, sB, sC, i64_w, i32_w]; rfl
      refine pure_ (i := 4) (N := some 27) (v := ?_) (a' := ?_) #[J,J,J,Z,J,Z,Z,Z,Z,Z] rfl rfl (by kernel_rfl) (fun _ _ _ h => h) (Or.inl ⟨by rfl, ?_⟩) ?_ ?_
      rotate_left
      ·intro w'; go_simp; with_reducible rfl
      rotate_left
      ·simp only [Act.put, sA, sB, sC, i64_w, i32_w]; rfl
      refine pure_ (i := 5) (N := some 28) (v := ?_) (a' := ?_) #[J,J,J,Z,J,J,Z,Z,Z,Z] rfl rfl (by kernel_rfl) (fun _ _ _ h => h) (Or.inl ⟨by rfl, ?_⟩) ?_ ?_
      rotate_left
      ·intro w'; go_simp; with_reducible rfl
      rotate_left
      ·simp only [Act.put, sA, sB, sC, i64_w, i32_w]; rfl
      refine pure_ (i := 6) (N := some 29) (v := ?_) (a' := ?_) #[J,J,J,Z,J,J,J,Z,Z,Z] rfl rfl (by kernel_rfl) (fun _ _ _ h => h) (Or.inl ⟨by rfl, ?_⟩) ?_ ?_
      rotate_left
      ·intro w'; go_simp; with_reducible rfl
      rotate_left
      ·simp only [Act.put, sA, sB, sC, i64_w, i32_w]; rfl
      refine take_ (i := 3) (N := some 26) (v := ?_) (a' := ?_) #[J,J,J,J,J,J,J,Z,Z,Z] rfl rfl (by kernel_rfl) (fun _ _ _ h => h) (Or.inl ⟨by rfl, ?_⟩) hHeld ?_ ?_
      rotate_left
      ·rintro w' ⟨s0, s1, s2, s3⟩; go_simp; with_reducible rfl
      rotate_left
      ·simp only [Act.put, sA, sB, sC, i64_w, i32_w]; rfl
      refine take_ (i := 7) (N := some 30) (v := ?_) (a' := ?_) #[J,J,J,J,J,J,J,J,Z,Z] rfl rfl (by kernel_rfl) (fun _ _ _ h => h) (Or.inl ⟨by rfl, ?_⟩) hHeld ?_ ?_
      rotate_left
      ·rintro w' ⟨s0, s1, s2, s3⟩; go_simp; with_reducible rfl
      rotate_left
      ·simp only [Act.put, sA, sB, sC, i64_w, i32_w]; rfl
      refine one_ (i := 8) (N := some 31) #[J,J,J,J,J,J,J,J,J,Z] rfl rfl (by kernel_rfl) (by decide) (fun K hK => ?_)
      refine goes_ Tryz.func92 (by kernel_rfl) rfl #[.agg #[.int .i64 (ptD a k).1, .int .i64 (ptD a k).2], .agg #[.int .i64 (ptD b k).1, .int .i64 (ptD b k).2]] (by rfl) rfl rfl (by simp only [List.map_toArray, List.map_cons, List.map_nil]; rfl) ?_
      with_reducible refine (grid_LessG _ _ _ _ _).mono ?_
      rintro e w1 ⟨rfl, hg1⟩
      refine ⟨_, rfl, ?_⟩
      refine hK.out _ _ ⟨cell_below hg1.below hc1, cell_below hg1.below hc2, cell_below hg1.below hd1, cell_below hg1.below hd2⟩ (fun hHeld => ?_)
      clear hK K
      refine norm_ (a' := ?_) ?_ ?_
      rotate_left
      ·show Act.put _ (some 31) _ = _
       simp only [Act.put, sA, sB, sC, i64_w, i32_w]; rfl
      refine pure_ (i := 9) (N := some 4) (v := ?_) (a' := ?_) #[J,J,J,J,J,J,J,J,J,J] rfl rfl (by kernel_rfl) (fun _ _ _ h => h) (Or.inl ⟨by rfl, ?_⟩) ?_ ?_
      rotate_left
      ·intro w'; go_simp; with_reducible rfl
      rotate_left
      ·simp only [Act.put, sA, sB, sC, i64_w, i32_w]; rfl
      refine done_ (by kernel_rfl) ?_
      go_wp2
      go_ret
      exact ⟨ret_bool hne.out.symm, by (repeat (first | exact gw_refl _ | refine gw_step ?_ hg1 | refine gw_step ?_ hbl.out | refine gw_alloc ?_ _ | refine gw_drewN ?_ _ | refine gw_drew ?_))⟩
    ·obtain rfl : k = b.length := by omega
     have HL : Hid (lessR a b = decide (a.length < b.length)) := lessR_end (by rw [show min a.length b.length = b.length from by omega]; exact hall.out)
     go_wp2
     go_ret
     exact ⟨ret_bool (by rw [HL.out]), by (repeat (first | exact gw_refl _ | refine gw_step ?_ hbl.out | refine gw_alloc ?_ _ | refine gw_drewN ?_ _ | refine gw_drew ?_))⟩
   ·obtain rfl : k = a.length := by omega
    have HL : Hid (lessR a b = decide (a.length < b.length)) := lessR_end (by rw [show min a.length b.length = a.length from by omega]; exact hall.out)
    go_wp2
    all_goals go_ret
    all_goals exact ⟨ret_bool (by rw [HL.out]), by (repeat (first | exact gw_refl _ | refine gw_step ?_ hbl.out | refine gw_alloc ?_ _ | refine gw_drewN ?_ _ | refine gw_drew ?_))⟩
theorem rings_cmp {ok ok' : Nat → Prop} (a b : Pts) (A B : Option Addr) (n m c d : Nat) (w : World) (ha : Row Ty.pt ok w A a) (hb : Row Ty.pt ok' w B b) (hn : n = a.length) (hm : m = b.length) :
  Calls Tryz.prog 48 #[.slice A n c, .slice B m d] w fun e w' => e = .returned (.int .i64 (cmpR a b)) ∧ Gw w w' := by
 subst hn hm
 have HA := Lib.hid ha
 have HB := Lib.hid hb
 have HE : Hid (cmpR a b = if lessR a b = true then -1 else if lessR b a = true then 1 else 0) := rfl
 generalize cmpR a b = r at *
 clear ha hb
 cases h1 : lessR a b
 ·have H1 := Lib.hid h1
  cases h2 : lessR b a
  ·have H2 := Lib.hid h2
   have HR : Hid (r = 0) := HE.out.trans (by rw [h1, h2]; rfl)
   clear h1 h2 HE
   go_enter Tryz.func48, Tryz.ntmps48
   go_wp2_with fail
   refine (poly_LessG a b A B _ _ c d _ HA.out HB.out rfl rfl).mono ?_
   rintro e w1 ⟨rfl, hg1⟩
   rw [H1.out]
   go_wp2_with fail
   refine (poly_LessG b a B A _ _ d c _ (HB.out.below hg1.below) (HA.out.below hg1.below) rfl rfl).mono ?_
   rintro e w2 ⟨rfl, hg2⟩
   rw [H2.out]
   go_wp2
   go_ret
   exact ⟨ret_int HR.out.symm, by (repeat (first | exact gw_refl _ | refine gw_step ?_ hg2 | refine gw_step ?_ hg1 | refine gw_alloc ?_ _ | refine gw_drewN ?_ _ | refine gw_drew ?_))⟩
  ·have H2 := Lib.hid h2
   have HR : Hid (r = 1) := HE.out.trans (by rw [h1, h2]; rfl)
   clear h1 h2 HE
   go_enter Tryz.func48, Tryz.ntmps48
   go_wp2_with fail
   refine (poly_LessG a b A B _ _ c d _ HA.out HB.out rfl rfl).mono ?_
   rintro e w1 ⟨rfl, hg1⟩
   rw [H1.out]
   go_wp2_with fail
   refine (poly_LessG b a B A _ _ d c _ (HB.out.below hg1.below) (HA.out.below hg1.below) rfl rfl).mono ?_
   rintro e w2 ⟨rfl, hg2⟩
   rw [H2.out]
   go_wp2
   go_ret
   exact ⟨ret_int HR.out.symm, by (repeat (first | exact gw_refl _ | refine gw_step ?_ hg2 | refine gw_step ?_ hg1 | refine gw_alloc ?_ _ | refine gw_drewN ?_ _ | refine gw_drew ?_))⟩
 ·have H1 := Lib.hid h1
  have HR : Hid (r = -1) := HE.out.trans (by rw [h1]; rfl)
  clear h1 HE
  go_enter Tryz.func48, Tryz.ntmps48
  go_wp2_with fail
  refine (poly_LessG a b A B _ _ c d _ HA.out HB.out rfl rfl).mono ?_
  rintro e w1 ⟨rfl, hg1⟩
  rw [H1.out]
  go_wp2
  go_ret
  exact ⟨ret_int HR.out.symm, by (repeat (first | exact gw_refl _ | refine gw_step ?_ hg1 | refine gw_alloc ?_ _ | refine gw_drewN ?_ _ | refine gw_drew ?_))⟩

/-! ### slices.SortFunc over rings -/
def RgQ (M : Nat → Prop) (w : World) (x : Value × Pts) : Prop := Ty.ring.R (fun k => ¬ M k ∧ k < w.heap.size) w x.2 [x.1]
abbrev RgV (M : Nat → Prop) (w : World) : Type := { x : Value × Pts // RgQ M w x }
instance (M : Nat → Prop) (w : World) : Inhabited (RgV M w) := ⟨⟨(.slice none 0 0, []), ⟨none, 0, rfl, Nat.le_refl _, Row.nil _ _ _ _⟩⟩⟩
theorem reps_rgs {M : Nat → Prop} {w : World} : ∀ {rs : Rgs} {cs : List Value}, Reps Ty.ring (fun k => ¬ M k) w rs cs → ∃ ps : List (RgV M w), ps.map (fun x => x.1.1) = cs ∧ ps.map (fun x => x.1.2) = rs
 | [], _, h => ⟨[], h.symm, rfl⟩
 | r :: rs, _, ⟨c, d, e, hc, hd⟩ => by
  obtain ⟨ps, h1, h2⟩ := reps_rgs hd
  obtain ⟨A, n, he, hl, hr⟩ := hc
  subst he e
  exact ⟨⟨(.slice A r.length n, r), ⟨A, n, rfl, hl, hr.bnd⟩⟩ :: ps, by simp [h1], by simp [h2]⟩
theorem rgs_reps {M : Nat → Prop} {w : World} : ∀ ps : List (RgV M w), Reps Ty.ring (fun k => ¬ M k) w (ps.map fun x => x.1.2) (ps.map fun x => x.1.1)
 | [] => rfl
 | x :: ps => ⟨[x.1.1], _, rfl, Ty.ring.mono (fun k hk => hk.1) x.2, rgs_reps ps⟩
theorem ltRV {M : Nat → Prop} {w : World} (x y : RgV M w) : Go.Proofs.ltOf (fun x y : RgV M w => cmpR x.1.2 y.1.2) x y = lessR x.1.2 y.1.2 := ltR x.1.2 y.1.2
theorem swoR {M : Nat → Prop} {w : World} : Go.Sort.SWO (Go.Proofs.ltOf (fun x y : RgV M w => cmpR x.1.2 y.1.2)) where
 irrefl := fun x => by rw [ltRV]; exact totR.irr _
 trans := fun x y z h1 h2 => by rw [ltRV] at *; exact totR.trans h1 h2
 ntrans := fun x y z h1 h2 => by rw [ltRV] at *; exact totR.ntrans h2 h1
theorem enters_r {K : Nat} {fn : Func} {c : Code} (hf : Tryz.prog.funcs[K]? = some fn) (hname : (fn.name == "runtime.NumGoroutine") = false) (hb : fn.body = some c) (args : Array Value) (w : World) : (callFunc K args).run Tryz.prog w = .ok (.enter K args) w := by
 have h1 : fn.name ≠ "runtime.NumGoroutine" := by simpa using hname
 simp [callFunc, hf, h1, hb]
theorem SortFunc_rings {base : Nat} {M : Nat → Prop} {w : World} {rs : Rgs} (A : Option Addr) (n c : Nat) (hsm : rs.length ≤ 1000000000) (HO : OwnR Ty.ring 41 base M w (.slice A n c) rs) :
  Calls Tryz.prog 47 #[.slice A n c, .func (.func 48) #[] #[]] w fun e' w' => e' = .returned (.tuple #[]) ∧ OwnR Ty.ring 41 base M w' (.slice A n c) (sortG lessR rs) ∧ KeptS (fun b => (Value.slice A n c).ownBlock = some b) w w' := by
 obtain ⟨A', c', hv', hc', hr, hg⟩ := HO.reads
 injection hv' with e1 e2 e3
 subst e1 e2 e3
 rcases Nat.eq_zero_or_pos rs.length with h0 | h0
 ·obtain rfl : rs = [] := List.eq_nil_of_length_eq_zero h0
  exact (AnyF.slices_SortFunc_none (ρ := Tryz.laysRg_ren) { Tryz.laysRg with } A c _ w).mono fun e' w' ⟨he, hw⟩ => ⟨he, by rw [hw]; exact HO, by rw [hw]; exact kept_refl _ _⟩
 ·obtain ⟨g, rfl, _⟩ := hg h0
  obtain ⟨inner, hi, hH, hgl⟩ := HO.cellsOf
  have hMg : M g := HO.1 g rfl
  obtain ⟨ps, hp1, hp2⟩ := reps_rgs hi
  have hln : ps.length = rs.length := by rw [← hp2, List.length_map]
  have hH' : Go.Sort.Holds (fun x : RgV M w => x.1.1) w g 0 ps.toArray := fun j hj => by
   have hj0 : j < ps.length := by simpa using hj
   have hj' : j < inner.toArray.size := by rw [← hp1]; simpa using hj
   have := hH j hj'
   refine ⟨this.1.trans (congrArg some ?_), this.2⟩
   rw [getElem!_pos inner.toArray j hj', getElem!_pos ps.toArray j hj]
   simp only [← hp1, id, List.getElem_toArray, List.getElem_map]
  have hsz : ps.toArray.size < 4611686018427387904 := by
   rw [List.size_toArray]; omega
  have hC : CmpLays1 Tryz.prog 48 #[] (fun x : RgV M w => x.1.1) (fun x y => cmpR x.1.2 y.1.2) g 0 ps.toArray.size w := fun m os dk hs x y => by
   have hmv : ∀ k, (¬ M k ∧ k < w.heap.size) → (Go.Proofs.sortWorld (fun x : RgV M w => x.1.1) w g 0 m dk os).heap[k]? = w.heap[k]? := fun k hk => by
    unfold Go.Proofs.sortWorld
    rw [Go.Sort.heap_grow_old _ _ (by simpa using hk.2)]
    show (w.heap.modify g _)[k]? = _
    have hne : g ≠ k := by rintro rfl; exact hk.1 hMg
    rw [Array.getElem?_modify, if_neg hne]
   obtain ⟨⟨xv, xr⟩, A1, c1, hx, hxl, hxr⟩ := x
   obtain ⟨⟨yv, yr⟩, A2, c2, hy, hyl, hyr⟩ := y
   replace hx : xv = .slice A1 xr.length c1 := by injection hx
   replace hy : yv = .slice A2 yr.length c2 := by injection hy
   subst hx hy
   exact (rings_cmp xr yr A1 A2 _ _ c1 c2 _ (hxr.move hmv) (hyr.move hmv) rfl rfl).mono fun e' w' ⟨he, hgw⟩ => ⟨he, hgw⟩
  have := Any.slices_SortFunc Tryz.laysRg (fun x : RgV M w => x.1.1) (fun x => by obtain ⟨⟨xv, xr⟩, A1, c1, hx, _⟩ := x; (replace hx : xv = .slice A1 xr.length c1 := by injection hx); subst hx; rfl) (fun x y => cmpR x.1.2 y.1.2) swoR 48 #[] g 0 c ps.toArray w (enters_r Tryz.func48 (by kernel_rfl) rfl) hC hH' hgl hsz
  rw [List.size_toArray, hln] at this
  refine this.mono ?_
  rintro e' w' ⟨he, d', m, os, hp, hs, hw⟩
  have hp' : d'.toList.Perm ps := by
   obtain ⟨hs1, _, hp2'⟩ := hp
   have e1 : d'.extract 0 rs.length = d' := by rw [show rs.length = d'.size by rw [hs1]; simp [hln]]; simp
   have e2 : ps.toArray.extract 0 rs.length = ps.toArray := by rw [← hln]; simp
   rw [e1, e2] at hp2'
   simpa using hp2'
  have hl := hp'.length_eq
  have hsrt : Srt lessR (d'.toList.map fun x => x.1.2) := by
   refine List.pairwise_map.2 (List.pairwise_iff_getElem.2 fun i j hi hj hij => ?_)
   have := hs i j (Nat.zero_le _) hij (by omega)
   rw [ltRV, getElem!_pos d' i (by simpa using hi), getElem!_pos d' j (by simpa using hj)] at this
   simpa using this
  have hys := sortG_eq totR ((hp'.map fun x => x.1.2).trans (by rw [hp2])) hsrt
  have := HO.resorted (ys := d'.toList.map fun x => x.1.2) (inner' := d'.toList.map fun x => x.1.1) (by rw [List.length_map]; omega) (rgs_reps _) m os (W := w') (by rw [hw]; unfold Go.Proofs.sortWorld; rw [putRow_map, show (d'.toList.map fun x : RgV M w => x.1.1).toArray = d'.map fun x => x.1.1 from by apply Array.ext' ; rw [Array.toList_map]])
  rw [hys] at this
  exact ⟨he, this.1, kept_mono this.2 (fun k _ hk => by rw [hk]; rfl)⟩
end
section
open Go.RowKit Go.Proofs.YtlmjciajpjdilaaGreatW.PrintLast

theorem dir_V {u : Sgs} (h : segsV u) : segsV (dirZ u) := by
 intro s hs
 obtain ⟨t, ht, rfl⟩ := List.mem_map.1 hs
 have := h t ht
 by_cases hl : leftZ u t = true
 ·rw [if_pos hl]; exact this
 ·rw [if_neg hl, Bool.and_comm]; exact this
theorem dir_len (u : Sgs) : (dirZ u).length = u.length := List.length_map ..
theorem walk_pos (dl : Sgs) (s : Sg) : ∀ (n : Nat) (t : Sg) (ring : Pts) (rest : Sgs), 0 < n ∨ 0 < ring.length → 0 < (walkZ dl s n t ring rest).1.length
 | 0, t, ring, rest, h => h.elim (fun h => absurd h (Nat.lt_irrefl 0)) id
 | n + 1, t, ring, rest, _ => by
  by_cases hs : succZ dl t = s ∨ succZ dl t ∉ dropS rest t
  ·rw [walk_stop hs]; simp
  ·have h1 : ¬ succZ dl t = s := fun e => hs (.inl e)
   have h2 : succZ dl t ∈ dropS rest t := Classical.byContradiction (fun e => hs (.inr e))
   rw [walkZ_on h1 h2]
   exact walk_pos dl s n _ _ _ (.inr (by simp))
theorem loopSt_rings (dl : Sgs) : ∀ k, ∀ r ∈ (loopSt dl k).1, 0 < r.length ∧ r.length ≤ dl.length
 | 0, r, h => absurd h (List.not_mem_nil)
 | k + 1, r, h => by
  by_cases hk : k < dl.length
  ·rw [loopSt_snoc dl k hk] at h
   by_cases hm : sgD dl k ∈ (loopSt dl k).2
   ·rw [loopF_in hm] at h
    rcases List.mem_append.1 h with h | h
    ·exact loopSt_rings dl k r h
    ·rw [List.mem_singleton.1 h]
     have h1 := walk_len dl (sgD dl k) (loopSt dl k).2.length (sgD dl k) [] (loopSt dl k).2 hm (Nat.le_refl _)
     have h2 := (loopSt_len dl k).2
     have h3 := List.length_pos_of_mem hm
     exact ⟨walk_pos dl _ _ _ _ _ (.inl h3), by simp at h1; omega⟩
   ·rw [loopF_out hm] at h; exact loopSt_rings dl k r h
  ·have : loopSt dl (k + 1) = loopSt dl k := by unfold loopSt; rw [List.take_of_length_le (by omega), List.take_of_length_le (by omega)]
   rw [this] at h; exact loopSt_rings dl k r h
theorem loops_eq (dl : Sgs) : loopsZ dl = (loopSt dl dl.length).1 := by unfold loopsZ loopSt; rw [List.take_length]
theorem loops_ok (dl : Sgs) : (loopsZ dl).length ≤ dl.length ∧ ∀ r ∈ loopsZ dl, 0 < r.length ∧ r.length ≤ dl.length := by
 rw [loops_eq]
 exact ⟨(loopSt_len dl dl.length).1, loopSt_rings dl dl.length⟩
theorem divided_len (rs : Rgs) (hb : ∀ r ∈ rs, r.length ≤ 1000000) : (dividedZ rs).length ≤ rs.length * 1000001 := by
 have := divTo_len rs hb rs.length (Nat.le_refl _)
 unfold divTo at this
 rwa [List.take_length] at this
set_option maxHeartbeats 1000000 in
theorem trace_Rings {ok : Nat → Prop} (l : Sgs) (A : Option Addr) (n c : Nat) (w : World) (hr : Row Ty.sg ok w A l) (hn : n = l.length) (hlen : l.length ≤ 600) :
  Calls Tryz.prog 13 #[.slice A n c] w fun e w' => ∃ v, e = .returned (.tuple #[v, .int .i64 (checkZ l)]) ∧ Own1 Ty.ring 41 w.heap.size w' v (ringsZ l) ∧ Below w.heap.size w w' := by
 subst hn
 have HR := Lib.hid hr
 clear hr
 have CC := Lib.hid (fun W h => trace_Check (ok := ok) l A l.length c W h rfl hlen)
 have CU := Lib.hid (fun W h => noding_Unique (ok := ok) l A l.length c W h rfl (by omega))
 have hV := Lib.hid (dir_V (uniq_V l))
 have hL : (dirZ (uniqZ l)).length ≤ 600 := by rw [dir_len]; exact Nat.le_trans (uniq_len l) hlen
 have hLu : (uniqZ l).length ≤ 600 := Nat.le_trans (uniq_len l) hlen
 have hLO := Lib.hid (loops_ok (dirZ (uniqZ l)))
 have hL1 : (loopsZ (dirZ (uniqZ l))).length ≤ 600 := Nat.le_trans (loops_ok (dirZ (uniqZ l))).1 hL
 have hDL : (dividedZ (loopsZ (dirZ (uniqZ l)))).length ≤ 1000000000 := by
  refine Nat.le_trans (divided_len _ (fun r h => by have := ((loops_ok (dirZ (uniqZ l))).2 r h).2; omega)) ?_
  refine Nat.le_trans (Nat.mul_le_mul_right _ hL1) (by decide)
 have HZ : Hid (ringsZ l = if checkZ l = 0 then sortG lessR (dividedZ (loopsZ (dirZ (uniqZ l)))) else []) := rfl
 have hUV := Lib.hid (uniq_V l)
 have hlb : l.length ≤ 600 := hlen
 clear hlen
 generalize checkZ l = r at *
 generalize ringsZ l = z at *
 generalize uniqZ l = u at *
 by_cases h0 : r = 0
 ·subst h0
  have HZ1 : Hid (z = sortG lessR (dividedZ (loopsZ (dirZ u)))) := HZ.out.trans (if_pos rfl)
  clear HZ
  go_enter Tryz.func13, Tryz.ntmps13
  go_wp2_with fail
  refine Calls.mono (CC.out _ HR.out) ?_
  rintro e w1 ⟨rfl, hb1⟩
  have HR1 := Lib.hid (HR.out.below hb1)
  have HB1 := Lib.hid hb1
  clear hb1
  go_wp2_with fail
  refine Calls.mono (CU.out _ HR1.out) ?_
  rintro e w2 ⟨v2, rfl, ho2, hb2⟩
  obtain ⟨A2, c2, rfl, hl2, hr2⟩ := ho2.reads
  have HR2 := Lib.hid hr2
  have HB2 := Lib.hid (below_step HB1.out hb2)
  clear hb2 ho2 hr2
  go_wp2_with fail
  refine Calls.mono (trace_directed u A2 _ c2 _ HR2.out rfl hUV.out (by omega)) ?_
  rintro e w3 ⟨v3, rfl, ho3, hb3⟩
  obtain ⟨A3, c3, rfl, hl3, hr3⟩ := ho3.reads
  have HR3 := Lib.hid hr3
  have HB3 := Lib.hid (below_step HB2.out hb3)
  clear hb3 ho3 hr3
  go_wp2_with fail
  refine Calls.mono (trace_loops (dirZ u) A3 _ c3 _ HR3.out rfl hV.out (by omega)) ?_
  rintro e w4 ⟨v4, rfl, ho4, hb4⟩
  obtain ⟨A4, c4, rfl, hl4, hr4⟩ := ho4.reads
  have HR4 := Lib.hid hr4
  have HB4 := Lib.hid (below_step HB3.out hb4)
  clear hb4 ho4 hr4
  go_wp2_with fail
  refine Calls.mono (trace_divided (loopsZ (dirZ u)) A4 _ c4 _ HR4.out rfl (fun r h => (hLO.out.2 r h).1) (fun r h => Nat.le_trans (hLO.out.2 r h).2 (by omega)) (by omega)) ?_
  rintro e w5 ⟨v5, rfl, ho5, hb5⟩
  have HB5 := Lib.hid (below_step HB4.out hb5)
  have HO5 := Lib.hid (ho5.base (HB4.out.size))
  obtain ⟨A5, c5, rfl, hl5, hr5⟩ := ho5.reads
  clear hb5 ho5 hr5
  go_wp2_with fail
  refine Calls.mono (SortFunc_rings A5 _ c5 hDL HO5.out) ?_
  rintro e w6 ⟨rfl, ho6, hk6⟩
  have HB6 := Lib.hid (below_kept HB5.out hk6 (fun b e => (OwnR.lt HO5.out b e).1))
  have HO6 := Lib.hid ho6
  clear ho6 hk6
  go_wp2
  go_ret2
  have := HO6.out
  refine ⟨_, rfl, ?_, HB6.out⟩
  rw [HZ1.out]
  rwa [show (dividedZ (loopsZ (dirZ u))).length = (sortG lessR (dividedZ (loopsZ (dirZ u)))).length by rw [sortG_len]] at this ⊢
 ·have HZ1 : Hid (z = []) := HZ.out.trans (if_neg h0)
  have q0 : (r == 0) = false := by simp [h0]
  clear HZ
  go_enter Tryz.func13, Tryz.ntmps13
  go_wp2_with fail
  refine Calls.mono (CC.out _ HR.out) ?_
  rintro e w1 ⟨rfl, hb1⟩
  have HB1 := Lib.hid hb1
  clear hb1
  go_wp2
  go_ret2
  exact ⟨_, rfl, by rw [HZ1.out]; exact OwnR.nil _ _ _ _ _, HB1.out⟩
set_option maxHeartbeats 1000000 in
theorem trace_LeftInside {ok : Nat → Prop} (l : Sgs) (A : Option Addr) (n c : Nat) (s : Sg) (w : World) (hr : Row Ty.sg ok w A l) (hn : n = l.length) (hlen : l.length ≤ 600) :
  Calls Tryz.prog 16 #[.slice A n c, sgA s] w fun e w' => e = .returned (.bool (leftIn l s)) ∧ Below w.heap.size w w' := by
 subst hn
 have HR := Lib.hid hr
 clear hr
 have CC := Lib.hid (fun W h => trace_Check (ok := ok) l A l.length c W h rfl hlen)
 have CU := Lib.hid (fun W h => noding_Unique (ok := ok) l A l.length c W h rfl (by omega))
 have HE : Hid (leftIn l s = (decide (s ∈ uniqZ l) && (decide (checkZ l = 0) && leftZ (uniqZ l) s))) := rfl
 have hUV := Lib.hid (uniq_V l)
 generalize leftIn l s = z at *
 generalize checkZ l = r at *
 generalize uniqZ l = u at *
 obtain ⟨⟨s1, s2⟩, ⟨s3, s4⟩⟩ := s
 simp only [sgA]
 by_cases hm : ((s1, s2), (s3, s4)) ∈ u
 ·have HM := Lib.hid hm
  have HD := Lib.hid (decide_eq_true hm)
  have HV := Lib.hid (hUV.out _ hm)
  clear hm
  by_cases h0 : r = 0
  ·subst h0
   have HZ : Hid (z = leftZ u ((s1, s2), (s3, s4))) := HE.out.trans (by rw [HD.out]; simp)
   clear HE
   go_enter Tryz.func16, Tryz.ntmps16
   go_wp2_with fail
   refine Calls.mono (CU.out _ (HR.out.alloc _)) ?_
   rintro e w2 ⟨v2, rfl, ho2, hb2⟩
   obtain ⟨A2, c2, rfl, hl2, hr2⟩ := ho2.reads
   have HR2 := Lib.hid hr2
   clear ho2 hr2
   obtain ⟨cb2, fb2⟩ := bcell hb2
   have z2 := hb2.size
   simp at z2
   have y2 : w.heap.size < w2.heap.size := by omega
   have HB2 : Hid (Below w.heap.size w w2) := (by repeat (first | exact Below.refl _ _ | apply below_alloc | apply below_drewN | apply below_drew | (refine below_set2 ?_ ?_; (first | (simp; done) | (simp; omega))) | (refine below_step ?_ hb2)))
   have HL2 := Lib.hid ((HR.out.alloc _).below hb2)
   go_wp2_with fail
   refine Calls.mono (Contains_sg u A2 _ c2 ((s1, s2), (s3, s4)) _ HR2.out rfl) ?_
   rintro e w3 ⟨rfl, hb3⟩
   rw [HD.out]
   obtain ⟨cb3, fb3⟩ := bcell hb3
   have z3 := hb3.size
   have y3 : w.heap.size < w3.heap.size := by omega
   have HB3 := Lib.hid (below_step HB2.out hb3)
   have HR3 := Lib.hid (HR2.out.below hb3)
   have HL3 := Lib.hid (HL2.out.below hb3)
   clear hb2 hb3
   go_wp2_with fail
   refine Calls.mono (CC.out _ HL3.out) ?_
   rintro e w4 ⟨rfl, hb4⟩
   obtain ⟨cb4, fb4⟩ := bcell hb4
   have z4 := hb4.size
   have y4 : w.heap.size < w4.heap.size := by omega
   have HB4 := Lib.hid (below_step HB3.out hb4)
   have HR4 := Lib.hid (HR3.out.below hb4)
   clear hb4
   go_wp2_with fail
   refine Calls.mono (trace_left u A2 _ c2 ((s1, s2), (s3, s4)) _ HR4.out rfl hUV.out HV.out) ?_
   rintro e w5 ⟨rfl, hb5⟩
   have HB5 := Lib.hid (below_step HB4.out hb5)
   clear hb5
   go_wp2
   go_ret
   exact ⟨ret_bool HZ.out.symm, HB5.out⟩
  ·have HZ : Hid (z = false) := HE.out.trans (by simp [h0])
   have q0 : (r == 0) = false := by simp [h0]
   clear HE h0
   go_enter Tryz.func16, Tryz.ntmps16
   go_wp2_with fail
   refine Calls.mono (CU.out _ (HR.out.alloc _)) ?_
   rintro e w2 ⟨v2, rfl, ho2, hb2⟩
   obtain ⟨A2, c2, rfl, hl2, hr2⟩ := ho2.reads
   have HR2 := Lib.hid hr2
   clear ho2 hr2
   obtain ⟨cb2, fb2⟩ := bcell hb2
   have z2 := hb2.size
   simp at z2
   have y2 : w.heap.size < w2.heap.size := by omega
   have HB2 : Hid (Below w.heap.size w w2) := (by repeat (first | exact Below.refl _ _ | apply below_alloc | apply below_drewN | apply below_drew | (refine below_set2 ?_ ?_; (first | (simp; done) | (simp; omega))) | (refine below_step ?_ hb2)))
   have HL2 := Lib.hid ((HR.out.alloc _).below hb2)
   go_wp2_with fail
   refine Calls.mono (Contains_sg u A2 _ c2 ((s1, s2), (s3, s4)) _ HR2.out rfl) ?_
   rintro e w3 ⟨rfl, hb3⟩
   rw [HD.out]
   have HB3 := Lib.hid (below_step HB2.out hb3)
   have HL3 := Lib.hid (HL2.out.below hb3)
   clear hb2 hb3
   go_wp2_with fail
   refine Calls.mono (CC.out _ HL3.out) ?_
   rintro e w4 ⟨rfl, hb4⟩
   have HB4 := Lib.hid (below_step HB3.out hb4)
   clear hb4
   go_wp2
   go_ret
   exact ⟨ret_bool HZ.out.symm, HB4.out⟩
 ·have HZ : Hid (z = false) := HE.out.trans (by rw [decide_eq_false hm]; rfl)
  have HD := Lib.hid (decide_eq_false hm)
  clear HE hm
  go_enter Tryz.func16, Tryz.ntmps16
  go_wp2_with fail
  refine Calls.mono (CU.out _ (HR.out.alloc _)) ?_
  rintro e w2 ⟨v2, rfl, ho2, hb2⟩
  obtain ⟨A2, c2, rfl, hl2, hr2⟩ := ho2.reads
  have HR2 := Lib.hid hr2
  clear ho2 hr2
  obtain ⟨cb2, fb2⟩ := bcell hb2
  have z2 := hb2.size
  simp at z2
  have HB2 : Hid (Below w.heap.size w w2) := (by repeat (first | exact Below.refl _ _ | apply below_alloc | apply below_drewN | apply below_drew | (refine below_set2 ?_ ?_; (first | (simp; done) | (simp; omega))) | (refine below_step ?_ hb2)))
  go_wp2_with fail
  refine Calls.mono (Contains_sg u A2 _ c2 ((s1, s2), (s3, s4)) _ HR2.out rfl) ?_
  rintro e w3 ⟨rfl, hb3⟩
  rw [HD.out]
  have HB3 := Lib.hid (below_step HB2.out hb3)
  clear hb2 hb3
  go_wp2
  go_ret
  exact ⟨ret_bool HZ.out.symm, HB3.out⟩
end
section
open Go.RowKit Go.Proofs.YtlmjciajpjdilaaGreatW.PrintLast

set_option maxRecDepth 100000 in
theorem ref08_Same {ok ok' : Nat → Prop} (a b : Pts) (A B : Option Addr) (n m c d : Nat) (w : World) (ha : Row Ty.pt ok w A a) (hb : Row Ty.pt ok' w B b) (hn : n = a.length) (hm : m = b.length) :
  Calls Tryz.prog 53 #[.slice A n c, .slice B m d] w fun e w' => e = .returned (.bool (decide (a = b))) ∧ Below w.heap.size w w' := by
 subst hn hm
 have hl1 := ha.len
 have hl2 := hb.len
 by_cases hl : a.length = b.length
 ·have HL := Lib.hid hl
  have hlb : ((a.length : Int) != (b.length : Int)) = false := by simp [hl]
  have hlb2 : (a.length == b.length) = true := by simp [hl]
  clear hl
  go_enter Tryz.func53, Tryz.ntmps53
  go_wp2
  go_loopw [5] (fun i wr => ∃ k : Nat, k ≤ a.length ∧ i = .int .i64 k ∧ Below w.heap.size w wr ∧ Hid (a.take k = b.take k)) (fun i _ => a.length - (intOf i).toNat)
  case atStart => exact ⟨0, Nat.zero_le _, rfl, Below.refl _ _, by simp [Hid]⟩
  case round =>
   obtain ⟨k, hk, rfl, hbl, hall⟩ := hrel
   by_cases hlt : k < a.length
   ·have hlt2 : k < b.length := by have := HL.out; omega
    obtain ⟨ad, rfl, hc1, hc2⟩ := (ha.below hbl).pt_at k hlt
    obtain ⟨bd, rfl, hd1, hd2⟩ := (hb.below hbl).pt_at k hlt2
    obtain ⟨ax, ay, hab⟩ : ∃ ax ay, ptD a k = (ax, ay) := ⟨_, _, rfl⟩
    obtain ⟨bx, by_, hbb⟩ : ∃ bx by_, ptD b k = (bx, by_) := ⟨_, _, rfl⟩
    rw [hab] at hc1 hc2
    rw [hbb] at hd1 hd2
    simp only at hc1 hc2 hd1 hd2
    have HA := Lib.hid hab
    have HB := Lib.hid hbb
    clear hab hbb
    by_cases h1 : ax = bx
    ·by_cases h2 : ay = by_
     ·subst h1 h2
      go_wp2_with fail
      go_quiet (fail)
      go_wp2
      go_roundw
      case rel => exact ⟨k + 1, by omega, by go_num, (by repeat (first | exact Below.refl _ _ | apply below_alloc | apply below_drewN | apply below_drew | (refine below_set2 ?_ ?_; (first | (simp; done) | (simp; omega))) | (refine below_step ?_ hbl))), take_eq_step (0, 0) hall.out hlt hlt2 (HA.out.trans HB.out.symm)⟩
      case measure => simp [intOf]; omega
     ·subst h1
      go_wp2_with fail
      go_quiet (fail)
      go_wp2
      go_ret
      exact ⟨ret_bool (by rw [eq_comm, decide_eq_false_iff_not]; exact take_ne (0, 0) (fun h => h2 (by have := HA.out.symm.trans (h.trans HB.out); exact (Prod.mk.inj this).2))), (by repeat (first | exact Below.refl _ _ | apply below_alloc | apply below_drewN | apply below_drew | (refine below_set2 ?_ ?_; (first | (simp; done) | (simp; omega))) | (refine below_step ?_ hbl)))⟩
    ·go_wp2_with fail
     go_quiet (fail)
     go_wp2
     go_ret
     exact ⟨ret_bool (by rw [eq_comm, decide_eq_false_iff_not]; exact take_ne (0, 0) (fun h => h1 (by have := HA.out.symm.trans (h.trans HB.out); exact (Prod.mk.inj this).1))), (by repeat (first | exact Below.refl _ _ | apply below_alloc | apply below_drewN | apply below_drew | (refine below_set2 ?_ ?_; (first | (simp; done) | (simp; omega))) | (refine below_step ?_ hbl)))⟩
   ·go_wp2
    go_ret
    refine ⟨ret_bool ?_, hbl⟩
    have := hall.out
    rw [List.take_of_length_le (by omega), List.take_of_length_le (by have := HL.out; omega)] at this
    simp [this]
 ·have HL := Lib.hid hl
  have hlb : ((a.length : Int) != (b.length : Int)) = true := by simp; omega
  have hlb2 : (a.length == b.length) = false := by simpa using hl
  clear hl
  go_enter Tryz.func53, Tryz.ntmps53
  go_wp2
  go_ret
  exact ⟨ret_bool (by rw [eq_comm, decide_eq_false_iff_not]; exact fun h => HL.out (by rw [h])), Below.refl _ _⟩

set_option maxRecDepth 100000 in
theorem ref21_Same {ok ok' : Nat → Prop} (a b : Rgs) (A B : Option Addr) (n m c d : Nat) (w : World) (ha : Row Ty.ring ok w A a) (hb : Row Ty.ring ok' w B b) (hn : n = a.length) (hm : m = b.length) :
  Calls Tryz.prog 15 #[.slice A n c, .slice B m d] w fun e w' => e = .returned (.bool (decide (a = b))) ∧ Below w.heap.size w w' := by
 subst hn hm
 have hl1 := ha.len
 have hl2 := hb.len
 by_cases hl : a.length = b.length
 ·have HL := Lib.hid hl
  have hlb : ((a.length : Int) != (b.length : Int)) = false := by simp [hl]
  have hlb2 : (a.length == b.length) = true := by simp [hl]
  clear hl
  go_enter Tryz.func15, Tryz.ntmps15
  go_wp2
  go_loopw [5] (fun i wr => ∃ k : Nat, k ≤ a.length ∧ i = .int .i64 k ∧ Below w.heap.size w wr ∧ Hid (a.take k = b.take k)) (fun i _ => a.length - (intOf i).toNat)
  case atStart => exact ⟨0, Nat.zero_le _, rfl, Below.refl _ _, by simp [Hid]⟩
  case round =>
   obtain ⟨k, hk, rfl, hbl, hall⟩ := hrel
   by_cases hlt : k < a.length
   ·have hlt2 : k < b.length := by have := HL.out; omega
    obtain ⟨ad, A0, c0, rfl, hc1, hc2, hr1⟩ := (ha.below hbl).ring_at k hlt
    obtain ⟨bd, B0, d0, rfl, hd1, hd2, hr2⟩ := (hb.below hbl).ring_at k hlt2
    have R1 := Lib.hid hr1
    have R2 := Lib.hid hr2
    clear hr1 hr2
    by_cases he : rgD a k = rgD b k
    ·have HE := Lib.hid he
     clear he
     go_wp2_with fail
     go_still_tail 8, (by kernel_rfl)
     change wpList _ _ _ _ _ wr.drew
     go_wp2_with fail
     (refine (ref08_Same (rgD a k) (rgD b k) _ _ _ _ _ _ _ (R1.out.below (below_drew (Below.refl _ _))) (R2.out.below (below_drew (Below.refl _ _))) rfl rfl).mono ?_; rintro e w1 ⟨rfl, hb1⟩)
     have HE2 : decide (rgD a k = rgD b k) = true := decide_eq_true HE.out
     go_wp2
     go_roundw
     case rel => exact ⟨k + 1, by omega, by go_num, (by repeat (first | exact Below.refl _ _ | apply below_alloc | apply below_drewN | apply below_drew | (refine below_set2 ?_ ?_; (first | (simp; done) | (simp; omega))) | (refine below_step ?_ hb1) | (refine below_step ?_ hbl))), take_eq_step [] hall.out hlt hlt2 HE.out⟩
     case measure => simp [intOf]; omega
    ·have HE := Lib.hid he
     clear he
     go_wp2_with fail
     go_still_tail 8, (by kernel_rfl)
     change wpList _ _ _ _ _ wr.drew
     go_wp2_with fail
     (refine (ref08_Same (rgD a k) (rgD b k) _ _ _ _ _ _ _ (R1.out.below (below_drew (Below.refl _ _))) (R2.out.below (below_drew (Below.refl _ _))) rfl rfl).mono ?_; rintro e w1 ⟨rfl, hb1⟩)
     have HE2 : decide (rgD a k = rgD b k) = false := decide_eq_false HE.out
     go_wp2
     go_ret
     exact ⟨ret_bool (by rw [eq_comm, decide_eq_false_iff_not]; exact take_ne [] HE.out), (by repeat (first | exact Below.refl _ _ | apply below_alloc | apply below_drewN | apply below_drew | (refine below_set2 ?_ ?_; (first | (simp; done) | (simp; omega))) | (refine below_step ?_ hb1) | (refine below_step ?_ hbl)))⟩
   ·go_wp2
    go_ret
    refine ⟨ret_bool ?_, hbl⟩
    have := hall.out
    rw [List.take_of_length_le (by omega), List.take_of_length_le (by have := HL.out; omega)] at this
    simp [this]
 ·have HL := Lib.hid hl
  have hlb : ((a.length : Int) != (b.length : Int)) = true := by simp; omega
  have hlb2 : (a.length == b.length) = false := by simpa using hl
  clear hl
  go_enter Tryz.func15, Tryz.ntmps15
  go_wp2
  go_ret
  exact ⟨ret_bool (by rw [eq_comm, decide_eq_false_iff_not]; exact fun h => HL.out (by rw [h])), Below.refl _ _⟩

theorem own_lit {w : World} {g base : Nat} {cs : Array Value} {xs : Sgs} {t : TypeId} (hg : g = w.heap.size) (hcs : cs = (xs.flatMap fun x => [Value.int .i64 x.1.1, .int .i64 x.1.2, .int .i64 x.2.1, .int .i64 x.2.2]).toArray) (hl : xs.length ≤ 1000000) (hb : base ≤ w.heap.size) :
  Own1 Ty.sg t base (w.alloc (.cells cs t)) (.slice (some ⟨g, 0, none⟩) xs.length xs.length) xs := by
 subst hg hcs
 have hl4 : (xs.flatMap fun x => [Value.int .i64 x.1.1, .int .i64 x.1.2, .int .i64 x.2.1, .int .i64 x.2.2]).length = xs.length * 4 := flat_len (k := 4) (enc := fun x : Sg => [.int .i64 x.1.1, .int .i64 x.1.2, .int .i64 x.2.1, .int .i64 x.2.2]) (fun _ => rfl) xs
 refine ⟨fun k hk => hk, _, ⟨hl4, .inr ⟨_, _, _, rfl, hb, heap_alloc_new _ _, Nat.le_refl _, by unfold maxLen; omega, hl4, ?_⟩⟩, reps_flat (k := 4) (enc := fun x : Sg => [.int .i64 x.1.1, .int .i64 x.1.2, .int .i64 x.2.1, .int .i64 x.2.2]) (fun _ => rfl) _ _ xs⟩
 rw [List.take_of_length_le]
 simp only [hl4]
 exact Nat.le_refl _
set_option maxHeartbeats 1000000 in
theorem law21_square (x y d : Int) (w : World) (hx : 0 ≤ x) (hx2 : x ≤ 1000) (hy : 0 ≤ y) (hy2 : y ≤ 1000) (hs : 0 ≤ d) (hs2 : d ≤ 1000) :
  Calls Tryz.prog 33 #[.int .i64 x, .int .i64 y, .int .i64 d] w fun e w' => ∃ g, e = .returned (.slice (some ⟨g, 0, none⟩) 4 4) ∧ Own1 Ty.sg 32 w.heap.size w' (.slice (some ⟨g, 0, none⟩) 4 4) (sqS x y d) ∧ Below w.heap.size w w' := by
 have hw : IntKind.i64.wrap (x + d) = x + d := IntWalk.i64_in _ (by omega)
 have hw2 : IntKind.i64.wrap (y + d) = y + d := IntWalk.i64_in _ (by omega)
 go_enter Tryz.func33, Tryz.ntmps33
 go_wp2
 go_ret
 exact ⟨_, rfl, own_lit (xs := sqS x y d) (by simp) (by simp [sqS]) (by simp [sqS]) (by simp; omega), bq⟩
end
section
open Go.RowKit Go.Proofs.YtlmjciajpjdilaaGreatW.PrintLast

theorem Row.rings_lit (w : World) {ok : Nat → Prop} {xs : Rgs} {cs : List Value} (t : TypeId) (hg : ok w.heap.size) (hl : xs.length ≤ 9223372036854775807) (h : Reps Ty.ring ok w xs cs) : Row Ty.ring ok (w.alloc (.cells cs.toArray t)) (some ⟨w.heap.size, 0, none⟩) xs := by
 refine Row.of_reps hl hg (h.imp (fun x c hc => Ty.ring.below hc (below_alloc (Below.refl _ _) _))) (fun j u hu => ?_)
 simp only [World.cell?, heap_alloc_new]
 simpa using hu
set_option maxRecDepth 100000 in
set_option maxHeartbeats 4000000 in
theorem law21_lives (w : World) : Calls Tryz.prog 8 #[] w fun e w' => e = .returned (.bool true) ∧ Below w.heap.size w w' := by
 go_enter Tryz.func8, Tryz.ntmps8
 go_wp2_with fail
 refine (law21_square 0 0 9 _ (by decide) (by decide) (by decide) (by decide) (by decide) (by decide)).mono ?_
 rintro e w1 ⟨g1, rfl, ho1, hb1⟩
 have hg1 := ho1.lt g1 rfl
 go_wp2_with fail
 refine (law21_square 3 3 2 _ (by decide) (by decide) (by decide) (by decide) (by decide) (by decide)).mono ?_
 rintro e w2 ⟨g2, rfl, ho2, hb2⟩
 have hg2 := ho2.lt g2 rfl
 have HO1 := Lib.hid (ho1.below hb2)
 have HR2 : Hid (Row Ty.sg (fun k => ¬ (Value.slice (some ⟨g1, 0, none⟩) 4 4).ownBlock = some k) w2 (some ⟨g2, 0, none⟩) (sqS 3 3 2)) := by
  obtain ⟨A, c, e, _, hr⟩ := Own1.row_ok sg_flat ho2 (fun k => ¬ (Value.slice (some ⟨g1, 0, none⟩) 4 4).ownBlock = some k) (fun b e h => by simp [Value.ownBlock] at e h; omega)
  injection e with e1 e2 e3
  subst e1; exact hr
 have HB2 : Hid (Below w.heap.size w w2) := (by repeat (first | exact Below.refl _ _ | apply below_alloc | apply below_drewN | apply below_drew | (refine below_set2 ?_ ?_; (first | (simp; done) | (simp; omega))) | (refine below_step ?_ hb2) | (refine below_step ?_ hb1)))
 clear ho1 ho2 hb1 hb2
 go_wp2_with (at_builtin; refine app_row Ty.sg (W := w2) w.heap.size rfl _ _ 22 32 _ 32 rfl Tryz.underlying22 infoSg rfl (by decide) (.slice (some ⟨g1, 0, none⟩) 4 4) (sqS 0 0 9) (sqS 3 3 2) (some ⟨g2, 0, none⟩) 4 4 _ rfl rfl rfl HR2.out HO1.out HB2.out.size (by decide) ?_; intro v1 w3 HO3 hgr hat)
 have HB3 : Hid (Below w.heap.size w w3) := below_own HB2.out hgr (fun k e => by simp [Value.ownBlock] at e; omega)
 obtain ⟨A3, c3, rfl, hl3, hr3, _⟩ := HO3.reads
 have HR3 : Hid (Row Ty.sg (fun _ => True) w3 A3 exS) := Row.mono hr3 (fun _ _ => trivial)
 obtain ⟨ad, rfl, k0, k1, k2, k3⟩ := HR3.out.sg_at 0 (by decide)
 clear HO1 HR2 HO3 hr3 hgr hat
 simp only [show (sqS 0 0 9 ++ sqS 3 3 2).length = 8 from rfl]
 have HC : Calls Tryz.prog 13 #[.slice (some ad) 8 c3] w3 fun e w' => ∃ v, e = .returned (.tuple #[v, .int .i64 0]) ∧ Own1 Ty.ring 41 w3.heap.size w' v [[(0, 0), (9, 0), (9, 9), (0, 9)], [(3, 3), (3, 5), (5, 5), (5, 3)]] ∧ Below w3.heap.size w3 w' := by
  have := trace_Rings exS (some ad) 8 c3 w3 HR3.out rfl (by decide)
  rw [ex_check, ex_rings] at this
  exact this
 have HCH := Lib.hid HC
 clear HC
 go_wp2_with fail
 refine Calls.mono HCH.out ?_
 rintro e w4 ⟨v4, rfl, ho4, hb4⟩
 obtain ⟨A4, c4, rfl, hl4, hr4⟩ := ho4.reads
 have HRR := Lib.hid hr4
 have HB4 := Lib.hid hb4
 clear ho4 hr4 HCH hb4
 have HB5 := Lib.hid (below_step HB3.out HB4.out)
 have HS4 := Lib.hid (HR3.out.below HB4.out)
 simp only [show [[((0 : Int), (0 : Int)), (9, 0), (9, 9), (0, 9)], [(3, 3), (3, 5), (5, 5), (5, 3)]].length = 2 from rfl]
 have HW : Hid (Row Ty.ring (fun _ => True) (((w4.alloc (.cells #[.int .i64 0, .int .i64 0, .int .i64 9, .int .i64 0, .int .i64 9, .int .i64 9, .int .i64 0, .int .i64 9] 24)).alloc (.cells #[.int .i64 3, .int .i64 3, .int .i64 3, .int .i64 5, .int .i64 5, .int .i64 5, .int .i64 5, .int .i64 3] 24)).alloc
   (.cells #[.slice (some ⟨w4.heap.size, 0, none⟩) 4 4, .slice (some ⟨w4.heap.size + 1, 0, none⟩) 4 4] 41)) (some ⟨w4.heap.size + 1 + 1, 0, none⟩) [[(0, 0), (9, 0), (9, 9), (0, 9)], [(3, 3), (3, 5), (5, 5), (5, 3)]]) := by
  have h1 := Row.pt_lit w4 [(0, 0), (9, 0), (9, 9), (0, 9)] 24 (fun _ => True) trivial (by decide)
  have h2 := Row.pt_lit (w4.alloc (.cells #[.int .i64 0, .int .i64 0, .int .i64 9, .int .i64 0, .int .i64 9, .int .i64 9, .int .i64 0, .int .i64 9] 24)) [(3, 3), (3, 5), (5, 5), (5, 3)] 24 (fun _ => True) trivial (by decide)
  have h3 := Row.rings_lit ((w4.alloc (.cells #[.int .i64 0, .int .i64 0, .int .i64 9, .int .i64 0, .int .i64 9, .int .i64 9, .int .i64 0, .int .i64 9] 24)).alloc (.cells #[.int .i64 3, .int .i64 3, .int .i64 3, .int .i64 5, .int .i64 5, .int .i64 5, .int .i64 5, .int .i64 3] 24))
   (ok := fun _ => True) (xs := [[(0, 0), (9, 0), (9, 9), (0, 9)], [(3, 3), (3, 5), (5, 5), (5, 3)]]) (cs := [.slice (some ⟨w4.heap.size, 0, none⟩) 4 4, .slice (some ⟨w4.heap.size + 1, 0, none⟩) 4 4]) 41 trivial (by decide)
   ⟨[_], _, rfl, ⟨_, _, rfl, Nat.le_refl _, h1.below (below_alloc (Below.refl _ _) _)⟩, [_], _, rfl, ⟨_, _, rfl, Nat.le_refl _, (by simpa using h2)⟩, rfl⟩
  exact Lib.hid (by simpa using h3)
 go_wp2_with fail
 refine (ref21_Same _ _ _ _ _ _ _ _ _ (((HRR.out.alloc _).alloc _).alloc _) HW.out rfl rfl).mono ?_
 rintro e w5 ⟨rfl, hb5⟩
 have HB6 : Hid (Below w4.heap.size w4 w5) := (by repeat (first | exact Below.refl _ _ | apply below_alloc | apply below_drewN | apply below_drew | (refine below_set2 ?_ ?_; (first | (simp; done) | (simp; omega))) | (refine below_step ?_ hb5)))
 have HS5 := Lib.hid (HS4.out.below HB6.out)
 obtain ⟨cb5, fb5⟩ := bcell HB6.out
 have z5 := HB6.out.size
 clear hb5 HW
 simp only [decide_true]
 have HCN := Lib.hid (fun W => trace_Check (ok := fun _ => True) [] none 0 0 W (Row.nil _ _ _ _) rfl (by decide))
 rw [nil_check] at HCN
 go_wp2_with fail
 refine (HCN.out _).mono ?_
 rintro e w6 ⟨rfl, hb6⟩
 have HS6 := Lib.hid (HS5.out.below hb6)
 have HB7 := Lib.hid (below_step HB6.out hb6)
 obtain ⟨cb6, fb6⟩ := bcell hb6
 have z6 := hb6.size
 clear hb6 HCN
 go_wp2_with fail
 refine (trace_Where exS _ _ _ (1, 1) _ HS6.out rfl (by decide)).mono ?_
 rintro e w7 ⟨rfl, hb7⟩
 rw [ex_in]
 have HS7 := Lib.hid (HS6.out.below hb7)
 have HB8 := Lib.hid (below_step HB7.out hb7)
 clear hb7
 go_wp2_with fail
 refine (trace_Where exS _ _ _ (4, 4) _ HS7.out rfl (by decide)).mono ?_
 rintro e w8 ⟨rfl, hb8⟩
 rw [ex_out]
 have HS8 := Lib.hid (HS7.out.below hb8)
 have HB9 := Lib.hid (below_step HB8.out hb8)
 clear hb8
 obtain ⟨ad', e', m0, m1, m2, m3⟩ := HS8.out.sg_at 0 (by decide)
 cases e'
 simp only [show sgD exS 0 = ((0, 0), (9, 0)) from rfl] at m0 m1 m2 m3
 have n0 : w8.cell? ad = some (.int .i64 0) := m0
 have n1 : w8.cell? ⟨ad.block, ad.off + 1, none⟩ = some (.int .i64 0) := m1
 have n2 : w8.cell? ⟨ad.block, ad.off + 2, none⟩ = some (.int .i64 9) := m2
 have n3 : w8.cell? ⟨ad.block, ad.off + 3, none⟩ = some (.int .i64 0) := m3
 clear k0 k1 k2 k3 m0 m1 m2 m3
 go_wp2_with fail
 refine (trace_LeftInside exS _ _ _ ((0, 0), (9, 0)) _ HS8.out rfl (by decide)).mono ?_
 rintro e w9 ⟨rfl, hb9⟩
 rw [ex_left]
 have HB10 := Lib.hid (below_step HB9.out hb9)
 clear hb9
 go_wp2
 go_ret
 exact ⟨rfl, below_step HB5.out HB10.out⟩
end
section
open Go.RowKit Go.Proofs.YtlmjciajpjdilaaGreatW.PrintLast

theorem ofB_symm (a b : Pt) : ofB a b = ofB b a := by
 unfold ofB
 cases h1 : lessB a b <;> cases h2 : lessB b a
 ·rw [totB.antisymm h1 h2]
 ·rfl
 ·rfl
 ·exact absurd (totB.asymm h1) (by simp [h2])
def revS (s : Sg) : Sg := (s.2, s.1)
theorem ofS_rev (s : Sg) : ofS (revS s) = ofS s := ofB_symm _ _
theorem good_rev (s : Sg) : goodB (revS s) = goodB s := by
 unfold goodB revS
 rw [Bool.and_comm (validB s.2)]
 congr 1
 exact decide_eq_decide.2 ⟨fun h e => h e.symm, fun h e => h e.symm⟩
theorem mem_uniq {l : Sgs} {x : Sg} : x ∈ uniqZ l ↔ ∃ s ∈ l, goodB s = true ∧ ofS s = x := by
 unfold uniqZ sortZ canonZ
 rw [mem_compact, mem_sortG, List.mem_map]
 constructor
 ·rintro ⟨s, hs, rfl⟩
  exact ⟨s, (List.mem_filter.1 hs).1, (List.mem_filter.1 hs).2, rfl⟩
 ·rintro ⟨s, hs, hg, rfl⟩
  exact ⟨s, List.mem_filter.2 ⟨hs, hg⟩, rfl⟩
theorem uniq_inc (l : Sgs) : Inc lessS (uniqZ l) := compact_inc totS (sortG_srt totS _)
theorem uniq_congr {l m : Sgs} (h1 : ∀ s ∈ l, s ∈ m ∨ revS s ∈ m) (h2 : ∀ s ∈ m, s ∈ l ∨ revS s ∈ l) : uniqZ l = uniqZ m := by
 have key : ∀ {l m : Sgs}, (∀ s ∈ l, s ∈ m ∨ revS s ∈ m) → ∀ x ∈ uniqZ l, x ∈ uniqZ m := by
  intro l m h x hx
  obtain ⟨s, hs, hg, rfl⟩ := mem_uniq.1 hx
  rcases h s hs with h | h
  ·exact mem_uniq.2 ⟨s, h, hg, rfl⟩
  ·exact mem_uniq.2 ⟨revS s, h, (good_rev s).trans hg, ofS_rev s⟩
 exact inc_unique totS (fun x => ⟨key h1 x, key h2 x⟩) (uniq_inc l) (uniq_inc m)
def rotS (l : Sgs) (k i : Nat) : Sg := if i % 2 = 0 then revS (sgD l ((i + k) % l.length)) else sgD l ((i + k) % l.length)
def mixZ (l : Sgs) (k : Nat) : Sgs := (List.range l.length).map (rotS l k) ++ [sgD l k]
theorem sgD_mem {l : Sgs} {k : Nat} (h : k < l.length) : sgD l k ∈ l := by rw [sgD_eq h]; exact List.getElem_mem h
theorem revS_rev (s : Sg) : revS (revS s) = s := rfl
theorem uniq_mix {l : Sgs} {k : Nat} (hk : k < l.length) : uniqZ (mixZ l k) = uniqZ l := by
 refine uniq_congr ?_ ?_
 ·intro s hs
  rcases List.mem_append.1 hs with hs | hs
  ·obtain ⟨i, hi, rfl⟩ := List.mem_map.1 hs
   have hm := sgD_mem (l := l) (k := (i + k) % l.length) (Nat.mod_lt _ (by omega))
   unfold rotS
   split
   ·right; exact hm
   ·left; exact hm
  ·left
   rw [List.mem_singleton.1 hs]
   exact sgD_mem hk
 ·intro s hs
  obtain ⟨j, hj, rfl⟩ := List.getElem_of_mem hs
  have h1 : ((j + (l.length - k)) % l.length + k) % l.length = j := by
   rw [Nat.mod_add_mod, show j + (l.length - k) + k = j + l.length by omega, Nat.add_mod_right, Nat.mod_eq_of_lt hj]
  have h2 : rotS l k ((j + (l.length - k)) % l.length) ∈ mixZ l k := List.mem_append_left _ (List.mem_map.2 ⟨_, List.mem_range.2 (Nat.mod_lt _ (by omega)), rfl⟩)
  unfold rotS at h2
  rw [h1, sgD_eq hj] at h2
  split at h2
  ·right; exact h2
  ·left; exact h2
theorem mix_check {l : Sgs} {k : Nat} (hk : k < l.length) : checkZ (mixZ l k) = checkZ l := by unfold checkZ; rw [uniq_mix hk]
theorem mix_rings {l : Sgs} {k : Nat} (hk : k < l.length) : ringsZ (mixZ l k) = ringsZ l := by unfold ringsZ; rw [mix_check hk, uniq_mix hk]
theorem mix_len (l : Sgs) (k : Nat) : (mixZ l k).length = l.length + 1 := by simp [mixZ]
def mixTo (l : Sgs) (k i : Nat) : Sgs := (List.range i).map (rotS l k)
theorem mixTo_snoc (l : Sgs) (k i : Nat) : mixTo l k (i + 1) = mixTo l k i ++ [rotS l k i] := by unfold mixTo; rw [List.range_succ, List.map_append]; rfl
theorem mixTo_len (l : Sgs) (k i : Nat) : (mixTo l k i).length = i := by simp [mixTo]
end
section
open Go.RowKit Go.Proofs.YtlmjciajpjdilaaGreatW.PrintLast

theorem uniq_ne {l : Sgs} {s : Sg} (h : s ∈ uniqZ l) : ¬ s.1 = s.2 := by
 obtain ⟨t, ht, hg, rfl⟩ := mem_uniq.1 h
 unfold goodB at hg
 have h1 : t.1 ≠ t.2 := by have := (Bool.and_eq_true _ _).mp hg; exact of_decide_eq_true this.1
 unfold ofS ofB
 split
 ·exact fun e => h1 e.symm
 ·exact h1
def badR (s t : Sg) : Bool := decide (2 ≤ relR s t)
def crossR (u : Sgs) : List (Sg × Sg) := (List.range u.length).flatMap fun i => ((u.drop (i + 1)).filter (badR (sgD u i))).map fun t => (sgD u i, t)
def crTo (u : Sgs) (i : Nat) : List (Sg × Sg) := (List.range i).flatMap fun i => ((u.drop (i + 1)).filter (badR (sgD u i))).map fun t => (sgD u i, t)
def crIn (u : Sgs) (i j : Nat) : List (Sg × Sg) := crTo u i ++ (((u.drop (i + 1)).take j).filter (badR (sgD u i))).map fun t => (sgD u i, t)
theorem crTo_succ (u : Sgs) (i : Nat) : crTo u (i + 1) = crIn u i (u.drop (i + 1)).length := by
 unfold crTo crIn
 rw [List.range_succ, List.flatMap_append, List.take_length]
 simp [crTo]
theorem crIn_zero (u : Sgs) (i : Nat) : crIn u i 0 = crTo u i := by simp [crIn]
theorem crIn_succ (u : Sgs) (i j : Nat) (h : i + 1 + j < u.length) : crIn u i (j + 1) = crIn u i j ++ (if badR (sgD u i) (sgD u (i + 1 + j)) = true then [(sgD u i, sgD u (i + 1 + j))] else []) := by
 unfold crIn
 rw [take_snoc (u.drop (i + 1)) j ((0, 0), (0, 0)) (by rw [List.length_drop]; omega), List.filter_append, List.map_append, List.append_assoc]
 have e : (u.drop (i + 1)).getD j ((0, 0), (0, 0)) = sgD u (i + 1 + j) := by simp [sgD, List.getD_eq_getElem?_getD]
 rw [e]
 congr 2
 by_cases hb : badR (sgD u i) (sgD u (i + 1 + j)) = true
 ·rw [if_pos hb, List.filter_cons_of_pos hb]; rfl
 ·rw [if_neg hb, List.filter_cons_of_neg hb]; rfl
theorem crIn_len (u : Sgs) (i : Nat) : ∀ j, (crIn u i j).length ≤ (crTo u i).length + j
 | 0 => by rw [crIn_zero]; omega
 | j + 1 => by
  unfold crIn
  rw [List.length_append, List.length_map]
  have h1 := List.length_filter_le (badR (sgD u i)) ((u.drop (i + 1)).take (j + 1))
  rw [List.length_take] at h1
  omega
theorem crTo_len (u : Sgs) : ∀ i, (crTo u i).length ≤ i * u.length
 | 0 => by simp [crTo]
 | i + 1 => by
  have ih := crTo_len u i
  rw [crTo_succ, Nat.add_mul, Nat.one_mul]
  have := crIn_len u i (u.drop (i + 1)).length
  rw [List.length_drop] at this ⊢
  omega
set_option maxRecDepth 100000 in
set_option maxHeartbeats 4000000 in
theorem ref20_Crossings {ok : Nat → Prop} (l : Sgs) (A : Option Addr) (n c : Nat) (w : World) (hr : Row Ty.sg ok w A l) (hn : n = l.length) (hlen : l.length ≤ 600) :
  Calls Tryz.prog 80 #[.slice A n c] w fun e w' => ∃ B d, e = .returned (.slice B (crossR (uniqZ l)).length d) ∧ Below w.heap.size w w' := by
 subst hn
 have HR := Lib.hid hr
 clear hr
 have hul := uniq_len l
 have CU := Lib.hid (fun W h => ref20_Unique (ok := ok) l A l.length c W h rfl (by omega))
 have HUV := Lib.hid (uniq_V l)
 have HNE := Lib.hid (fun s h => uniq_ne (l := l) (s := s) h)
 have HZ : Hid (crossR (uniqZ l) = crTo (uniqZ l) (uniqZ l).length) := rfl
 obtain ⟨z, hz⟩ : ∃ z, z = (crossR (uniqZ l)).length := ⟨_, rfl⟩
 rw [← hz]
 have HZ2 : Hid (z = (crTo (uniqZ l) (uniqZ l).length).length) := by rw [← HZ.out]; exact hz
 clear hz HZ
 generalize uniqZ l = u at *
 go_enter Tryz.func80, Tryz.ntmps80
 go_wp2_with fail
 refine Calls.mono (CU.out _ HR.out) ?_
 rintro e w1 ⟨v, rfl, ho, hb1⟩
 obtain ⟨A1, c1, rfl, hl1, hr1⟩ := ho.reads
 have HU := Lib.hid hr1
 have HB1 := Lib.hid hb1
 clear ho hr1 hb1 CU
 go_wp2
 go_loopw [4, 5] (fun v i wr => ∃ k : Nat, k ≤ u.length ∧ i = .int .i64 k ∧ Hid (Below w1.heap.size w1 wr) ∧ Hid (Own1 Ty.sg2 97 w1.heap.size wr v (crTo u k))) (fun _ i _ => u.length - (intOf i).toNat)
 case atStart => exact ⟨0, Nat.zero_le _, rfl, Below.refl _ _, OwnR.nil _ _ _ _ _⟩
 case round =>
  obtain ⟨k, hk, rfl, HB, HO⟩ := hrel
  by_cases hlt : k < u.length
  ·have hcl := cross_le (a := k) (n := (crTo u k).length) (m := u.length) (by omega) (crTo_len u k) (by omega)
   have HS1 := Lib.hid (crTo_succ u k)
   have hdl : (u.drop (k + 1)).length = u.length - (k + 1) := List.length_drop ..
   rw [hdl] at HS1
   have HO0 : Hid (Own1 Ty.sg2 97 w1.heap.size wr u4 (crIn u k 0)) := by rw [crIn_zero]; exact HO.out
   clear hdl HO
   go_wp2
   go_loopw [4, 6] (fun v i wi => ∃ j : Nat, k + 1 + j ≤ u.length ∧ i = .int .i64 ((k + 1 + j : Nat) : Int) ∧ Hid (Below w1.heap.size w1 wi) ∧ Hid (Own1 Ty.sg2 97 w1.heap.size wi v (crIn u k j))) (fun _ i _ => u.length - (intOf i).toNat)
   case atStart => exact ⟨0, by omega, by go_num, HB.out, HO0.out⟩
   case round =>
    obtain ⟨j, hj, rfl, HBi, HOi⟩ := hrel
    clear HO0
    have hil := crIn_len u k j
    have hj6 : j ≤ 600 := by omega
    have HUr := Lib.hid (HU.out.below HBi.out)
    have hzi := HBi.out.size
    by_cases hjt : k + 1 + j < u.length
    ·obtain ⟨ad, rfl, hx0, hx1, hx2, hx3⟩ := HUr.out.sg_at k hlt
     obtain ⟨ad2, e2, hy0, hy1, hy2, hy3⟩ := HUr.out.sg_at (k + 1 + j) hjt
     cases e2
     have HS2 := Lib.hid (crIn_succ u k j hjt)
     have m1 : sgD u k ∈ u := by rw [sgD_eq hlt]; exact List.getElem_mem hlt
     have m2 : sgD u (k + 1 + j) ∈ u := by rw [sgD_eq hjt]; exact List.getElem_mem hjt
     have v1 := HUV.out _ m1
     have v2 := HUV.out _ m2
     have n1 := HNE.out _ m1
     have n2 := HNE.out _ m2
     clear m1 m2
     generalize sgD u k = x at *
     generalize hm : k + 1 + j = m at *
     generalize sgD u m = y at *
     have CR := Lib.hid (fun W => ref09_Relate x.1.1 x.1.2 x.2.1 x.2.2 y.1.1 y.1.2 y.2.1 y.2.2 W (by rw [Bool.and_eq_true] at v1 v2; rw [Bool.and_eq_true, Bool.and_eq_true]; exact ⟨⟨v1.1, v1.2⟩, v2.1⟩) (by rw [Bool.and_eq_true] at v2; exact v2.2) n1 n2)
     have HBR : Hid (badR x y = decide (2 ≤ relR ((x.1.1, x.1.2), (x.2.1, x.2.2)) ((y.1.1, y.1.2), (y.2.1, y.2.2)))) := rfl
     have HM := Lib.hid hm
     clear v1 v2 n1 n2 hm
     generalize relR ((x.1.1, x.1.2), (x.2.1, x.2.2)) ((y.1.1, y.1.2), (y.2.1, y.2.2)) = rv at *
     by_cases hq : 2 ≤ rv
     ·have t1 : decide (2 ≤ rv) = true := decide_eq_true hq
      have HS3 : Hid (crIn u k (j + 1) = crIn u k j ++ [(x, y)]) := HS2.out.trans (by rw [HBR.out, t1]; rfl)
      clear HS2 HBR hq
      go_wp2_with fail
      go_still_tail 8, (by kernel_rfl)
      change wpList _ _ _ _ _ wr.drew
      go_wp2_with fail
      (refine (CR.out _).mono ?_; rintro e w5 ⟨rfl, hb5⟩)
      have BR : Below wr.heap.size wr w5 := (by repeat (first | exact Below.refl _ _ | apply below_alloc | apply below_drewN | apply below_drew | (refine below_set2 ?_ ?_; (first | (simp; done) | (simp; omega))) | (refine below_step ?_ hb5)))
      have p0 := cell_below BR hx0
      have p1 := cell_below BR hx1
      have p2 := cell_below BR hx2
      have p3 := cell_below BR hx3
      have q0 := cell_below BR hy0
      have q1 := cell_below BR hy1
      have q2 := cell_below BR hy2
      have q3 := cell_below BR hy3
      have HB5 := Lib.hid (below_step HBi.out BR)
      have HOd := Lib.hid (OwnR.drew (Own1.below HOi.out BR))
      have hzd : w1.heap.size ≤ w5.drew.heap.size := HB5.out.size
      have hlen5 : ((crIn u k j).length + 1) * 64 ≤ 140737488355328 := by omega
      clear hb5 BR hx0 hx1 hx2 hx3 hy0 hy1 hy2 hy3 HUr
      go_wp2_with fail
      refine start_ (n := 13) (S := fun w' => w'.cell? (ad.add (k * 4)) = some (.int .i64 x.1.1) ∧ w'.cell? ⟨(ad.add (k * 4)).block, (ad.add (k * 4)).off + 1, none⟩ = some (.int .i64 x.1.2) ∧ w'.cell? ⟨(ad.add (k * 4)).block, (ad.add (k * 4)).off + 2, none⟩ = some (.int .i64 x.2.1) ∧ w'.cell? ⟨(ad.add (k * 4)).block, (ad.add (k * 4)).off + 3, none⟩ = some (.int .i64 x.2.2) ∧ w'.cell? (ad.add (m * 4)) = some (.int .i64 y.1.1) ∧ w'.cell? ⟨(ad.add (m * 4)).block, (ad.add (m * 4)).off + 1, none⟩ = some (.int .i64 y.1.2) ∧ w'.cell? ⟨(ad.add (m * 4)).block, (ad.add (m * 4)).off + 2, none⟩ = some (.int .i64 y.2.1) ∧ w'.cell? ⟨(ad.add (m * 4)).block, (ad.add (m * 4)).off + 3, none⟩ = some (.int .i64 y.2.2)) (ds := [10, 11]) #[Z,Z,Z,Z,Z,Z,Z,Z,Z,Z,Z,Z,Z] (by kernel_rfl) rfl rfl ⟨p0, p1, p2, p3, q0, q1, q2, q3⟩ (fun hHeld => ?_)
      refine pure_ (i := 0) (N := some 33) (v := ?_) (a' := ?_) #[J,Z,Z,Z,Z,Z,Z,Z,Z,Z,Z,Z,Z] rfl rfl (by kernel_rfl) (fun _ _ _ h => h) (Or.inl ⟨by rfl, ?_⟩) ?_ ?_
      rotate_left
      ·intro w'; go_simp; with_reducible rfl
      rotate_left
      ·simp only [Act.put, sA, sB, sC, i64_w, i32_w]; rfl
      refine pure_ (i := 1) (N := some 34) (v := ?_) (a' := ?_) #[J,J,Z,Z,Z,Z,Z,Z,Z,Z,Z,Z,Z] rfl rfl (by kernel_rfl) (fun _ _ _ h => h) (Or.inl ⟨by rfl, ?_⟩) ?_ ?_
      rotate_left
      ·intro w'; go_simp; with_reducible rfl
      rotate_left
      ·simp only [Act.put, sA, sB, sC, i64_w, i32_w]; rfl
      refine pure_ (i := 2) (N := some 35) (v := ?_) (a' := ?_) #[J,J,J,Z,Z,Z,Z,Z,Z,Z,Z,Z,Z] rfl rfl (by kernel_rfl) (fun _ _ _ h => h) (Or.inl ⟨by rfl, ?_⟩) ?_ ?_
      rotate_left
      ·intro w'; go_simp; with_reducible rfl
      rotate_left
      ·simp only [Act.put, sA, sB, sC, i64_w, i32_w]; rfl
      refine pure_ (i := 3) (N := some 36) (v := ?_) (a' := ?_) #[J,J,J,J,Z,Z,Z,Z,Z,Z,Z,Z,Z] rfl rfl (by kernel_rfl) (fun _ _ _ h => h) (Or.inl ⟨by rfl, ?_⟩) ?_ ?_
      rotate_left
      ·intro w'; go_simp; with_reducible rfl
      rotate_left
      ·simp only [Act.put, sA, sB, sC, i64_w, i32_w]; rfl
      refine pure_ (i := 5) (N := some 38) (v := ?_) (a' := ?_) #[J,J,J,J,Z,J,Z,Z,Z,Z,Z,Z,Z] rfl rfl (by kernel_rfl) (fun _ _ _ h => h) (Or.inl ⟨by rfl, ?_⟩) ?_ ?_
      rotate_left
      ·intro w'; go_simp; with_reducible rfl
      rotate_left
      ·simp only [Act.put, sA, sB, sC, i64_w, i32_w]; rfl
      refine pure_ (i := 6) (N := some 39) (v := ?_) (a' := ?_) #[J,J,J,J,Z,J,J,Z,Z,Z,Z,Z,Z] rfl rfl (by kernel_rfl) (fun _ _ _ h => h) (Or.inl ⟨by rfl, ?_⟩) ?_ ?_
      rotate_left
      ·intro w'; go_simp; with_reducible rfl
      rotate_left
      ·simp only [Act.put, sA, sB, sC, i64_w, i32_w]; rfl
      refine pure_ (i := 7) (N := some 40) (v := ?_) (a' := ?_) #[J,J,J,J,Z,J,J,J,Z,Z,Z,Z,Z] rfl rfl (by kernel_rfl) (fun _ _ _ h => h) (Or.inl ⟨by rfl, ?_⟩) ?_ ?_
      rotate_left
      ·intro w'; go_simp; with_reducible rfl
      rotate_left
      ·simp only [Act.put, sA, sB, sC, i64_w, i32_w]; rfl
      refine take_ (i := 4) (N := some 37) (v := ?_) (a' := ?_) #[J,J,J,J,J,J,J,J,Z,Z,Z,Z,Z] rfl rfl (by kernel_rfl) (fun _ _ _ h => h) (Or.inl ⟨by rfl, ?_⟩) hHeld ?_ ?_
      rotate_left
      ·rintro w' ⟨s0, s1, s2, s3, s4, s5, s6, s7⟩; go_simp; with_reducible rfl
      rotate_left
      ·simp only [Act.put, sA, sB, sC, i64_w, i32_w]; rfl
      refine take_ (i := 8) (N := some 41) (v := ?_) (a' := ?_) #[J,J,J,J,J,J,J,J,J,Z,Z,Z,Z] rfl rfl (by kernel_rfl) (fun _ _ _ h => h) (Or.inl ⟨by rfl, ?_⟩) hHeld ?_ ?_
      rotate_left
      ·rintro w' ⟨s0, s1, s2, s3, s4, s5, s6, s7⟩; go_simp; with_reducible rfl
      rotate_left
      ·simp only [Act.put, sA, sB, sC, i64_w, i32_w]; rfl
      refine pure_ (i := 9) (N := some 42) (v := ?_) (a' := ?_) #[J,J,J,J,J,J,J,J,J,J,Z,Z,Z] rfl rfl (by kernel_rfl) (fun _ _ _ h => h) (Or.inl ⟨by rfl, ?_⟩) ?_ ?_
      rotate_left
      ·intro w'; go_simp; with_reducible rfl
      rotate_left
      ·simp only [Act.put, sA, sB, sC, i64_w, i32_w]; rfl
      refine last_ (i := 10) (N := some 43) #[J,J,J,J,J,J,J,J,J,J,J,Z,Z] rfl rfl (by kernel_rfl) (by decide) (fun K hK => ?_)
      refine value_ (w1 := ?_) (v := ?_) (by rfl) rfl ?_ ?_
      rotate_left 2
      ·go_simp
       constructor
       ·rfl
       ·rfl
      refine hK.out _ _ ?_
      clear hK K
      refine norm_ (a' := ?_) ?_ ?_
      rotate_left
      ·show Act.put _ (some 43) _ = _
       simp only [Act.put, sA, sB, sC, i64_w, i32_w]; rfl
      refine last_ (i := 11) (N := some 44) #[J,J,J,J,J,J,J,J,J,J,J,J,Z] rfl rfl (by kernel_rfl) (by decide) (fun K hK => ?_)
      refine step_one Ty.sg2 (W := w5.drew) w1.heap.size rfl (.tmp 33) (.tmp 43) 78 97 _ 64 rfl Tryz.underlying78 infoSg2 rfl (by decide) u4 (crIn u k j) (x, y) _ _ rfl rfl (by simp) rfl HOd.out hzd hlen5 ?_
      intro v7 w7 HO7 hg7 hat7
      refine hK.out _ _ ?_
      clear hK K
      refine norm_ (a' := ?_) ?_ ?_
      rotate_left
      ·show Act.put _ (some 44) _ = _
       simp only [Act.put, sA, sB, sC, i64_w, i32_w]; rfl
      refine pure_ (i := 12) (N := some 4) (v := ?_) (a' := ?_) #[J,J,J,J,J,J,J,J,J,J,J,J,J] rfl rfl (by kernel_rfl) (fun _ _ _ h => h) (Or.inl ⟨by rfl, ?_⟩) ?_ ?_
      rotate_left
      ·intro w'; go_simp; with_reducible rfl
      rotate_left
      ·simp only [Act.put, sA, sB, sC, i64_w, i32_w]; rfl
      refine done_ (by kernel_rfl) ?_
      have HB7 := Lib.hid (show Below w1.heap.size w1 w7 from below_own (below_drew HB5.out) hg7 (fun b e => (OwnR.lt HOd.out b e).1))
      have HO8 := Lib.hid (Own1.of HO7)
      clear HO7 hg7 hat7
      go_wp2
      go_roundw
      case rel => exact ⟨j + 1, by have := HM.out; omega, by rw [show k + 1 + (j + 1) = m + 1 by have := HM.out; omega]; go_num, HB7.out, by rw [HS3.out]; exact HO8.out⟩
      case measure => simp [intOf]; omega
     ·have t1 : decide (2 ≤ rv) = false := decide_eq_false hq
      have HS3 : Hid (crIn u k (j + 1) = crIn u k j) := HS2.out.trans (by rw [HBR.out, t1]; simp)
      clear HS2 HBR hq
      go_wp2_with fail
      go_still_tail 8, (by kernel_rfl)
      change wpList _ _ _ _ _ wr.drew
      go_wp2_with fail
      (refine (CR.out _).mono ?_; rintro e w5 ⟨rfl, hb5⟩)
      have BR : Below wr.heap.size wr w5 := (by repeat (first | exact Below.refl _ _ | apply below_alloc | apply below_drewN | apply below_drew | (refine below_set2 ?_ ?_; (first | (simp; done) | (simp; omega))) | (refine below_step ?_ hb5)))
      have HB5 := Lib.hid (below_step HBi.out BR)
      have HO5 := Lib.hid (Own1.below HOi.out BR)
      clear hb5 BR hx0 hx1 hx2 hx3 hy0 hy1 hy2 hy3 HUr
      go_wp2
      go_roundw
      case rel => exact ⟨j + 1, by have := HM.out; omega, by rw [show k + 1 + (j + 1) = m + 1 by have := HM.out; omega]; go_num, HB5.out, by rw [HS3.out]; exact HO5.out⟩
      case measure => simp [intOf]; omega
    ·have hje : u.length - (k + 1) = j := by omega
     have HO9 : Hid (Own1 Ty.sg2 97 w1.heap.size wr u4 (crTo u (k + 1))) := by rw [HS1.out, hje]; exact HOi.out
     clear hje
     go_wp2
     go_roundw
     case rel => exact ⟨k + 1, by omega, by go_num, HBi.out, HO9.out⟩
     case measure => simp [intOf]; omega
  ·obtain rfl : k = u.length := by omega
   obtain ⟨A9, c9, hv9, hl9, hr9⟩ := HO.out.reads
   subst hv9
   rw [← HZ2.out] 
   go_wp2
   go_ret
   exact ⟨_, _, rfl, below_step HB1.out HB.out⟩
end
section
open Go.RowKit Go.Proofs.YtlmjciajpjdilaaGreatW.PrintLast

attribute [local go_sem high] eqPt eqSg
def endB (p : Pt) (s : Sg) : Bool := decide (s.1 = p) || decide (s.2 = p)
def endsN (l : Sgs) (p : Pt) : Nat := l.countP (endB p)
theorem endsN_snoc (l : Sgs) (p : Pt) (k : Nat) (h : k < l.length) : endsN (l.take (k + 1)) p = endsN (l.take k) p + if endB p (sgD l k) = true then 1 else 0 := by
 unfold endsN
 rw [take_snoc l k ((0, 0), (0, 0)) h, List.countP_append, List.countP_singleton]
 rfl
theorem endsN_le (l : Sgs) (p : Pt) (k : Nat) : endsN (l.take k) p ≤ k := by
 unfold endsN
 exact Nat.le_trans List.countP_le_length (by rw [List.length_take]; omega)
set_option maxRecDepth 100000 in
set_option maxHeartbeats 2000000 in
theorem ref21_ends {ok : Nat → Prop} (l : Sgs) (A : Option Addr) (n c : Nat) (p : Pt) (w : World) (hr : Row Ty.sg ok w A l) (hn : n = l.length) :
  Calls Tryz.prog 37 #[.slice A n c, ptA p] w fun e w' => e = .returned (.int .i64 (endsN l p : Nat)) ∧ Below w.heap.size w w' := by
 subst hn
 have hmx := hr.len
 have HR := Lib.hid hr
 clear hr
 go_enter Tryz.func37, Tryz.ntmps37
 go_wp2
 go_loopw [5, 6] (fun v i wr => ∃ k : Nat, k ≤ l.length ∧ i = .int .i64 k ∧ v = .int .i64 (endsN (l.take k) p : Nat) ∧ wr.heap[w.heap.size]? = some (.cells #[.int .i64 p.1, .int .i64 p.2] 24 (0, 0)) ∧ Hid (Below w.heap.size w wr)) (fun _ i _ => l.length - (intOf i).toNat)
 case atStart => exact ⟨0, Nat.zero_le _, rfl, rfl, heap_alloc_new _ _, below_alloc (Below.refl _ _) _⟩
 case round =>
  obtain ⟨k, hk, rfl, rfl, HX, HB⟩ := hrel
  have hsz := lt_of_block HX
  have pc0 := blk_cell HX 0 rfl
  have pc1 := blk_cell HX 1 rfl
  have hle := endsN_le l p k
  by_cases hlt : k < l.length
  ·obtain ⟨ad, rfl, hx0, hx1, hx2, hx3⟩ := (HR.out.below HB.out).sg_at k hlt
   have hx3' : wr.cell? ⟨(ad.add (k * 4)).block, (ad.add (k * 4)).off + 2 + 1, none⟩ = some (.int .i64 (sgD l k).2.2) := hx3
   have HS := Lib.hid (endsN_snoc l p k hlt)
   generalize sgD l k = x at *
   generalize endsN (l.take k) p = cn at *
   by_cases h1 : x.1 = p
   ·have hd := (ptB x.1 p).trans (decide_eq_true h1)
    have HT : Hid (endsN (l.take (k + 1)) p = cn + 1) := HS.out.trans (by rw [if_pos (by simp [endB, h1])])
    clear h1 HS
    go_wp2_with fail
    go_quiet (fail)
    have BR : Below wr.heap.size wr (wr.drewN nq) := bq
    have HX1 := blk_below HX BR
    clear BR
    go_wp2
    go_roundw
    case rel => exact ⟨k + 1, by omega, by go_num, by rw [HT.out]; go_num, HX1, (by repeat (first | exact Below.refl _ _ | apply below_alloc | apply below_drewN | apply below_drew | (refine below_set2 ?_ ?_; (first | (simp; done) | (simp; omega))) | (refine below_step ?_ HB.out)))⟩
    case measure => simp [intOf]; omega
   ·have hd := (ptB x.1 p).trans (decide_eq_false h1)
    by_cases h2 : x.2 = p
    ·have hd2 := (ptB x.2 p).trans (decide_eq_true h2)
     have HT : Hid (endsN (l.take (k + 1)) p = cn + 1) := HS.out.trans (by rw [if_pos (by simp [endB, h2])])
     clear h1 h2 HS
     go_wp2_with fail
     go_quiet (fail)
     have BR : Below wr.heap.size wr (wr.drewN nq) := bq
     have HX1 := blk_below HX BR
     clear BR
     go_wp2
     go_roundw
     case rel => exact ⟨k + 1, by omega, by go_num, by rw [HT.out]; go_num, HX1, (by repeat (first | exact Below.refl _ _ | apply below_alloc | apply below_drewN | apply below_drew | (refine below_set2 ?_ ?_; (first | (simp; done) | (simp; omega))) | (refine below_step ?_ HB.out)))⟩
     case measure => simp [intOf]; omega
    ·have hd2 := (ptB x.2 p).trans (decide_eq_false h2)
     have HT : Hid (endsN (l.take (k + 1)) p = cn) := HS.out.trans (by rw [if_neg (by simp [endB, h1, h2])]; rfl)
     clear h1 h2 HS
     go_wp2_with fail
     go_quiet (fail)
     have BR : Below wr.heap.size wr (wr.drewN nq) := bq
     have HX1 := blk_below HX BR
     clear BR
     go_wp2
     go_roundw
     case rel => exact ⟨k + 1, by omega, by go_num, by rw [HT.out], HX1, (by repeat (first | exact Below.refl _ _ | apply below_alloc | apply below_drewN | apply below_drew | (refine below_set2 ?_ ?_; (first | (simp; done) | (simp; omega))) | (refine below_step ?_ HB.out)))⟩
     case measure => simp [intOf]; omega
  ·obtain rfl : k = l.length := by omega
   have HL : Hid (endsN (l.take l.length) p = endsN l p) := by rw [List.take_length]; exact rfl
   generalize endsN (l.take l.length) p = cn at *
   go_wp2
   go_ret
   exact ⟨ret_int (by rw [HL.out]), HB.out⟩
end
end Go.Proofs.YtlmjciajpjdilaaGreat
