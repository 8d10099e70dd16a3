/- Contracts of ref20.Sort, Unique, Same. Plain words on ref20.cuts: the points at which a segment is divided. Contract of ref20.cuts: the points at which a segment is divided. -/
import Derived.Test.YtlmjciajpjdilaaGreatKR2
namespace Go.Proofs.YtlmjciajpjdilaaGreat
set_option linter.unusedVariables false
set_option linter.unusedSimpArgs false
section
open Go.RowKit Go.Proofs.YtlmjciajpjdilaaGreatW.PrintLast

attribute [local go_sem high] eqPt eqSg
def sortF (acc : Sgs) (s : Sg) : Sgs := if goodB s = true then insZ lessS (ofS s) acc else acc
def sortTo (l : Sgs) (k : Nat) : Sgs := (l.take k).foldl sortF []
theorem sortTo_snoc (l : Sgs) (k : Nat) (h : k < l.length) : sortTo l (k + 1) = sortF (sortTo l k) (sgD l k) := by
 unfold sortTo
 rw [take_snoc l k ((0, 0), (0, 0)) h, List.foldl_append]; rfl
theorem sortTo_end (l : Sgs) : sortTo l l.length = sortZ l := by
 unfold sortTo sortZ sortG canonZ
 rw [List.take_length, List.foldl_map, List.foldl_filter]; rfl
theorem sortTo_len (l : Sgs) : ∀ k, k ≤ l.length → (sortTo l k).length ≤ k
 | 0, _ => by simp [sortTo]
 | k + 1, h => by
  have ih := sortTo_len l k (by omega)
  rw [sortTo_snoc l k (by omega)]
  unfold sortF
  split
  ·have := (insZ_perm (less := lessS) (ofS (sgD l k)) (sortTo l k)).length_eq
   rw [this]; simp; omega
  ·omega
set_option maxRecDepth 100000 in
set_option maxHeartbeats 2000000 in
theorem ref20_Sort {ok : Nat → Prop} (l : Sgs) (A : Option Addr) (n c : Nat) (w : World) (hr : Row Ty.sg ok w A l) (hn : n = l.length) (hlen : l.length ≤ 1000000) :
  Calls Tryz.prog 23 #[.slice A n c] w fun e w' => ∃ v, e = .returned v ∧ Own1 Ty.sg 32 w.heap.size w' v (sortZ l) ∧ Below w.heap.size w w' := by
 subst hn
 have HR := Lib.hid hr
 clear hr
 go_enter Tryz.func23, Tryz.ntmps23
 go_wp2
 go_loopw [3, 4] (fun v i wr => ∃ k : Nat, k ≤ l.length ∧ i = .int .i64 k ∧ Hid (Below w.heap.size w wr) ∧ Hid (Own1 Ty.sg 32 w.heap.size wr v (sortTo l k))) (fun _ i _ => l.length - (intOf i).toNat)
 case atStart => exact ⟨0, Nat.zero_le _, rfl, Below.refl _ _, OwnR.nil _ _ _ _ _⟩
 case round =>
  obtain ⟨k, hk, rfl, HB, HO⟩ := hrel
  by_cases hlt : k < l.length
  ·have HRk := Lib.hid (HR.out.below HB.out)
   obtain ⟨ad, rfl, hx0, hx1, hx2, hx3⟩ := HRk.out.sg_at k hlt
   have HT := Lib.hid (sortTo_snoc l k hlt)
   have hsl := sortTo_len l k hk
   obtain ⟨x, hx⟩ : ∃ x, x = sgD l k := ⟨_, rfl⟩
   rw [← hx] at hx0 hx1 hx2 hx3 HT
   clear hx
   cases hg : goodB x
   ·have HG := Lib.hid hg
    have HS : Hid (sortTo l (k + 1) = sortTo l k) := HT.out.trans (if_neg (by rw [hg]; decide))
    clear hg HT
    go_wp2_with fail
    (refine (ref20_good x _).mono ?_; rintro e w1 ⟨rfl, hb1⟩)
    rw [HG.out]
    have HO1 := Lib.hid (Own1.below HO.out hb1)
    have HB1 := Lib.hid (below_step HB.out hb1)
    clear hb1 hx0 hx1 hx2 hx3 HRk
    go_wp2
    go_roundw
    case rel => exact ⟨k + 1, by omega, by go_num, HB1.out, by rw [HS.out]; exact HO1.out⟩
    case measure => simp [intOf]; omega
   ·have HG := Lib.hid hg
    have HS : Hid (sortTo l (k + 1) = insZ lessS (ofS x) (sortTo l k)) := HT.out.trans (if_pos hg)
    clear hg HT
    go_wp2_with fail
    (refine (ref20_good x _).mono ?_; rintro e w1 ⟨rfl, hb1⟩)
    rw [HG.out]
    have HO1 := Lib.hid (Own1.below HO.out hb1)
    have HB1 := Lib.hid (below_step HB.out hb1)
    have hy0 := cell_below hb1 hx0
    have hy1 := cell_below hb1 hx1
    have hy2 := cell_below hb1 hx2
    have hy3 := cell_below hb1 hx3
    obtain ⟨A3, c3, hv, hl3, hr3⟩ := HO1.out.reads
    subst hv
    have HR3 := Lib.hid hr3
    clear hb1 hx0 hx1 hx2 hx3 HRk HO HB hr3
    go_wp2_with fail
    have HR4 := Lib.hid (HR3.out.below (below_drew (Below.refl _ _)))
    refine start_ (n := 14) (S := fun w' => w'.cell? (ad.add (k * 4)) = some (.int .i64 x.1.1) ∧ w'.cell? ⟨(ad.add (k * 4)).block, (ad.add (k * 4)).off + 1, none⟩ = some (.int .i64 x.1.2) ∧ w'.cell? ⟨(ad.add (k * 4)).block, (ad.add (k * 4)).off + 2, none⟩ = some (.int .i64 x.2.1) ∧ w'.cell? ⟨(ad.add (k * 4)).block, (ad.add (k * 4)).off + 3, none⟩ = some (.int .i64 x.2.2)) (ds := [12]) #[Z,Z,Z,Z,Z,Z,Z,Z,Z,Z,Z,Z,Z,Z] (by kernel_rfl) rfl rfl ⟨hy0, hy1, hy2, hy3⟩ (fun hHeld => ?_)
    refine pure_ (i := 0) (N := some 16) (v := ?_) (a' := ?_) #[J,Z,Z,Z,Z,Z,Z,Z,Z,Z,Z,Z,Z,Z] rfl rfl (by kernel_rfl) (fun _ _ _ h => h) (Or.inl ⟨by rfl, ?_⟩) ?_ ?_
    rotate_left
    ·intro w'; go_simp; with_reducible rfl
    rotate_left
    ·simp only [Act.put, sA, sB, sC, i64_w, i32_w]; rfl
    refine pure_ (i := 1) (N := some 17) (v := ?_) (a' := ?_) #[J,J,Z,Z,Z,Z,Z,Z,Z,Z,Z,Z,Z,Z] rfl rfl (by kernel_rfl) (fun _ _ _ h => h) (Or.inl ⟨by rfl, ?_⟩) ?_ ?_
    rotate_left
    ·intro w'; go_simp; with_reducible rfl
    rotate_left
    ·simp only [Act.put, sA, sB, sC, i64_w, i32_w]; rfl
    refine pure_ (i := 2) (N := some 18) (v := ?_) (a' := ?_) #[J,J,J,Z,Z,Z,Z,Z,Z,Z,Z,Z,Z,Z] rfl rfl (by kernel_rfl) (fun _ _ _ h => h) (Or.inl ⟨by rfl, ?_⟩) ?_ ?_
    rotate_left
    ·intro w'; go_simp; with_reducible rfl
    rotate_left
    ·simp only [Act.put, sA, sB, sC, i64_w, i32_w]; rfl
    refine pure_ (i := 3) (N := some 19) (v := ?_) (a' := ?_) #[J,J,J,J,Z,Z,Z,Z,Z,Z,Z,Z,Z,Z] rfl rfl (by kernel_rfl) (fun _ _ _ h => h) (Or.inl ⟨by rfl, ?_⟩) ?_ ?_
    rotate_left
    ·intro w'; go_simp; with_reducible rfl
    rotate_left
    ·simp only [Act.put, sA, sB, sC, i64_w, i32_w]; rfl
    refine pure_ (i := 4) (N := some 20) (v := ?_) (a' := ?_) #[J,J,J,J,J,Z,Z,Z,Z,Z,Z,Z,Z,Z] rfl rfl (by kernel_rfl) (fun _ _ _ h => h) (Or.inl ⟨by rfl, ?_⟩) ?_ ?_
    rotate_left
    ·intro w'; go_simp; with_reducible rfl
    rotate_left
    ·simp only [Act.put, sA, sB, sC, i64_w, i32_w]; rfl
    refine pure_ (i := 6) (N := some 22) (v := ?_) (a' := ?_) #[J,J,J,J,J,Z,J,Z,Z,Z,Z,Z,Z,Z] rfl rfl (by kernel_rfl) (fun _ _ _ h => h) (Or.inl ⟨by rfl, ?_⟩) ?_ ?_
    rotate_left
    ·intro w'; go_simp; with_reducible rfl
    rotate_left
    ·simp only [Act.put, sA, sB, sC, i64_w, i32_w]; rfl
    refine pure_ (i := 7) (N := some 23) (v := ?_) (a' := ?_) #[J,J,J,J,J,Z,J,J,Z,Z,Z,Z,Z,Z] rfl rfl (by kernel_rfl) (fun _ _ _ h => h) (Or.inl ⟨by rfl, ?_⟩) ?_ ?_
    rotate_left
    ·intro w'; go_simp; with_reducible rfl
    rotate_left
    ·simp only [Act.put, sA, sB, sC, i64_w, i32_w]; rfl
    refine pure_ (i := 8) (N := some 24) (v := ?_) (a' := ?_) #[J,J,J,J,J,Z,J,J,J,Z,Z,Z,Z,Z] rfl rfl (by kernel_rfl) (fun _ _ _ h => h) (Or.inl ⟨by rfl, ?_⟩) ?_ ?_
    rotate_left
    ·intro w'; go_simp; with_reducible rfl
    rotate_left
    ·simp only [Act.put, sA, sB, sC, i64_w, i32_w]; rfl
    refine pure_ (i := 9) (N := some 25) (v := ?_) (a' := ?_) #[J,J,J,J,J,Z,J,J,J,J,Z,Z,Z,Z] rfl rfl (by kernel_rfl) (fun _ _ _ h => h) (Or.inl ⟨by rfl, ?_⟩) ?_ ?_
    rotate_left
    ·intro w'; go_simp; with_reducible rfl
    rotate_left
    ·simp only [Act.put, sA, sB, sC, i64_w, i32_w]; rfl
    refine take_ (i := 5) (N := some 21) (v := ?_) (a' := ?_) #[J,J,J,J,J,J,J,J,J,J,Z,Z,Z,Z] rfl rfl (by kernel_rfl) (fun _ _ _ h => h) (Or.inl ⟨by rfl, ?_⟩) hHeld ?_ ?_
    rotate_left
    ·rintro w' ⟨s0, s1, s2, s3⟩; go_simp; with_reducible rfl
    rotate_left
    ·simp only [Act.put, sA, sB, sC, i64_w, i32_w]; rfl
    refine take_ (i := 10) (N := some 26) (v := ?_) (a' := ?_) #[J,J,J,J,J,J,J,J,J,J,J,Z,Z,Z] rfl rfl (by kernel_rfl) (fun _ _ _ h => h) (Or.inl ⟨by rfl, ?_⟩) hHeld ?_ ?_
    rotate_left
    ·rintro w' ⟨s0, s1, s2, s3⟩; go_simp; with_reducible rfl
    rotate_left
    ·simp only [Act.put, sA, sB, sC, i64_w, i32_w]; rfl
    refine one_ (i := 11) (N := some 27) #[J,J,J,J,J,J,J,J,J,J,J,J,Z,Z] rfl rfl (by kernel_rfl) (by decide) (fun K hK => ?_)
    refine goes_ Tryz.func60 (by kernel_rfl) rfl #[.agg #[.int .i64 x.1.1, .int .i64 x.1.2], .agg #[.int .i64 x.2.1, .int .i64 x.2.2]] (by rfl) rfl rfl (by simp only [List.map_toArray, List.map_cons, List.map_nil]; rfl) ?_
    with_reducible refine (ref09_Of x.1.1 x.1.2 x.2.1 x.2.2 _).mono ?_
    rintro e w2 ⟨rfl, hb2⟩
    refine ⟨_, rfl, ?_⟩
    have HR5 := Lib.hid (HR4.out.below hb2)
    refine hK.out _ _ ⟨cell_below hb2 hy0, cell_below hb2 hy1, cell_below hb2 hy2, cell_below hb2 hy3⟩ (fun hHeld => ?_)
    clear hK K
    refine norm_ (a' := ?_) ?_ ?_
    rotate_left
    ·show Act.put _ (some 27) _ = _
     simp only [Act.put, sA, sB, sC, i64_w, i32_w]; rfl
    refine last_ (i := 12) (N := some 28) #[J,J,J,J,J,J,J,J,J,J,J,J,J,Z] rfl rfl (by kernel_rfl) (by decide) (fun K hK => ?_)
    refine goes_ Tryz.func62 (by kernel_rfl) rfl #[.slice A3 (sortTo l k).length c3, sgA (ofS x)] (by rfl) rfl rfl (by simp only [List.map_toArray, List.map_cons, List.map_nil]; rfl) ?_
    with_reducible refine (ref20_insert (sortTo l k) A3 _ c3 (ofS x) w2 HR5.out rfl (by omega)).mono ?_
    rintro e w3 ⟨v3, rfl, ho3, hb3⟩
    refine ⟨_, rfl, ?_⟩
    refine hK.out _ _ ?_
    clear hK K
    refine norm_ (a' := ?_) ?_ ?_
    rotate_left
    ·show Act.put _ (some 28) _ = _
     simp only [Act.put, sA, sB, sC, i64_w, i32_w]; rfl
    refine pure_ (i := 13) (N := some 3) (v := ?_) (a' := ?_) #[J,J,J,J,J,J,J,J,J,J,J,J,J,J] rfl rfl (by kernel_rfl) (fun _ _ _ h => h) (Or.inl ⟨by rfl, ?_⟩) ?_ ?_
    rotate_left
    ·intro w'; go_simp; with_reducible rfl
    rotate_left
    ·simp only [Act.put, sA, sB, sC, i64_w, i32_w]; rfl
    refine done_ (by kernel_rfl) ?_
    have HB3 := Lib.hid (show Below w.heap.size w w3 from (by repeat (first | exact Below.refl _ _ | apply below_alloc | apply below_drewN | apply below_drew | (refine below_set2 ?_ ?_; (first | (simp; done) | (simp; omega))) | (refine below_step ?_ hb3) | (refine below_step ?_ hb2) | (refine below_step ?_ HB1.out))))
    have HO3 := Lib.hid (Own1.base ho3 (Nat.le_trans HB1.out.size hb2.size))
    clear ho3 hb3 hb2 HO1 HB1 HR3 hy0 hy1 hy2 hy3
    go_wp2
    go_roundw
    case rel => exact ⟨k + 1, by omega, by go_num, HB3.out, by rw [HS.out]; exact HO3.out⟩
    case measure => simp [intOf]; omega
  ·obtain rfl : k = l.length := by omega
   go_wp2
   go_ret
   exact ⟨_, rfl, by rw [← sortTo_end]; exact HO.out, HB.out⟩
set_option maxRecDepth 100000 in
set_option maxHeartbeats 2000000 in
theorem ref20_Unique {ok : Nat → Prop} (l : Sgs) (A : Option Addr) (n c : Nat) (w : World) (hr : Row Ty.sg ok w A l) (hn : n = l.length) (hlen : l.length ≤ 1000000) :
  Calls Tryz.prog 24 #[.slice A n c] w fun e w' => ∃ v, e = .returned v ∧ Own1 Ty.sg 32 w.heap.size w' v (uniqZ l) ∧ Below w.heap.size w w' := by
 subst hn
 go_enter Tryz.func24, Tryz.ntmps24
 go_wp2_with fail
 refine (ref20_Sort l A _ c w hr rfl hlen).mono ?_
 rintro e w1 ⟨v, rfl, ho, hb⟩
 obtain ⟨A1, c1, rfl, hl1, hr1⟩ := ho.reads
 have HR := Lib.hid hr1
 have HB1 := Lib.hid hb
 have hsl : (sortZ l).length ≤ 1000000 := by
  refine Nat.le_trans ?_ hlen
  have := sortTo_len l l.length (Nat.le_refl _)
  rwa [sortTo_end] at this
 have HU : Hid (uniqZ l = compactZ ((sortZ l).take (sortZ l).length)) := by rw [List.take_length]; exact rfl
 have hsz := hb.size
 clear ho hr1 hb hr
 generalize sortZ l = s at *
 go_wp2
 go_loopw [4, 5] (fun v i wr => ∃ k : Nat, k ≤ s.length ∧ i = .int .i64 k ∧ Hid (Below w1.heap.size w1 wr) ∧ Hid (Own1 Ty.sg 32 w1.heap.size wr v (compactZ (s.take k)))) (fun _ i _ => s.length - (intOf i).toNat)
 case atStart => exact ⟨0, Nat.zero_le _, rfl, Below.refl _ _, OwnR.nil _ _ _ _ _⟩
 case round =>
  obtain ⟨k, hk, rfl, HB, HO⟩ := hrel
  by_cases hlt : k < s.length
  ·have HRk := Lib.hid (HR.out.below HB.out)
   obtain ⟨ad, rfl, hx0, hx1, hx2, hx3⟩ := HRk.out.sg_at k hlt
   have hL : ((compactZ (s.take k)).length + 1) * 32 ≤ 140737488355328 := by have := compact_take_len s k hk; omega
   have HL := Lib.hid hL
   have hz1 := HB.out.size
   clear hL
   rcases Nat.eq_zero_or_pos k with h0 | h0
   ·subst h0
    obtain ⟨x, hx⟩ : ∃ x, x = sgD s 0 := ⟨_, rfl⟩
    have HT : Hid (compactZ (s.take (0 + 1)) = compactZ (s.take 0) ++ [x]) := by rw [take_snoc s 0 ((0, 0), (0, 0)) hlt, hx]; exact rfl
    rw [← hx] at hx0 hx1 hx2 hx3
    clear hx
    go_wp2_with fail
    go_quiet (fail)
    have BR : Below wr.heap.size wr (wr.drewN nq) := bq
    obtain ⟨W1, hW1⟩ : ∃ W1, W1 = wr.drewN nq := ⟨_, rfl⟩
    rw [← hW1] at BR ⊢
    have hy0 : W1.cell? ad = some (.int .i64 x.1.1) := cell_below BR hx0
    have hy1 : W1.cell? ⟨ad.block, ad.off + 1, none⟩ = some (.int .i64 x.1.2) := cell_below BR hx1
    have hy2 : W1.cell? ⟨ad.block, ad.off + 2, none⟩ = some (.int .i64 x.2.1) := cell_below BR hx2
    have hy3 : W1.cell? ⟨ad.block, ad.off + 3, none⟩ = some (.int .i64 x.2.2) := cell_below BR hx3
    have HO1 := Lib.hid (Own1.below HO.out BR)
    have HB2 := Lib.hid (below_step HB.out BR)
    have z1 := BR.size
    clear hW1 hx0 hx1 hx2 hx3 BR HO HRk
    go_wp2_with (at_builtin; refine app_one Ty.sg (W := W1) w1.heap.size rfl _ _ 22 32 _ 32 rfl Tryz.underlying22 infoSg rfl (by decide) u4 _ x _ _ rfl rfl rfl rfl HO1.out (by omega) HL.out ?_; intro v2 w4 HO2 hg1 hat1)
    have BZ : Below w1.heap.size w1 w4 := below_own HB2.out hg1 (fun b e => (OwnR.lt HO1.out b e).1)
    have HO4 := Lib.hid (Own1.of HO2)
    clear HO2 hat1 hg1 HO1 HB2
    go_wp2
    go_roundw
    case rel => exact ⟨0 + 1, by omega, by go_num, BZ, by rw [HT.out]; exact HO4.out⟩
    case measure => simp [intOf]; omega
   ·obtain ⟨j, rfl⟩ : ∃ j, k = j + 1 := ⟨k - 1, by omega⟩
    have hw : IntKind.i64.wrap ((j : Int) + 1 - 1) = (j : Int) := (IntWalk.i64_in _ (by omega)).trans (by omega)
    have hw2 : IntKind.i64.wrap (((j + 1 : Nat) : Int) - 1) = (j : Int) := (IntWalk.i64_in _ (by omega)).trans (by omega)
    have t0 : (((j + 1 : Nat) : Int) == 0) = false := by rw [beq_eq_false_iff_ne]; omega
    have t1 : ((j : Int) + 1 == 0) = false := by rw [beq_eq_false_iff_ne]; omega
    obtain ⟨ad2, e2, hz0, hz1', hz2, hz3⟩ := HRk.out.sg_at j (by omega)
    cases e2
    obtain ⟨x, hx⟩ : ∃ x, x = sgD s (j + 1) := ⟨_, rfl⟩
    obtain ⟨y, hy⟩ : ∃ y, y = sgD s j := ⟨_, rfl⟩
    rw [← hx] at hx0 hx1 hx2 hx3
    rw [← hy] at hz0 hz1' hz2 hz3
    have hd0 := sgB x y
    by_cases hq : x = y
    ·have hd := hd0.trans (decide_eq_true hq)
     have HT : Hid (compactZ (s.take (j + 1 + 1)) = compactZ (s.take (j + 1))) := compact_eq s ((0, 0), (0, 0)) (j + 1) (by omega) hlt (hx.symm.trans (hq.trans hy))
     clear hx hy hq hd0
     go_wp2_with fail
     go_quiet (fail)
     have BR : Below wr.heap.size wr (wr.drewN nq) := bq
     have HO1 := Lib.hid (Own1.below HO.out BR)
     have HB2 := Lib.hid (below_step HB.out BR)
     clear BR HO HRk
     go_wp2
     go_roundw
     case rel => exact ⟨j + 1 + 1, by omega, by go_num, HB2.out, by rw [HT.out]; exact HO1.out⟩
     case measure => simp [intOf]; omega
    ·have hd := hd0.trans (decide_eq_false hq)
     have HT : Hid (compactZ (s.take (j + 1 + 1)) = compactZ (s.take (j + 1)) ++ [x]) := by rw [hx]; exact compact_ne s ((0, 0), (0, 0)) (j + 1) (by omega) hlt (fun h => hq (hx.trans (h.trans hy.symm)))
     clear hx hy hq hd0
     go_wp2_with fail
     go_quiet (fail)
     have BR : Below wr.heap.size wr (wr.drewN nq) := bq
     obtain ⟨W1, hW1⟩ : ∃ W1, W1 = wr.drewN nq := ⟨_, rfl⟩
     rw [← hW1] at BR ⊢
     have hy0 := cell_below BR hx0
     have hy1 := cell_below BR hx1
     have hy2 := cell_below BR hx2
     have hy3 := cell_below BR hx3
     have HO1 := Lib.hid (Own1.below HO.out BR)
     have HB2 := Lib.hid (below_step HB.out BR)
     have z1 := BR.size
     clear hW1 hx0 hx1 hx2 hx3 BR HO HRk hz0 hz1' hz2 hz3
     go_wp2_with (at_builtin; refine app_one Ty.sg (W := W1) w1.heap.size rfl _ _ 22 32 _ 32 rfl Tryz.underlying22 infoSg rfl (by decide) u4 _ x _ _ rfl rfl rfl rfl HO1.out (by omega) HL.out ?_; intro v2 w4 HO2 hg1 hat1)
     have BZ : Below w1.heap.size w1 w4 := below_own HB2.out hg1 (fun b e => (OwnR.lt HO1.out b e).1)
     have HO4 := Lib.hid (Own1.of HO2)
     clear HO2 hat1 hg1 HO1 HB2
     go_wp2
     go_roundw
     case rel => exact ⟨j + 1 + 1, by omega, by go_num, BZ, by rw [HT.out]; exact HO4.out⟩
     case measure => simp [intOf]; omega
  ·obtain rfl : k = s.length := by omega
   go_wp2
   go_ret
   exact ⟨_, rfl, by rw [HU.out]; exact Own1.base HO.out hsz, below_step HB1.out HB.out⟩
theorem ref20_Same {ok ok' : Nat → Prop} (a b : Sgs) (A B : Option Addr) (n m c d : Nat) (w : World) (ha : Row Ty.sg ok w A a) (hb : Row Ty.sg ok' w B b) (hn : n = a.length) (hm : m = b.length) :
  Calls Tryz.prog 22 #[.slice A n c, .slice B m d] w fun e w' => e = .returned (.bool (decide (a = b))) ∧ Below w.heap.size w w' := by
 subst hn hm
 have hl1 := ha.len
 have hl2 := hb.len
 have HA := Lib.hid ha
 have HB := Lib.hid hb
 clear ha hb
 by_cases hl : a.length = b.length
 ·have HL := Lib.hid hl
  have hlb : ((a.length : Int) != (b.length : Int)) = false := by simp [hl]
  have hlb2 : (a.length == b.length) = true := by simp [hl]
  clear hl
  go_enter Tryz.func22, Tryz.ntmps22
  go_wp2
  go_loopw [5] (fun i wr => ∃ k : Nat, k ≤ a.length ∧ i = .int .i64 k ∧ Hid (Below w.heap.size w wr) ∧ Hid (a.take k = b.take k)) (fun i _ => a.length - (intOf i).toNat)
  case atStart => exact ⟨0, Nat.zero_le _, rfl, Below.refl _ _, by simp [Hid]⟩
  case round =>
   obtain ⟨k, hk, rfl, hbl, hall⟩ := hrel
   by_cases hlt : k < a.length
   ·have hlt2 : k < b.length := by have := HL.out; omega
    obtain ⟨ad, rfl, hx0, hx1, hx2, hx3⟩ := (HA.out.below hbl.out).sg_at k hlt
    obtain ⟨bd, rfl, hz0, hz1, hz2, hz3⟩ := (HB.out.below hbl.out).sg_at k hlt2
    have hd0 := sgB (sgD a k) (sgD b k)
    by_cases hq : sgD a k = sgD b k
    ·have hd := hd0.trans (decide_eq_true hq)
     have HQ := Lib.hid hq
     clear hd0 hq
     go_wp2_with fail
     go_quiet (fail)
     go_wp2
     go_roundw
     case rel => exact ⟨k + 1, by omega, by go_num, (by repeat (first | exact Below.refl _ _ | apply below_alloc | apply below_drewN | apply below_drew | (refine below_set2 ?_ ?_; (first | (simp; done) | (simp; omega))) | (refine below_step ?_ hbl.out))), take_eq_step ((0, 0), (0, 0)) hall.out hlt hlt2 HQ.out⟩
     case measure => simp [intOf]; omega
    ·have hd := hd0.trans (decide_eq_false hq)
     have HQ := Lib.hid hq
     clear hd0 hq
     go_wp2_with fail
     go_quiet (fail)
     go_wp2
     go_ret
     exact ⟨ret_bool (by rw [eq_comm, decide_eq_false_iff_not]; exact take_ne ((0, 0), (0, 0)) HQ.out), (by repeat (first | exact Below.refl _ _ | apply below_alloc | apply below_drewN | apply below_drew | (refine below_set2 ?_ ?_; (first | (simp; done) | (simp; omega))) | (refine below_step ?_ hbl.out)))⟩
   ·go_wp2
    go_ret
    refine ⟨ret_bool ?_, hbl.out⟩
    have := hall.out
    rw [List.take_of_length_le (by omega), List.take_of_length_le (by have := HL.out; omega)] at this
    simp [this]
 ·have HL := Lib.hid hl
  have hlb : ((a.length : Int) != (b.length : Int)) = true := by simp; omega
  have hlb2 : (a.length == b.length) = false := by simpa using hl
  clear hl
  go_enter Tryz.func22, Tryz.ntmps22
  go_wp2
  go_ret
  exact ⟨ret_bool (by rw [eq_comm, decide_eq_false_iff_not]; exact fun h => HL.out (by rw [h])), Below.refl _ _⟩
end
section
open Go.RowKit Go.Proofs.YtlmjciajpjdilaaGreatW.PrintLast

attribute [local go_sem high] eqPt eqSg
def putA (p : Pt) (st : Pts × Bool) (o : Pt) : Pts × Bool := if st.2 = false ∧ lessB o p = false then (st.1 ++ [p], true) else st
def putB (p : Pt) (st : Pts × Bool) (o : Pt) : Pts × Bool := (if o = p then st.1 else st.1 ++ [o], st.2)
def putF (p : Pt) (st : Pts × Bool) (o : Pt) : Pts × Bool := putB p (putA p st o) o
def putE (p : Pt) (st : Pts × Bool) : Pts := if st.2 = true then st.1 else st.1 ++ [p]
def putSt (p : Pt) (out : Pts) (k : Nat) : Pts × Bool := (out.take k).foldl (putF p) ([], false)
def putZ (p : Pt) (out : Pts) : Pts := putE p (out.foldl (putF p) ([], false))
def cutF1 (s : Sg) (out : Pts) (p : Pt) : Pts := if withinB p s.1 s.2 = true then putZ p out else out
def cutTo (l : Sgs) (s : Sg) (i : Nat) : Pts := ((ends2 l).take i).foldl (cutF1 s) []
def cutR (l : Sgs) (s : Sg) : Pts := (ends2 l).foldl (cutF1 s) []
theorem putSt_snoc (p : Pt) (out : Pts) (k : Nat) (h : k < out.length) : putSt p out (k + 1) = putB p (putA p (putSt p out k) (ptD out k)) (ptD out k) := by
 unfold putSt
 rw [take_snoc out k (0, 0) h, List.foldl_append]; rfl
theorem putSt_end (p : Pt) (out : Pts) : putZ p out = putE p (putSt p out out.length) := by unfold putZ putSt; rw [List.take_length]
theorem putSt_len (p : Pt) (out : Pts) : ∀ k, k ≤ out.length → (putSt p out k).1.length ≤ 2 * k
 | 0, _ => by simp [putSt]
 | k + 1, h => by
  have ih := putSt_len p out k (by omega)
  rw [putSt_snoc p out k (by omega)]
  unfold putB putA
  split <;> split <;> simp <;> omega
theorem ends2_ln (l : Sgs) : (ends2 l).length = 2 * l.length := by
 induction l with
 | nil => rfl
 | cons s l ih => unfold ends2 at *; rw [List.flatMap_cons, List.length_append, ih]; simp; omega
theorem ends2_get (l : Sgs) : ∀ i, i < 2 * l.length → ptD (ends2 l) i = if i % 2 = 1 then (sgD l (i / 2)).2 else (sgD l (i / 2)).1 := by
 induction l with
 | nil => intro i h; simp at h
 | cons s l ih =>
  intro i h
  have e : ends2 (s :: l) = s.1 :: s.2 :: ends2 l := rfl
  rw [e]
  match i, h with
  | 0, _ => rfl
  | 1, _ => rfl
  | i + 2, h =>
   have h' : i < 2 * l.length := by simp at h; omega
   have := ih i h'
   rw [show (i + 2) % 2 = i % 2 by omega, show (i + 2) / 2 = i / 2 + 1 by omega]
   exact this
theorem cutTo_snoc (l : Sgs) (s : Sg) (i : Nat) (h : i < 2 * l.length) : cutTo l s (i + 1) = cutF1 s (cutTo l s i) (ptD (ends2 l) i) := by
 unfold cutTo
 rw [take_snoc (ends2 l) i (0, 0) (by rw [ends2_ln]; exact h), List.foldl_append]; rfl
theorem cutTo_end (l : Sgs) (s : Sg) : cutTo l s (2 * l.length) = cutR l s := by unfold cutTo cutR; rw [← ends2_ln, List.take_length]
/-! ### its members, in increasing order -/
def insP (p : Pt) : Pts → Pts
 | [] => [p]
 | o :: l => if lessB o p = true then o :: insP p l else if o = p then p :: l else p :: o :: l
theorem mem_insP {p x : Pt} : ∀ {l : Pts}, x ∈ insP p l ↔ x = p ∨ x ∈ l
 | [] => by simp [insP]
 | o :: l => by
  unfold insP
  split
  ·rw [List.mem_cons, mem_insP (l := l), List.mem_cons]
   constructor
   ·rintro (h | h | h)
    ·exact .inr (.inl h)
    ·exact .inl h
    ·exact .inr (.inr h)
   ·rintro (h | h | h)
    ·exact .inr (.inl h)
    ·exact .inl h
    ·exact .inr (.inr h)
  ·split
   ·rename_i h; subst h; simp
   ·simp
theorem insP_inc {p : Pt} : ∀ {l : Pts}, Inc lessB l → Inc lessB (insP p l)
 | [], _ => List.pairwise_singleton _ _
 | o :: l, h => by
  have h1 := List.pairwise_cons.1 h
  unfold insP
  split
  ·rename_i hl
   refine List.pairwise_cons.2 ⟨fun x hx => ?_, insP_inc h1.2⟩
   rcases mem_insP.1 hx with rfl | hx
   ·exact hl
   ·exact h1.1 x hx
  ·rename_i hl
   split
   ·rename_i he; subst he; exact h
   ·rename_i he
    have hpo : lessB p o = true := by
     have := totB.total he
     cases hpo : lessB p o
     ·rw [hpo] at this; exact absurd this hl
     ·rfl
    refine List.pairwise_cons.2 ⟨fun x hx => ?_, h⟩
    rcases List.mem_cons.1 hx with rfl | hx
    ·exact hpo
    ·exact totB.trans hpo (h1.1 x hx)
theorem put_true {p : Pt} : ∀ {l : Pts} (acc : Pts), (∀ x ∈ l, x ≠ p) → l.foldl (putF p) (acc, true) = (acc ++ l, true)
 | [], acc, _ => by simp
 | o :: l, acc, h => by
  have ho := h o (List.mem_cons_self ..)
  have e : putF p (acc, true) o = (acc ++ [o], true) := by
   unfold putF putA putB
   simp [ho]
  rw [List.foldl_cons, e, put_true _ (fun x hx => h x (List.mem_cons_of_mem _ hx)), List.append_assoc]; rfl
theorem put_false {p : Pt} : ∀ {l : Pts} (acc : Pts), Inc lessB l → putE p (l.foldl (putF p) (acc, false)) = acc ++ insP p l
 | [], acc, _ => by simp [putE, insP]
 | o :: l, acc, h => by
  have h1 := List.pairwise_cons.1 h
  rw [List.foldl_cons]
  cases hl : lessB o p
  ·by_cases he : o = p
   ·subst he
    have e : putF o (acc, false) o = (acc ++ [o], true) := by unfold putF putA putB; simp [hl]
    have hne : ∀ x ∈ l, x ≠ o := fun x hx e => by have := h1.1 x hx; rw [e, totB.irr] at this; cases this
    rw [e, put_true _ hne]
    unfold putE insP
    simp [hl]
   ·have e : putF p (acc, false) o = (acc ++ [p] ++ [o], true) := by unfold putF putA putB; simp [hl, he]
    have hpo : lessB p o = true := by
     have := totB.total he
     rw [hl] at this
     cases hpo : lessB p o
     ·rw [hpo] at this; cases this
     ·rfl
    have hne : ∀ x ∈ l, x ≠ p := fun x hx e => by have := totB.trans hpo (h1.1 x hx); rw [e, totB.irr] at this; cases this
    rw [e, put_true _ hne]
    unfold putE insP
    simp [hl, he]
  ·have hne : o ≠ p := fun e => by rw [e, totB.irr] at hl; cases hl
   have e : putF p (acc, false) o = (acc ++ [o], false) := by unfold putF putA putB; simp [hl, hne]
   rw [e, put_false _ h1.2]
   conv => rhs; unfold insP
   rw [if_pos hl, List.append_assoc]; rfl
theorem putZ_ins {p : Pt} {out : Pts} (h : Inc lessB out) : putZ p out = insP p out := by
 unfold putZ
 rw [put_false [] h]; rfl
theorem cut_fold (s : Sg) : ∀ (es out : Pts), Inc lessB out → Inc lessB (es.foldl (cutF1 s) out) ∧ ∀ x, x ∈ es.foldl (cutF1 s) out ↔ x ∈ out ∨ (x ∈ es ∧ withinB x s.1 s.2 = true)
 | [], out, h => ⟨h, fun x => by simp⟩
 | e :: es, out, h => by
  rw [List.foldl_cons]
  by_cases hw : withinB e s.1 s.2 = true
  ·have e1 : cutF1 s out e = insP e out := by unfold cutF1; rw [if_pos hw, putZ_ins h]
   have ih := cut_fold s es (insP e out) (insP_inc h)
   rw [e1]
   refine ⟨ih.1, fun x => ?_⟩
   rw [ih.2 x, mem_insP, List.mem_cons]
   constructor
   ·rintro ((rfl | h) | ⟨h, h2⟩)
    ·exact .inr ⟨.inl rfl, hw⟩
    ·exact .inl h
    ·exact .inr ⟨.inr h, h2⟩
   ·rintro (h | ⟨rfl | h, h2⟩)
    ·exact .inl (.inr h)
    ·exact .inl (.inl rfl)
    ·exact .inr ⟨h, h2⟩
  ·have e1 : cutF1 s out e = out := if_neg hw
   have ih := cut_fold s es out h
   rw [e1]
   refine ⟨ih.1, fun x => ?_⟩
   rw [ih.2 x, List.mem_cons]
   constructor
   ·rintro (h | ⟨h, h2⟩)
    ·exact .inl h
    ·exact .inr ⟨.inr h, h2⟩
   ·rintro (h | ⟨rfl | h, h2⟩)
    ·exact .inl h
    ·exact absurd h2 hw
    ·exact .inr ⟨h, h2⟩
theorem cutR_inc (l : Sgs) (s : Sg) : Inc lessB (cutR l s) := (cut_fold s (ends2 l) [] List.Pairwise.nil).1
theorem mem_cutR {l : Sgs} {s : Sg} {x : Pt} : x ∈ cutR l s ↔ x ∈ ends2 l ∧ withinB x s.1 s.2 = true := by
 have := (cut_fold s (ends2 l) [] List.Pairwise.nil).2 x
 unfold cutR
 simpa using this
theorem cutTo_len (l : Sgs) (s : Sg) : ∀ i, i ≤ 2 * l.length → (cutTo l s i).length ≤ i
 | 0, _ => by simp [cutTo]
 | i + 1, h => by
  have ih := cutTo_len l s i (by omega)
  have hinc : Inc lessB (cutTo l s i) := (cut_fold s ((ends2 l).take i) [] List.Pairwise.nil).1
  rw [cutTo_snoc l s i (by omega)]
  unfold cutF1
  split
  ·rw [putZ_ins hinc]
   have : ∀ (p : Pt) (o : Pts), (insP p o).length ≤ o.length + 1 := by
    intro p o
    induction o with
    | nil => simp [insP]
    | cons a o ih => unfold insP; split <;> (try split) <;> simp <;> omega
   have := this (ptD (ends2 l) i) (cutTo l s i)
   omega
  ·omega
end
section
open Go.RowKit Go.Proofs.YtlmjciajpjdilaaGreatW.PrintLast

attribute [local go_sem high] eqPt eqSg
set_option maxRecDepth 100000 in
set_option maxHeartbeats 16000000 in
theorem ref20_cuts {ok : Nat → Prop} (l : Sgs) (A : Option Addr) (n c : Nat) (s : Sg) (w : World) (hr : Row Ty.sg ok w A l) (hn : n = l.length) (hlen : l.length ≤ 100000) :
  Calls Tryz.prog 112 #[.slice A n c, sgA s] w fun e w' => ∃ v, e = .returned v ∧ Own1 Ty.pt 24 w.heap.size w' v (cutR l s) ∧ Below w.heap.size w w' := by
 subst hn
 have HR := Lib.hid hr
 clear hr
 have hwl : IntKind.i64.wrap (2 * (l.length : Int)) = 2 * (l.length : Int) := IntWalk.i64_in _ (by omega)
 go_enter Tryz.func112, Tryz.ntmps112
 go_wp2
 go_loopw [5, 6] (fun v i wo => ∃ k : Nat, k ≤ 2 * l.length ∧ i = .int .i64 k ∧ wo.heap[w.heap.size]? = some (.cells #[.int .i64 s.1.1, .int .i64 s.1.2, .int .i64 s.2.1, .int .i64 s.2.2] 32 (0, 0)) ∧ Hid (Below w.heap.size w wo) ∧ Hid (Own1 Ty.pt 24 (w.heap.size + 1) wo v (cutTo l s k))) (fun _ i _ => 2 * l.length - (intOf i).toNat)
 case atStart => exact ⟨0, Nat.zero_le _, rfl, heap_alloc_new _ _, below_alloc (Below.refl _ _) _, OwnR.nil _ _ _ _ _⟩
 case round =>
  obtain ⟨k, hk, rfl, HX, HB, HO⟩ := hrel
  obtain ⟨wo, hwo⟩ : ∃ wo, wo = wr := ⟨_, rfl⟩
  subst hwo
  by_cases hlt : k < 2 * l.length
  ·have q0 : decide ((k : Int) < 2 * (l.length : Int)) = true := decide_eq_true (by omega)
   obtain ⟨j, hj⟩ : ∃ j, j = k / 2 := ⟨_, rfl⟩
   have hjl : j < l.length := by omega
   have qd : Int.tdiv (k : Int) 2 = (j : Int) := by rw [Int.tdiv_eq_ediv_of_nonneg (by omega)]; omega
   have qd2 : (k : Int) / 2 = (j : Int) := by omega
   have HC := Lib.hid (cutTo_snoc l s k hlt)
   have HE := Lib.hid (ends2_get l k hlt)
   rw [← hj] at HE
   have hco := cutTo_len l s k hk
   have HRk := Lib.hid (HR.out.below HB.out)
   obtain ⟨ad, rfl, hx0, hx1, hx2, hx3⟩ := HRk.out.sg_at j hjl
   obtain ⟨x, hx⟩ : ∃ x, x = sgD l j := ⟨_, rfl⟩
   rw [← hx] at hx0 hx1 hx2 hx3 HE
   clear hx hj
   have sc0 := blk_cell HX 0 rfl
   have sc1 := blk_cell HX 1 rfl
   have sc2 := blk_cell HX 2 rfl
   have sc3 := blk_cell HX 3 rfl
   have hsx := lt_of_block HX
   have hbl := World.block_lt_of_cell? _ _ hx0
   have hkl := Lib.hid hlt
   have hx3' : wo.cell? ⟨(ad.add (j * 4)).block, (ad.add (j * 4)).off + 2 + 1, none⟩ = some (.int .i64 x.2.2) := hx3
   by_cases hp : k % 2 = 1
   ·have e1 : (Int.tmod (k : Int) 2 == 1) = true := by rw [show (2 : Int) = ((2 : Nat) : Int) from rfl, ← Int.ofNat_tmod, hp]; rfl
    have e2 : ((k : Int) % 2 == 1) = true := by simp; omega
    have HE1 : Hid (ptD (ends2 l) k = x.2) := HE.out.trans (if_pos hp)
    clear hp HE
    go_wp2_with fail
    generalize x.2 = p at *
    clear hx0 hx1 hx2 hx3 hx3' HRk sc0 sc1 sc2 sc3 hbl
    refine (ref09_Within p s.1 s.2 _).mono ?_
    rintro e w1 ⟨rfl, hb1⟩
    have BR1 : Below wo.heap.size wo w1 := (by repeat (first | exact Below.refl _ _ | apply below_alloc | apply below_drewN | apply below_drew | (refine below_set2 ?_ ?_; (first | (simp; done) | (simp; omega))) | (refine below_step ?_ hb1)))
    have HP0 : w1.heap[wo.heap.size]? = some (.cells #[.int .i64 p.1, .int .i64 p.2] 24 (0, 0)) := blk_below (heap_alloc_new _ _) hb1
    have HX1 := blk_below HX BR1
    have HB0 := Lib.hid (below_step HB.out BR1)
    have HO0 := Lib.hid (Own1.below HO.out BR1)
    have hzo := HB.out.size
    have HXH := Lib.hid HX
    clear hb1 HX
    cases hw : withinB p s.1 s.2
    ·have HT : Hid (cutTo l s (k + 1) = cutTo l s k) := HC.out.trans (by rw [HE1.out]; exact if_neg (by rw [hw]; decide))
     clear hw HC HE1
     go_wp2
     go_roundw
     case rel => exact ⟨k + 1, by omega, by go_num, HX1, HB0.out, by rw [HT.out]; exact HO0.out⟩
     case measure => simp [intOf]; omega
    ·have HT : Hid (cutTo l s (k + 1) = putZ p (cutTo l s k)) := HC.out.trans (by rw [HE1.out]; exact if_pos hw)
     clear hw HC HE1
     obtain ⟨A5, c5, hv5, hl5, hr5⟩ := HO.out.reads
     subst hv5
     have HOUT := Lib.hid hr5
     clear hr5
     obtain ⟨out, hout⟩ : ∃ out, out = cutTo l s k := ⟨_, rfl⟩
     rw [← hout] at HT HO HO0 HOUT hco hl5
     rw [← hout]
     clear hout
     have hol : out.length ≤ 200000 := by omega
     have HX1' := Lib.hid HX1
     clear hlt HX1 q0 qd qd2
     go_wp2
     go_loopw [8, 9, 10] (fun m b i wr => ∃ t : Nat, t ≤ out.length ∧ i = .int .i64 t ∧ b = .bool (putSt p out t).2 ∧ wr.heap[wo.heap.size]? = some (.cells #[.int .i64 p.1, .int .i64 p.2] 24 (0, 0)) ∧ Hid (Below wo.heap.size wo wr) ∧ Hid (Own1 Ty.pt 24 (wo.heap.size + 1) wr m (putSt p out t).1)) (fun _ _ i _ => out.length - (intOf i).toNat)
     case atStart => exact ⟨0, Nat.zero_le _, rfl, rfl, HP0, BR1, OwnR.nil _ _ _ _ _⟩
     case round =>
      obtain ⟨t, ht, rfl, rfl, HP, HBi, HM⟩ := hrel
      have hml := putSt_len p out t ht
      have zi := HBi.out.size
      have hpi := lt_of_block HP
      have pc0 := blk_cell HP 0 rfl
      have pc1 := blk_cell HP 1 rfl
      by_cases htl : t < out.length
      ·obtain ⟨ao, hao, oc0, oc1⟩ := (HOUT.out.below HBi.out).pt_at t htl
       subst hao
       have HS := Lib.hid (putSt_snoc p out t htl)
       obtain ⟨o, ho⟩ : ∃ o, o = ptD out t := ⟨_, rfl⟩
       rw [← ho] at oc0 oc1 HS
       have HOo := Lib.hid ho
       clear ho
       generalize putSt p out t = st at *
       obtain ⟨m0, b0⟩ := st
       simp only at hml
       cases b0
       ·cases hle : lessB o p
        ·have HS1 : Hid (putSt p out (t + 1) = putB p (m0 ++ [p], true) o) := HS.out.trans (by unfold putA; rw [if_pos ⟨rfl, hle⟩])
         have HLE : Hid (lessB (o.1, o.2) (p.1, p.2) = false) := hle
         clear hle HS
         go_wp2_with fail
         go_still_tail 8, (by kernel_rfl)
         change wpList _ _ _ _ _ wr.drew
         go_wp2_with fail
         (refine (ref08_Less o.1 o.2 p.1 p.2 _).mono ?_; rintro e W0 ⟨rfl, hb3⟩)
         rw [HLE.out]
         have BR : Below wr.heap.size wr W0 := (by repeat (first | exact Below.refl _ _ | apply below_alloc | apply below_drewN | apply below_drew | (refine below_set2 ?_ ?_; (first | (simp; done) | (simp; omega))) | (refine below_step ?_ hb3)))
         have HP0' := blk_below HP BR
         have HM0 := Lib.hid (Own1.below HM.out BR)
         have HB0' := Lib.hid (below_step HBi.out BR)
         have qc0 := blk_cell HP0' 0 rfl
         have qc1 := blk_cell HP0' 1 rfl
         have zz0 := BR.size
         clear hb3 BR HP HM HBi pc0 pc1 oc0 oc1
         go_wp2_with (at_builtin; refine app_one Ty.pt (W := W0) (wo.heap.size + 1) rfl _ _ 41 24 _ 16 rfl Tryz.underlying41 infoPt rfl (by decide) u8 _ p _ _ rfl rfl rfl rfl HM0.out (by omega) (by first | (simp; omega) | omega) ?_; intro v4 W1 HO4 hg4 hat4)
         have HM1 := Lib.hid (Own1.of HO4)
         have HP1 := (hg4.block _ (lt_of_block HP0') (fun e => by have := (OwnR.lt HM0.out _ e.symm).1; omega)).trans HP0'
         have HB1 := Lib.hid (show Below wo.heap.size wo W1 from below_own HB0'.out hg4 (fun b e => by have := (OwnR.lt HM0.out b e).1; omega))
         obtain ⟨ao', hao', oc0, oc1⟩ := (HOUT.out.below HB1.out).pt_at t htl
         cases hao'
         rw [← HOo.out] at oc0 oc1
         have pc0 := blk_cell HP1 0 rfl
         have pc1 := blk_cell HP1 1 rfl
         have zz1 := hg4.size
         clear HO4 hg4 hat4 HP0' HM0 HB0' qc0 qc1
         by_cases hq : o = p
         ·have hd := (ptB o p).trans (decide_eq_true hq)
          have HT : Hid (putSt p out (t + 1) = ((m0 ++ [p]), true)) := HS1.out.trans (by unfold putB; rw [if_pos hq])
          clear hq HS1
          go_wp2_with fail
          go_quiet (fail)
          have BR : Below W1.heap.size W1 (W1.drewN nq) := bq
          have HP2 := blk_below HP1 BR
          have HM2 := Lib.hid (Own1.below HM1.out BR)
          have HB2 := Lib.hid (show Below wo.heap.size wo (W1.drewN nq) from (by repeat (first | exact Below.refl _ _ | apply below_alloc | apply below_drewN | apply below_drew | (refine below_set2 ?_ ?_; (first | (simp; done) | (simp; omega))) | (refine below_step ?_ HB1.out))))
          clear BR HP1 HM1 HB1 pc0 pc1 oc0 oc1
          go_wp2
          go_roundw
          case rel => exact ⟨t + 1, by omega, by go_num, by rw [HT.out], HP2, HB2.out, by rw [HT.out]; exact HM2.out⟩
          case measure => simp [intOf]; omega
         ·have hd := (ptB o p).trans (decide_eq_false hq)
          have HT : Hid (putSt p out (t + 1) = ((m0 ++ [p]) ++ [o], true)) := HS1.out.trans (by unfold putB; rw [if_neg hq])
          clear hq HS1
          go_wp2_with fail
          go_quiet (fail)
          have BR : Below W1.heap.size W1 (W1.drewN nq) := bq
          obtain ⟨W2, hW2⟩ : ∃ W2, W2 = W1.drewN nq := ⟨_, rfl⟩
          rw [← hW2] at BR ⊢
          have HP2 := blk_below HP1 BR
          have HM2 := Lib.hid (Own1.below HM1.out BR)
          have HB2 := Lib.hid (below_step HB1.out BR)
          have od0 := cell_below BR oc0
          have od1 := cell_below BR oc1
          have zz2 := BR.size
          clear hW2 BR HP1 HM1 HB1 pc0 pc1 oc0 oc1
          go_wp2_with (at_builtin; refine app_one Ty.pt (W := W2) (wo.heap.size + 1) rfl _ _ 41 24 _ 16 rfl Tryz.underlying41 infoPt rfl (by decide) v4 _ o _ _ rfl rfl rfl rfl HM2.out (by omega) (by first | (simp; omega) | omega) ?_; intro v5 w5 HO5 hg5 hat5)
          have HM5 := Lib.hid (Own1.of HO5)
          have HP5 := (hg5.block _ (lt_of_block HP2) (fun e => by have := (OwnR.lt HM2.out _ e.symm).1; omega)).trans HP2
          have HB5 := Lib.hid (show Below wo.heap.size wo w5 from below_own HB2.out hg5 (fun b e => by have := (OwnR.lt HM2.out b e).1; omega))
          clear HO5 hg5 hat5 HP2 HM2 HB2 od0 od1
          go_wp2
          go_roundw
          case rel => exact ⟨t + 1, by omega, by go_num, by rw [HT.out], HP5, HB5.out, by rw [HT.out]; exact HM5.out⟩
          case measure => simp [intOf]; omega
        ·have HS1 : Hid (putSt p out (t + 1) = putB p (m0, false) o) := HS.out.trans (by unfold putA; rw [if_neg (by rw [hle]; simp)])
         have HLE : Hid (lessB (o.1, o.2) (p.1, p.2) = true) := hle
         clear hle HS
         go_wp2_with fail
         go_still_tail 8, (by kernel_rfl)
         change wpList _ _ _ _ _ wr.drew
         go_wp2_with fail
         (refine (ref08_Less o.1 o.2 p.1 p.2 _).mono ?_; rintro e W1 ⟨rfl, hb3⟩)
         rw [HLE.out]
         have BR : Below wr.heap.size wr W1 := (by repeat (first | exact Below.refl _ _ | apply below_alloc | apply below_drewN | apply below_drew | (refine below_set2 ?_ ?_; (first | (simp; done) | (simp; omega))) | (refine below_step ?_ hb3)))
         have HP1 := blk_below HP BR
         have HM1 := Lib.hid (Own1.below HM.out BR)
         have HB1 := Lib.hid (below_step HBi.out BR)
         have oe0 := cell_below BR oc0
         have oe1 := cell_below BR oc1
         clear pc0 pc1 oc0 oc1
         have oc0 := oe0
         have oc1 := oe1
         have pc0 := blk_cell HP1 0 rfl
         have pc1 := blk_cell HP1 1 rfl
         have zz0 := BR.size
         clear hb3 BR HP HM HBi oe0 oe1
         by_cases hq : o = p
         ·have hd := (ptB o p).trans (decide_eq_true hq)
          have HT : Hid (putSt p out (t + 1) = (m0, false)) := HS1.out.trans (by unfold putB; rw [if_pos hq])
          clear hq HS1
          go_wp2_with fail
          go_quiet (fail)
          have BR : Below W1.heap.size W1 (W1.drewN nq) := bq
          have HP2 := blk_below HP1 BR
          have HM2 := Lib.hid (Own1.below HM1.out BR)
          have HB2 := Lib.hid (show Below wo.heap.size wo (W1.drewN nq) from (by repeat (first | exact Below.refl _ _ | apply below_alloc | apply below_drewN | apply below_drew | (refine below_set2 ?_ ?_; (first | (simp; done) | (simp; omega))) | (refine below_step ?_ HB1.out))))
          clear BR HP1 HM1 HB1 pc0 pc1 oc0 oc1
          go_wp2
          go_roundw
          case rel => exact ⟨t + 1, by omega, by go_num, by rw [HT.out], HP2, HB2.out, by rw [HT.out]; exact HM2.out⟩
          case measure => simp [intOf]; omega
         ·have hd := (ptB o p).trans (decide_eq_false hq)
          have HT : Hid (putSt p out (t + 1) = (m0 ++ [o], false)) := HS1.out.trans (by unfold putB; rw [if_neg hq])
          clear hq HS1
          go_wp2_with fail
          go_quiet (fail)
          have BR : Below W1.heap.size W1 (W1.drewN nq) := bq
          obtain ⟨W2, hW2⟩ : ∃ W2, W2 = W1.drewN nq := ⟨_, rfl⟩
          rw [← hW2] at BR ⊢
          have HP2 := blk_below HP1 BR
          have HM2 := Lib.hid (Own1.below HM1.out BR)
          have HB2 := Lib.hid (below_step HB1.out BR)
          have od0 := cell_below BR oc0
          have od1 := cell_below BR oc1
          have zz2 := BR.size
          clear hW2 BR HP1 HM1 HB1 pc0 pc1 oc0 oc1
          go_wp2_with (at_builtin; refine app_one Ty.pt (W := W2) (wo.heap.size + 1) rfl _ _ 41 24 _ 16 rfl Tryz.underlying41 infoPt rfl (by decide) u8 _ o _ _ rfl rfl rfl rfl HM2.out (by omega) (by first | (simp; omega) | omega) ?_; intro v5 w5 HO5 hg5 hat5)
          have HM5 := Lib.hid (Own1.of HO5)
          have HP5 := (hg5.block _ (lt_of_block HP2) (fun e => by have := (OwnR.lt HM2.out _ e.symm).1; omega)).trans HP2
          have HB5 := Lib.hid (show Below wo.heap.size wo w5 from below_own HB2.out hg5 (fun b e => by have := (OwnR.lt HM2.out b e).1; omega))
          clear HO5 hg5 hat5 HP2 HM2 HB2 od0 od1
          go_wp2
          go_roundw
          case rel => exact ⟨t + 1, by omega, by go_num, by rw [HT.out], HP5, HB5.out, by rw [HT.out]; exact HM5.out⟩
          case measure => simp [intOf]; omega
       ·have HS1 : Hid (putSt p out (t + 1) = putB p (m0, true) o) := HS.out.trans (by unfold putA; rw [if_neg (by simp)])
        clear HS
        go_wp2_with fail
        go_quiet (fail)
        have BR : Below wr.heap.size wr (wr.drewN nq) := bq
        obtain ⟨W1, hW1⟩ : ∃ W1, W1 = wr.drewN nq := ⟨_, rfl⟩
        rw [← hW1] at BR ⊢
        have HP1 := blk_below HP BR
        have HM1 := Lib.hid (Own1.below HM.out BR)
        have HB1 := Lib.hid (below_step HBi.out BR)
        have oe0 := cell_below BR oc0
        have oe1 := cell_below BR oc1
        clear pc0 pc1 oc0 oc1
        have oc0 := oe0
        have oc1 := oe1
        have pc0 := blk_cell HP1 0 rfl
        have pc1 := blk_cell HP1 1 rfl
        have zz0 := BR.size
        clear hW1 BR HP HM HBi oe0 oe1
        by_cases hq : o = p
        ·have hd := (ptB o p).trans (decide_eq_true hq)
         have HT : Hid (putSt p out (t + 1) = (m0, true)) := HS1.out.trans (by unfold putB; rw [if_pos hq])
         clear hq HS1
         go_wp2_with fail
         go_quiet (fail)
         have BR : Below W1.heap.size W1 (W1.drewN nq) := bq
         have HP2 := blk_below HP1 BR
         have HM2 := Lib.hid (Own1.below HM1.out BR)
         have HB2 := Lib.hid (show Below wo.heap.size wo (W1.drewN nq) from (by repeat (first | exact Below.refl _ _ | apply below_alloc | apply below_drewN | apply below_drew | (refine below_set2 ?_ ?_; (first | (simp; done) | (simp; omega))) | (refine below_step ?_ HB1.out))))
         clear BR HP1 HM1 HB1 pc0 pc1 oc0 oc1
         go_wp2
         go_roundw
         case rel => exact ⟨t + 1, by omega, by go_num, by rw [HT.out], HP2, HB2.out, by rw [HT.out]; exact HM2.out⟩
         case measure => simp [intOf]; omega
        ·have hd := (ptB o p).trans (decide_eq_false hq)
         have HT : Hid (putSt p out (t + 1) = (m0 ++ [o], true)) := HS1.out.trans (by unfold putB; rw [if_neg hq])
         clear hq HS1
         go_wp2_with fail
         go_quiet (fail)
         have BR : Below W1.heap.size W1 (W1.drewN nq) := bq
         obtain ⟨W2, hW2⟩ : ∃ W2, W2 = W1.drewN nq := ⟨_, rfl⟩
         rw [← hW2] at BR ⊢
         have HP2 := blk_below HP1 BR
         have HM2 := Lib.hid (Own1.below HM1.out BR)
         have HB2 := Lib.hid (below_step HB1.out BR)
         have od0 := cell_below BR oc0
         have od1 := cell_below BR oc1
         have zz2 := BR.size
         clear hW2 BR HP1 HM1 HB1 pc0 pc1 oc0 oc1
         go_wp2_with (at_builtin; refine app_one Ty.pt (W := W2) (wo.heap.size + 1) rfl _ _ 41 24 _ 16 rfl Tryz.underlying41 infoPt rfl (by decide) u8 _ o _ _ rfl rfl rfl rfl HM2.out (by omega) (by first | (simp; omega) | omega) ?_; intro v5 w5 HO5 hg5 hat5)
         have HM5 := Lib.hid (Own1.of HO5)
         have HP5 := (hg5.block _ (lt_of_block HP2) (fun e => by have := (OwnR.lt HM2.out _ e.symm).1; omega)).trans HP2
         have HB5 := Lib.hid (show Below wo.heap.size wo w5 from below_own HB2.out hg5 (fun b e => by have := (OwnR.lt HM2.out b e).1; omega))
         clear HO5 hg5 hat5 HP2 HM2 HB2 od0 od1
         go_wp2
         go_roundw
         case rel => exact ⟨t + 1, by omega, by go_num, by rw [HT.out], HP5, HB5.out, by rw [HT.out]; exact HM5.out⟩
         case measure => simp [intOf]; omega
      ·obtain rfl : t = out.length := by omega
       have HZ := Lib.hid (putSt_end p out)
       generalize putSt p out out.length = st at *
       obtain ⟨m0, b0⟩ := st
       simp only at hml
       have HXi := Lib.hid (blk_below HXH.out HBi.out)
       have hkk : k < 2 * l.length := hkl.out
       have HBw := Lib.hid (below_step HB.out HBi.out)
       cases b0
       ·have HZ1 : Hid (putZ p out = m0 ++ [p]) := HZ.out.trans (if_neg (by simp))
        clear HZ
        go_wp2_with (at_builtin; refine app_one Ty.pt (W := wr) (wo.heap.size + 1) rfl _ _ 41 24 _ 16 rfl Tryz.underlying41 infoPt rfl (by decide) u8 _ p _ _ rfl rfl rfl rfl HM.out (by omega) (by first | (simp; omega) | omega) ?_; intro v5 w5 HO5 hg5 hat5)
        have HM5 := Lib.hid (Own1.base (Own1.of HO5) (show w.heap.size + 1 ≤ wo.heap.size + 1 by omega))
        have HX5 := (hg5.block _ (lt_of_block HXi.out) (fun e => by have := (OwnR.lt HM.out _ e.symm).1; omega)).trans HXi.out
        have HB5 := Lib.hid (show Below w.heap.size w w5 from below_own HBw.out hg5 (fun b e => by have := (OwnR.lt HM.out b e).1; omega))
        clear HO5 hg5 hat5 HP HM HBi pc0 pc1
        go_wp2
        go_roundw
        case rel => exact ⟨k + 1, by omega, by go_num, HX5, HB5.out, by rw [HT.out, HZ1.out]; exact HM5.out⟩
        case measure => simp [intOf]; omega
       ·have HZ1 : Hid (putZ p out = m0) := HZ.out.trans (if_pos rfl)
        have HM5 := Lib.hid (Own1.base HM.out (show w.heap.size + 1 ≤ wo.heap.size + 1 by omega))
        clear HZ HP HM HBi pc0 pc1
        go_wp2
        go_roundw
        case rel => exact ⟨k + 1, by omega, by go_num, HXi.out, HBw.out, by rw [HT.out, HZ1.out]; exact HM5.out⟩
        case measure => simp [intOf]; omega
   ·have e1 : (Int.tmod (k : Int) 2 == 1) = false := by
     rw [show (2 : Int) = ((2 : Nat) : Int) from rfl, ← Int.ofNat_tmod, beq_eq_false_iff_ne]; omega
    have e2 : ((k : Int) % 2 == 1) = false := by rw [beq_eq_false_iff_ne]; omega
    have HE1 : Hid (ptD (ends2 l) k = x.1) := HE.out.trans (if_neg hp)
    clear hp HE
    go_wp2_with fail
    generalize x.1 = p at *
    clear hx0 hx1 hx2 hx3 hx3' HRk sc0 sc1 sc2 sc3 hbl
    refine (ref09_Within p s.1 s.2 _).mono ?_
    rintro e w1 ⟨rfl, hb1⟩
    have BR1 : Below wo.heap.size wo w1 := (by repeat (first | exact Below.refl _ _ | apply below_alloc | apply below_drewN | apply below_drew | (refine below_set2 ?_ ?_; (first | (simp; done) | (simp; omega))) | (refine below_step ?_ hb1)))
    have HP0 : w1.heap[wo.heap.size]? = some (.cells #[.int .i64 p.1, .int .i64 p.2] 24 (0, 0)) := blk_below (heap_alloc_new _ _) hb1
    have HX1 := blk_below HX BR1
    have HB0 := Lib.hid (below_step HB.out BR1)
    have HO0 := Lib.hid (Own1.below HO.out BR1)
    have hzo := HB.out.size
    have HXH := Lib.hid HX
    clear hb1 HX
    cases hw : withinB p s.1 s.2
    ·have HT : Hid (cutTo l s (k + 1) = cutTo l s k) := HC.out.trans (by rw [HE1.out]; exact if_neg (by rw [hw]; decide))
     clear hw HC HE1
     go_wp2
     go_roundw
     case rel => exact ⟨k + 1, by omega, by go_num, HX1, HB0.out, by rw [HT.out]; exact HO0.out⟩
     case measure => simp [intOf]; omega
    ·have HT : Hid (cutTo l s (k + 1) = putZ p (cutTo l s k)) := HC.out.trans (by rw [HE1.out]; exact if_pos hw)
     clear hw HC HE1
     obtain ⟨A5, c5, hv5, hl5, hr5⟩ := HO.out.reads
     subst hv5
     have HOUT := Lib.hid hr5
     clear hr5
     obtain ⟨out, hout⟩ : ∃ out, out = cutTo l s k := ⟨_, rfl⟩
     rw [← hout] at HT HO HO0 HOUT hco hl5
     rw [← hout]
     clear hout
     have hol : out.length ≤ 200000 := by omega
     have HX1' := Lib.hid HX1
     clear hlt HX1 q0 qd qd2
     go_wp2
     go_loopw [8, 9, 10] (fun m b i wr => ∃ t : Nat, t ≤ out.length ∧ i = .int .i64 t ∧ b = .bool (putSt p out t).2 ∧ wr.heap[wo.heap.size]? = some (.cells #[.int .i64 p.1, .int .i64 p.2] 24 (0, 0)) ∧ Hid (Below wo.heap.size wo wr) ∧ Hid (Own1 Ty.pt 24 (wo.heap.size + 1) wr m (putSt p out t).1)) (fun _ _ i _ => out.length - (intOf i).toNat)
     case atStart => exact ⟨0, Nat.zero_le _, rfl, rfl, HP0, BR1, OwnR.nil _ _ _ _ _⟩
     case round =>
      obtain ⟨t, ht, rfl, rfl, HP, HBi, HM⟩ := hrel
      have hml := putSt_len p out t ht
      have zi := HBi.out.size
      have hpi := lt_of_block HP
      have pc0 := blk_cell HP 0 rfl
      have pc1 := blk_cell HP 1 rfl
      by_cases htl : t < out.length
      ·obtain ⟨ao, hao, oc0, oc1⟩ := (HOUT.out.below HBi.out).pt_at t htl
       subst hao
       have HS := Lib.hid (putSt_snoc p out t htl)
       obtain ⟨o, ho⟩ : ∃ o, o = ptD out t := ⟨_, rfl⟩
       rw [← ho] at oc0 oc1 HS
       have HOo := Lib.hid ho
       clear ho
       generalize putSt p out t = st at *
       obtain ⟨m0, b0⟩ := st
       simp only at hml
       cases b0
       ·cases hle : lessB o p
        ·have HS1 : Hid (putSt p out (t + 1) = putB p (m0 ++ [p], true) o) := HS.out.trans (by unfold putA; rw [if_pos ⟨rfl, hle⟩])
         have HLE : Hid (lessB (o.1, o.2) (p.1, p.2) = false) := hle
         clear hle HS
         go_wp2_with fail
         go_still_tail 8, (by kernel_rfl)
         change wpList _ _ _ _ _ wr.drew
         go_wp2_with fail
         (refine (ref08_Less o.1 o.2 p.1 p.2 _).mono ?_; rintro e W0 ⟨rfl, hb3⟩)
         rw [HLE.out]
         have BR : Below wr.heap.size wr W0 := (by repeat (first | exact Below.refl _ _ | apply below_alloc | apply below_drewN | apply below_drew | (refine below_set2 ?_ ?_; (first | (simp; done) | (simp; omega))) | (refine below_step ?_ hb3)))
         have HP0' := blk_below HP BR
         have HM0 := Lib.hid (Own1.below HM.out BR)
         have HB0' := Lib.hid (below_step HBi.out BR)
         have qc0 := blk_cell HP0' 0 rfl
         have qc1 := blk_cell HP0' 1 rfl
         have zz0 := BR.size
         clear hb3 BR HP HM HBi pc0 pc1 oc0 oc1
         go_wp2_with (at_builtin; refine app_one Ty.pt (W := W0) (wo.heap.size + 1) rfl _ _ 41 24 _ 16 rfl Tryz.underlying41 infoPt rfl (by decide) u8 _ p _ _ rfl rfl rfl rfl HM0.out (by omega) (by first | (simp; omega) | omega) ?_; intro v4 W1 HO4 hg4 hat4)
         have HM1 := Lib.hid (Own1.of HO4)
         have HP1 := (hg4.block _ (lt_of_block HP0') (fun e => by have := (OwnR.lt HM0.out _ e.symm).1; omega)).trans HP0'
         have HB1 := Lib.hid (show Below wo.heap.size wo W1 from below_own HB0'.out hg4 (fun b e => by have := (OwnR.lt HM0.out b e).1; omega))
         obtain ⟨ao', hao', oc0, oc1⟩ := (HOUT.out.below HB1.out).pt_at t htl
         cases hao'
         rw [← HOo.out] at oc0 oc1
         have pc0 := blk_cell HP1 0 rfl
         have pc1 := blk_cell HP1 1 rfl
         have zz1 := hg4.size
         clear HO4 hg4 hat4 HP0' HM0 HB0' qc0 qc1
         by_cases hq : o = p
         ·have hd := (ptB o p).trans (decide_eq_true hq)
          have HT : Hid (putSt p out (t + 1) = ((m0 ++ [p]), true)) := HS1.out.trans (by unfold putB; rw [if_pos hq])
          clear hq HS1
          go_wp2_with fail
          go_quiet (fail)
          have BR : Below W1.heap.size W1 (W1.drewN nq) := bq
          have HP2 := blk_below HP1 BR
          have HM2 := Lib.hid (Own1.below HM1.out BR)
          have HB2 := Lib.hid (show Below wo.heap.size wo (W1.drewN nq) from (by repeat (first | exact Below.refl _ _ | apply below_alloc | apply below_drewN | apply below_drew | (refine below_set2 ?_ ?_; (first | (simp; done) | (simp; omega))) | (refine below_step ?_ HB1.out))))
          clear BR HP1 HM1 HB1 pc0 pc1 oc0 oc1
          go_wp2
          go_roundw
          case rel => exact ⟨t + 1, by omega, by go_num, by rw [HT.out], HP2, HB2.out, by rw [HT.out]; exact HM2.out⟩
          case measure => simp [intOf]; omega
         ·have hd := (ptB o p).trans (decide_eq_false hq)
          have HT : Hid (putSt p out (t + 1) = ((m0 ++ [p]) ++ [o], true)) := HS1.out.trans (by unfold putB; rw [if_neg hq])
          clear hq HS1
          go_wp2_with fail
          go_quiet (fail)
          have BR : Below W1.heap.size W1 (W1.drewN nq) := bq
          obtain ⟨W2, hW2⟩ : ∃ W2, W2 = W1.drewN nq := ⟨_, rfl⟩
          rw [← hW2] at BR ⊢
          have HP2 := blk_below HP1 BR
          have HM2 := Lib.hid (Own1.below HM1.out BR)
          have HB2 := Lib.hid (below_step HB1.out BR)
          have od0 := cell_below BR oc0
          have od1 := cell_below BR oc1
          have zz2 := BR.size
          clear hW2 BR HP1 HM1 HB1 pc0 pc1 oc0 oc1
          go_wp2_with (at_builtin; refine app_one Ty.pt (W := W2) (wo.heap.size + 1) rfl _ _ 41 24 _ 16 rfl Tryz.underlying41 infoPt rfl (by decide) v4 _ o _ _ rfl rfl rfl rfl HM2.out (by omega) (by first | (simp; omega) | omega) ?_; intro v5 w5 HO5 hg5 hat5)
          have HM5 := Lib.hid (Own1.of HO5)
          have HP5 := (hg5.block _ (lt_of_block HP2) (fun e => by have := (OwnR.lt HM2.out _ e.symm).1; omega)).trans HP2
          have HB5 := Lib.hid (show Below wo.heap.size wo w5 from below_own HB2.out hg5 (fun b e => by have := (OwnR.lt HM2.out b e).1; omega))
          clear HO5 hg5 hat5 HP2 HM2 HB2 od0 od1
          go_wp2
          go_roundw
          case rel => exact ⟨t + 1, by omega, by go_num, by rw [HT.out], HP5, HB5.out, by rw [HT.out]; exact HM5.out⟩
          case measure => simp [intOf]; omega
        ·have HS1 : Hid (putSt p out (t + 1) = putB p (m0, false) o) := HS.out.trans (by unfold putA; rw [if_neg (by rw [hle]; simp)])
         have HLE : Hid (lessB (o.1, o.2) (p.1, p.2) = true) := hle
         clear hle HS
         go_wp2_with fail
         go_still_tail 8, (by kernel_rfl)
         change wpList _ _ _ _ _ wr.drew
         go_wp2_with fail
         (refine (ref08_Less o.1 o.2 p.1 p.2 _).mono ?_; rintro e W1 ⟨rfl, hb3⟩)
         rw [HLE.out]
         have BR : Below wr.heap.size wr W1 := (by repeat (first | exact Below.refl _ _ | apply below_alloc | apply below_drewN | apply below_drew | (refine below_set2 ?_ ?_; (first | (simp; done) | (simp; omega))) | (refine below_step ?_ hb3)))
         have HP1 := blk_below HP BR
         have HM1 := Lib.hid (Own1.below HM.out BR)
         have HB1 := Lib.hid (below_step HBi.out BR)
         have oe0 := cell_below BR oc0
         have oe1 := cell_below BR oc1
         clear pc0 pc1 oc0 oc1
         have oc0 := oe0
         have oc1 := oe1
         have pc0 := blk_cell HP1 0 rfl
         have pc1 := blk_cell HP1 1 rfl
         have zz0 := BR.size
         clear hb3 BR HP HM HBi oe0 oe1
         by_cases hq : o = p
         ·have hd := (ptB o p).trans (decide_eq_true hq)
          have HT : Hid (putSt p out (t + 1) = (m0, false)) := HS1.out.trans (by unfold putB; rw [if_pos hq])
          clear hq HS1
          go_wp2_with fail
          go_quiet (fail)
          have BR : Below W1.heap.size W1 (W1.drewN nq) := bq
          have HP2 := blk_below HP1 BR
          have HM2 := Lib.hid (Own1.below HM1.out BR)
          have HB2 := Lib.hid (show Below wo.heap.size wo (W1.drewN nq) from (by repeat (first | exact Below.refl _ _ | apply below_alloc | apply below_drewN | apply below_drew | (refine below_set2 ?_ ?_; (first | (simp; done) | (simp; omega))) | (refine below_step ?_ HB1.out))))
          clear BR HP1 HM1 HB1 pc0 pc1 oc0 oc1
          go_wp2
          go_roundw
          case rel => exact ⟨t + 1, by omega, by go_num, by rw [HT.out], HP2, HB2.out, by rw [HT.out]; exact HM2.out⟩
          case measure => simp [intOf]; omega
         ·have hd := (ptB o p).trans (decide_eq_false hq)
          have HT : Hid (putSt p out (t + 1) = (m0 ++ [o], false)) := HS1.out.trans (by unfold putB; rw [if_neg hq])
          clear hq HS1
          go_wp2_with fail
          go_quiet (fail)
          have BR : Below W1.heap.size W1 (W1.drewN nq) := bq
          obtain ⟨W2, hW2⟩ : ∃ W2, W2 = W1.drewN nq := ⟨_, rfl⟩
          rw [← hW2] at BR ⊢
          have HP2 := blk_below HP1 BR
          have HM2 := Lib.hid (Own1.below HM1.out BR)
          have HB2 := Lib.hid (below_step HB1.out BR)
          have od0 := cell_below BR oc0
          have od1 := cell_below BR oc1
          have zz2 := BR.size
          clear hW2 BR HP1 HM1 HB1 pc0 pc1 oc0 oc1
          go_wp2_with (at_builtin; refine app_one Ty.pt (W := W2) (wo.heap.size + 1) rfl _ _ 41 24 _ 16 rfl Tryz.underlying41 infoPt rfl (by decide) u8 _ o _ _ rfl rfl rfl rfl HM2.out (by omega) (by first | (simp; omega) | omega) ?_; intro v5 w5 HO5 hg5 hat5)
          have HM5 := Lib.hid (Own1.of HO5)
          have HP5 := (hg5.block _ (lt_of_block HP2) (fun e => by have := (OwnR.lt HM2.out _ e.symm).1; omega)).trans HP2
          have HB5 := Lib.hid (show Below wo.heap.size wo w5 from below_own HB2.out hg5 (fun b e => by have := (OwnR.lt HM2.out b e).1; omega))
          clear HO5 hg5 hat5 HP2 HM2 HB2 od0 od1
          go_wp2
          go_roundw
          case rel => exact ⟨t + 1, by omega, by go_num, by rw [HT.out], HP5, HB5.out, by rw [HT.out]; exact HM5.out⟩
          case measure => simp [intOf]; omega
       ·have HS1 : Hid (putSt p out (t + 1) = putB p (m0, true) o) := HS.out.trans (by unfold putA; rw [if_neg (by simp)])
        clear HS
        go_wp2_with fail
        go_quiet (fail)
        have BR : Below wr.heap.size wr (wr.drewN nq) := bq
        obtain ⟨W1, hW1⟩ : ∃ W1, W1 = wr.drewN nq := ⟨_, rfl⟩
        rw [← hW1] at BR ⊢
        have HP1 := blk_below HP BR
        have HM1 := Lib.hid (Own1.below HM.out BR)
        have HB1 := Lib.hid (below_step HBi.out BR)
        have oe0 := cell_below BR oc0
        have oe1 := cell_below BR oc1
        clear pc0 pc1 oc0 oc1
        have oc0 := oe0
        have oc1 := oe1
        have pc0 := blk_cell HP1 0 rfl
        have pc1 := blk_cell HP1 1 rfl
        have zz0 := BR.size
        clear hW1 BR HP HM HBi oe0 oe1
        by_cases hq : o = p
        ·have hd := (ptB o p).trans (decide_eq_true hq)
         have HT : Hid (putSt p out (t + 1) = (m0, true)) := HS1.out.trans (by unfold putB; rw [if_pos hq])
         clear hq HS1
         go_wp2_with fail
         go_quiet (fail)
         have BR : Below W1.heap.size W1 (W1.drewN nq) := bq
         have HP2 := blk_below HP1 BR
         have HM2 := Lib.hid (Own1.below HM1.out BR)
         have HB2 := Lib.hid (show Below wo.heap.size wo (W1.drewN nq) from (by repeat (first | exact Below.refl _ _ | apply below_alloc | apply below_drewN | apply below_drew | (refine below_set2 ?_ ?_; (first | (simp; done) | (simp; omega))) | (refine below_step ?_ HB1.out))))
         clear BR HP1 HM1 HB1 pc0 pc1 oc0 oc1
         go_wp2
         go_roundw
         case rel => exact ⟨t + 1, by omega, by go_num, by rw [HT.out], HP2, HB2.out, by rw [HT.out]; exact HM2.out⟩
         case measure => simp [intOf]; omega
        ·have hd := (ptB o p).trans (decide_eq_false hq)
         have HT : Hid (putSt p out (t + 1) = (m0 ++ [o], true)) := HS1.out.trans (by unfold putB; rw [if_neg hq])
         clear hq HS1
         go_wp2_with fail
         go_quiet (fail)
         have BR : Below W1.heap.size W1 (W1.drewN nq) := bq
         obtain ⟨W2, hW2⟩ : ∃ W2, W2 = W1.drewN nq := ⟨_, rfl⟩
         rw [← hW2] at BR ⊢
         have HP2 := blk_below HP1 BR
         have HM2 := Lib.hid (Own1.below HM1.out BR)
         have HB2 := Lib.hid (below_step HB1.out BR)
         have od0 := cell_below BR oc0
         have od1 := cell_below BR oc1
         have zz2 := BR.size
         clear hW2 BR HP1 HM1 HB1 pc0 pc1 oc0 oc1
         go_wp2_with (at_builtin; refine app_one Ty.pt (W := W2) (wo.heap.size + 1) rfl _ _ 41 24 _ 16 rfl Tryz.underlying41 infoPt rfl (by decide) u8 _ o _ _ rfl rfl rfl rfl HM2.out (by omega) (by first | (simp; omega) | omega) ?_; intro v5 w5 HO5 hg5 hat5)
         have HM5 := Lib.hid (Own1.of HO5)
         have HP5 := (hg5.block _ (lt_of_block HP2) (fun e => by have := (OwnR.lt HM2.out _ e.symm).1; omega)).trans HP2
         have HB5 := Lib.hid (show Below wo.heap.size wo w5 from below_own HB2.out hg5 (fun b e => by have := (OwnR.lt HM2.out b e).1; omega))
         clear HO5 hg5 hat5 HP2 HM2 HB2 od0 od1
         go_wp2
         go_roundw
         case rel => exact ⟨t + 1, by omega, by go_num, by rw [HT.out], HP5, HB5.out, by rw [HT.out]; exact HM5.out⟩
         case measure => simp [intOf]; omega
      ·obtain rfl : t = out.length := by omega
       have HZ := Lib.hid (putSt_end p out)
       generalize putSt p out out.length = st at *
       obtain ⟨m0, b0⟩ := st
       simp only at hml
       have HXi := Lib.hid (blk_below HXH.out HBi.out)
       have hkk : k < 2 * l.length := hkl.out
       have HBw := Lib.hid (below_step HB.out HBi.out)
       cases b0
       ·have HZ1 : Hid (putZ p out = m0 ++ [p]) := HZ.out.trans (if_neg (by simp))
        clear HZ
        go_wp2_with (at_builtin; refine app_one Ty.pt (W := wr) (wo.heap.size + 1) rfl _ _ 41 24 _ 16 rfl Tryz.underlying41 infoPt rfl (by decide) u8 _ p _ _ rfl rfl rfl rfl HM.out (by omega) (by first | (simp; omega) | omega) ?_; intro v5 w5 HO5 hg5 hat5)
        have HM5 := Lib.hid (Own1.base (Own1.of HO5) (show w.heap.size + 1 ≤ wo.heap.size + 1 by omega))
        have HX5 := (hg5.block _ (lt_of_block HXi.out) (fun e => by have := (OwnR.lt HM.out _ e.symm).1; omega)).trans HXi.out
        have HB5 := Lib.hid (show Below w.heap.size w w5 from below_own HBw.out hg5 (fun b e => by have := (OwnR.lt HM.out b e).1; omega))
        clear HO5 hg5 hat5 HP HM HBi pc0 pc1
        go_wp2
        go_roundw
        case rel => exact ⟨k + 1, by omega, by go_num, HX5, HB5.out, by rw [HT.out, HZ1.out]; exact HM5.out⟩
        case measure => simp [intOf]; omega
       ·have HZ1 : Hid (putZ p out = m0) := HZ.out.trans (if_pos rfl)
        have HM5 := Lib.hid (Own1.base HM.out (show w.heap.size + 1 ≤ wo.heap.size + 1 by omega))
        clear HZ HP HM HBi pc0 pc1
        go_wp2
        go_roundw
        case rel => exact ⟨k + 1, by omega, by go_num, HXi.out, HBw.out, by rw [HT.out, HZ1.out]; exact HM5.out⟩
        case measure => simp [intOf]; omega
  ·obtain rfl : k = 2 * l.length := by omega
   have HF := Lib.hid (cutTo_end l s)
   go_wp2
   go_ret
   exact ⟨_, rfl, by rw [← HF.out]; exact Own1.base HO.out (Nat.le_succ _), HB.out⟩
end
end Go.Proofs.YtlmjciajpjdilaaGreat
