/- Contracts of ref21.in and ref21.LeftInside. Plain law: in a clean set the reference's sides of a segment are the code's. Plain law: the reference's division of a ring, cut at its first repeated point, has the parts of the code's. Plain law: the reference's loop over the unused segments walks the rings that the code walks. Contracts of ref11.Less and ref11.Canon. -/
import Derived.Test.YtlmjciajpjdilaaGreatKR16
import Derived.Test.YtlmjciajpjdilaaGreatKR14
import Derived.Test.YtlmjciajpjdilaaGreatKR12
import Derived.Test.YtlmjciajpjdilaaGreatKR15
import Derived.Test.YtlmjciajpjdilaaGreatKR13
import Derived.Test.YtlmjciajpjdilaaGreatKR8
namespace Go.Proofs.YtlmjciajpjdilaaGreat
set_option linter.unusedVariables false
set_option linter.unusedSimpArgs false
section
open Go.RowKit Go.Proofs.YtlmjciajpjdilaaGreatW.PrintLast

attribute [local go_sem high] eqPt eqSg
set_option maxRecDepth 100000 in
set_option maxHeartbeats 1000000 in
theorem ref21_in {ok : Nat → Prop} (l : Sgs) (A : Option Addr) (n c : Nat) (s : Sg) (w : World) (hr : Row Ty.sg ok w A l) (hn : n = l.length) :
  Calls Tryz.prog 56 #[.slice A n c, sgA s] w fun e w' => e = .returned (.bool (decide (s ∈ l))) ∧ Below w.heap.size w w' := by
 subst hn
 have hmx := hr.len
 have HR := Lib.hid hr
 clear hr
 obtain ⟨z, hz⟩ : ∃ z, z = decide (s ∈ l) := ⟨_, rfl⟩
 rw [← hz]
 have HZ : Hid (z = decide (s ∈ l)) := hz
 clear hz
 simp only [sgA]
 go_enter Tryz.func56, Tryz.ntmps56
 go_wp2
 go_loopw [5] (fun i wr => ∃ k : Nat, k ≤ l.length ∧ i = .int .i64 k ∧ wr.heap[w.heap.size]? = some (.cells #[.int .i64 s.1.1, .int .i64 s.1.2, .int .i64 s.2.1, .int .i64 s.2.2] 32 (0, 0)) ∧ Hid (Below w.heap.size w wr) ∧ Hid (s ∉ l.take k)) (fun i _ => l.length - (intOf i).toNat)
 case atStart => exact ⟨0, Nat.zero_le _, rfl, heap_alloc_new _ _, below_alloc (Below.refl _ _) _, by show s ∉ l.take 0; simp⟩
 case round =>
  obtain ⟨k, hk, rfl, HX, HB, HN⟩ := hrel
  have hsz := lt_of_block HX
  have pc0 := blk_cell HX 0 rfl
  have pc1 := blk_cell HX 1 rfl
  have pc2 := blk_cell HX 2 rfl
  have pc3 := blk_cell HX 3 rfl
  by_cases hlt : k < l.length
  ·obtain ⟨ad, rfl, hx0, hx1, hx2, hx3⟩ := (HR.out.below HB.out).sg_at k hlt
   have hx3' : wr.cell? ⟨(ad.add (k * 4)).block, (ad.add (k * 4)).off + 2 + 1, none⟩ = some (.int .i64 (sgD l k).2.2) := hx3
   have HM : Hid (sgD l k ∈ l) := sgD_mem hlt
   have HS : Hid (l.take (k + 1) = l.take k ++ [sgD l k]) := take_snoc l k ((0, 0), (0, 0)) hlt
   generalize sgD l k = x at *
   by_cases h1 : x = s
   ·have hd := (sgB x s).trans (decide_eq_true h1)
    have HR1 : Hid (z = true) := HZ.out.trans (decide_eq_true (h1 ▸ HM.out))
    clear h1 HM HS
    go_wp2_with fail
    go_quiet (fail)
    go_wp2
    go_ret
    exact ⟨ret_bool HR1.out.symm, (by repeat (first | exact Below.refl _ _ | apply below_alloc | apply below_drewN | apply below_drew | (refine below_set2 ?_ ?_; (first | (simp; done) | (simp; omega))) | (refine below_step ?_ HB.out)))⟩
   ·have hd := (sgB x s).trans (decide_eq_false h1)
    have HN2 : Hid (s ∉ l.take (k + 1)) := by
     show s ∉ _
     rw [HS.out, List.mem_append, List.mem_singleton]
     rintro (h | h)
     ·exact HN.out h
     ·exact h1 h.symm
    clear h1 HM HS
    go_wp2_with fail
    go_quiet (fail)
    have BR : Below wr.heap.size wr (wr.drewN nq) := bq
    have HX1 := blk_below HX BR
    clear BR
    go_wp2
    go_roundw
    case rel => exact ⟨k + 1, by omega, by go_num, HX1, (by repeat (first | exact Below.refl _ _ | apply below_alloc | apply below_drewN | apply below_drew | (refine below_set2 ?_ ?_; (first | (simp; done) | (simp; omega))) | (refine below_step ?_ HB.out))), HN2⟩
    case measure => simp [intOf]; omega
  ·obtain rfl : k = l.length := by omega
   have HR0 : Hid (z = false) := HZ.out.trans (decide_eq_false (by have := HN.out; rwa [List.take_length] at this))
   go_wp2
   go_ret
   exact ⟨ret_bool HR0.out.symm, HB.out⟩
def leftR (l : Sgs) (s : Sg) : Bool := if checkR l = 0 ∧ s ∈ uniqZ l then (sidesZ (uniqZ l) s).1 else false
set_option maxRecDepth 100000 in
set_option maxHeartbeats 1000000 in
theorem ref21_LeftInside {ok : Nat → Prop} (l : Sgs) (A : Option Addr) (n c : Nat) (s : Sg) (w : World) (hr : Row Ty.sg ok w A l) (hn : n = l.length) (hlen : l.length ≤ 600) :
  Calls Tryz.prog 17 #[.slice A n c, sgA s] w fun e w' => e = .returned (.bool (leftR l s)) ∧ Below w.heap.size w w' := by
 subst hn
 have HR := Lib.hid hr
 clear hr
 have CC := Lib.hid (fun W h => ref21_Check (ok := ok) l A l.length c W h rfl hlen)
 have CU := Lib.hid (fun W h => ref20_Unique (ok := ok) l A l.length c W h rfl (by omega))
 have HV := Lib.hid (uniq_V l)
 have hul := uniq_len l
 obtain ⟨z, hz⟩ : ∃ z, z = leftR l s := ⟨_, rfl⟩
 rw [← hz]
 have HZ : Hid (z = if checkR l = 0 ∧ s ∈ uniqZ l then (sidesZ (uniqZ l) s).1 else false) := hz
 clear hz
 generalize checkR l = cz at *
 generalize uniqZ l = u at *
 have HX0 : (w.alloc (.cells #[.int .i64 s.1.1, .int .i64 s.1.2, .int .i64 s.2.1, .int .i64 s.2.2] 32)).heap[w.heap.size]? = some (.cells #[.int .i64 s.1.1, .int .i64 s.1.2, .int .i64 s.2.1, .int .i64 s.2.2] 32 (0, 0)) := heap_alloc_new _ _
 by_cases h0 : cz = 0
 ·have q0 : (cz != 0) = false := by simp [h0]
  by_cases hm : s ∈ u
  ·have HZ1 : Hid (z = (sidesZ u s).1) := HZ.out.trans (if_pos ⟨h0, hm⟩)
   have qm : decide (s ∈ u) = true := decide_eq_true hm
   have HVs := HV.out s hm
   have CI := Lib.hid (fun W (A : Option Addr) (c : Nat) h => ref21_in (ok := fun _ => True) u A u.length c s W h rfl)
   have CS := Lib.hid (fun W (A : Option Addr) (c : Nat) h => ref21_Sides (ok := fun _ => True) u A u.length c s W h rfl HV.out HVs (by omega))
   rw [qm] at CI
   clear HZ h0 hm qm HVs
   generalize sidesZ u s = sz at *
   go_enter Tryz.func17, Tryz.ntmps17
   go_wp2_with fail
   obtain ⟨W0, hW0⟩ : ∃ W0, W0 = w.alloc (.cells #[.int .i64 s.1.1, .int .i64 s.1.2, .int .i64 s.2.1, .int .i64 s.2.2] 32) := ⟨_, rfl⟩
   rw [← hW0] at HX0 ⊢
   have HB0 : Hid (Below w.heap.size w W0) := by show Below _ _ _; rw [hW0]; exact below_alloc (Below.refl _ _) _
   clear hW0
   have HR0 := Lib.hid ((HR.out.below HB0.out).below (below_drew (Below.refl _ _)))
   have pc0 := blk_cell HX0 0 rfl
   have pc1 := blk_cell HX0 1 rfl
   have pc2 := blk_cell HX0 2 rfl
   have pc3 := blk_cell HX0 3 rfl
   refine start_ (n := 10) (S := fun w' => w'.cell? ⟨w.heap.size, 0, none⟩ = some (.int .i64 s.1.1) ∧ w'.cell? ⟨w.heap.size, 1, none⟩ = some (.int .i64 s.1.2) ∧ w'.cell? ⟨w.heap.size, 2, none⟩ = some (.int .i64 s.2.1) ∧ w'.cell? ⟨w.heap.size, 3, none⟩ = some (.int .i64 s.2.2)) (ds := []) #[Z,Z,Z,Z,Z,Z,Z,Z,Z,Z] (by kernel_rfl) rfl rfl ⟨pc0, pc1, pc2, pc3⟩ (fun hHeld => ?_)
   refine pure_ (i := 0) (N := some 7) (v := ?_) (a' := ?_) #[J,Z,Z,Z,Z,Z,Z,Z,Z,Z] rfl rfl (by kernel_rfl) (fun _ _ _ h => h) (Or.inl ⟨by rfl, ?_⟩) ?_ ?_
   rotate_left
   ·intro w'; go_simp; with_reducible rfl
   rotate_left
   ·simp only [Act.put, sA, sB, sC, i64_w, i32_w]; rfl
   refine one_ (i := 1) (N := some 8) #[J,J,Z,Z,Z,Z,Z,Z,Z,Z] rfl rfl (by kernel_rfl) (by decide) (fun K hK => ?_)
   refine goes_ Tryz.func10 (by kernel_rfl) rfl #[.slice A l.length c] (by rfl) rfl rfl (by simp only [List.map_toArray, List.map_cons, List.map_nil]; rfl) ?_
   with_reducible refine (CC.out _ HR0.out).mono ?_
   rintro e w1 ⟨rfl, hb1⟩
   refine ⟨_, rfl, ?_⟩
   have HR1 := Lib.hid (HR0.out.below hb1)
   have HX1 := blk_below (W := W0.drew) HX0 hb1
   refine hK.out _ _ ⟨blk_cell HX1 0 rfl, blk_cell HX1 1 rfl, blk_cell HX1 2 rfl, blk_cell HX1 3 rfl⟩ (fun hHeld => ?_)
   clear hK K
   refine norm_ (a' := ?_) ?_ ?_
   rotate_left
   ·show Act.put _ (some 8) _ = _
    simp only [Act.put, sA, sB, sC, i64_w, i32_w]; rfl
   refine pure_ (i := 2) (N := some 9) (v := ?_) (a' := ?_) #[J,J,J,Z,Z,Z,Z,Z,Z,Z] rfl rfl (by kernel_rfl) (fun _ _ _ h => h) (Or.inl ⟨by rfl, ?_⟩) ?_ ?_
   rotate_left
   ·intro w'; go_simp; with_reducible rfl
   rotate_left
   ·simp only [Act.put, sA, sB, sC, i64_w, i32_w]; rfl
   refine pure_ (i := 3) (N := some 10) (v := ?_) (a' := ?_) #[J,J,J,J,Z,Z,Z,Z,Z,Z] rfl rfl (by kernel_rfl) (fun _ _ _ h => h) (Or.inl ⟨by rfl, ?_⟩) ?_ ?_
   rotate_left
   ·intro w'; go_simp; with_reducible rfl
   rotate_left
   ·simp only [Act.put, sA, sB, sC, i64_w, i32_w]; rfl
   refine pure_ (i := 4) (N := some 11) (v := ?_) (a' := ?_) #[J,J,J,J,J,Z,Z,Z,Z,Z] rfl rfl (by kernel_rfl) (fun _ _ _ h => h) (Or.inl ⟨by rfl, ?_⟩) ?_ ?_
   rotate_left
   ·intro w'; go_simp; with_reducible rfl
   rotate_left
   ·simp only [Act.put, sA, sB, sC, i64_w, i32_w]; rfl
   refine take_ (i := 6) (N := some 13) (v := ?_) (a' := ?_) #[J,J,J,J,J,Z,J,Z,Z,Z] rfl rfl (by kernel_rfl) (fun _ _ _ h => h) (Or.inl ⟨by rfl, ?_⟩) hHeld ?_ ?_
   rotate_left
   ·rintro w' ⟨s0, s1, s2, s3⟩; go_simp; with_reducible rfl
   rotate_left
   ·simp only [Act.put, sA, sB, sC, i64_w, i32_w]; rfl
   refine one_ (i := 5) (N := some 12) #[J,J,J,J,J,J,J,Z,Z,Z] rfl rfl (by kernel_rfl) (by decide) (fun K hK => ?_)
   refine goes_ Tryz.func24 (by kernel_rfl) rfl #[.slice A l.length c] (by rfl) rfl rfl (by simp only [List.map_toArray, List.map_cons, List.map_nil]; rfl) ?_
   with_reducible refine (CU.out _ HR1.out).mono ?_
   rintro e w2 ⟨v2, rfl, ho2, hb2⟩
   refine ⟨_, rfl, ?_⟩
   have HX2 := blk_below HX1 hb2
   obtain ⟨A2, c2, rfl, hl2, hr2⟩ := ho2.reads
   have HR2 := Lib.hid hr2
   clear hr2
   refine hK.out _ _ ⟨blk_cell HX2 0 rfl, blk_cell HX2 1 rfl, blk_cell HX2 2 rfl, blk_cell HX2 3 rfl⟩ (fun hHeld => ?_)
   clear hK K
   refine norm_ (a' := ?_) ?_ ?_
   rotate_left
   ·show Act.put _ (some 12) _ = _
    simp only [Act.put, sA, sB, sC, i64_w, i32_w]; rfl
   refine one_ (i := 7) (N := some 14) #[J,J,J,J,J,J,J,J,Z,Z] rfl rfl (by kernel_rfl) (by decide) (fun K hK => ?_)
   refine goes_ Tryz.func56 (by kernel_rfl) rfl #[.slice A2 u.length c2, sgA s] (by rfl) rfl rfl (by simp only [List.map_toArray, List.map_cons, List.map_nil]; rfl) ?_
   with_reducible refine (CI.out _ _ _ HR2.out).mono ?_
   rintro e w3 ⟨rfl, hb3⟩
   refine ⟨_, rfl, ?_⟩
   refine hK.out _ _ ⟨blk_cell (blk_below HX2 hb3) 0 rfl, blk_cell (blk_below HX2 hb3) 1 rfl, blk_cell (blk_below HX2 hb3) 2 rfl, blk_cell (blk_below HX2 hb3) 3 rfl⟩ (fun hHeld => ?_)
   clear hK K
   refine norm_ (a' := ?_) ?_ ?_
   rotate_left
   ·show Act.put _ (some 14) _ = _
    simp only [Act.put, sA, sB, sC, i64_w, i32_w]; rfl
   refine pure_ (i := 8) (N := some 15) (v := ?_) (a' := ?_) #[J,J,J,J,J,J,J,J,J,Z] rfl rfl (by kernel_rfl) (fun _ _ _ h => h) (Or.inl ⟨by rfl, ?_⟩) ?_ ?_
   rotate_left
   ·intro w'; go_simp; with_reducible rfl
   rotate_left
   ·simp only [Act.put, sA, sB, sC, i64_w, i32_w]; rfl
   refine pure_ (i := 9) (N := some 16) (v := ?_) (a' := ?_) #[J,J,J,J,J,J,J,J,J,J] rfl rfl (by kernel_rfl) (fun _ _ _ h => h) (Or.inl ⟨by rfl, ?_⟩) ?_ ?_
   rotate_left
   ·intro w'; go_simp; with_reducible rfl
   rotate_left
   ·simp only [Act.put, sA, sB, sC, i64_w, i32_w]; rfl
   refine done_ (by kernel_rfl) ?_
   have HX3 := blk_below HX2 hb3
   have HB3 : Hid (Below w.heap.size w w3) := below_step (below_step (below_step (below_drew HB0.out) hb1) hb2) hb3
   have HR3 := Lib.hid (((HR1.out.below hb2).below hb3).below (below_drew (Below.refl _ _)))
   clear HX0 HB0 HR0 HR1 HX1 HX2 hb1 hb2 hb3 HR2 hl2 ho2 pc0 pc1 pc2 pc3 CI CC
   go_wp2_with fail
   refine start_ (n := 9) (S := fun w' => w'.cell? ⟨w.heap.size, 0, none⟩ = some (.int .i64 s.1.1) ∧ w'.cell? ⟨w.heap.size, 1, none⟩ = some (.int .i64 s.1.2) ∧ w'.cell? ⟨w.heap.size, 2, none⟩ = some (.int .i64 s.2.1) ∧ w'.cell? ⟨w.heap.size, 3, none⟩ = some (.int .i64 s.2.2)) (ds := []) #[Z,Z,Z,Z,Z,Z,Z,Z,Z] (by kernel_rfl) rfl rfl ⟨blk_cell HX3 0 rfl, blk_cell HX3 1 rfl, blk_cell HX3 2 rfl, blk_cell HX3 3 rfl⟩ (fun hHeld => ?_)
   refine pure_ (i := 0) (N := some 18) (v := ?_) (a' := ?_) #[J,Z,Z,Z,Z,Z,Z,Z,Z] rfl rfl (by kernel_rfl) (fun _ _ _ h => h) (Or.inl ⟨by rfl, ?_⟩) ?_ ?_
   rotate_left
   ·intro w'; go_simp; with_reducible rfl
   rotate_left
   ·simp only [Act.put, sA, sB, sC, i64_w, i32_w]; rfl
   refine take_ (i := 2) (N := some 20) (v := ?_) (a' := ?_) #[J,Z,J,Z,Z,Z,Z,Z,Z] rfl rfl (by kernel_rfl) (fun _ _ _ h => h) (Or.inl ⟨by rfl, ?_⟩) hHeld ?_ ?_
   rotate_left
   ·rintro w' ⟨s0, s1, s2, s3⟩; go_simp; with_reducible rfl
   rotate_left
   ·simp only [Act.put, sA, sB, sC, i64_w, i32_w]; rfl
   refine one_ (i := 1) (N := some 19) #[J,J,J,Z,Z,Z,Z,Z,Z] rfl rfl (by kernel_rfl) (by decide) (fun K hK => ?_)
   refine goes_ Tryz.func24 (by kernel_rfl) rfl #[.slice A l.length c] (by rfl) rfl rfl (by simp only [List.map_toArray, List.map_cons, List.map_nil]; rfl) ?_
   with_reducible refine (CU.out _ HR3.out).mono ?_
   rintro e w4 ⟨v4, rfl, ho4, hb4⟩
   refine ⟨_, rfl, ?_⟩
   have HX4 := blk_below (W := w3.drew) HX3 hb4
   obtain ⟨A4, c4, rfl, hl4, hr4⟩ := ho4.reads
   have HR4 := Lib.hid hr4
   clear hr4
   refine hK.out _ _ ⟨blk_cell HX4 0 rfl, blk_cell HX4 1 rfl, blk_cell HX4 2 rfl, blk_cell HX4 3 rfl⟩ (fun hHeld => ?_)
   clear hK K
   refine norm_ (a' := ?_) ?_ ?_
   rotate_left
   ·show Act.put _ (some 19) _ = _
    simp only [Act.put, sA, sB, sC, i64_w, i32_w]; rfl
   refine one_ (i := 3) (N := some 21) #[J,J,J,J,Z,Z,Z,Z,Z] rfl rfl (by kernel_rfl) (by decide) (fun K hK => ?_)
   refine goes_ Tryz.func50 (by kernel_rfl) rfl #[.slice A4 u.length c4, sgA s] (by rfl) rfl rfl (by simp only [List.map_toArray, List.map_cons, List.map_nil]; rfl) ?_
   with_reducible refine (CS.out _ _ _ HR4.out).mono ?_
   rintro e w5 ⟨rfl, hb5⟩
   refine ⟨_, rfl, ?_⟩
   refine hK.out _ _ ⟨blk_cell (blk_below HX4 hb5) 0 rfl, blk_cell (blk_below HX4 hb5) 1 rfl, blk_cell (blk_below HX4 hb5) 2 rfl, blk_cell (blk_below HX4 hb5) 3 rfl⟩ (fun hHeld => ?_)
   clear hK K
   refine norm_ (a' := ?_) ?_ ?_
   rotate_left
   ·show Act.put _ (some 21) _ = _
    simp only [Act.put, sA, sB, sC, i64_w, i32_w]; rfl
   refine pure_ (i := 4) (N := some 17) (v := ?_) (a' := ?_) #[J,J,J,J,J,Z,Z,Z,Z] rfl rfl (by kernel_rfl) (fun _ _ _ h => h) (Or.inl ⟨by rfl, ?_⟩) ?_ ?_
   rotate_left
   ·intro w'; go_simp; with_reducible rfl
   rotate_left
   ·simp only [Act.put, sA, sB, sC, i64_w, i32_w]; rfl
   refine pure_ (i := 5) (N := some 22) (v := ?_) (a' := ?_) #[J,J,J,J,J,J,Z,Z,Z] rfl rfl (by kernel_rfl) (fun _ _ _ h => h) (Or.inl ⟨by rfl, ?_⟩) ?_ ?_
   rotate_left
   ·intro w'; go_simp; with_reducible rfl
   rotate_left
   ·simp only [Act.put, sA, sB, sC, i64_w, i32_w]; rfl
   refine pure_ (i := 6) (N := some 23) (v := ?_) (a' := ?_) #[J,J,J,J,J,J,J,Z,Z] rfl rfl (by kernel_rfl) (fun _ _ _ h => h) (Or.inl ⟨by rfl, ?_⟩) ?_ ?_
   rotate_left
   ·intro w'; go_simp; with_reducible rfl
   rotate_left
   ·simp only [Act.put, sA, sB, sC, i64_w, i32_w]; rfl
   refine pure_ (i := 7) (N := some 5) (v := ?_) (a' := ?_) #[J,J,J,J,J,J,J,J,Z] rfl rfl (by kernel_rfl) (fun _ _ _ h => h) (Or.inl ⟨by rfl, ?_⟩) ?_ ?_
   rotate_left
   ·intro w'; go_simp; with_reducible rfl
   rotate_left
   ·simp only [Act.put, sA, sB, sC, i64_w, i32_w]; rfl
   refine pure_ (i := 8) (N := some 6) (v := ?_) (a' := ?_) #[J,J,J,J,J,J,J,J,J] rfl rfl (by kernel_rfl) (fun _ _ _ h => h) (Or.inl ⟨by rfl, ?_⟩) ?_ ?_
   rotate_left
   ·intro w'; go_simp; with_reducible rfl
   rotate_left
   ·simp only [Act.put, sA, sB, sC, i64_w, i32_w]; rfl
   refine done_ (by kernel_rfl) ?_
   go_wp2
   go_ret
   exact ⟨ret_bool HZ1.out.symm, below_step (below_step (below_drew HB3.out) hb4) hb5⟩
  ·have HZ0 : Hid (z = false) := HZ.out.trans (if_neg (fun h => hm h.2))
   have qm : decide (s ∈ u) = false := decide_eq_false hm
   have CI := Lib.hid (fun W (A : Option Addr) (c : Nat) h => ref21_in (ok := fun _ => True) u A u.length c s W h rfl)
   rw [qm] at CI
   clear HZ h0 hm qm HV
   go_enter Tryz.func17, Tryz.ntmps17
   go_wp2_with fail
   obtain ⟨W0, hW0⟩ : ∃ W0, W0 = w.alloc (.cells #[.int .i64 s.1.1, .int .i64 s.1.2, .int .i64 s.2.1, .int .i64 s.2.2] 32) := ⟨_, rfl⟩
   rw [← hW0] at HX0 ⊢
   have HB0 : Hid (Below w.heap.size w W0) := by show Below _ _ _; rw [hW0]; exact below_alloc (Below.refl _ _) _
   clear hW0
   have HR0 := Lib.hid ((HR.out.below HB0.out).below (below_drew (Below.refl _ _)))
   have pc0 := blk_cell HX0 0 rfl
   have pc1 := blk_cell HX0 1 rfl
   have pc2 := blk_cell HX0 2 rfl
   have pc3 := blk_cell HX0 3 rfl
   refine start_ (n := 10) (S := fun w' => w'.cell? ⟨w.heap.size, 0, none⟩ = some (.int .i64 s.1.1) ∧ w'.cell? ⟨w.heap.size, 1, none⟩ = some (.int .i64 s.1.2) ∧ w'.cell? ⟨w.heap.size, 2, none⟩ = some (.int .i64 s.2.1) ∧ w'.cell? ⟨w.heap.size, 3, none⟩ = some (.int .i64 s.2.2)) (ds := []) #[Z,Z,Z,Z,Z,Z,Z,Z,Z,Z] (by kernel_rfl) rfl rfl ⟨pc0, pc1, pc2, pc3⟩ (fun hHeld => ?_)
   refine pure_ (i := 0) (N := some 7) (v := ?_) (a' := ?_) #[J,Z,Z,Z,Z,Z,Z,Z,Z,Z] rfl rfl (by kernel_rfl) (fun _ _ _ h => h) (Or.inl ⟨by rfl, ?_⟩) ?_ ?_
   rotate_left
   ·intro w'; go_simp; with_reducible rfl
   rotate_left
   ·simp only [Act.put, sA, sB, sC, i64_w, i32_w]; rfl
   refine one_ (i := 1) (N := some 8) #[J,J,Z,Z,Z,Z,Z,Z,Z,Z] rfl rfl (by kernel_rfl) (by decide) (fun K hK => ?_)
   refine goes_ Tryz.func10 (by kernel_rfl) rfl #[.slice A l.length c] (by rfl) rfl rfl (by simp only [List.map_toArray, List.map_cons, List.map_nil]; rfl) ?_
   with_reducible refine (CC.out _ HR0.out).mono ?_
   rintro e w1 ⟨rfl, hb1⟩
   refine ⟨_, rfl, ?_⟩
   have HR1 := Lib.hid (HR0.out.below hb1)
   have HX1 := blk_below (W := W0.drew) HX0 hb1
   refine hK.out _ _ ⟨blk_cell HX1 0 rfl, blk_cell HX1 1 rfl, blk_cell HX1 2 rfl, blk_cell HX1 3 rfl⟩ (fun hHeld => ?_)
   clear hK K
   refine norm_ (a' := ?_) ?_ ?_
   rotate_left
   ·show Act.put _ (some 8) _ = _
    simp only [Act.put, sA, sB, sC, i64_w, i32_w]; rfl
   refine pure_ (i := 2) (N := some 9) (v := ?_) (a' := ?_) #[J,J,J,Z,Z,Z,Z,Z,Z,Z] rfl rfl (by kernel_rfl) (fun _ _ _ h => h) (Or.inl ⟨by rfl, ?_⟩) ?_ ?_
   rotate_left
   ·intro w'; go_simp; with_reducible rfl
   rotate_left
   ·simp only [Act.put, sA, sB, sC, i64_w, i32_w]; rfl
   refine pure_ (i := 3) (N := some 10) (v := ?_) (a' := ?_) #[J,J,J,J,Z,Z,Z,Z,Z,Z] rfl rfl (by kernel_rfl) (fun _ _ _ h => h) (Or.inl ⟨by rfl, ?_⟩) ?_ ?_
   rotate_left
   ·intro w'; go_simp; with_reducible rfl
   rotate_left
   ·simp only [Act.put, sA, sB, sC, i64_w, i32_w]; rfl
   refine pure_ (i := 4) (N := some 11) (v := ?_) (a' := ?_) #[J,J,J,J,J,Z,Z,Z,Z,Z] rfl rfl (by kernel_rfl) (fun _ _ _ h => h) (Or.inl ⟨by rfl, ?_⟩) ?_ ?_
   rotate_left
   ·intro w'; go_simp; with_reducible rfl
   rotate_left
   ·simp only [Act.put, sA, sB, sC, i64_w, i32_w]; rfl
   refine take_ (i := 6) (N := some 13) (v := ?_) (a' := ?_) #[J,J,J,J,J,Z,J,Z,Z,Z] rfl rfl (by kernel_rfl) (fun _ _ _ h => h) (Or.inl ⟨by rfl, ?_⟩) hHeld ?_ ?_
   rotate_left
   ·rintro w' ⟨s0, s1, s2, s3⟩; go_simp; with_reducible rfl
   rotate_left
   ·simp only [Act.put, sA, sB, sC, i64_w, i32_w]; rfl
   refine one_ (i := 5) (N := some 12) #[J,J,J,J,J,J,J,Z,Z,Z] rfl rfl (by kernel_rfl) (by decide) (fun K hK => ?_)
   refine goes_ Tryz.func24 (by kernel_rfl) rfl #[.slice A l.length c] (by rfl) rfl rfl (by simp only [List.map_toArray, List.map_cons, List.map_nil]; rfl) ?_
   with_reducible refine (CU.out _ HR1.out).mono ?_
   rintro e w2 ⟨v2, rfl, ho2, hb2⟩
   refine ⟨_, rfl, ?_⟩
   have HX2 := blk_below HX1 hb2
   obtain ⟨A2, c2, rfl, hl2, hr2⟩ := ho2.reads
   have HR2 := Lib.hid hr2
   clear hr2
   refine hK.out _ _ ⟨blk_cell HX2 0 rfl, blk_cell HX2 1 rfl, blk_cell HX2 2 rfl, blk_cell HX2 3 rfl⟩ (fun hHeld => ?_)
   clear hK K
   refine norm_ (a' := ?_) ?_ ?_
   rotate_left
   ·show Act.put _ (some 12) _ = _
    simp only [Act.put, sA, sB, sC, i64_w, i32_w]; rfl
   refine one_ (i := 7) (N := some 14) #[J,J,J,J,J,J,J,J,Z,Z] rfl rfl (by kernel_rfl) (by decide) (fun K hK => ?_)
   refine goes_ Tryz.func56 (by kernel_rfl) rfl #[.slice A2 u.length c2, sgA s] (by rfl) rfl rfl (by simp only [List.map_toArray, List.map_cons, List.map_nil]; rfl) ?_
   with_reducible refine (CI.out _ _ _ HR2.out).mono ?_
   rintro e w3 ⟨rfl, hb3⟩
   refine ⟨_, rfl, ?_⟩
   refine hK.out _ _ ⟨blk_cell (blk_below HX2 hb3) 0 rfl, blk_cell (blk_below HX2 hb3) 1 rfl, blk_cell (blk_below HX2 hb3) 2 rfl, blk_cell (blk_below HX2 hb3) 3 rfl⟩ (fun hHeld => ?_)
   clear hK K
   refine norm_ (a' := ?_) ?_ ?_
   rotate_left
   ·show Act.put _ (some 14) _ = _
    simp only [Act.put, sA, sB, sC, i64_w, i32_w]; rfl
   refine pure_ (i := 8) (N := some 15) (v := ?_) (a' := ?_) #[J,J,J,J,J,J,J,J,J,Z] rfl rfl (by kernel_rfl) (fun _ _ _ h => h) (Or.inl ⟨by rfl, ?_⟩) ?_ ?_
   rotate_left
   ·intro w'; go_simp; with_reducible rfl
   rotate_left
   ·simp only [Act.put, sA, sB, sC, i64_w, i32_w]; rfl
   refine pure_ (i := 9) (N := some 16) (v := ?_) (a' := ?_) #[J,J,J,J,J,J,J,J,J,J] rfl rfl (by kernel_rfl) (fun _ _ _ h => h) (Or.inl ⟨by rfl, ?_⟩) ?_ ?_
   rotate_left
   ·intro w'; go_simp; with_reducible rfl
   rotate_left
   ·simp only [Act.put, sA, sB, sC, i64_w, i32_w]; rfl
   refine done_ (by kernel_rfl) ?_
   go_wp2
   go_ret
   exact ⟨ret_bool HZ0.out.symm, below_step (below_step (below_step (below_drew HB0.out) hb1) hb2) hb3⟩
 ·have q0 : (cz != 0) = true := by simp [h0]
  have HZ0 : Hid (z = false) := HZ.out.trans (if_neg (fun h => h0 h.1))
  clear HZ h0 HV
  go_enter Tryz.func17, Tryz.ntmps17
  go_wp2_with fail
  obtain ⟨W0, hW0⟩ : ∃ W0, W0 = w.alloc (.cells #[.int .i64 s.1.1, .int .i64 s.1.2, .int .i64 s.2.1, .int .i64 s.2.2] 32) := ⟨_, rfl⟩
  rw [← hW0] at HX0 ⊢
  have HB0 : Hid (Below w.heap.size w W0) := by show Below _ _ _; rw [hW0]; exact below_alloc (Below.refl _ _) _
  clear hW0
  have HR0 := Lib.hid ((HR.out.below HB0.out).below (below_drew (Below.refl _ _)))
  have pc0 := blk_cell HX0 0 rfl
  have pc1 := blk_cell HX0 1 rfl
  have pc2 := blk_cell HX0 2 rfl
  have pc3 := blk_cell HX0 3 rfl
  refine start_ (n := 10) (S := fun w' => w'.cell? ⟨w.heap.size, 0, none⟩ = some (.int .i64 s.1.1) ∧ w'.cell? ⟨w.heap.size, 1, none⟩ = some (.int .i64 s.1.2) ∧ w'.cell? ⟨w.heap.size, 2, none⟩ = some (.int .i64 s.2.1) ∧ w'.cell? ⟨w.heap.size, 3, none⟩ = some (.int .i64 s.2.2)) (ds := []) #[Z,Z,Z,Z,Z,Z,Z,Z,Z,Z] (by kernel_rfl) rfl rfl ⟨pc0, pc1, pc2, pc3⟩ (fun hHeld => ?_)
  refine pure_ (i := 0) (N := some 7) (v := ?_) (a' := ?_) #[J,Z,Z,Z,Z,Z,Z,Z,Z,Z] rfl rfl (by kernel_rfl) (fun _ _ _ h => h) (Or.inl ⟨by rfl, ?_⟩) ?_ ?_
  rotate_left
  ·intro w'; go_simp; with_reducible rfl
  rotate_left
  ·simp only [Act.put, sA, sB, sC, i64_w, i32_w]; rfl
  refine one_ (i := 1) (N := some 8) #[J,J,Z,Z,Z,Z,Z,Z,Z,Z] rfl rfl (by kernel_rfl) (by decide) (fun K hK => ?_)
  refine goes_ Tryz.func10 (by kernel_rfl) rfl #[.slice A l.length c] (by rfl) rfl rfl (by simp only [List.map_toArray, List.map_cons, List.map_nil]; rfl) ?_
  with_reducible refine (CC.out _ HR0.out).mono ?_
  rintro e w1 ⟨rfl, hb1⟩
  refine ⟨_, rfl, ?_⟩
  have HR1 := Lib.hid (HR0.out.below hb1)
  have HX1 := blk_below (W := W0.drew) HX0 hb1
  refine hK.out _ _ ⟨blk_cell HX1 0 rfl, blk_cell HX1 1 rfl, blk_cell HX1 2 rfl, blk_cell HX1 3 rfl⟩ (fun hHeld => ?_)
  clear hK K
  refine norm_ (a' := ?_) ?_ ?_
  rotate_left
  ·show Act.put _ (some 8) _ = _
   simp only [Act.put, sA, sB, sC, i64_w, i32_w]; rfl
  refine pure_ (i := 2) (N := some 9) (v := ?_) (a' := ?_) #[J,J,J,Z,Z,Z,Z,Z,Z,Z] rfl rfl (by kernel_rfl) (fun _ _ _ h => h) (Or.inl ⟨by rfl, ?_⟩) ?_ ?_
  rotate_left
  ·intro w'; go_simp; with_reducible rfl
  rotate_left
  ·simp only [Act.put, sA, sB, sC, i64_w, i32_w]; rfl
  refine pure_ (i := 3) (N := some 10) (v := ?_) (a' := ?_) #[J,J,J,J,Z,Z,Z,Z,Z,Z] rfl rfl (by kernel_rfl) (fun _ _ _ h => h) (Or.inl ⟨by rfl, ?_⟩) ?_ ?_
  rotate_left
  ·intro w'; go_simp; with_reducible rfl
  rotate_left
  ·simp only [Act.put, sA, sB, sC, i64_w, i32_w]; rfl
  refine pure_ (i := 4) (N := some 11) (v := undef) (a' := ?_) #[J,J,J,J,J,Z,Z,Z,Z,Z] rfl rfl (by kernel_rfl) (fun _ _ _ h => h) (Or.inr ⟨by rfl, rfl⟩) ?_ ?_
  rotate_left
  ·simp only [Act.put, sA, sB, sC, i64_w, i32_w]; rfl
  refine pure_ (i := 5) (N := some 12) (v := undef) (a' := ?_) #[J,J,J,J,J,J,Z,Z,Z,Z] rfl rfl (by kernel_rfl) (fun _ _ _ h => h) (Or.inr ⟨by rfl, rfl⟩) ?_ ?_
  rotate_left
  ·simp only [Act.put, sA, sB, sC, i64_w, i32_w]; rfl
  refine pure_ (i := 6) (N := some 13) (v := undef) (a' := ?_) #[J,J,J,J,J,J,J,Z,Z,Z] rfl rfl (by kernel_rfl) (fun _ _ _ h => h) (Or.inr ⟨by rfl, rfl⟩) ?_ ?_
  rotate_left
  ·simp only [Act.put, sA, sB, sC, i64_w, i32_w]; rfl
  refine pure_ (i := 7) (N := some 14) (v := undef) (a' := ?_) #[J,J,J,J,J,J,J,J,Z,Z] rfl rfl (by kernel_rfl) (fun _ _ _ h => h) (Or.inr ⟨by rfl, rfl⟩) ?_ ?_
  rotate_left
  ·simp only [Act.put, sA, sB, sC, i64_w, i32_w]; rfl
  refine pure_ (i := 8) (N := some 15) (v := undef) (a' := ?_) #[J,J,J,J,J,J,J,J,J,Z] rfl rfl (by kernel_rfl) (fun _ _ _ h => h) (Or.inr ⟨by rfl, rfl⟩) ?_ ?_
  rotate_left
  ·simp only [Act.put, sA, sB, sC, i64_w, i32_w]; rfl
  refine pure_ (i := 9) (N := some 16) (v := ?_) (a' := ?_) #[J,J,J,J,J,J,J,J,J,J] rfl rfl (by kernel_rfl) (fun _ _ _ h => h) (Or.inl ⟨by rfl, ?_⟩) ?_ ?_
  rotate_left
  ·intro w'; go_simp; with_reducible rfl
  rotate_left
  ·simp only [Act.put, sA, sB, sC, i64_w, i32_w]; rfl
  refine done_ (by kernel_rfl) ?_
  go_wp2
  go_ret
  exact ⟨ret_bool HZ0.out.symm, below_step (below_drew HB0.out) hb1⟩
end
section
theorem ray_other {m : Pt} {s t : Sg} (h : t ≠ s) : rayB m s t = rayR m t := by
 unfold rayB rayR
 simp only [decide_eq_false h, Bool.false_or]
theorem ray_self {m : Pt} {s : Sg} : rayB m s s = false := by
 unfold rayB
 simp
theorem low_high (s : Sg) : ∃ l1 l2 h1 h2 : Int, (if s.1.2 > s.2.2 then s.2 else s.1) = (l1, l2) ∧ (if s.1.2 > s.2.2 then s.1 else s.2) = (h1, h2) ∧ (s = ((l1, l2), (h1, h2)) ∨ s = ((h1, h2), (l1, l2))) ∧ l2 ≤ h2 := by
 obtain ⟨⟨a1, a2⟩, ⟨b1, b2⟩⟩ := s
 by_cases h : a2 > b2
 ·exact ⟨b1, b2, a1, a2, if_pos h, if_pos h, .inr rfl, by omega⟩
 ·exact ⟨a1, a2, b1, b2, if_neg h, if_neg h, .inl rfl, by omega⟩
theorem ray_mid (s : Sg) : rayR (midS s) s = false := by
 obtain ⟨l1, l2, h1, h2, e1, e2, hs, hle⟩ := low_high s
 have hm : midS s = (l1 + h1, l2 + h2) := by
  rcases hs with e | e <;> rw [e] <;> unfold midS <;> simp only [Prod.mk.injEq] <;> omega
 rw [hm, rayR_of _ _ _ _ _ _ _ ⟨e1, e2⟩]
 rw [decide_eq_false (p := (h1 - l1) * (l2 + h2 - 2 * l2) - (h2 - l2) * (l1 + h1 - 2 * l1) > 0) (by
  have : (h1 - l1) * (l2 + h2 - 2 * l2) - (h2 - l2) * (l1 + h1 - 2 * l1) = 0 := by grind
  omega)]
 simp
theorem on_mid {s : Sg} (hn : ¬ s.1 = s.2) : onS (midS s) s = true := by
 obtain ⟨l1, l2, h1, h2, e1, e2, hs, hle⟩ := low_high s
 have hm : midS s = (l1 + h1, l2 + h2) := by
  rcases hs with e | e <;> rw [e] <;> unfold midS <;> simp only [Prod.mk.injEq] <;> omega
 have hn' : ¬ (l1 = h1 ∧ l2 = h2) := fun h => hn (by rcases hs with e | e <;> rw [e] <;> simp [h])
 rw [hm, onS_of _ _ _ _ _ _ _ ⟨e1, e2⟩]
 by_cases hz : l2 = h2
 ·rw [if_pos hz]
  simp only [Bool.and_eq_true, decide_eq_true_eq]
  omega
 ·rw [if_neg hz, decide_eq_true (p := (h1 - l1) * (l2 + h2 - 2 * l2) - (h2 - l2) * (l1 + h1 - 2 * l1) = 0) (by grind), decide_eq_false (p := 2 * l2 > l2 + h2) (by omega), decide_eq_false (p := 2 * h2 ≤ l2 + h2) (by omega)]
  rfl
theorem between {m n v : Int} {u : Int} (hm : 0 < m) (hu : 0 ≤ u) (hum : u ≤ 2 * m) (h : m * v = n * u) : min 0 (2 * n) ≤ v ∧ v ≤ max 0 (2 * n) :=
 mid_le (m := 2 * m) (n := 2 * n) (u := u) (v := v) (by omega) hu hum (by rw [Int.mul_assoc, h, Int.mul_assoc])
theorem on_onM {m : Pt} {t : Sg} (h : onS m t = true) : onM m t := by
 obtain ⟨l1, l2, h1, h2, e1, e2, hs, hle⟩ := low_high t
 obtain ⟨m1, m2⟩ := m
 rw [onS_of _ _ _ _ _ _ _ ⟨e1, e2⟩] at h
 have key : (h1 - l1) * (m2 - 2 * l2) - (h2 - l2) * (m1 - 2 * l1) = 0 ∧ 2 * min l1 h1 ≤ m1 ∧ m1 ≤ 2 * max l1 h1 ∧ 2 * l2 ≤ m2 ∧ m2 ≤ 2 * h2 := by
  by_cases hz : l2 = h2
  ·rw [if_pos hz] at h
   simp only [Bool.and_eq_true, decide_eq_true_eq] at h
   subst hz
   refine ⟨?_, by omega, by omega, by omega, by omega⟩
   rw [show m2 - 2 * l2 = 0 by omega, Int.sub_self]; simp
  ·rw [if_neg hz] at h
   simp only [Bool.and_eq_true, Bool.not_eq_true', Bool.or_eq_false_iff, decide_eq_false_iff_not, decide_eq_true_eq] at h
   have hb := between (m := h2 - l2) (n := h1 - l1) (u := m2 - 2 * l2) (v := m1 - 2 * l1) (by omega) (by omega) (by omega) (by omega)
   exact ⟨h.2, by omega, by omega, by omega, by omega⟩
 obtain ⟨k0, k1, k2, k3, k4⟩ := key
 rcases hs with e | e <;> rw [e] <;> unfold onM <;> simp only
 ·exact ⟨k0, k1, k2, by omega, by omega⟩
 ·exact ⟨by grind, by omega, by omega, by omega, by omega⟩
theorem inc_nodup {l : Sgs} (h : Inc lessS l) : l.Nodup := h.imp (fun {a b} hab e => by subst e; rw [totS.irr] at hab; cases hab)
theorem uniq_nodup (l : Sgs) : (uniqZ l).Nodup := inc_nodup (uniq_inc l)
theorem count_one {α : Type} {f : α → Bool} {s : α} : ∀ {l : List α}, l.Nodup → s ∈ l → f s = true → (∀ t ∈ l, t ≠ s → f t = false) → l.countP f = 1
 | [], _, h, _, _ => absurd h (List.not_mem_nil)
 | a :: l, hn, hs, hf, ho => by
  rw [List.countP_cons]
  have h1 := List.nodup_cons.1 hn
  by_cases e : a = s
  ·subst e
   rw [if_pos hf, List.countP_eq_zero.2 (fun t ht => by rw [ho t (List.mem_cons_of_mem _ ht) (fun e => h1.1 (e ▸ ht))]; decide)]
  ·have hs' : s ∈ l := (List.mem_cons.1 hs).resolve_left (fun x => e x.symm)
   rw [if_neg (by rw [ho a (List.mem_cons_self ..) e]; decide), count_one h1.2 hs' hf (fun t ht => ho t (List.mem_cons_of_mem _ ht))]
theorem ray_count {m : Pt} {s : Sg} (h : rayR m s = false) : ∀ u : Sgs, u.countP (rayR m) = crossN u m s
 | [] => rfl
 | t :: u => by
  unfold crossN
  rw [List.countP_cons, List.countP_cons, ray_count h u]
  unfold crossN
  by_cases e : t = s
  ·subst e; rw [h, ray_self]
  ·rw [ray_other e]
theorem sides_left {l : Sgs} (hc : cleanZ l = true) {s : Sg} (hs : s ∈ uniqZ l) : (sidesZ (uniqZ l) s).1 = leftZ (uniqZ l) s := by
 have h1 : (uniqZ l).countP (onS (midS s)) = 1 := count_one (uniq_nodup l) hs (on_mid (uniq_ne hs)) (fun t ht hne => by
  cases ho : onS (midS s) t
  ·rfl
  ·exact (mid_off hc hs ht (fun e => hne e.symm) (on_onM ho)).elim)
 have h2 : sideE (uniqZ l) (midS s) = decide (crossN (uniqZ l) (midS s) s % 2 = 1) := by unfold sideE; rw [ray_count (ray_mid s)]
 have h3 : sideW (uniqZ l) (midS s) = !sideE (uniqZ l) (midS s) := by
  unfold sideW sideE
  rw [h1]
  by_cases h : (uniqZ l).countP (rayR (midS s)) % 2 = 1
  ·rw [decide_eq_true h, decide_eq_false (by omega)]; rfl
  ·rw [decide_eq_false h, decide_eq_true (by omega)]; rfl
 unfold sidesZ leftZ
 rw [h3, h2]
 show _ = if s.2.2 > s.1.2 then !decide (crossN (uniqZ l) (midS s) s % 2 = 1) else decide (crossN (uniqZ l) (midS s) s % 2 = 1)
 by_cases e : s.1.2 = s.2.2
 ·rw [if_pos e, if_neg (by omega)]
 ·rw [if_neg e]
  by_cases e2 : s.1.2 < s.2.2
  ·rw [if_pos e2, if_pos e2]
  ·rw [if_neg e2, if_neg e2]
theorem uniq_self {l : Sgs} {s : Sg} (h : s ∈ uniqZ l) : goodB s = true ∧ ofS s = s := by
 refine ⟨?_, ?_⟩
 ·unfold goodB
  simp [uniq_ne h, uniq_valid h]
 ·unfold ofS ofB
  rw [if_neg (by rw [totB.asymm (canon_less (uniq_canon h))]; decide)]
theorem uniq_idem (l : Sgs) : uniqZ (uniqZ l) = uniqZ l := by
 refine inc_unique totS (fun x => ⟨fun h => ?_, fun h => mem_uniq.2 ⟨x, h, (uniq_self h).1, (uniq_self h).2⟩⟩) (uniq_inc _) (uniq_inc l)
 obtain ⟨s, hs, hg, rfl⟩ := mem_uniq.1 h
 rw [(uniq_self hs).2]
 exact hs
theorem clean_of {l : Sgs} (h : checkZ l = 0) : cleanZ (uniqZ l) = true := by
 unfold checkZ checkU at h
 split at h
 ·omega
 ·split at h
  ·omega
  ·rename_i h1 h2
   simpa using h2
theorem left_of {l : Sgs} (h : checkZ l = 0) {s : Sg} (hs : s ∈ uniqZ l) : (sidesZ (uniqZ l) s).1 = leftZ (uniqZ l) s := by
 have := sides_left (clean_of h) (s := s) (by rw [uniq_idem]; exact hs)
 rwa [uniq_idem] at this
theorem leftR_eq (l : Sgs) (s : Sg) : leftR l s = leftIn l s := by
 unfold leftR leftIn
 rw [check_same]
 by_cases h : checkZ l = 0 ∧ s ∈ uniqZ l
 ·rw [if_pos h, decide_eq_true h.2, decide_eq_true h.1, left_of h.1 h.2]; rfl
 ·rw [if_neg h]
  by_cases h1 : s ∈ uniqZ l
  ·rw [decide_eq_false (p := checkZ l = 0) (fun e => h ⟨e, h1⟩)]; simp
  ·rw [decide_eq_false h1]; simp
end
section
abbrev cutL (st : Rgs × Pts) (L : Pts) : Rgs × Pts := L.foldl cutF st
def partsR (r : Pts) : Rgs := (cutL ([], []) r).1 ++ [canonR (cutL ([], []) r).2]
def divIns (l : Rgs) (r : Pts) : Rgs := (partsR r).foldl (fun acc x => insZ lessR x acc) l
theorem cut_acc : ∀ (L : Pts) (acc : Rgs) (S : Pts), cutL (acc, S) L = (acc ++ (cutL ([], S) L).1, (cutL ([], S) L).2)
 | [], acc, S => by simp [cutL]
 | p :: L, acc, S => by
  show cutL (cutF (acc, S) p) L = (acc ++ (cutL (cutF ([], S) p) L).1, (cutL (cutF ([], S) p) L).2)
  by_cases h : p ∈ S
  ·rw [cutF_in (st := (acc, S)) h, cutF_in (st := ([], S)) h, cut_acc L, cut_acc L (_ ++ _)]
   simp
  ·rw [cutF_out (st := (acc, S)) h, cutF_out (st := ([], S)) h, cut_acc L]
theorem divR_parts (acc : Rgs) (r : Pts) : divR acc r = acc ++ partsR r := by
 unfold divR partsR
 show (cutL (acc, []) r).1 ++ [canonR (cutL (acc, []) r).2] = _
 rw [cut_acc]
 simp
theorem divided_parts (rs : Rgs) : dividedZ rs = rs.flatMap partsR := by
 have key : ∀ (rs acc : Rgs), rs.foldl divR acc = acc ++ rs.flatMap partsR := by
  intro rs
  induction rs with
  | nil => intro acc; simp
  | cons r rs ih => intro acc; rw [List.foldl_cons, ih, divR_parts, List.flatMap_cons, List.append_assoc]
 exact key rs []
theorem ins_divided : ∀ (rs l : Rgs), rs.foldl divIns l = (rs.flatMap partsR).foldl (fun acc x => insZ lessR x acc) l
 | [], l => rfl
 | r :: rs, l => by rw [List.foldl_cons, ins_divided rs, List.flatMap_cons, List.foldl_append]; rfl
theorem ins_rings (rs : Rgs) : rs.foldl divIns [] = sortG lessR (dividedZ rs) := by rw [ins_divided, divided_parts]; rfl
theorem divIns_srt {l : Rgs} (h : Srt lessR l) (r : Pts) : Srt lessR (divIns l r) := fold_srt totR _ h
theorem ins_len : ∀ (ps l : Rgs), (ps.foldl (fun acc x => insZ lessR x acc) l).length = l.length + ps.length
 | [], l => rfl
 | p :: ps, l => by rw [List.foldl_cons, ins_len ps, (insZ_perm (less := lessR) p l).length_eq, List.length_cons, List.length_cons]; omega
theorem idxOf_app {P S : Pts} {p : Pt} (h : p ∉ P) : (P ++ S).idxOf p = P.length + S.idxOf p := by
 rw [List.idxOf_append, if_neg h]; omega
/-- points that do not come again stand untouched below -/
theorem cut_below : ∀ (L : Pts) (acc : Rgs) (P S : Pts), (∀ p ∈ L, p ∉ P) → cutL (acc, P ++ S) L = ((cutL (acc, S) L).1, P ++ (cutL (acc, S) L).2)
 | [], acc, P, S, _ => rfl
 | p :: L, acc, P, S, h => by
  have hp := h p (List.mem_cons_self ..)
  have hL : ∀ q ∈ L, q ∉ P := fun q hq => h q (List.mem_cons_of_mem _ hq)
  show cutL (cutF (acc, P ++ S) p) L = ((cutL (cutF (acc, S) p) L).1, P ++ (cutL (cutF (acc, S) p) L).2)
  by_cases hm : p ∈ S
  ·rw [cutF_in (st := (acc, P ++ S)) (List.mem_append.2 (.inr hm)), cutF_in (st := (acc, S)) hm]
   simp only
   rw [idxOf_app hp, List.drop_length_add_append, List.take_length_add_append, List.append_assoc]
   exact cut_below L _ P _ hL
  ·rw [cutF_out (st := (acc, P ++ S)) (by rw [List.mem_append]; rintro (e | e); (· exact hp e); (· exact hm e)), cutF_out (st := (acc, S)) hm]
   simp only
   rw [List.append_assoc]
   exact cut_below L _ P _ hL
theorem cut_nodup : ∀ (L : Pts) (acc : Rgs) (S : Pts), (S ++ L).Nodup → cutL (acc, S) L = (acc, S ++ L)
 | [], acc, S, _ => by simp [cutL]
 | p :: L, acc, S, h => by
  have hp : p ∉ S := fun e => by
   have := (List.nodup_append.1 h).2.2 p e p (List.mem_cons_self ..)
   exact this rfl
  show cutL (cutF (acc, S) p) L = _
  rw [cutF_out (st := (acc, S)) hp]
  simp only
  rw [cut_nodup L acc (S ++ [p]) (by rwa [List.append_assoc]), List.append_assoc]
  rfl
theorem parts_simple {r : Pts} (h : r.Nodup) : partsR r = [canonR r] := by
 unfold partsR
 rw [cut_nodup r [] [] h]
 rfl
theorem parts_cut {P Q R : Pts} {x : Pt} (hP : P.Nodup) (hx : x ∉ P) (hQ : ∀ p ∈ Q, p ∉ P) (hxQ : x ∉ Q) : partsR (P ++ (x :: Q) ++ (x :: R)) = partsR (x :: Q) ++ partsR (P ++ (x :: R)) := by
 have h1 : cutL ([], []) P = ([], P) := by rw [cut_nodup P [] [] hP]; rfl
 have h2 : cutF ([], P) x = ([], P ++ [x]) := cutF_out hx
 have h3 : cutL ([], P ++ [x]) Q = ((cutL ([], []) Q).1, (P ++ [x]) ++ (cutL ([], []) Q).2) := by
  have := cut_below Q [] (P ++ [x]) [] (fun p hp => by
   rw [List.mem_append, List.mem_singleton]
   rintro (e | e)
   ·exact hQ p hp e
   ·exact hxQ (e ▸ hp))
  rwa [List.append_nil] at this
 have h4 : cutL ([], [x]) Q = ((cutL ([], []) Q).1, [x] ++ (cutL ([], []) Q).2) := by
  have := cut_below Q [] [x] [] (fun p hp => by rw [List.mem_singleton]; intro e; exact hxQ (e ▸ hp))
  rwa [List.append_nil] at this
 have h5 : cutF ((cutL ([], []) Q).1, (P ++ [x]) ++ (cutL ([], []) Q).2) x = ((cutL ([], []) Q).1 ++ [canonR (x :: (cutL ([], []) Q).2)], P ++ [x]) := by
  rw [cutF_in (by simp)]
  simp only
  rw [List.append_assoc, idxOf_app hx]
  have e0 : ([x] ++ (cutL ([], []) Q).2).idxOf x = 0 := by simp
  rw [e0, Nat.add_zero, List.drop_left, List.take_left]
  rfl
 have e1 : cutL ([], []) (P ++ (x :: Q) ++ (x :: R)) = cutL ((cutL ([], []) Q).1 ++ [canonR (x :: (cutL ([], []) Q).2)], P ++ [x]) R := by
  show List.foldl cutF _ _ = _
  rw [List.foldl_append, List.foldl_append]
  show cutL (cutF (cutL (cutF (cutL ([], []) P) x) Q) x) R = _
  rw [h1, h2, h3, h5]
 have e2 : cutL ([], []) (x :: Q) = ((cutL ([], []) Q).1, [x] ++ (cutL ([], []) Q).2) := by
  show cutL (cutF ([], []) x) Q = _
  rw [show cutF ([], []) x = ([], [x]) from cutF_out (by simp), h4]
 have e3 : cutL ([], []) (P ++ (x :: R)) = cutL ([], P ++ [x]) R := by
  show List.foldl cutF _ _ = _
  rw [List.foldl_append]
  show cutL (cutF (cutL ([], []) P) x) R = _
  rw [h1, h2]
 unfold partsR
 rw [e1, e2, e3, cut_acc]
 simp
theorem ptD_drop (r : Pts) (i j : Nat) : ptD (r.drop i) j = ptD r (i + j) := by simp [ptD, List.getD_eq_getElem?_getD, List.getElem?_drop]
theorem parts_at {r : Pts} {i k : Nat} (hik : i < k) (hk : k < r.length) (he : ptD r i = ptD r k) (h1 : ∀ a b, a < i → a < b → b < r.length → ptD r a ≠ ptD r b) (h2 : ∀ b, i < b → b < k → ptD r i ≠ ptD r b) :
  partsR r = partsR ((r.take k).drop i) ++ partsR (r.take i ++ r.drop k) := by
 have hi : i < r.length := by omega
 have e1 : (r.take k).drop i = ptD r i :: (r.take k).drop (i + 1) := by
  rw [List.drop_eq_getElem_cons (by rw [List.length_take]; omega), List.getElem_take, ptD_eq hi]
 have e2 : r.drop k = ptD r i :: r.drop (k + 1) := by
  rw [List.drop_eq_getElem_cons hk, he, ptD_eq hk]
 have e3 : r = r.take i ++ (ptD r i :: (r.take k).drop (i + 1)) ++ (ptD r i :: r.drop (k + 1)) := by
  rw [← e1, ← e2]
  conv => lhs; rw [← List.take_append_drop k r, ← List.take_append_drop i (r.take k), List.take_take, Nat.min_eq_left (by omega)]
 have mem_take : ∀ {p : Pt}, p ∈ r.take i → ∃ a, a < i ∧ ptD r a = p := fun {p} hp => by
  obtain ⟨a, ha, rfl⟩ := List.getElem_of_mem hp
  rw [List.length_take] at ha
  exact ⟨a, by omega, by rw [List.getElem_take, ptD_eq (by omega)]⟩
 have mem_mid : ∀ {p : Pt}, p ∈ (r.take k).drop (i + 1) → ∃ b, i < b ∧ b < k ∧ ptD r b = p := fun {p} hp => by
  obtain ⟨b, hb, rfl⟩ := List.getElem_of_mem hp
  rw [List.length_drop, List.length_take] at hb
  exact ⟨i + 1 + b, by omega, by omega, by rw [List.getElem_drop, List.getElem_take, ptD_eq (by omega)]⟩
 have c := parts_cut (P := r.take i) (Q := (r.take k).drop (i + 1)) (R := r.drop (k + 1)) (x := ptD r i)
  (List.nodup_iff_pairwise_ne.2 (List.pairwise_iff_getElem.2 (fun a b ha hb hab => by
   rw [List.length_take] at ha hb
   have := h1 a b (by omega) hab (by omega)
   rw [ptD_eq (by omega), ptD_eq (by omega)] at this
   rw [List.getElem_take, List.getElem_take]
   exact this)))
  (fun h => by obtain ⟨a, ha, e⟩ := mem_take h; exact h1 a i ha ha hi e)
  (fun p hp h => by
   obtain ⟨a, ha, e⟩ := mem_take h
   obtain ⟨b, hb, hb2, e'⟩ := mem_mid hp
   exact h1 a b ha (by omega) (by omega) (e.trans e'.symm))
  (fun h => by
   obtain ⟨b, hb, hb2, e'⟩ := mem_mid h
   exact h2 b hb hb2 e'.symm)
 rw [← e3] at c
 rw [e1, e2]
 exact c
theorem div_at {l : Rgs} {r : Pts} {i k : Nat} (hik : i < k) (hk : k < r.length) (he : ptD r i = ptD r k) (h1 : ∀ a b, a < i → a < b → b < r.length → ptD r a ≠ ptD r b) (h2 : ∀ b, i < b → b < k → ptD r i ≠ ptD r b) :
  divIns l r = divIns (divIns l ((r.take k).drop i)) (r.take i ++ r.drop k) := by
 unfold divIns
 rw [parts_at hik hk he h1 h2, List.foldl_append]
theorem div_simple {l : Rgs} {r : Pts} (h : ∀ a b, a < b → b < r.length → ptD r a ≠ ptD r b) : divIns l r = insZ lessR (canonR r) l := by
 unfold divIns
 rw [parts_simple (List.nodup_iff_pairwise_ne.2 (List.pairwise_iff_getElem.2 (fun a b ha hb hab => by
  have := h a b hab hb
  rwa [ptD_eq ha, ptD_eq hb] at this)))]
 rfl
theorem partsR_len : ∀ (r : Pts), (partsR r).length ≤ r.length + 1 := fun r => by
 have key : ∀ (L : Pts) (S : Pts), (cutL ([], S) L).1.length ≤ L.length := by
  intro L
  induction L with
  | nil => intro S; exact Nat.le_refl _
  | cons p L ih =>
   intro S
   show (cutL (cutF ([], S) p) L).1.length ≤ _
   have h2 := (cutF_len ([], S) p).1
   rw [show cutF ([], S) p = ((cutF ([], S) p).1, (cutF ([], S) p).2) from rfl, cut_acc, List.length_append]
   have := ih (cutF ([], S) p).2
   simp only [List.length_nil, List.length_cons] at *
   omega
 unfold partsR
 rw [List.length_append, List.length_singleton]
 have := key r []
 omega
theorem insR_at {l : Rgs} {c : Pts} {k : Nat} (hs : Srt lessR l) (hk : k ≤ l.length) (h1 : ∀ j, j < k → lessR (rgD l j) c = true) (h2 : k < l.length → lessR (rgD l k) c = false) : l.take k ++ c :: l.drop k = insZ lessR c l := by
 refine srt_unique totR ?_ ?_ (insZ_srt totR c hs)
 ·refine List.Perm.trans List.perm_middle ?_
  rw [List.take_append_drop]
  exact (insZ_perm c l).symm
 ·have hs0 : Srt lessR (l.take k ++ l.drop k) := by rw [List.take_append_drop]; exact hs
  obtain ⟨s1, s2, s3⟩ := List.pairwise_append.1 hs0
  refine List.pairwise_append.2 ⟨s1, List.pairwise_cons.2 ⟨fun y hy => ?_, s2⟩, fun a ha b hb => ?_⟩
  ·obtain ⟨j, hj, rfl⟩ := List.getElem_of_mem hy
   rw [List.length_drop] at hj
   have hkl : k < l.length := by omega
   have h0 := h2 hkl
   rw [List.getElem_drop]
   rcases Nat.eq_zero_or_pos j with e | e
   ·subst e
    have : rgD l k = l[k] := by simp [rgD, hkl]
    rw [this] at h0
    exact h0
   ·have h3 := List.pairwise_iff_getElem.1 hs k (k + j) hkl (by omega) (by omega)
    have : rgD l k = l[k] := by simp [rgD, hkl]
    rw [this] at h0
    exact totR.ntrans h0 h3
  ·rcases List.mem_cons.1 hb with e | e
   ·subst e
    obtain ⟨j, hj, rfl⟩ := List.getElem_of_mem ha
    rw [List.length_take] at hj
    have := h1 j (by omega)
    rw [show rgD l j = l[j]'(by omega) by simp [rgD, show j < l.length by omega]] at this
    rw [List.getElem_take]
    exact totR.asymm this
   ·exact s3 a ha b e
end
section
def usedL (dl rest : Sgs) : List Bool := dl.map fun s => decide (s ∉ rest)
theorem used_get {dl rest : Sgs} {j : Nat} (hj : j < dl.length) : (usedL dl rest)[j]? = some (decide (sgD dl j ∉ rest)) := by
 unfold usedL
 rw [List.getElem?_map, List.getElem?_eq_getElem hj, sgD_eq hj]; rfl
theorem used_at {dl rest : Sgs} {i : Nat} (h : i < (usedL dl rest).length) (h' : i < dl.length) : (usedL dl rest)[i] = decide (dl[i] ∉ rest) := by simp [usedL]
theorem mem_dropS {rest : Sgs} {t x : Sg} : x ∈ dropS rest t ↔ x ∈ rest ∧ x ≠ t := by
 unfold dropS
 rw [List.mem_filter, decide_eq_true_iff]
theorem used_set {dl rest : Sgs} (hn : dl.Nodup) {j : Nat} (hj : j < dl.length) : (usedL dl rest).set j true = usedL dl (dropS rest (sgD dl j)) := by
 apply List.ext_getElem
 ·simp [usedL]
 ·intro i h1 h2
  have hi : i < dl.length := by simpa [usedL] using h2
  rw [List.getElem_set, used_at _ hi, used_at _ hi, sgD_eq hj]
  by_cases e : j = i
  ·subst e
   rw [if_pos rfl]
   exact (decide_eq_true (by rw [mem_dropS]; exact fun h => h.2 rfl)).symm
  ·rw [if_neg e]
   refine decide_eq_decide.2 ?_
   rw [mem_dropS]
   constructor
   ·exact fun h h' => h h'.1
   ·intro h h'
    refine h ⟨h', fun e2 => e ?_⟩
    have := (List.getElem_inj hn (i := i) (j := j) (h₀ := hi) (h₁ := hj)).1 e2
    exact this.symm
theorem used_all (dl : Sgs) : usedL dl dl = List.replicate dl.length false := by
 apply List.ext_getElem
 ·simp [usedL]
 ·intro i h1 h2
  rw [used_at _ (by simpa using h2), List.getElem_replicate]
  exact decide_eq_false (fun h => h (List.getElem_mem _))
def NextOk (dl : Sgs) : Prop := ∀ x ∈ dl, (nextZ dl x.1 x.2 = -1 ∧ outs dl x.2 = []) ∨ ∃ j : Nat, j < dl.length ∧ nextZ dl x.1 x.2 = j ∧ sgD dl j = succZ dl x
def InA (dl : Sgs) (s : Sg) (F : Pts × Sgs) (ring : Pts) (rest : Sgs) (kv : Int) : Prop :=
 ∃ j m : Nat, kv = j ∧ j < dl.length ∧ sgD dl j ∈ rest ∧ rest.length ≤ m ∧ walkZ dl s m (sgD dl j) ring rest = F ∧ (s ∈ rest → sgD dl j = s)
def InB (dl : Sgs) (F : Pts × Sgs) (ring : Pts) (rest : Sgs) (kv : Int) : Prop :=
 (kv < 0 ∨ ∃ j : Nat, kv = j ∧ j < dl.length ∧ sgD dl j ∉ rest) ∧ (ring, rest) = F
theorem in_step {dl : Sgs} {s : Sg} {F : Pts × Sgs} {ring : Pts} {rest : Sgs} (HN : NextOk dl) (sub : ∀ x ∈ rest, x ∈ dl) {j m : Nat} (hm : sgD dl j ∈ rest) (hl : rest.length ≤ m) (hw : walkZ dl s m (sgD dl j) ring rest = F) (hs : s ∈ rest → sgD dl j = s) :
  InA dl s F (ring ++ [(sgD dl j).1]) (dropS rest (sgD dl j)) (nextZ dl (sgD dl j).1 (sgD dl j).2) ∨ InB dl F (ring ++ [(sgD dl j).1]) (dropS rest (sgD dl j)) (nextZ dl (sgD dl j).1 (sgD dl j).2) := by
 generalize sgD dl j = t at *
 have hd := dropS_lt hm
 obtain ⟨m, rfl⟩ : ∃ m', m = m' + 1 := ⟨m - 1, by omega⟩
 have hns : ¬ s ∈ dropS rest t := fun h => by
  rw [mem_dropS] at h
  exact h.2 (hs h.1).symm
 rcases HN t (sub t hm) with ⟨e1, e2⟩ | ⟨j', hj', e1, e2⟩
 ·have hno : succZ dl t ∉ dropS rest t := fun h => by
   rw [mem_dropS] at h
   have h1 := sub _ h.1
   have h2 : (succZ dl t).2 ∈ outs dl t.2 := by
    unfold outs
    exact List.mem_map.2 ⟨_, List.mem_filter.2 ⟨h1, decide_eq_true rfl⟩, rfl⟩
   rw [e2] at h2
   exact absurd h2 (List.not_mem_nil)
  exact .inr ⟨.inl (by rw [e1]; decide), by rw [← hw, walk_stop (.inr hno)]⟩
 ·by_cases hmem : succZ dl t ∈ dropS rest t
  ·have hne : ¬ succZ dl t = s := fun e => hns (e ▸ hmem)
   exact .inl ⟨j', m, e1, hj', by rw [e2]; exact hmem, by omega, by rw [e2, ← hw, walkZ_on hne hmem], fun h => absurd h hns⟩
  ·exact .inr ⟨.inr ⟨j', e1, hj', by rw [e2]; exact hmem⟩, by rw [← hw, walk_stop (.inr hmem)]⟩
def startF (dl : Sgs) (st : Rgs × Sgs) (s : Sg) : Pts × Sgs := if s ∈ st.2 then walkZ dl s st.2.length s [] st.2 else ([], st.2)
theorem in_start {dl : Sgs} (st : Rgs × Sgs) {i : Nat} (hi : i < dl.length) : InA dl (sgD dl i) (startF dl st (sgD dl i)) [] st.2 i ∨ InB dl (startF dl st (sgD dl i)) [] st.2 i := by
 by_cases h : sgD dl i ∈ st.2
 ·exact .inl ⟨i, st.2.length, rfl, hi, h, Nat.le_refl _, (if_pos h).symm, fun _ => rfl⟩
 ·exact .inr ⟨.inr ⟨i, rfl, hi, h⟩, (if_neg h).symm⟩
def outTo (dl : Sgs) (k : Nat) : Rgs := (loopSt dl k).1.foldl divIns []
theorem start_in {dl : Sgs} {k : Nat} (hk : k < dl.length) (h : sgD dl k ∈ (loopSt dl k).2) : 0 < (startF dl (loopSt dl k) (sgD dl k)).1.length ∧ outTo dl (k + 1) = divIns (outTo dl k) (startF dl (loopSt dl k) (sgD dl k)).1 ∧ (loopSt dl (k + 1)).2 = (startF dl (loopSt dl k) (sgD dl k)).2 := by
 have e : startF dl (loopSt dl k) (sgD dl k) = walkZ dl (sgD dl k) (loopSt dl k).2.length (sgD dl k) [] (loopSt dl k).2 := if_pos h
 rw [e]
 refine ⟨walk_pos dl _ _ _ _ _ (.inl (List.length_pos_of_mem h)), ?_, ?_⟩
 ·unfold outTo
  rw [loopSt_snoc dl k hk, loopF_in h, List.foldl_append]
  rfl
 ·rw [loopSt_snoc dl k hk, loopF_in h]
theorem start_out {dl : Sgs} {k : Nat} (hk : k < dl.length) (h : sgD dl k ∉ (loopSt dl k).2) : (startF dl (loopSt dl k) (sgD dl k)).1 = [] ∧ outTo dl (k + 1) = outTo dl k ∧ (loopSt dl (k + 1)).2 = (startF dl (loopSt dl k) (sgD dl k)).2 := by
 have e : startF dl (loopSt dl k) (sgD dl k) = ([], (loopSt dl k).2) := if_neg h
 rw [e]
 refine ⟨rfl, ?_, ?_⟩
 ·unfold outTo
  rw [loopSt_snoc dl k hk, loopF_out h]
 ·rw [loopSt_snoc dl k hk, loopF_out h]
theorem fold_divIns_srt : ∀ (rs : Rgs) {l : Rgs}, Srt lessR l → Srt lessR (rs.foldl divIns l)
 | [], _, h => h
 | r :: rs, _, h => fold_divIns_srt rs (divIns_srt h r)
theorem outTo_srt (dl : Sgs) (k : Nat) : Srt lessR (outTo dl k) := fold_divIns_srt _ List.Pairwise.nil
theorem outTo_len {dl : Sgs} (hn : dl.length ≤ 600) {k : Nat} (hk : k ≤ dl.length) : (outTo dl k).length ≤ 600000600 := by
 unfold outTo
 rw [ins_rings, sortG_len]
 have h1 := divided_len (loopSt dl k).1 (fun r hr => by have := (loopSt_rings dl k r hr).2; omega)
 have h2 := (loopSt_len dl k).1
 refine Nat.le_trans h1 (Nat.le_trans (Nat.mul_le_mul_right _ (show (loopSt dl k).1.length ≤ 600 by omega)) (by decide))
theorem outTo_all (u : Sgs) : outTo (dirZ u) (dirZ u).length = ringsU u := by
 unfold outTo ringsU
 rw [ins_rings, ← loops_eq]
theorem start_len {dl : Sgs} {k : Nat} (hk : k < dl.length) : (startF dl (loopSt dl k) (sgD dl k)).1.length ≤ dl.length := by
 by_cases h : sgD dl k ∈ (loopSt dl k).2
 ·have e : startF dl (loopSt dl k) (sgD dl k) = walkZ dl (sgD dl k) (loopSt dl k).2.length (sgD dl k) [] (loopSt dl k).2 := if_pos h
  rw [e]
  have h1 := walk_len dl (sgD dl k) _ _ [] _ h (Nat.le_refl _)
  have h2 := (loopSt_len dl k).2
  rw [List.length_nil] at h1
  omega
 ·rw [(start_out hk h).1]; exact Nat.zero_le _
theorem dir_nodup (l : Sgs) : (dirZ (uniqZ l)).Nodup := by
 rw [dir_eq]
 refine List.pairwise_map.2 (List.Pairwise.imp_of_mem (fun {s t} hs ht hne e => hne ?_) (uniq_nodup l))
 have ls := canon_less (uniq_canon hs)
 have lt := canon_less (uniq_canon ht)
 unfold dirF at e
 have flip : ∀ {s t : Sg}, lessB s.1 s.2 = true → lessB t.1 t.2 = true → ¬ s = (t.2, t.1) := fun {s t} h1 h2 e => by
  rw [e] at h1
  rw [totB.asymm h2] at h1
  cases h1
 split at e <;> split at e
 ·exact e
 ·exact absurd e (flip ls lt)
 ·exact absurd e.symm (flip lt ls)
 ·exact Prod.ext (congrArg Prod.snd e) (congrArg Prod.fst e)
theorem next_ok {l : Sgs} (h : checkZ l = 0) : NextOk (dirZ (uniqZ l)) := fun x hx => by
 have hc := clean_of h
 have := next_ix (l := uniqZ l) hc (x := x) (by rw [uniq_idem]; exact hx)
 rwa [uniq_idem] at this
end
section
open Go.RowKit Go.Proofs.YtlmjciajpjdilaaGreatW.PrintLast

attribute [local go_sem high] eqPt
set_option maxRecDepth 100000 in
set_option maxHeartbeats 1000000 in
theorem ref11_Less {ok ok' : Nat → Prop} (a b : Pts) (A B : Option Addr) (n m c d : Nat) (w : World) (ha : Row Ty.pt ok w A a) (hb : Row Ty.pt ok' w B b) (hn : n = a.length) (hm : m = b.length) :
  Calls Tryz.prog 19 #[.slice A n c, .slice B m d] w fun e w' => e = .returned (.bool (lessR a b)) ∧ Below w.heap.size w w' := by
 subst hn hm
 have hl1 := ha.len
 have hl2 := hb.len
 go_enter Tryz.func19, Tryz.ntmps19
 go_wp2
 all_goals
  go_loopw [5] (fun i wr => ∃ k : Nat, k ≤ a.length ∧ k ≤ b.length ∧ i = .int .i64 k ∧ Hid (Below w.heap.size w wr) ∧ Hid (a.take k = b.take k)) (fun i _ => a.length - (intOf i).toNat)
  case atStart => exact ⟨0, Nat.zero_le _, Nat.zero_le _, rfl, Below.refl _ _, by simp [Hid]⟩
  case round =>
   obtain ⟨k, hk1, hk2, rfl, hbl, hall⟩ := hrel
   by_cases hlt1 : k < a.length
   ·by_cases hlt2 : k < b.length
    ·obtain ⟨ad, rfl, hc1, hc2⟩ := (ha.below hbl.out).pt_at k hlt1
     obtain ⟨bd, rfl, hd1, hd2⟩ := (hb.below hbl.out).pt_at k hlt2
     by_cases hq : ptD a k = ptD b k
     ·have hd := (ptB (ptD a k) (ptD b k)).trans (decide_eq_true hq)
      have HQ := Lib.hid hq
      clear hq
      go_wp2_with fail
      go_quiet (fail)
      go_wp2
      go_roundw
      case rel => exact ⟨k + 1, by omega, by omega, by go_num, (by repeat (first | exact Below.refl _ _ | apply below_alloc | apply below_drewN | apply below_drew | (refine below_set2 ?_ ?_; (first | (simp; done) | (simp; omega))) | (refine below_step ?_ hbl.out))), take_eq_step (0, 0) hall.out hlt1 hlt2 HQ.out⟩
      case measure => simp [intOf]; omega
     ·have hd := (ptB (ptD a k) (ptD b k)).trans (decide_eq_false hq)
      have hne : Hid (lessR a b = lessB ((ptD a k).1, (ptD a k).2) ((ptD b k).1, (ptD b k).2)) := lessR_step hall.out hlt1 hlt2 hq
      clear hq
      go_wp2_with fail
      go_quiet (fail)
      go_wp2_with fail
      refine start_ (n := 10) (S := fun w' => w'.cell? (ad.add (k * 2)) = some (.int .i64 (ptD a k).1) ∧ w'.cell? ⟨(ad.add (k * 2)).block, (ad.add (k * 2)).off + 1, none⟩ = some (.int .i64 (ptD a k).2) ∧ w'.cell? (bd.add (k * 2)) = some (.int .i64 (ptD b k).1) ∧ w'.cell? ⟨(bd.add (k * 2)).block, (bd.add (k * 2)).off + 1, none⟩ = some (.int .i64 (ptD b k).2)) (ds := []) #[Z,Z,Z,Z,Z,Z,Z,Z,Z,Z] (by kernel_rfl) rfl rfl ⟨hc1, hc2, hd1, hd2⟩ (fun hHeld => ?_)
      refine pure_ (i := 0) (N := some 27) (v := ?_) (a' := ?_) #[J,Z,Z,Z,Z,Z,Z,Z,Z,Z] rfl rfl (by kernel_rfl) (fun _ _ _ h => h) (Or.inl ⟨by rfl, ?_⟩) ?_ ?_
      rotate_left
      ·intro w'; go_simp; with_reducible rfl
      rotate_left
      ·simp only [Act.put, sA, sB, sC, i64_w, i32_w]; rfl
      refine pure_ (i := 1) (N := some 28) (v := ?_) (a' := ?_) #[J,J,Z,Z,Z,Z,Z,Z,Z,Z] rfl rfl (by kernel_rfl) (fun _ _ _ h => h) (Or.inl ⟨by rfl, ?_⟩) ?_ ?_
      rotate_left
      ·intro w'; go_simp; with_reducible rfl
      rotate_left
      ·simp only [Act.put, sA, sB, sC, i64_w, i32_w]; rfl
      refine pure_ (i := 2) (N := some 29) (v := ?_) (a' := ?_) #[J,J,J,Z,Z,Z,Z,Z,Z,Z] rfl rfl (by kernel_rfl) (fun _ _ _ h => h) (Or.inl ⟨by rfl, ?_⟩) ?_ ?_
      rotate_left
      ·intro w'; go_simp; with_reducible rfl
      rotate_left
      ·simp only [Act.put, sA, sB, sC, i64_w, i32_w]; rfl
      refine pure_ (i := 4) (N := some 31) (v := ?_) (a' := ?_) #[J,J,J,Z,J,Z,Z,Z,Z,Z] rfl rfl (by kernel_rfl) (fun _ _ _ h => h) (Or.inl ⟨by rfl, ?_⟩) ?_ ?_
      rotate_left
      ·intro w'; go_simp; with_reducible rfl
      rotate_left
      ·simp only [Act.put, sA, sB, sC, i64_w, i32_w]; rfl
      refine pure_ (i := 5) (N := some 32) (v := ?_) (a' := ?_) #[J,J,J,Z,J,J,Z,Z,Z,Z] rfl rfl (by kernel_rfl) (fun _ _ _ h => h) (Or.inl ⟨by rfl, ?_⟩) ?_ ?_
      rotate_left
      ·intro w'; go_simp; with_reducible rfl
      rotate_left
      ·simp only [Act.put, sA, sB, sC, i64_w, i32_w]; rfl
      refine pure_ (i := 6) (N := some 33) (v := ?_) (a' := ?_) #[J,J,J,Z,J,J,J,Z,Z,Z] rfl rfl (by kernel_rfl) (fun _ _ _ h => h) (Or.inl ⟨by rfl, ?_⟩) ?_ ?_
      rotate_left
      ·intro w'; go_simp; with_reducible rfl
      rotate_left
      ·simp only [Act.put, sA, sB, sC, i64_w, i32_w]; rfl
      refine take_ (i := 3) (N := some 30) (v := ?_) (a' := ?_) #[J,J,J,J,J,J,J,Z,Z,Z] rfl rfl (by kernel_rfl) (fun _ _ _ h => h) (Or.inl ⟨by rfl, ?_⟩) hHeld ?_ ?_
      rotate_left
      ·rintro w' ⟨s0, s1, s2, s3⟩; go_simp; with_reducible rfl
      rotate_left
      ·simp only [Act.put, sA, sB, sC, i64_w, i32_w]; rfl
      refine take_ (i := 7) (N := some 34) (v := ?_) (a' := ?_) #[J,J,J,J,J,J,J,J,Z,Z] rfl rfl (by kernel_rfl) (fun _ _ _ h => h) (Or.inl ⟨by rfl, ?_⟩) hHeld ?_ ?_
      rotate_left
      ·rintro w' ⟨s0, s1, s2, s3⟩; go_simp; with_reducible rfl
      rotate_left
      ·simp only [Act.put, sA, sB, sC, i64_w, i32_w]; rfl
      refine one_ (i := 8) (N := some 35) #[J,J,J,J,J,J,J,J,J,Z] rfl rfl (by kernel_rfl) (by decide) (fun K hK => ?_)
      refine goes_ Tryz.func59 (by kernel_rfl) rfl #[.agg #[.int .i64 (ptD a k).1, .int .i64 (ptD a k).2], .agg #[.int .i64 (ptD b k).1, .int .i64 (ptD b k).2]] (by rfl) rfl rfl (by simp only [List.map_toArray, List.map_cons, List.map_nil]; rfl) ?_
      with_reducible refine (ref08_Less _ _ _ _ _).mono ?_
      rintro e w1 ⟨rfl, hb1⟩
      refine ⟨_, rfl, ?_⟩
      refine hK.out _ _ ⟨cell_below hb1 hc1, cell_below hb1 hc2, cell_below hb1 hd1, cell_below hb1 hd2⟩ (fun hHeld => ?_)
      clear hK K
      refine norm_ (a' := ?_) ?_ ?_
      rotate_left
      ·show Act.put _ (some 35) _ = _
       simp only [Act.put, sA, sB, sC, i64_w, i32_w]; rfl
      refine pure_ (i := 9) (N := some 4) (v := ?_) (a' := ?_) #[J,J,J,J,J,J,J,J,J,J] rfl rfl (by kernel_rfl) (fun _ _ _ h => h) (Or.inl ⟨by rfl, ?_⟩) ?_ ?_
      rotate_left
      ·intro w'; go_simp; with_reducible rfl
      rotate_left
      ·simp only [Act.put, sA, sB, sC, i64_w, i32_w]; rfl
      refine done_ (by kernel_rfl) ?_
      go_wp2
      go_ret
      exact ⟨ret_bool hne.out.symm, (by repeat (first | exact Below.refl _ _ | apply below_alloc | apply below_drewN | apply below_drew | (refine below_set2 ?_ ?_; (first | (simp; done) | (simp; omega))) | (refine below_step ?_ hb1) | (refine below_step ?_ hbl.out)))⟩
    ·obtain rfl : k = b.length := by omega
     have HL : Hid (lessR a b = decide (a.length < b.length)) := lessR_end (by rw [show min a.length b.length = b.length from by omega]; exact hall.out)
     go_wp2
     go_ret
     exact ⟨ret_bool (by rw [HL.out]), (by repeat (first | exact Below.refl _ _ | apply below_alloc | apply below_drewN | apply below_drew | (refine below_set2 ?_ ?_; (first | (simp; done) | (simp; omega))) | (refine below_step ?_ hbl.out)))⟩
   ·obtain rfl : k = a.length := by omega
    have HL : Hid (lessR a b = decide (a.length < b.length)) := lessR_end (by rw [show min a.length b.length = a.length from by omega]; exact hall.out)
    go_wp2
    all_goals go_ret
    all_goals exact ⟨ret_bool (by rw [HL.out]), (by repeat (first | exact Below.refl _ _ | apply below_alloc | apply below_drewN | apply below_drew | (refine below_set2 ?_ ?_; (first | (simp; done) | (simp; omega))) | (refine below_step ?_ hbl.out)))⟩
def rotTo (r : Pts) (m k : Nat) : Pts := (List.range k).map fun i => ptD r ((m + i) % r.length)
theorem rotTo_snoc (r : Pts) (m k : Nat) : rotTo r m (k + 1) = rotTo r m k ++ [ptD r ((m + k) % r.length)] := by unfold rotTo; rw [List.range_succ, List.map_append]; rfl
theorem rotTo_len (r : Pts) (m k : Nat) : (rotTo r m k).length = k := by simp [rotTo]
theorem rot_full (r : Pts) (m : Nat) (hm : m ≤ r.length) : rotTo r m r.length = r.drop m ++ r.take m := by
 apply List.ext_getElem
 ·rw [rotTo_len, List.length_append, List.length_drop, List.length_take]; omega
 ·intro i h1 h2
  rw [rotTo_len] at h1
  have e : (rotTo r m r.length)[i] = ptD r ((m + i) % r.length) := by simp [rotTo]
  have hp : 0 < r.length := by omega
  rw [e, ptD_eq (Nat.mod_lt _ hp)]
  by_cases h : i < r.length - m
  ·rw [List.getElem_append_left (by rw [List.length_drop]; omega), List.getElem_drop]
   congr 1
   exact Nat.mod_eq_of_lt (by omega)
  ·rw [List.getElem_append_right (by rw [List.length_drop]; omega), List.getElem_take]
   congr 1
   rw [List.length_drop, Nat.mod_eq_sub_mod (by omega), Nat.mod_eq_of_lt (by omega)]
   omega
set_option maxRecDepth 100000 in
set_option maxHeartbeats 1000000 in
theorem ref11_Canon {ok : Nat → Prop} (r : Pts) (A : Option Addr) (n c : Nat) (w : World) (hr : Row Ty.pt ok w A r) (hn : n = r.length) (hpos : 0 < r.length) (hlen : r.length ≤ 1000000) :
  Calls Tryz.prog 94 #[.slice A n c] w fun e w' => ∃ v, e = .returned v ∧ Own1 Ty.pt 24 w.heap.size w' v (canonR r) ∧ Below w.heap.size w w' := by
 subst hn
 obtain ⟨ad, rfl, _⟩ := hr.2 hpos
 have HR := Lib.hid (hr.bnd.mono (ok' := fun k => k < w.heap.size) (fun k hk => hk.2))
 clear hr
 have HC : Hid (canonR r = r.drop (minIx r r.length) ++ r.take (minIx r r.length)) := rfl
 generalize canonR r = res at *
 go_enter Tryz.func94, Tryz.ntmps94
 go_wp2
 go_loopw [3, 4] (fun f i wr => ∃ k : Nat, 1 ≤ k ∧ k ≤ r.length ∧ i = .int .i64 k ∧ f = .int .i64 (minIx r k : Nat) ∧ Hid (Below w.heap.size w wr)) (fun _ i _ => r.length - (intOf i).toNat)
 case atStart => exact ⟨1, Nat.le_refl _, hpos, rfl, by rw [show minIx r 1 = 0 from (minIx_snoc r 0).trans (by split <;> rfl)]; rfl, Below.refl _ _⟩
 case round =>
  obtain ⟨k, hk1, hk, rfl, rfl, HB⟩ := hrel
  by_cases hlt : k < r.length
  ·have HRk := Lib.hid (HR.out.below HB.out)
   have hml := minIx_lt r k
   have hm2 : minIx r k < r.length := by omega
   obtain ⟨ad', e, hx0, hx1⟩ := HRk.out.pt_at k hlt
   cases e
   obtain ⟨ad', e, hy0, hy1⟩ := HRk.out.pt_at (minIx r k) hm2
   cases e
   have HS := Lib.hid (minIx_snoc r k)
   generalize minIx r k = m at *
   clear HRk
   cases hl : lessB ((ptD r k).1, (ptD r k).2) ((ptD r m).1, (ptD r m).2)
   all_goals
    go_wp2_with fail
    refine start_ (n := 9) (S := fun w' => w'.cell? (ad.add (k * 2)) = some (.int .i64 (ptD r k).1) ∧ w'.cell? ⟨(ad.add (k * 2)).block, (ad.add (k * 2)).off + 1, none⟩ = some (.int .i64 (ptD r k).2) ∧ w'.cell? (ad.add (m * 2)) = some (.int .i64 (ptD r m).1) ∧ w'.cell? ⟨(ad.add (m * 2)).block, (ad.add (m * 2)).off + 1, none⟩ = some (.int .i64 (ptD r m).2)) (ds := []) #[Z,Z,Z,Z,Z,Z,Z,Z,Z] (by kernel_rfl) rfl rfl ⟨hx0, hx1, hy0, hy1⟩ (fun hHeld => ?_)
    refine pure_ (i := 0) (N := some 13) (v := ?_) (a' := ?_) #[J,Z,Z,Z,Z,Z,Z,Z,Z] rfl rfl (by kernel_rfl) (fun _ _ _ h => h) (Or.inl ⟨by rfl, ?_⟩) ?_ ?_
    rotate_left
    ·intro w'; go_simp; with_reducible rfl
    rotate_left
    ·simp only [Act.put, sA, sB, sC, i64_w, i32_w]; rfl
    refine pure_ (i := 1) (N := some 14) (v := ?_) (a' := ?_) #[J,J,Z,Z,Z,Z,Z,Z,Z] rfl rfl (by kernel_rfl) (fun _ _ _ h => h) (Or.inl ⟨by rfl, ?_⟩) ?_ ?_
    rotate_left
    ·intro w'; go_simp; with_reducible rfl
    rotate_left
    ·simp only [Act.put, sA, sB, sC, i64_w, i32_w]; rfl
    refine pure_ (i := 2) (N := some 15) (v := ?_) (a' := ?_) #[J,J,J,Z,Z,Z,Z,Z,Z] rfl rfl (by kernel_rfl) (fun _ _ _ h => h) (Or.inl ⟨by rfl, ?_⟩) ?_ ?_
    rotate_left
    ·intro w'; go_simp; with_reducible rfl
    rotate_left
    ·simp only [Act.put, sA, sB, sC, i64_w, i32_w]; rfl
    refine pure_ (i := 4) (N := some 17) (v := ?_) (a' := ?_) #[J,J,J,Z,J,Z,Z,Z,Z] rfl rfl (by kernel_rfl) (fun _ _ _ h => h) (Or.inl ⟨by rfl, ?_⟩) ?_ ?_
    rotate_left
    ·intro w'; go_simp; with_reducible rfl
    rotate_left
    ·simp only [Act.put, sA, sB, sC, i64_w, i32_w]; rfl
    refine pure_ (i := 5) (N := some 18) (v := ?_) (a' := ?_) #[J,J,J,Z,J,J,Z,Z,Z] rfl rfl (by kernel_rfl) (fun _ _ _ h => h) (Or.inl ⟨by rfl, ?_⟩) ?_ ?_
    rotate_left
    ·intro w'; go_simp; with_reducible rfl
    rotate_left
    ·simp only [Act.put, sA, sB, sC, i64_w, i32_w]; rfl
    refine pure_ (i := 6) (N := some 19) (v := ?_) (a' := ?_) #[J,J,J,Z,J,J,J,Z,Z] rfl rfl (by kernel_rfl) (fun _ _ _ h => h) (Or.inl ⟨by rfl, ?_⟩) ?_ ?_
    rotate_left
    ·intro w'; go_simp; with_reducible rfl
    rotate_left
    ·simp only [Act.put, sA, sB, sC, i64_w, i32_w]; rfl
    refine take_ (i := 3) (N := some 16) (v := ?_) (a' := ?_) #[J,J,J,J,J,J,J,Z,Z] rfl rfl (by kernel_rfl) (fun _ _ _ h => h) (Or.inl ⟨by rfl, ?_⟩) hHeld ?_ ?_
    rotate_left
    ·rintro w' ⟨s0, s1, s2, s3⟩; go_simp; with_reducible rfl
    rotate_left
    ·simp only [Act.put, sA, sB, sC, i64_w, i32_w]; rfl
    refine take_ (i := 7) (N := some 20) (v := ?_) (a' := ?_) #[J,J,J,J,J,J,J,J,Z] rfl rfl (by kernel_rfl) (fun _ _ _ h => h) (Or.inl ⟨by rfl, ?_⟩) hHeld ?_ ?_
    rotate_left
    ·rintro w' ⟨s0, s1, s2, s3⟩; go_simp; with_reducible rfl
    rotate_left
    ·simp only [Act.put, sA, sB, sC, i64_w, i32_w]; rfl
    refine one_ (i := 8) (N := some 21) #[J,J,J,J,J,J,J,J,J] rfl rfl (by kernel_rfl) (by decide) (fun K hK => ?_)
    refine goes_ Tryz.func59 (by kernel_rfl) rfl #[.agg #[.int .i64 (ptD r k).1, .int .i64 (ptD r k).2], .agg #[.int .i64 (ptD r m).1, .int .i64 (ptD r m).2]] (by rfl) rfl rfl (by simp only [List.map_toArray, List.map_cons, List.map_nil]; rfl) ?_
    with_reducible refine (ref08_Less _ _ _ _ _).mono ?_
    rintro e w2 ⟨rfl, hb2⟩
    refine ⟨_, rfl, ?_⟩
    refine hK.out _ _ ⟨cell_below hb2 hx0, cell_below hb2 hx1, cell_below hb2 hy0, cell_below hb2 hy1⟩ (fun hHeld => ?_)
    clear hK K
    refine norm_ (a' := ?_) ?_ ?_
    rotate_left
    ·show Act.put _ (some 21) _ = _
     simp only [Act.put, sA, sB, sC, i64_w, i32_w]; rfl
    refine done_ (by kernel_rfl) ?_
    have HB1 : Hid (Below w.heap.size w w2) := below_step (below_drew HB.out) hb2
    have HL := Lib.hid hl
    rw [HL.out]
   ·have HS2 : Hid (minIx r (k + 1) = m) := HS.out.trans (if_neg (by rw [show lessB (ptD r k) (ptD r m) = false from hl]; decide))
    clear hl
    go_wp2
    go_roundw
    case rel => exact ⟨k + 1, by omega, by omega, by go_num, by rw [HS2.out], HB1⟩
    case measure => simp [intOf]; omega
   ·have HS2 : Hid (minIx r (k + 1) = k) := HS.out.trans (if_pos hl)
    clear hl
    go_wp2
    go_roundw
    case rel => exact ⟨k + 1, by omega, by omega, by go_num, by rw [HS2.out], HB1⟩
    case measure => simp [intOf]; omega
  ·obtain rfl : k = r.length := by omega
   have hml := minIx_lt r r.length
   have hm2 : minIx r r.length < r.length := by omega
   have HF := Lib.hid (HC.out.trans (rot_full r _ (Nat.le_of_lt hm2)).symm)
   obtain ⟨wo, rfl⟩ : ∃ wo : World, wo = wr := ⟨_, rfl⟩
   generalize minIx r r.length = m at *
   clear HC
   go_wp2
   go_loopw [5, 6] (fun v i wr => ∃ k : Nat, k ≤ r.length ∧ i = .int .i64 k ∧ Hid (Below w.heap.size w wr) ∧ Hid (Own1 Ty.pt 24 w.heap.size wr v (rotTo r m k))) (fun _ i _ => r.length - (intOf i).toNat)
   case atStart => exact ⟨0, Nat.zero_le _, rfl, HB.out, OwnR.nil _ _ _ _ _⟩
   case round =>
    obtain ⟨k, hk, rfl, HBi, HO⟩ := hrel
    have hzw := HBi.out.size
    by_cases hlt : k < r.length
    ·obtain ⟨j, hj⟩ : ∃ j, j = (m + k) % r.length := ⟨_, rfl⟩
     have hjl : j < r.length := by rw [hj]; exact Nat.mod_lt _ hpos
     have hw1 := wr_in (x := (m : Int) + (k : Int)) (by omega) (by omega)
     have hr1 : Int.tmod ((m : Int) + (k : Int)) (r.length : Int) = (j : Int) := by rw [hj, ← Int.natCast_add, Int.ofNat_tmod]
     have hz0 : ((r.length : Int) == 0) = false := by rw [beq_eq_false_iff_ne]; omega
     have HS : Hid (rotTo r m (k + 1) = rotTo r m k ++ [ptD r j]) := by rw [hj]; exact rotTo_snoc r m k
     have hrl := rotTo_len r m k
     clear hj
     obtain ⟨ad', e, hx0, hx1⟩ := (HR.out.below HBi.out).pt_at j hjl
     cases e
     generalize ptD r j = x at *
     generalize rotTo r m k = acc at *
     go_wp2_with (at_builtin; refine app_one Ty.pt (W := wr) w.heap.size rfl _ _ 41 24 _ 16 rfl Tryz.underlying41 infoPt rfl (by decide) u5 acc x _ _ rfl rfl rfl rfl HO.out (by omega) (by omega) ?_; intro v1 w4 HO1 hg1 hat1)
     have BZ : Hid (Below w.heap.size w w4) := below_own HBi.out hg1 (fun b e => (OwnR.lt HO.out b e).1)
     have HO4 := Lib.hid (Own1.of HO1)
     clear HO1 hg1 hat1 HO
     go_wp2
     go_roundw
     case rel => exact ⟨k + 1, by omega, by go_num, BZ, by rw [HS.out]; exact HO4.out⟩
     case measure => simp [intOf]; omega
    ·obtain rfl : k = r.length := by omega
     have HO9 : Hid (Own1 Ty.pt 24 w.heap.size wr u5 res) := by show Own1 _ _ _ _ _ _; rw [HF.out]; exact HO.out
     go_wp2
     go_ret
     exact ⟨_, rfl, HO9.out, HBi.out⟩
end
end Go.Proofs.YtlmjciajpjdilaaGreat
