/- Contract of ref21.next. Plain law: the reference's angular order picks what the code's turn picks. -/
import Derived.Test.YtlmjciajpjdilaaGreatKR14
namespace Go.Proofs.YtlmjciajpjdilaaGreat
set_option linter.unusedVariables false
set_option linter.unusedSimpArgs false
section
open Go.RowKit Go.Proofs.YtlmjciajpjdilaaGreatW.PrintLast

attribute [local go_sem high] eqPt eqSg
def dirP (v a : Pt) : Pt := (a.1 - v.1, a.2 - v.2)
def nextF (l : Sgs) (b v : Pt) (st : Int × Bool) (k : Nat) : Int × Bool :=
 if (sgD l k).1 = v then
  if st.1 < 0 ∨ (st.2 = true ∧ beforeB (dirP v (sgD l k).2) b = true) then ((k : Int), !beforeB (dirP v (sgD l k).2) b)
  else if st.2 = (!beforeB (dirP v (sgD l k).2) b) ∧ beforeB (dirP v (sgD l st.1.toNat).2) (dirP v (sgD l k).2) = true then ((k : Int), st.2) else st
 else st
def nextS (l : Sgs) (b v : Pt) (k : Nat) : Int × Bool := (List.range k).foldl (nextF l b v) (-1, false)
def nextZ (l : Sgs) (u v : Pt) : Int := (nextS l (dirP v u) v l.length).1
theorem nextS_snoc (l : Sgs) (b v : Pt) (k : Nat) : nextS l b v (k + 1) = nextF l b v (nextS l b v k) k := by unfold nextS; rw [List.range_succ, List.foldl_append]; rfl
theorem nextS_bd (l : Sgs) (b v : Pt) : ∀ k, (nextS l b v k).1 < 0 ∧ nextS l b v k = (-1, false) ∨ ∃ j : Nat, (nextS l b v k).1 = j ∧ j < k
 | 0 => .inl ⟨by show (-1 : Int) < 0; decide, rfl⟩
 | k + 1 => by
  rw [nextS_snoc]
  have ih := nextS_bd l b v k
  unfold nextF
  split
  ·split
   ·exact .inr ⟨k, rfl, by omega⟩
   ·split
    ·exact .inr ⟨k, rfl, by omega⟩
    ·rcases ih with h | ⟨j, h, hj⟩
     ·exact .inl h
     ·exact .inr ⟨j, h, by omega⟩
  ·rcases ih with h | ⟨j, h, hj⟩
   ·exact .inl h
   ·exact .inr ⟨j, h, by omega⟩
theorem near_dir {v a : Pt} (hv : validB v = true) (ha : validB a = true) : nearP (dirP v a) := by
 obtain ⟨h1, h2, h3, h4⟩ := valid_bd hv
 obtain ⟨h5, h6, h7, h8⟩ := valid_bd ha
 unfold nearP dirP
 simp only
 omega
theorem dir_wrap {v a : Pt} (hv : validB v = true) (ha : validB a = true) : IntKind.i64.wrap (a.1 - v.1) = a.1 - v.1 ∧ IntKind.i64.wrap (a.2 - v.2) = a.2 - v.2 := by
 obtain ⟨h1, h2, h3, h4⟩ := valid_bd hv
 obtain ⟨h5, h6, h7, h8⟩ := valid_bd ha
 exact ⟨wr_in (by omega) (by omega), wr_in (by omega) (by omega)⟩
set_option maxRecDepth 100000 in
set_option maxHeartbeats 2000000 in
theorem ref21_next {ok : Nat → Prop} (l : Sgs) (A : Option Addr) (n c : Nat) (u v : Pt) (w : World) (hr : Row Ty.sg ok w A l) (hn : n = l.length) (hV : segsV l) (hu : validB u = true) (hv : validB v = true) :
  Calls Tryz.prog 51 #[.slice A n c, ptA u, ptA v] w fun e w' => e = .returned (.int .i64 (nextZ l u v)) ∧ Below w.heap.size w w' := by
 subst hn
 have hmx := hr.len
 have HR := Lib.hid hr
 have HVA := Lib.hid hV
 have HNB : Hid (nearP (dirP v u)) := near_dir hv hu
 obtain ⟨q1, q2⟩ := dir_wrap hv hu
 have HZ : Hid (nextZ l u v = (nextS l (dirP v u) v l.length).1) := rfl
 obtain ⟨z, hz⟩ : ∃ z, z = nextZ l u v := ⟨_, rfl⟩
 rw [← hz] at HZ ⊢
 clear hr hV hu hz
 have HVV : Hid (validB v = true) := hv
 clear hv
 go_enter Tryz.func51, Tryz.ntmps51
 go_wp2
 have HV0 := blk_alloc (two_alloc w (.cells #[.int .i64 u.1, .int .i64 u.2] 24) (.cells #[.int .i64 v.1, .int .i64 v.2] 24)).2 (.cells #[.int .i64 (u.1 - v.1), .int .i64 (u.2 - v.2)] 24)
 have HK0 : (((w.alloc (.cells #[.int .i64 u.1, .int .i64 u.2] 24)).alloc (.cells #[.int .i64 v.1, .int .i64 v.2] 24)).alloc (.cells #[.int .i64 (u.1 - v.1), .int .i64 (u.2 - v.2)] 24)).heap[w.heap.size + 1 + 1]? = some (.cells #[.int .i64 (dirP v u).1, .int .i64 (dirP v u).2] 24 (0, 0)) := by
  have := heap_alloc_new ((w.alloc (.cells #[.int .i64 u.1, .int .i64 u.2] 24)).alloc (.cells #[.int .i64 v.1, .int .i64 v.2] 24)) (.cells #[.int .i64 (u.1 - v.1), .int .i64 (u.2 - v.2)] 24)
  simpa [dirP] using this
 clear q1 q2
 generalize dirP v u = b at *
 go_loopw [8, 9, 10] (fun bv av iv wr => ∃ k : Nat, k ≤ l.length ∧ iv = .int .i64 k ∧ bv = .int .i64 (nextS l b v k).1 ∧ av = .bool (nextS l b v k).2 ∧ wr.heap[w.heap.size + 1]? = some (.cells #[.int .i64 v.1, .int .i64 v.2] 24 (0, 0)) ∧ wr.heap[w.heap.size + 1 + 1]? = some (.cells #[.int .i64 b.1, .int .i64 b.2] 24 (0, 0)) ∧ Hid (Below w.heap.size w wr)) (fun _ _ i _ => l.length - (intOf i).toNat)
 case atStart => exact ⟨0, Nat.zero_le _, rfl, rfl, rfl, HV0, HK0, bq⟩
 case round =>
  obtain ⟨k, hk, rfl, rfl, rfl, HV, HK, HB⟩ := hrel
  have hsz := lt_of_block HK
  have vc0 := blk_cell HV 0 rfl
  have vc1 := blk_cell HV 1 rfl
  have HBD := Lib.hid (nextS_bd l b v k)
  by_cases hlt : k < l.length
  ·have HRk := Lib.hid (HR.out.below HB.out)
   obtain ⟨ad, rfl, hx0, hx1, hx2, hx3⟩ := HRk.out.sg_at k hlt
   have hx3' : wr.cell? ⟨(ad.add (k * 4)).block, (ad.add (k * 4)).off + 2 + 1, none⟩ = some (.int .i64 (sgD l k).2.2) := hx3
   have HS := Lib.hid (nextS_snoc l b v k)
   have HVX := Lib.hid (HVA.out (sgD l k) (by rw [sgD_eq hlt]; exact List.getElem_mem hlt))
   by_cases h1 : (sgD l k).1 = v
   ·have hd := (ptB (sgD l k).1 v).trans (decide_eq_true h1)
    have hvx := HVX.out
    rw [Bool.and_eq_true] at hvx
    have HW := Lib.hid (dir_wrap HVV.out hvx.2)
    have HND := Lib.hid (near_dir HVV.out hvx.2)
    have CB := Lib.hid (fun W => ref21_before (dirP v (sgD l k).2) b W HND.out HNB.out)
    have HS1 : Hid (nextS l b v (k + 1) = if (nextS l b v k).1 < 0 ∨ ((nextS l b v k).2 = true ∧ beforeB (dirP v (sgD l k).2) b = true) then ((k : Int), !beforeB (dirP v (sgD l k).2) b)
      else if (nextS l b v k).2 = (!beforeB (dirP v (sgD l k).2) b) ∧ beforeB (dirP v (sgD l (nextS l b v k).1.toNat).2) (dirP v (sgD l k).2) = true then ((k : Int), (nextS l b v k).2) else nextS l b v k) := HS.out.trans (if_pos h1)
    clear HS h1 hvx HVX
    go_wp2_with fail
    go_quiet (fail)
    obtain ⟨W1, hW1⟩ : ∃ W1, W1 = wr.drewN nq := ⟨_, rfl⟩
    have B1 : Below wr.heap.size wr W1 := by rw [hW1]; exact bq
    have hzz : W1.heap.size = wr.heap.size := by rw [hW1]; rfl
    rw [← hW1]
    clear hW1
    have HV1 := blk_below HV B1
    have HK1 := blk_below HK B1
    have HR1 := Lib.hid (HRk.out.below B1)
    have BW1 : Hid (Below w.heap.size w W1) := below_step HB.out B1
    obtain ⟨ad', ee, hx0, hx1, hx2, hx3⟩ := HR1.out.sg_at k hlt
    cases ee
    have hx3' : W1.cell? ⟨(ad.add (k * 4)).block, (ad.add (k * 4)).off + 2 + 1, none⟩ = some (.int .i64 (sgD l k).2.2) := hx3
    clear hd hx0 hx1 vc0 vc1 HRk B1 HV HK HB hsz hzz
    have hsz := lt_of_block HK1
    have vc0 := blk_cell HV1 0 rfl
    have vc1 := blk_cell HV1 1 rfl
    obtain ⟨x, hx⟩ : ∃ x, x = sgD l k := ⟨_, rfl⟩
    rw [← hx] at hx2 hx3 hx3' HW HND CB HS1
    clear hx
    obtain ⟨w1, w2⟩ := HW.out
    go_wp2_with fail
    refine start_ (n := 21) (S := fun w' => w'.cell? ⟨(ad.add (k * 4)).block, (ad.add (k * 4)).off + 2, none⟩ = some (.int .i64 x.2.1) ∧ w'.cell? ⟨(ad.add (k * 4)).block, (ad.add (k * 4)).off + 2 + 1, none⟩ = some (.int .i64 x.2.2) ∧ w'.cell? ⟨w.heap.size + 1, 0, none⟩ = some (.int .i64 v.1) ∧ w'.cell? ⟨w.heap.size + 1, 1, none⟩ = some (.int .i64 v.2)) (ds := [20]) #[Z,Z,Z,Z,Z,Z,Z,Z,Z,Z,Z,Z,Z,Z,Z,Z,Z,Z,Z,Z,Z] (by kernel_rfl) rfl rfl ⟨hx2, hx3', vc0, vc1⟩ (fun hHeld => ?_)
    refine pure_ (i := 0) (N := some 38) (v := ?_) (a' := ?_) #[J,Z,Z,Z,Z,Z,Z,Z,Z,Z,Z,Z,Z,Z,Z,Z,Z,Z,Z,Z,Z] rfl rfl (by kernel_rfl) (fun _ _ _ h => h) (Or.inl ⟨by rfl, ?_⟩) ?_ ?_
    rotate_left
    ·intro w'; go_simp; with_reducible rfl
    rotate_left
    ·simp only [Act.put, sA, sB, sC, i64_w, i32_w]; rfl
    refine pure_ (i := 1) (N := some 39) (v := ?_) (a' := ?_) #[J,J,Z,Z,Z,Z,Z,Z,Z,Z,Z,Z,Z,Z,Z,Z,Z,Z,Z,Z,Z] rfl rfl (by kernel_rfl) (fun _ _ _ h => h) (Or.inl ⟨by rfl, ?_⟩) ?_ ?_
    rotate_left
    ·intro w'; go_simp; with_reducible rfl
    rotate_left
    ·simp only [Act.put, sA, sB, sC, i64_w, i32_w]; rfl
    refine pure_ (i := 2) (N := some 40) (v := ?_) (a' := ?_) #[J,J,J,Z,Z,Z,Z,Z,Z,Z,Z,Z,Z,Z,Z,Z,Z,Z,Z,Z,Z] rfl rfl (by kernel_rfl) (fun _ _ _ h => h) (Or.inl ⟨by rfl, ?_⟩) ?_ ?_
    rotate_left
    ·intro w'; go_simp; with_reducible rfl
    rotate_left
    ·simp only [Act.put, sA, sB, sC, i64_w, i32_w]; rfl
    refine pure_ (i := 3) (N := some 41) (v := ?_) (a' := ?_) #[J,J,J,J,Z,Z,Z,Z,Z,Z,Z,Z,Z,Z,Z,Z,Z,Z,Z,Z,Z] rfl rfl (by kernel_rfl) (fun _ _ _ h => h) (Or.inl ⟨by rfl, ?_⟩) ?_ ?_
    rotate_left
    ·intro w'; go_simp; with_reducible rfl
    rotate_left
    ·simp only [Act.put, sA, sB, sC, i64_w, i32_w]; rfl
    refine pure_ (i := 4) (N := some 42) (v := ?_) (a' := ?_) #[J,J,J,J,J,Z,Z,Z,Z,Z,Z,Z,Z,Z,Z,Z,Z,Z,Z,Z,Z] rfl rfl (by kernel_rfl) (fun _ _ _ h => h) (Or.inl ⟨by rfl, ?_⟩) ?_ ?_
    rotate_left
    ·intro w'; go_simp; with_reducible rfl
    rotate_left
    ·simp only [Act.put, sA, sB, sC, i64_w, i32_w]; rfl
    refine pure_ (i := 6) (N := some 44) (v := ?_) (a' := ?_) #[J,J,J,J,J,Z,J,Z,Z,Z,Z,Z,Z,Z,Z,Z,Z,Z,Z,Z,Z] rfl rfl (by kernel_rfl) (fun _ _ _ h => h) (Or.inl ⟨by rfl, ?_⟩) ?_ ?_
    rotate_left
    ·intro w'; go_simp; with_reducible rfl
    rotate_left
    ·simp only [Act.put, sA, sB, sC, i64_w, i32_w]; rfl
    refine pure_ (i := 9) (N := some 47) (v := ?_) (a' := ?_) #[J,J,J,J,J,Z,J,Z,Z,J,Z,Z,Z,Z,Z,Z,Z,Z,Z,Z,Z] rfl rfl (by kernel_rfl) (fun _ _ _ h => h) (Or.inl ⟨by rfl, ?_⟩) ?_ ?_
    rotate_left
    ·intro w'; go_simp; with_reducible rfl
    rotate_left
    ·simp only [Act.put, sA, sB, sC, i64_w, i32_w]; rfl
    refine pure_ (i := 10) (N := some 48) (v := ?_) (a' := ?_) #[J,J,J,J,J,Z,J,Z,Z,J,J,Z,Z,Z,Z,Z,Z,Z,Z,Z,Z] rfl rfl (by kernel_rfl) (fun _ _ _ h => h) (Or.inl ⟨by rfl, ?_⟩) ?_ ?_
    rotate_left
    ·intro w'; go_simp; with_reducible rfl
    rotate_left
    ·simp only [Act.put, sA, sB, sC, i64_w, i32_w]; rfl
    refine pure_ (i := 11) (N := some 49) (v := ?_) (a' := ?_) #[J,J,J,J,J,Z,J,Z,Z,J,J,J,Z,Z,Z,Z,Z,Z,Z,Z,Z] rfl rfl (by kernel_rfl) (fun _ _ _ h => h) (Or.inl ⟨by rfl, ?_⟩) ?_ ?_
    rotate_left
    ·intro w'; go_simp; with_reducible rfl
    rotate_left
    ·simp only [Act.put, sA, sB, sC, i64_w, i32_w]; rfl
    refine pure_ (i := 12) (N := some 50) (v := ?_) (a' := ?_) #[J,J,J,J,J,Z,J,Z,Z,J,J,J,J,Z,Z,Z,Z,Z,Z,Z,Z] rfl rfl (by kernel_rfl) (fun _ _ _ h => h) (Or.inl ⟨by rfl, ?_⟩) ?_ ?_
    rotate_left
    ·intro w'; go_simp; with_reducible rfl
    rotate_left
    ·simp only [Act.put, sA, sB, sC, i64_w, i32_w]; rfl
    refine pure_ (i := 13) (N := some 51) (v := ?_) (a' := ?_) #[J,J,J,J,J,Z,J,Z,Z,J,J,J,J,J,Z,Z,Z,Z,Z,Z,Z] rfl rfl (by kernel_rfl) (fun _ _ _ h => h) (Or.inl ⟨by rfl, ?_⟩) ?_ ?_
    rotate_left
    ·intro w'; go_simp; with_reducible rfl
    rotate_left
    ·simp only [Act.put, sA, sB, sC, i64_w, i32_w]; rfl
    refine pure_ (i := 15) (N := some 53) (v := ?_) (a' := ?_) #[J,J,J,J,J,Z,J,Z,Z,J,J,J,J,J,Z,J,Z,Z,Z,Z,Z] rfl rfl (by kernel_rfl) (fun _ _ _ h => h) (Or.inl ⟨by rfl, ?_⟩) ?_ ?_
    rotate_left
    ·intro w'; go_simp; with_reducible rfl
    rotate_left
    ·simp only [Act.put, sA, sB, sC, i64_w, i32_w]; rfl
    refine take_ (i := 5) (N := some 43) (v := ?_) (a' := ?_) #[J,J,J,J,J,J,J,Z,Z,J,J,J,J,J,Z,J,Z,Z,Z,Z,Z] rfl rfl (by kernel_rfl) (fun _ _ _ h => h) (Or.inl ⟨by rfl, ?_⟩) hHeld ?_ ?_
    rotate_left
    ·rintro w' ⟨s0, s1, s2, s3⟩; go_simp; with_reducible rfl
    rotate_left
    ·simp only [Act.put, sA, sB, sC, i64_w, i32_w]; rfl
    refine take_ (i := 7) (N := some 45) (v := ?_) (a' := ?_) #[J,J,J,J,J,J,J,J,Z,J,J,J,J,J,Z,J,Z,Z,Z,Z,Z] rfl rfl (by kernel_rfl) (fun _ _ _ h => h) (Or.inl ⟨by rfl, ?_⟩) hHeld ?_ ?_
    rotate_left
    ·rintro w' ⟨s0, s1, s2, s3⟩; go_simp; with_reducible rfl
    rotate_left
    ·simp only [Act.put, sA, sB, sC, i64_w, i32_w]; rfl
    refine pure_ (i := 8) (N := some 46) (v := ?_) (a' := ?_) #[J,J,J,J,J,J,J,J,J,J,J,J,J,J,Z,J,Z,Z,Z,Z,Z] rfl rfl (by kernel_rfl) (fun _ _ _ h => h) (Or.inl ⟨by rfl, ?_⟩) ?_ ?_
    rotate_left
    ·intro w'; go_simp; with_reducible rfl
    rotate_left
    ·simp only [Act.put, sA, sB, sC, i64_w, i32_w]; rfl
    refine take_ (i := 14) (N := some 52) (v := ?_) (a' := ?_) #[J,J,J,J,J,J,J,J,J,J,J,J,J,J,J,J,Z,Z,Z,Z,Z] rfl rfl (by kernel_rfl) (fun _ _ _ h => h) (Or.inl ⟨by rfl, ?_⟩) hHeld ?_ ?_
    rotate_left
    ·rintro w' ⟨s0, s1, s2, s3⟩; go_simp; with_reducible rfl
    rotate_left
    ·simp only [Act.put, sA, sB, sC, i64_w, i32_w]; rfl
    refine take_ (i := 16) (N := some 54) (v := ?_) (a' := ?_) #[J,J,J,J,J,J,J,J,J,J,J,J,J,J,J,J,J,Z,Z,Z,Z] rfl rfl (by kernel_rfl) (fun _ _ _ h => h) (Or.inl ⟨by rfl, ?_⟩) hHeld ?_ ?_
    rotate_left
    ·rintro w' ⟨s0, s1, s2, s3⟩; go_simp; with_reducible rfl
    rotate_left
    ·simp only [Act.put, sA, sB, sC, i64_w, i32_w]; rfl
    refine pure_ (i := 17) (N := some 55) (v := ?_) (a' := ?_) #[J,J,J,J,J,J,J,J,J,J,J,J,J,J,J,J,J,J,Z,Z,Z] rfl rfl (by kernel_rfl) (fun _ _ _ h => h) (Or.inl ⟨by rfl, ?_⟩) ?_ ?_
    rotate_left
    ·intro w'; go_simp; with_reducible rfl
    rotate_left
    ·simp only [Act.put, sA, sB, sC, i64_w, i32_w]; rfl
    refine pure_ (i := 18) (N := some 56) (v := ?_) (a' := ?_) #[J,J,J,J,J,J,J,J,J,J,J,J,J,J,J,J,J,J,J,Z,Z] rfl rfl (by kernel_rfl) (fun _ _ _ h => h) (Or.inl ⟨by rfl, ?_⟩) ?_ ?_
    rotate_left
    ·intro w'; go_simp; with_reducible rfl
    rotate_left
    ·simp only [Act.put, sA, sB, sC, i64_w, i32_w]; rfl
    refine one_ (i := 19) (N := some 11) #[J,J,J,J,J,J,J,J,J,J,J,J,J,J,J,J,J,J,J,J,Z] rfl rfl (by kernel_rfl) (by decide) (fun K hK => ?_)
    refine value_ (w1 := ?_) (v := ?_) (by rfl) rfl ?_ ?_
    rotate_left 2
    ·go_simp
     constructor
     ·rfl
     ·rfl
    refine hK.out _ _ ⟨cell_below (below_alloc (below_drew (Below.refl _ _)) _) hx2, cell_below (below_alloc (below_drew (Below.refl _ _)) _) hx3', cell_below (below_alloc (below_drew (Below.refl _ _)) _) vc0, cell_below (below_alloc (below_drew (Below.refl _ _)) _) vc1⟩ (fun hHeld => ?_)
    clear hK K
    refine norm_ (a' := ?_) ?_ ?_
    rotate_left
    ·show Act.put _ (some 11) _ = _
     simp only [Act.put, sA, sB, sC, i64_w, i32_w]; rfl
    refine last_ (i := 20) (N := none) #[J,J,J,J,J,J,J,J,J,J,J,J,J,J,J,J,J,J,J,J,J] rfl rfl (by kernel_rfl) (by decide) (fun K hK => ?_)
    refine skip_ (w1 := ?_) (by rfl) rfl ?_ ?_
    rotate_left
    ·go_simp
     rfl
    refine hK.out _ _ ?_
    clear hK K
    refine done_ (by kernel_rfl) ?_

    obtain ⟨W2, hW2⟩ : ∃ W2, W2 = (W1.alloc (.cells #[.int .i64 (x.2.1 - v.1), .int .i64 (x.2.2 - v.2)] 24)).drew := ⟨_, rfl⟩
    have HD : W2.heap[W1.heap.size]? = some (.cells #[.int .i64 (dirP v x.2).1, .int .i64 (dirP v x.2).2] 24 (0, 0)) := by rw [hW2]; exact heap_alloc_new _ _
    have B2 : Below W1.heap.size W1 W2 := by rw [hW2]; exact bq
    rw [← hW2]
    clear hW2 hx2 hx3 hx3' vc0 vc1 w1 w2 HW
    have HV2 := blk_below HV1 B2
    have HK2 := blk_below HK1 B2
    have HR2 := Lib.hid (HR1.out.below B2)
    have BW2 : Hid (Below w.heap.size w W2) := below_step BW1.out B2
    have hsd := lt_of_block HD
    clear HV1 HK1 HR1 BW1 B2
    generalize dirP v x.2 = d at *
    have vc0 := blk_cell HK2 0 rfl
    have vc1 := blk_cell HK2 1 rfl
    have dc0 := blk_cell HD 0 rfl
    have dc1 := blk_cell HD 1 rfl
    go_wp2_with fail
    (refine (CB.out _).mono ?_; rintro e w3 ⟨rfl, hb3⟩)
    have HV3 := blk_below HV2 hb3
    have HK3 := blk_below HK2 hb3
    have HD3 := blk_below HD hb3
    have HR3 := Lib.hid (HR2.out.below hb3)
    have BW3 : Hid (Below w.heap.size w w3) := below_step BW2.out hb3
    clear HV2 HK2 HR2 BW2 HD hb3 vc0 vc1 dc0 dc1 hsd CB
    have hsz3 := lt_of_block HK3
    have hsd3 := lt_of_block HD3
    obtain ⟨q, hq⟩ : ∃ q, q = nextS l b v k := ⟨_, rfl⟩
    rw [← hq] at HS1 HBD ⊢
    clear hq
    obtain ⟨bb, hbb⟩ : ∃ bb, bb = beforeB d b := ⟨_, rfl⟩
    rw [← hbb] at HS1 ⊢
    clear hbb
    rcases HBD.out with ⟨hneg, rfl⟩ | ⟨j, hj, hjk⟩
    ·cases bb
     ·have HT : Hid (nextS l b v (k + 1) = ((k : Int), true)) := HS1.out.trans (if_pos (Or.inl (by decide)))
      clear HS1 HBD hneg
      go_wp2
      go_roundw
      case rel => exact ⟨k + 1, by omega, by go_num, by rw [HT.out], by rw [HT.out], HV3, HK3, BW3.out⟩
      case measure => simp [intOf]; omega
     ·have HT : Hid (nextS l b v (k + 1) = ((k : Int), false)) := HS1.out.trans (if_pos (Or.inl (by decide)))
      clear HS1 HBD hneg
      go_wp2
      go_roundw
      case rel => exact ⟨k + 1, by omega, by go_num, by rw [HT.out], by rw [HT.out], HV3, HK3, BW3.out⟩
      case measure => simp [intOf]; omega
    ·obtain ⟨q1, af⟩ := q
     simp only at hj HS1
     subst hj
     have hj0 : decide (((j : Nat) : Int) < 0) = false := decide_eq_false (by omega)
     have hjl : j < l.length := by omega
     clear HBD
     cases af
     all_goals cases bb
     ·-- after false, before false
      have HT : Hid (nextS l b v (k + 1) = ((j : Int), false)) := HS1.out.trans ((if_neg (by rintro (h | ⟨h, h2⟩); (· omega); (· simp at h h2))).trans (if_neg (by rintro ⟨h, _⟩; simp at h)))
      clear HS1
      have HC : Hid (sgD l j = sgD l j) := rfl
      have hvj := HVA.out (sgD l j) (by rw [sgD_eq hjl]; exact List.getElem_mem hjl)
      rw [Bool.and_eq_true] at hvj
      obtain ⟨w1, w2⟩ := dir_wrap HVV.out hvj.2
      have HNJ := Lib.hid (near_dir HVV.out hvj.2)
      obtain ⟨ae, ee, hx0, hx1, hx2, hx3⟩ := HR3.out.sg_at j hjl
      cases ee
      have hx3' : w3.cell? ⟨(ad.add (j * 4)).block, (ad.add (j * 4)).off + 2 + 1, none⟩ = some (.int .i64 (sgD l j).2.2) := hx3
      have vc0 := blk_cell HV3 0 rfl
      have vc1 := blk_cell HV3 1 rfl
      clear hx0 hx1 hvj
      obtain ⟨x, hx⟩ : ∃ x, x = sgD l j := ⟨_, rfl⟩
      rw [← hx] at hx2 hx3 hx3' w1 w2 HNJ HC
      clear hx
      go_wp2_with fail
      refine start_ (n := 21) (S := fun w' => w'.cell? ⟨(ad.add (j * 4)).block, (ad.add (j * 4)).off + 2, none⟩ = some (.int .i64 x.2.1) ∧ w'.cell? ⟨(ad.add (j * 4)).block, (ad.add (j * 4)).off + 2 + 1, none⟩ = some (.int .i64 x.2.2) ∧ w'.cell? ⟨w.heap.size + 1, 0, none⟩ = some (.int .i64 v.1) ∧ w'.cell? ⟨w.heap.size + 1, 1, none⟩ = some (.int .i64 v.2)) (ds := [20]) #[Z,Z,Z,Z,Z,Z,Z,Z,Z,Z,Z,Z,Z,Z,Z,Z,Z,Z,Z,Z,Z] (by kernel_rfl) rfl rfl ⟨hx2, hx3', vc0, vc1⟩ (fun hHeld => ?_)
      refine pure_ (i := 0) (N := some 72) (v := ?_) (a' := ?_) #[J,Z,Z,Z,Z,Z,Z,Z,Z,Z,Z,Z,Z,Z,Z,Z,Z,Z,Z,Z,Z] rfl rfl (by kernel_rfl) (fun _ _ _ h => h) (Or.inl ⟨by rfl, ?_⟩) ?_ ?_
      rotate_left
      ·intro w'; go_simp; with_reducible rfl
      rotate_left
      ·simp only [Act.put, sA, sB, sC, i64_w, i32_w]; rfl
      refine pure_ (i := 1) (N := some 73) (v := ?_) (a' := ?_) #[J,J,Z,Z,Z,Z,Z,Z,Z,Z,Z,Z,Z,Z,Z,Z,Z,Z,Z,Z,Z] rfl rfl (by kernel_rfl) (fun _ _ _ h => h) (Or.inl ⟨by rfl, ?_⟩) ?_ ?_
      rotate_left
      ·intro w'; go_simp; with_reducible rfl
      rotate_left
      ·simp only [Act.put, sA, sB, sC, i64_w, i32_w]; rfl
      refine pure_ (i := 2) (N := some 74) (v := ?_) (a' := ?_) #[J,J,J,Z,Z,Z,Z,Z,Z,Z,Z,Z,Z,Z,Z,Z,Z,Z,Z,Z,Z] rfl rfl (by kernel_rfl) (fun _ _ _ h => h) (Or.inl ⟨by rfl, ?_⟩) ?_ ?_
      rotate_left
      ·intro w'; go_simp; with_reducible rfl
      rotate_left
      ·simp only [Act.put, sA, sB, sC, i64_w, i32_w]; rfl
      refine pure_ (i := 3) (N := some 75) (v := ?_) (a' := ?_) #[J,J,J,J,Z,Z,Z,Z,Z,Z,Z,Z,Z,Z,Z,Z,Z,Z,Z,Z,Z] rfl rfl (by kernel_rfl) (fun _ _ _ h => h) (Or.inl ⟨by rfl, ?_⟩) ?_ ?_
      rotate_left
      ·intro w'; go_simp; with_reducible rfl
      rotate_left
      ·simp only [Act.put, sA, sB, sC, i64_w, i32_w]; rfl
      refine pure_ (i := 4) (N := some 76) (v := ?_) (a' := ?_) #[J,J,J,J,J,Z,Z,Z,Z,Z,Z,Z,Z,Z,Z,Z,Z,Z,Z,Z,Z] rfl rfl (by kernel_rfl) (fun _ _ _ h => h) (Or.inl ⟨by rfl, ?_⟩) ?_ ?_
      rotate_left
      ·intro w'; go_simp; with_reducible rfl
      rotate_left
      ·simp only [Act.put, sA, sB, sC, i64_w, i32_w]; rfl
      refine pure_ (i := 6) (N := some 78) (v := ?_) (a' := ?_) #[J,J,J,J,J,Z,J,Z,Z,Z,Z,Z,Z,Z,Z,Z,Z,Z,Z,Z,Z] rfl rfl (by kernel_rfl) (fun _ _ _ h => h) (Or.inl ⟨by rfl, ?_⟩) ?_ ?_
      rotate_left
      ·intro w'; go_simp; with_reducible rfl
      rotate_left
      ·simp only [Act.put, sA, sB, sC, i64_w, i32_w]; rfl
      refine pure_ (i := 9) (N := some 81) (v := ?_) (a' := ?_) #[J,J,J,J,J,Z,J,Z,Z,J,Z,Z,Z,Z,Z,Z,Z,Z,Z,Z,Z] rfl rfl (by kernel_rfl) (fun _ _ _ h => h) (Or.inl ⟨by rfl, ?_⟩) ?_ ?_
      rotate_left
      ·intro w'; go_simp; with_reducible rfl
      rotate_left
      ·simp only [Act.put, sA, sB, sC, i64_w, i32_w]; rfl
      refine pure_ (i := 10) (N := some 82) (v := ?_) (a' := ?_) #[J,J,J,J,J,Z,J,Z,Z,J,J,Z,Z,Z,Z,Z,Z,Z,Z,Z,Z] rfl rfl (by kernel_rfl) (fun _ _ _ h => h) (Or.inl ⟨by rfl, ?_⟩) ?_ ?_
      rotate_left
      ·intro w'; go_simp; with_reducible rfl
      rotate_left
      ·simp only [Act.put, sA, sB, sC, i64_w, i32_w]; rfl
      refine pure_ (i := 11) (N := some 83) (v := ?_) (a' := ?_) #[J,J,J,J,J,Z,J,Z,Z,J,J,J,Z,Z,Z,Z,Z,Z,Z,Z,Z] rfl rfl (by kernel_rfl) (fun _ _ _ h => h) (Or.inl ⟨by rfl, ?_⟩) ?_ ?_
      rotate_left
      ·intro w'; go_simp; with_reducible rfl
      rotate_left
      ·simp only [Act.put, sA, sB, sC, i64_w, i32_w]; rfl
      refine pure_ (i := 12) (N := some 84) (v := ?_) (a' := ?_) #[J,J,J,J,J,Z,J,Z,Z,J,J,J,J,Z,Z,Z,Z,Z,Z,Z,Z] rfl rfl (by kernel_rfl) (fun _ _ _ h => h) (Or.inl ⟨by rfl, ?_⟩) ?_ ?_
      rotate_left
      ·intro w'; go_simp; with_reducible rfl
      rotate_left
      ·simp only [Act.put, sA, sB, sC, i64_w, i32_w]; rfl
      refine pure_ (i := 13) (N := some 85) (v := ?_) (a' := ?_) #[J,J,J,J,J,Z,J,Z,Z,J,J,J,J,J,Z,Z,Z,Z,Z,Z,Z] rfl rfl (by kernel_rfl) (fun _ _ _ h => h) (Or.inl ⟨by rfl, ?_⟩) ?_ ?_
      rotate_left
      ·intro w'; go_simp; with_reducible rfl
      rotate_left
      ·simp only [Act.put, sA, sB, sC, i64_w, i32_w]; rfl
      refine pure_ (i := 15) (N := some 87) (v := ?_) (a' := ?_) #[J,J,J,J,J,Z,J,Z,Z,J,J,J,J,J,Z,J,Z,Z,Z,Z,Z] rfl rfl (by kernel_rfl) (fun _ _ _ h => h) (Or.inl ⟨by rfl, ?_⟩) ?_ ?_
      rotate_left
      ·intro w'; go_simp; with_reducible rfl
      rotate_left
      ·simp only [Act.put, sA, sB, sC, i64_w, i32_w]; rfl
      refine take_ (i := 5) (N := some 77) (v := ?_) (a' := ?_) #[J,J,J,J,J,J,J,Z,Z,J,J,J,J,J,Z,J,Z,Z,Z,Z,Z] rfl rfl (by kernel_rfl) (fun _ _ _ h => h) (Or.inl ⟨by rfl, ?_⟩) hHeld ?_ ?_
      rotate_left
      ·rintro w' ⟨s0, s1, s2, s3⟩; go_simp; with_reducible rfl
      rotate_left
      ·simp only [Act.put, sA, sB, sC, i64_w, i32_w]; rfl
      refine take_ (i := 7) (N := some 79) (v := ?_) (a' := ?_) #[J,J,J,J,J,J,J,J,Z,J,J,J,J,J,Z,J,Z,Z,Z,Z,Z] rfl rfl (by kernel_rfl) (fun _ _ _ h => h) (Or.inl ⟨by rfl, ?_⟩) hHeld ?_ ?_
      rotate_left
      ·rintro w' ⟨s0, s1, s2, s3⟩; go_simp; with_reducible rfl
      rotate_left
      ·simp only [Act.put, sA, sB, sC, i64_w, i32_w]; rfl
      refine pure_ (i := 8) (N := some 80) (v := ?_) (a' := ?_) #[J,J,J,J,J,J,J,J,J,J,J,J,J,J,Z,J,Z,Z,Z,Z,Z] rfl rfl (by kernel_rfl) (fun _ _ _ h => h) (Or.inl ⟨by rfl, ?_⟩) ?_ ?_
      rotate_left
      ·intro w'; go_simp; with_reducible rfl
      rotate_left
      ·simp only [Act.put, sA, sB, sC, i64_w, i32_w]; rfl
      refine take_ (i := 14) (N := some 86) (v := ?_) (a' := ?_) #[J,J,J,J,J,J,J,J,J,J,J,J,J,J,J,J,Z,Z,Z,Z,Z] rfl rfl (by kernel_rfl) (fun _ _ _ h => h) (Or.inl ⟨by rfl, ?_⟩) hHeld ?_ ?_
      rotate_left
      ·rintro w' ⟨s0, s1, s2, s3⟩; go_simp; with_reducible rfl
      rotate_left
      ·simp only [Act.put, sA, sB, sC, i64_w, i32_w]; rfl
      refine take_ (i := 16) (N := some 88) (v := ?_) (a' := ?_) #[J,J,J,J,J,J,J,J,J,J,J,J,J,J,J,J,J,Z,Z,Z,Z] rfl rfl (by kernel_rfl) (fun _ _ _ h => h) (Or.inl ⟨by rfl, ?_⟩) hHeld ?_ ?_
      rotate_left
      ·rintro w' ⟨s0, s1, s2, s3⟩; go_simp; with_reducible rfl
      rotate_left
      ·simp only [Act.put, sA, sB, sC, i64_w, i32_w]; rfl
      refine pure_ (i := 17) (N := some 89) (v := ?_) (a' := ?_) #[J,J,J,J,J,J,J,J,J,J,J,J,J,J,J,J,J,J,Z,Z,Z] rfl rfl (by kernel_rfl) (fun _ _ _ h => h) (Or.inl ⟨by rfl, ?_⟩) ?_ ?_
      rotate_left
      ·intro w'; go_simp; with_reducible rfl
      rotate_left
      ·simp only [Act.put, sA, sB, sC, i64_w, i32_w]; rfl
      refine pure_ (i := 18) (N := some 90) (v := ?_) (a' := ?_) #[J,J,J,J,J,J,J,J,J,J,J,J,J,J,J,J,J,J,J,Z,Z] rfl rfl (by kernel_rfl) (fun _ _ _ h => h) (Or.inl ⟨by rfl, ?_⟩) ?_ ?_
      rotate_left
      ·intro w'; go_simp; with_reducible rfl
      rotate_left
      ·simp only [Act.put, sA, sB, sC, i64_w, i32_w]; rfl
      refine one_ (i := 19) (N := some 13) #[J,J,J,J,J,J,J,J,J,J,J,J,J,J,J,J,J,J,J,J,Z] rfl rfl (by kernel_rfl) (by decide) (fun K hK => ?_)
      refine value_ (w1 := ?_) (v := ?_) (by rfl) rfl ?_ ?_
      rotate_left 2
      ·go_simp
       constructor
       ·rfl
       ·rfl
      refine hK.out _ _ ⟨cell_below (below_alloc (below_drew (Below.refl _ _)) _) hx2, cell_below (below_alloc (below_drew (Below.refl _ _)) _) hx3', cell_below (below_alloc (below_drew (Below.refl _ _)) _) vc0, cell_below (below_alloc (below_drew (Below.refl _ _)) _) vc1⟩ (fun hHeld => ?_)
      clear hK K
      refine norm_ (a' := ?_) ?_ ?_
      rotate_left
      ·show Act.put _ (some 13) _ = _
       simp only [Act.put, sA, sB, sC, i64_w, i32_w]; rfl
      refine last_ (i := 20) (N := none) #[J,J,J,J,J,J,J,J,J,J,J,J,J,J,J,J,J,J,J,J,J] rfl rfl (by kernel_rfl) (by decide) (fun K hK => ?_)
      refine skip_ (w1 := ?_) (by rfl) rfl ?_ ?_
      rotate_left
      ·go_simp
       rfl
      refine hK.out _ _ ?_
      clear hK K
      refine done_ (by kernel_rfl) ?_
      obtain ⟨W4, hW4⟩ : ∃ W4, W4 = (w3.alloc (.cells #[.int .i64 (x.2.1 - v.1), .int .i64 (x.2.2 - v.2)] 24)).drew := ⟨_, rfl⟩
      have HE : W4.heap[w3.heap.size]? = some (.cells #[.int .i64 (dirP v x.2).1, .int .i64 (dirP v x.2).2] 24 (0, 0)) := by rw [hW4]; exact heap_alloc_new _ _
      have B4 : Below w3.heap.size w3 W4 := by rw [hW4]; exact bq
      rw [← hW4]
      clear hW4 hx2 hx3 hx3' vc0 vc1 w1 w2
      have HV4 := blk_below HV3 B4
      have HK4 := blk_below HK3 B4
      have HD4 := blk_below HD3 B4
      have BW4 : Hid (Below w.heap.size w W4) := below_step BW3.out B4
      clear HV3 HK3 HR3 BW3 HD3 B4
      go_wp2
      go_roundw
      case rel => exact ⟨k + 1, by omega, by go_num, by rw [HT.out], by rw [HT.out], HV4, HK4, BW4.out⟩
      case measure => simp [intOf]; omega
     ·-- after false, before true
      have HC : Hid (nextS l b v (k + 1) = if beforeB (dirP v (sgD l j).2) d = true then ((k : Int), false) else ((j : Int), false)) := by
       show _ = _
       rw [HS1.out, if_neg (by rintro (h | ⟨h, h2⟩); (· omega); (· simp at h h2))]
       simp
      clear HS1
      have hvj := HVA.out (sgD l j) (by rw [sgD_eq hjl]; exact List.getElem_mem hjl)
      rw [Bool.and_eq_true] at hvj
      obtain ⟨w1, w2⟩ := dir_wrap HVV.out hvj.2
      have HNJ := Lib.hid (near_dir HVV.out hvj.2)
      obtain ⟨ae, ee, hx0, hx1, hx2, hx3⟩ := HR3.out.sg_at j hjl
      cases ee
      have hx3' : w3.cell? ⟨(ad.add (j * 4)).block, (ad.add (j * 4)).off + 2 + 1, none⟩ = some (.int .i64 (sgD l j).2.2) := hx3
      have vc0 := blk_cell HV3 0 rfl
      have vc1 := blk_cell HV3 1 rfl
      clear hx0 hx1 hvj
      obtain ⟨x, hx⟩ : ∃ x, x = sgD l j := ⟨_, rfl⟩
      rw [← hx] at hx2 hx3 hx3' w1 w2 HNJ HC
      clear hx
      go_wp2_with fail
      refine start_ (n := 21) (S := fun w' => w'.cell? ⟨(ad.add (j * 4)).block, (ad.add (j * 4)).off + 2, none⟩ = some (.int .i64 x.2.1) ∧ w'.cell? ⟨(ad.add (j * 4)).block, (ad.add (j * 4)).off + 2 + 1, none⟩ = some (.int .i64 x.2.2) ∧ w'.cell? ⟨w.heap.size + 1, 0, none⟩ = some (.int .i64 v.1) ∧ w'.cell? ⟨w.heap.size + 1, 1, none⟩ = some (.int .i64 v.2)) (ds := [20]) #[Z,Z,Z,Z,Z,Z,Z,Z,Z,Z,Z,Z,Z,Z,Z,Z,Z,Z,Z,Z,Z] (by kernel_rfl) rfl rfl ⟨hx2, hx3', vc0, vc1⟩ (fun hHeld => ?_)
      refine pure_ (i := 0) (N := some 72) (v := ?_) (a' := ?_) #[J,Z,Z,Z,Z,Z,Z,Z,Z,Z,Z,Z,Z,Z,Z,Z,Z,Z,Z,Z,Z] rfl rfl (by kernel_rfl) (fun _ _ _ h => h) (Or.inl ⟨by rfl, ?_⟩) ?_ ?_
      rotate_left
      ·intro w'; go_simp; with_reducible rfl
      rotate_left
      ·simp only [Act.put, sA, sB, sC, i64_w, i32_w]; rfl
      refine pure_ (i := 1) (N := some 73) (v := ?_) (a' := ?_) #[J,J,Z,Z,Z,Z,Z,Z,Z,Z,Z,Z,Z,Z,Z,Z,Z,Z,Z,Z,Z] rfl rfl (by kernel_rfl) (fun _ _ _ h => h) (Or.inl ⟨by rfl, ?_⟩) ?_ ?_
      rotate_left
      ·intro w'; go_simp; with_reducible rfl
      rotate_left
      ·simp only [Act.put, sA, sB, sC, i64_w, i32_w]; rfl
      refine pure_ (i := 2) (N := some 74) (v := ?_) (a' := ?_) #[J,J,J,Z,Z,Z,Z,Z,Z,Z,Z,Z,Z,Z,Z,Z,Z,Z,Z,Z,Z] rfl rfl (by kernel_rfl) (fun _ _ _ h => h) (Or.inl ⟨by rfl, ?_⟩) ?_ ?_
      rotate_left
      ·intro w'; go_simp; with_reducible rfl
      rotate_left
      ·simp only [Act.put, sA, sB, sC, i64_w, i32_w]; rfl
      refine pure_ (i := 3) (N := some 75) (v := ?_) (a' := ?_) #[J,J,J,J,Z,Z,Z,Z,Z,Z,Z,Z,Z,Z,Z,Z,Z,Z,Z,Z,Z] rfl rfl (by kernel_rfl) (fun _ _ _ h => h) (Or.inl ⟨by rfl, ?_⟩) ?_ ?_
      rotate_left
      ·intro w'; go_simp; with_reducible rfl
      rotate_left
      ·simp only [Act.put, sA, sB, sC, i64_w, i32_w]; rfl
      refine pure_ (i := 4) (N := some 76) (v := ?_) (a' := ?_) #[J,J,J,J,J,Z,Z,Z,Z,Z,Z,Z,Z,Z,Z,Z,Z,Z,Z,Z,Z] rfl rfl (by kernel_rfl) (fun _ _ _ h => h) (Or.inl ⟨by rfl, ?_⟩) ?_ ?_
      rotate_left
      ·intro w'; go_simp; with_reducible rfl
      rotate_left
      ·simp only [Act.put, sA, sB, sC, i64_w, i32_w]; rfl
      refine pure_ (i := 6) (N := some 78) (v := ?_) (a' := ?_) #[J,J,J,J,J,Z,J,Z,Z,Z,Z,Z,Z,Z,Z,Z,Z,Z,Z,Z,Z] rfl rfl (by kernel_rfl) (fun _ _ _ h => h) (Or.inl ⟨by rfl, ?_⟩) ?_ ?_
      rotate_left
      ·intro w'; go_simp; with_reducible rfl
      rotate_left
      ·simp only [Act.put, sA, sB, sC, i64_w, i32_w]; rfl
      refine pure_ (i := 9) (N := some 81) (v := ?_) (a' := ?_) #[J,J,J,J,J,Z,J,Z,Z,J,Z,Z,Z,Z,Z,Z,Z,Z,Z,Z,Z] rfl rfl (by kernel_rfl) (fun _ _ _ h => h) (Or.inl ⟨by rfl, ?_⟩) ?_ ?_
      rotate_left
      ·intro w'; go_simp; with_reducible rfl
      rotate_left
      ·simp only [Act.put, sA, sB, sC, i64_w, i32_w]; rfl
      refine pure_ (i := 10) (N := some 82) (v := ?_) (a' := ?_) #[J,J,J,J,J,Z,J,Z,Z,J,J,Z,Z,Z,Z,Z,Z,Z,Z,Z,Z] rfl rfl (by kernel_rfl) (fun _ _ _ h => h) (Or.inl ⟨by rfl, ?_⟩) ?_ ?_
      rotate_left
      ·intro w'; go_simp; with_reducible rfl
      rotate_left
      ·simp only [Act.put, sA, sB, sC, i64_w, i32_w]; rfl
      refine pure_ (i := 11) (N := some 83) (v := ?_) (a' := ?_) #[J,J,J,J,J,Z,J,Z,Z,J,J,J,Z,Z,Z,Z,Z,Z,Z,Z,Z] rfl rfl (by kernel_rfl) (fun _ _ _ h => h) (Or.inl ⟨by rfl, ?_⟩) ?_ ?_
      rotate_left
      ·intro w'; go_simp; with_reducible rfl
      rotate_left
      ·simp only [Act.put, sA, sB, sC, i64_w, i32_w]; rfl
      refine pure_ (i := 12) (N := some 84) (v := ?_) (a' := ?_) #[J,J,J,J,J,Z,J,Z,Z,J,J,J,J,Z,Z,Z,Z,Z,Z,Z,Z] rfl rfl (by kernel_rfl) (fun _ _ _ h => h) (Or.inl ⟨by rfl, ?_⟩) ?_ ?_
      rotate_left
      ·intro w'; go_simp; with_reducible rfl
      rotate_left
      ·simp only [Act.put, sA, sB, sC, i64_w, i32_w]; rfl
      refine pure_ (i := 13) (N := some 85) (v := ?_) (a' := ?_) #[J,J,J,J,J,Z,J,Z,Z,J,J,J,J,J,Z,Z,Z,Z,Z,Z,Z] rfl rfl (by kernel_rfl) (fun _ _ _ h => h) (Or.inl ⟨by rfl, ?_⟩) ?_ ?_
      rotate_left
      ·intro w'; go_simp; with_reducible rfl
      rotate_left
      ·simp only [Act.put, sA, sB, sC, i64_w, i32_w]; rfl
      refine pure_ (i := 15) (N := some 87) (v := ?_) (a' := ?_) #[J,J,J,J,J,Z,J,Z,Z,J,J,J,J,J,Z,J,Z,Z,Z,Z,Z] rfl rfl (by kernel_rfl) (fun _ _ _ h => h) (Or.inl ⟨by rfl, ?_⟩) ?_ ?_
      rotate_left
      ·intro w'; go_simp; with_reducible rfl
      rotate_left
      ·simp only [Act.put, sA, sB, sC, i64_w, i32_w]; rfl
      refine take_ (i := 5) (N := some 77) (v := ?_) (a' := ?_) #[J,J,J,J,J,J,J,Z,Z,J,J,J,J,J,Z,J,Z,Z,Z,Z,Z] rfl rfl (by kernel_rfl) (fun _ _ _ h => h) (Or.inl ⟨by rfl, ?_⟩) hHeld ?_ ?_
      rotate_left
      ·rintro w' ⟨s0, s1, s2, s3⟩; go_simp; with_reducible rfl
      rotate_left
      ·simp only [Act.put, sA, sB, sC, i64_w, i32_w]; rfl
      refine take_ (i := 7) (N := some 79) (v := ?_) (a' := ?_) #[J,J,J,J,J,J,J,J,Z,J,J,J,J,J,Z,J,Z,Z,Z,Z,Z] rfl rfl (by kernel_rfl) (fun _ _ _ h => h) (Or.inl ⟨by rfl, ?_⟩) hHeld ?_ ?_
      rotate_left
      ·rintro w' ⟨s0, s1, s2, s3⟩; go_simp; with_reducible rfl
      rotate_left
      ·simp only [Act.put, sA, sB, sC, i64_w, i32_w]; rfl
      refine pure_ (i := 8) (N := some 80) (v := ?_) (a' := ?_) #[J,J,J,J,J,J,J,J,J,J,J,J,J,J,Z,J,Z,Z,Z,Z,Z] rfl rfl (by kernel_rfl) (fun _ _ _ h => h) (Or.inl ⟨by rfl, ?_⟩) ?_ ?_
      rotate_left
      ·intro w'; go_simp; with_reducible rfl
      rotate_left
      ·simp only [Act.put, sA, sB, sC, i64_w, i32_w]; rfl
      refine take_ (i := 14) (N := some 86) (v := ?_) (a' := ?_) #[J,J,J,J,J,J,J,J,J,J,J,J,J,J,J,J,Z,Z,Z,Z,Z] rfl rfl (by kernel_rfl) (fun _ _ _ h => h) (Or.inl ⟨by rfl, ?_⟩) hHeld ?_ ?_
      rotate_left
      ·rintro w' ⟨s0, s1, s2, s3⟩; go_simp; with_reducible rfl
      rotate_left
      ·simp only [Act.put, sA, sB, sC, i64_w, i32_w]; rfl
      refine take_ (i := 16) (N := some 88) (v := ?_) (a' := ?_) #[J,J,J,J,J,J,J,J,J,J,J,J,J,J,J,J,J,Z,Z,Z,Z] rfl rfl (by kernel_rfl) (fun _ _ _ h => h) (Or.inl ⟨by rfl, ?_⟩) hHeld ?_ ?_
      rotate_left
      ·rintro w' ⟨s0, s1, s2, s3⟩; go_simp; with_reducible rfl
      rotate_left
      ·simp only [Act.put, sA, sB, sC, i64_w, i32_w]; rfl
      refine pure_ (i := 17) (N := some 89) (v := ?_) (a' := ?_) #[J,J,J,J,J,J,J,J,J,J,J,J,J,J,J,J,J,J,Z,Z,Z] rfl rfl (by kernel_rfl) (fun _ _ _ h => h) (Or.inl ⟨by rfl, ?_⟩) ?_ ?_
      rotate_left
      ·intro w'; go_simp; with_reducible rfl
      rotate_left
      ·simp only [Act.put, sA, sB, sC, i64_w, i32_w]; rfl
      refine pure_ (i := 18) (N := some 90) (v := ?_) (a' := ?_) #[J,J,J,J,J,J,J,J,J,J,J,J,J,J,J,J,J,J,J,Z,Z] rfl rfl (by kernel_rfl) (fun _ _ _ h => h) (Or.inl ⟨by rfl, ?_⟩) ?_ ?_
      rotate_left
      ·intro w'; go_simp; with_reducible rfl
      rotate_left
      ·simp only [Act.put, sA, sB, sC, i64_w, i32_w]; rfl
      refine one_ (i := 19) (N := some 13) #[J,J,J,J,J,J,J,J,J,J,J,J,J,J,J,J,J,J,J,J,Z] rfl rfl (by kernel_rfl) (by decide) (fun K hK => ?_)
      refine value_ (w1 := ?_) (v := ?_) (by rfl) rfl ?_ ?_
      rotate_left 2
      ·go_simp
       constructor
       ·rfl
       ·rfl
      refine hK.out _ _ ⟨cell_below (below_alloc (below_drew (Below.refl _ _)) _) hx2, cell_below (below_alloc (below_drew (Below.refl _ _)) _) hx3', cell_below (below_alloc (below_drew (Below.refl _ _)) _) vc0, cell_below (below_alloc (below_drew (Below.refl _ _)) _) vc1⟩ (fun hHeld => ?_)
      clear hK K
      refine norm_ (a' := ?_) ?_ ?_
      rotate_left
      ·show Act.put _ (some 13) _ = _
       simp only [Act.put, sA, sB, sC, i64_w, i32_w]; rfl
      refine last_ (i := 20) (N := none) #[J,J,J,J,J,J,J,J,J,J,J,J,J,J,J,J,J,J,J,J,J] rfl rfl (by kernel_rfl) (by decide) (fun K hK => ?_)
      refine skip_ (w1 := ?_) (by rfl) rfl ?_ ?_
      rotate_left
      ·go_simp
       rfl
      refine hK.out _ _ ?_
      clear hK K
      refine done_ (by kernel_rfl) ?_
      obtain ⟨W4, hW4⟩ : ∃ W4, W4 = (w3.alloc (.cells #[.int .i64 (x.2.1 - v.1), .int .i64 (x.2.2 - v.2)] 24)).drew := ⟨_, rfl⟩
      have HE : W4.heap[w3.heap.size]? = some (.cells #[.int .i64 (dirP v x.2).1, .int .i64 (dirP v x.2).2] 24 (0, 0)) := by rw [hW4]; exact heap_alloc_new _ _
      have B4 : Below w3.heap.size w3 W4 := by rw [hW4]; exact bq
      rw [← hW4]
      clear hW4 hx2 hx3 hx3' vc0 vc1 w1 w2
      have HV4 := blk_below HV3 B4
      have HK4 := blk_below HK3 B4
      have HD4 := blk_below HD3 B4
      have BW4 : Hid (Below w.heap.size w W4) := below_step BW3.out B4
      clear HV3 HK3 HR3 BW3 HD3 B4
      have CC := Lib.hid (fun W => ref21_before (dirP v x.2) d W HNJ.out HND.out)
      generalize dirP v x.2 = g at *
      have ec0 := blk_cell HE 0 rfl
      have ec1 := blk_cell HE 1 rfl
      have dc0 := blk_cell HD4 0 rfl
      have dc1 := blk_cell HD4 1 rfl
      cases hcc : beforeB g d
      ·have HT : Hid (nextS l b v (k + 1) = ((j : Int), false)) := HC.out.trans (if_neg (by rw [hcc]; decide))
       have HCC := Lib.hid hcc
       clear hcc HC
       go_wp2_with fail
       (refine (CC.out _).mono ?_; rintro e w5 ⟨rfl, hb5⟩)
       rw [HCC.out]
       have HV5 := blk_below HV4 hb5
       have HK5 := blk_below HK4 hb5
       have BW5 : Hid (Below w.heap.size w w5) := below_step BW4.out hb5
       clear hb5 HV4 HK4 BW4 HD4 HE ec0 ec1 dc0 dc1 HCC
       go_wp2
       go_roundw
       case rel => exact ⟨k + 1, by omega, by go_num, by rw [HT.out], by rw [HT.out], HV5, HK5, BW5.out⟩
       case measure => simp [intOf]; omega
      ·have HT : Hid (nextS l b v (k + 1) = ((k : Int), false)) := HC.out.trans (if_pos (by rw [hcc]))
       have HCC := Lib.hid hcc
       clear hcc HC
       go_wp2_with fail
       (refine (CC.out _).mono ?_; rintro e w5 ⟨rfl, hb5⟩)
       rw [HCC.out]
       have HV5 := blk_below HV4 hb5
       have HK5 := blk_below HK4 hb5
       have BW5 : Hid (Below w.heap.size w w5) := below_step BW4.out hb5
       clear hb5 HV4 HK4 BW4 HD4 HE ec0 ec1 dc0 dc1 HCC
       go_wp2
       go_roundw
       case rel => exact ⟨k + 1, by omega, by go_num, by rw [HT.out], by rw [HT.out], HV5, HK5, BW5.out⟩
       case measure => simp [intOf]; omega
     ·-- after true, before false
      have HC : Hid (nextS l b v (k + 1) = if beforeB (dirP v (sgD l j).2) d = true then ((k : Int), true) else ((j : Int), true)) := by
       show _ = _
       rw [HS1.out, if_neg (by rintro (h | ⟨h, h2⟩); (· omega); (· simp at h h2))]
       simp
      clear HS1
      have hvj := HVA.out (sgD l j) (by rw [sgD_eq hjl]; exact List.getElem_mem hjl)
      rw [Bool.and_eq_true] at hvj
      obtain ⟨w1, w2⟩ := dir_wrap HVV.out hvj.2
      have HNJ := Lib.hid (near_dir HVV.out hvj.2)
      obtain ⟨ae, ee, hx0, hx1, hx2, hx3⟩ := HR3.out.sg_at j hjl
      cases ee
      have hx3' : w3.cell? ⟨(ad.add (j * 4)).block, (ad.add (j * 4)).off + 2 + 1, none⟩ = some (.int .i64 (sgD l j).2.2) := hx3
      have vc0 := blk_cell HV3 0 rfl
      have vc1 := blk_cell HV3 1 rfl
      clear hx0 hx1 hvj
      obtain ⟨x, hx⟩ : ∃ x, x = sgD l j := ⟨_, rfl⟩
      rw [← hx] at hx2 hx3 hx3' w1 w2 HNJ HC
      clear hx
      go_wp2_with fail
      refine start_ (n := 21) (S := fun w' => w'.cell? ⟨(ad.add (j * 4)).block, (ad.add (j * 4)).off + 2, none⟩ = some (.int .i64 x.2.1) ∧ w'.cell? ⟨(ad.add (j * 4)).block, (ad.add (j * 4)).off + 2 + 1, none⟩ = some (.int .i64 x.2.2) ∧ w'.cell? ⟨w.heap.size + 1, 0, none⟩ = some (.int .i64 v.1) ∧ w'.cell? ⟨w.heap.size + 1, 1, none⟩ = some (.int .i64 v.2)) (ds := [20]) #[Z,Z,Z,Z,Z,Z,Z,Z,Z,Z,Z,Z,Z,Z,Z,Z,Z,Z,Z,Z,Z] (by kernel_rfl) rfl rfl ⟨hx2, hx3', vc0, vc1⟩ (fun hHeld => ?_)
      refine pure_ (i := 0) (N := some 72) (v := ?_) (a' := ?_) #[J,Z,Z,Z,Z,Z,Z,Z,Z,Z,Z,Z,Z,Z,Z,Z,Z,Z,Z,Z,Z] rfl rfl (by kernel_rfl) (fun _ _ _ h => h) (Or.inl ⟨by rfl, ?_⟩) ?_ ?_
      rotate_left
      ·intro w'; go_simp; with_reducible rfl
      rotate_left
      ·simp only [Act.put, sA, sB, sC, i64_w, i32_w]; rfl
      refine pure_ (i := 1) (N := some 73) (v := ?_) (a' := ?_) #[J,J,Z,Z,Z,Z,Z,Z,Z,Z,Z,Z,Z,Z,Z,Z,Z,Z,Z,Z,Z] rfl rfl (by kernel_rfl) (fun _ _ _ h => h) (Or.inl ⟨by rfl, ?_⟩) ?_ ?_
      rotate_left
      ·intro w'; go_simp; with_reducible rfl
      rotate_left
      ·simp only [Act.put, sA, sB, sC, i64_w, i32_w]; rfl
      refine pure_ (i := 2) (N := some 74) (v := ?_) (a' := ?_) #[J,J,J,Z,Z,Z,Z,Z,Z,Z,Z,Z,Z,Z,Z,Z,Z,Z,Z,Z,Z] rfl rfl (by kernel_rfl) (fun _ _ _ h => h) (Or.inl ⟨by rfl, ?_⟩) ?_ ?_
      rotate_left
      ·intro w'; go_simp; with_reducible rfl
      rotate_left
      ·simp only [Act.put, sA, sB, sC, i64_w, i32_w]; rfl
      refine pure_ (i := 3) (N := some 75) (v := ?_) (a' := ?_) #[J,J,J,J,Z,Z,Z,Z,Z,Z,Z,Z,Z,Z,Z,Z,Z,Z,Z,Z,Z] rfl rfl (by kernel_rfl) (fun _ _ _ h => h) (Or.inl ⟨by rfl, ?_⟩) ?_ ?_
      rotate_left
      ·intro w'; go_simp; with_reducible rfl
      rotate_left
      ·simp only [Act.put, sA, sB, sC, i64_w, i32_w]; rfl
      refine pure_ (i := 4) (N := some 76) (v := ?_) (a' := ?_) #[J,J,J,J,J,Z,Z,Z,Z,Z,Z,Z,Z,Z,Z,Z,Z,Z,Z,Z,Z] rfl rfl (by kernel_rfl) (fun _ _ _ h => h) (Or.inl ⟨by rfl, ?_⟩) ?_ ?_
      rotate_left
      ·intro w'; go_simp; with_reducible rfl
      rotate_left
      ·simp only [Act.put, sA, sB, sC, i64_w, i32_w]; rfl
      refine pure_ (i := 6) (N := some 78) (v := ?_) (a' := ?_) #[J,J,J,J,J,Z,J,Z,Z,Z,Z,Z,Z,Z,Z,Z,Z,Z,Z,Z,Z] rfl rfl (by kernel_rfl) (fun _ _ _ h => h) (Or.inl ⟨by rfl, ?_⟩) ?_ ?_
      rotate_left
      ·intro w'; go_simp; with_reducible rfl
      rotate_left
      ·simp only [Act.put, sA, sB, sC, i64_w, i32_w]; rfl
      refine pure_ (i := 9) (N := some 81) (v := ?_) (a' := ?_) #[J,J,J,J,J,Z,J,Z,Z,J,Z,Z,Z,Z,Z,Z,Z,Z,Z,Z,Z] rfl rfl (by kernel_rfl) (fun _ _ _ h => h) (Or.inl ⟨by rfl, ?_⟩) ?_ ?_
      rotate_left
      ·intro w'; go_simp; with_reducible rfl
      rotate_left
      ·simp only [Act.put, sA, sB, sC, i64_w, i32_w]; rfl
      refine pure_ (i := 10) (N := some 82) (v := ?_) (a' := ?_) #[J,J,J,J,J,Z,J,Z,Z,J,J,Z,Z,Z,Z,Z,Z,Z,Z,Z,Z] rfl rfl (by kernel_rfl) (fun _ _ _ h => h) (Or.inl ⟨by rfl, ?_⟩) ?_ ?_
      rotate_left
      ·intro w'; go_simp; with_reducible rfl
      rotate_left
      ·simp only [Act.put, sA, sB, sC, i64_w, i32_w]; rfl
      refine pure_ (i := 11) (N := some 83) (v := ?_) (a' := ?_) #[J,J,J,J,J,Z,J,Z,Z,J,J,J,Z,Z,Z,Z,Z,Z,Z,Z,Z] rfl rfl (by kernel_rfl) (fun _ _ _ h => h) (Or.inl ⟨by rfl, ?_⟩) ?_ ?_
      rotate_left
      ·intro w'; go_simp; with_reducible rfl
      rotate_left
      ·simp only [Act.put, sA, sB, sC, i64_w, i32_w]; rfl
      refine pure_ (i := 12) (N := some 84) (v := ?_) (a' := ?_) #[J,J,J,J,J,Z,J,Z,Z,J,J,J,J,Z,Z,Z,Z,Z,Z,Z,Z] rfl rfl (by kernel_rfl) (fun _ _ _ h => h) (Or.inl ⟨by rfl, ?_⟩) ?_ ?_
      rotate_left
      ·intro w'; go_simp; with_reducible rfl
      rotate_left
      ·simp only [Act.put, sA, sB, sC, i64_w, i32_w]; rfl
      refine pure_ (i := 13) (N := some 85) (v := ?_) (a' := ?_) #[J,J,J,J,J,Z,J,Z,Z,J,J,J,J,J,Z,Z,Z,Z,Z,Z,Z] rfl rfl (by kernel_rfl) (fun _ _ _ h => h) (Or.inl ⟨by rfl, ?_⟩) ?_ ?_
      rotate_left
      ·intro w'; go_simp; with_reducible rfl
      rotate_left
      ·simp only [Act.put, sA, sB, sC, i64_w, i32_w]; rfl
      refine pure_ (i := 15) (N := some 87) (v := ?_) (a' := ?_) #[J,J,J,J,J,Z,J,Z,Z,J,J,J,J,J,Z,J,Z,Z,Z,Z,Z] rfl rfl (by kernel_rfl) (fun _ _ _ h => h) (Or.inl ⟨by rfl, ?_⟩) ?_ ?_
      rotate_left
      ·intro w'; go_simp; with_reducible rfl
      rotate_left
      ·simp only [Act.put, sA, sB, sC, i64_w, i32_w]; rfl
      refine take_ (i := 5) (N := some 77) (v := ?_) (a' := ?_) #[J,J,J,J,J,J,J,Z,Z,J,J,J,J,J,Z,J,Z,Z,Z,Z,Z] rfl rfl (by kernel_rfl) (fun _ _ _ h => h) (Or.inl ⟨by rfl, ?_⟩) hHeld ?_ ?_
      rotate_left
      ·rintro w' ⟨s0, s1, s2, s3⟩; go_simp; with_reducible rfl
      rotate_left
      ·simp only [Act.put, sA, sB, sC, i64_w, i32_w]; rfl
      refine take_ (i := 7) (N := some 79) (v := ?_) (a' := ?_) #[J,J,J,J,J,J,J,J,Z,J,J,J,J,J,Z,J,Z,Z,Z,Z,Z] rfl rfl (by kernel_rfl) (fun _ _ _ h => h) (Or.inl ⟨by rfl, ?_⟩) hHeld ?_ ?_
      rotate_left
      ·rintro w' ⟨s0, s1, s2, s3⟩; go_simp; with_reducible rfl
      rotate_left
      ·simp only [Act.put, sA, sB, sC, i64_w, i32_w]; rfl
      refine pure_ (i := 8) (N := some 80) (v := ?_) (a' := ?_) #[J,J,J,J,J,J,J,J,J,J,J,J,J,J,Z,J,Z,Z,Z,Z,Z] rfl rfl (by kernel_rfl) (fun _ _ _ h => h) (Or.inl ⟨by rfl, ?_⟩) ?_ ?_
      rotate_left
      ·intro w'; go_simp; with_reducible rfl
      rotate_left
      ·simp only [Act.put, sA, sB, sC, i64_w, i32_w]; rfl
      refine take_ (i := 14) (N := some 86) (v := ?_) (a' := ?_) #[J,J,J,J,J,J,J,J,J,J,J,J,J,J,J,J,Z,Z,Z,Z,Z] rfl rfl (by kernel_rfl) (fun _ _ _ h => h) (Or.inl ⟨by rfl, ?_⟩) hHeld ?_ ?_
      rotate_left
      ·rintro w' ⟨s0, s1, s2, s3⟩; go_simp; with_reducible rfl
      rotate_left
      ·simp only [Act.put, sA, sB, sC, i64_w, i32_w]; rfl
      refine take_ (i := 16) (N := some 88) (v := ?_) (a' := ?_) #[J,J,J,J,J,J,J,J,J,J,J,J,J,J,J,J,J,Z,Z,Z,Z] rfl rfl (by kernel_rfl) (fun _ _ _ h => h) (Or.inl ⟨by rfl, ?_⟩) hHeld ?_ ?_
      rotate_left
      ·rintro w' ⟨s0, s1, s2, s3⟩; go_simp; with_reducible rfl
      rotate_left
      ·simp only [Act.put, sA, sB, sC, i64_w, i32_w]; rfl
      refine pure_ (i := 17) (N := some 89) (v := ?_) (a' := ?_) #[J,J,J,J,J,J,J,J,J,J,J,J,J,J,J,J,J,J,Z,Z,Z] rfl rfl (by kernel_rfl) (fun _ _ _ h => h) (Or.inl ⟨by rfl, ?_⟩) ?_ ?_
      rotate_left
      ·intro w'; go_simp; with_reducible rfl
      rotate_left
      ·simp only [Act.put, sA, sB, sC, i64_w, i32_w]; rfl
      refine pure_ (i := 18) (N := some 90) (v := ?_) (a' := ?_) #[J,J,J,J,J,J,J,J,J,J,J,J,J,J,J,J,J,J,J,Z,Z] rfl rfl (by kernel_rfl) (fun _ _ _ h => h) (Or.inl ⟨by rfl, ?_⟩) ?_ ?_
      rotate_left
      ·intro w'; go_simp; with_reducible rfl
      rotate_left
      ·simp only [Act.put, sA, sB, sC, i64_w, i32_w]; rfl
      refine one_ (i := 19) (N := some 13) #[J,J,J,J,J,J,J,J,J,J,J,J,J,J,J,J,J,J,J,J,Z] rfl rfl (by kernel_rfl) (by decide) (fun K hK => ?_)
      refine value_ (w1 := ?_) (v := ?_) (by rfl) rfl ?_ ?_
      rotate_left 2
      ·go_simp
       constructor
       ·rfl
       ·rfl
      refine hK.out _ _ ⟨cell_below (below_alloc (below_drew (Below.refl _ _)) _) hx2, cell_below (below_alloc (below_drew (Below.refl _ _)) _) hx3', cell_below (below_alloc (below_drew (Below.refl _ _)) _) vc0, cell_below (below_alloc (below_drew (Below.refl _ _)) _) vc1⟩ (fun hHeld => ?_)
      clear hK K
      refine norm_ (a' := ?_) ?_ ?_
      rotate_left
      ·show Act.put _ (some 13) _ = _
       simp only [Act.put, sA, sB, sC, i64_w, i32_w]; rfl
      refine last_ (i := 20) (N := none) #[J,J,J,J,J,J,J,J,J,J,J,J,J,J,J,J,J,J,J,J,J] rfl rfl (by kernel_rfl) (by decide) (fun K hK => ?_)
      refine skip_ (w1 := ?_) (by rfl) rfl ?_ ?_
      rotate_left
      ·go_simp
       rfl
      refine hK.out _ _ ?_
      clear hK K
      refine done_ (by kernel_rfl) ?_
      obtain ⟨W4, hW4⟩ : ∃ W4, W4 = (w3.alloc (.cells #[.int .i64 (x.2.1 - v.1), .int .i64 (x.2.2 - v.2)] 24)).drew := ⟨_, rfl⟩
      have HE : W4.heap[w3.heap.size]? = some (.cells #[.int .i64 (dirP v x.2).1, .int .i64 (dirP v x.2).2] 24 (0, 0)) := by rw [hW4]; exact heap_alloc_new _ _
      have B4 : Below w3.heap.size w3 W4 := by rw [hW4]; exact bq
      rw [← hW4]
      clear hW4 hx2 hx3 hx3' vc0 vc1 w1 w2
      have HV4 := blk_below HV3 B4
      have HK4 := blk_below HK3 B4
      have HD4 := blk_below HD3 B4
      have BW4 : Hid (Below w.heap.size w W4) := below_step BW3.out B4
      clear HV3 HK3 HR3 BW3 HD3 B4
      have CC := Lib.hid (fun W => ref21_before (dirP v x.2) d W HNJ.out HND.out)
      generalize dirP v x.2 = g at *
      have ec0 := blk_cell HE 0 rfl
      have ec1 := blk_cell HE 1 rfl
      have dc0 := blk_cell HD4 0 rfl
      have dc1 := blk_cell HD4 1 rfl
      cases hcc : beforeB g d
      ·have HT : Hid (nextS l b v (k + 1) = ((j : Int), true)) := HC.out.trans (if_neg (by rw [hcc]; decide))
       have HCC := Lib.hid hcc
       clear hcc HC
       go_wp2_with fail
       (refine (CC.out _).mono ?_; rintro e w5 ⟨rfl, hb5⟩)
       rw [HCC.out]
       have HV5 := blk_below HV4 hb5
       have HK5 := blk_below HK4 hb5
       have BW5 : Hid (Below w.heap.size w w5) := below_step BW4.out hb5
       clear hb5 HV4 HK4 BW4 HD4 HE ec0 ec1 dc0 dc1 HCC
       go_wp2
       go_roundw
       case rel => exact ⟨k + 1, by omega, by go_num, by rw [HT.out], by rw [HT.out], HV5, HK5, BW5.out⟩
       case measure => simp [intOf]; omega
      ·have HT : Hid (nextS l b v (k + 1) = ((k : Int), true)) := HC.out.trans (if_pos (by rw [hcc]))
       have HCC := Lib.hid hcc
       clear hcc HC
       go_wp2_with fail
       (refine (CC.out _).mono ?_; rintro e w5 ⟨rfl, hb5⟩)
       rw [HCC.out]
       have HV5 := blk_below HV4 hb5
       have HK5 := blk_below HK4 hb5
       have BW5 : Hid (Below w.heap.size w w5) := below_step BW4.out hb5
       clear hb5 HV4 HK4 BW4 HD4 HE ec0 ec1 dc0 dc1 HCC
       go_wp2
       go_roundw
       case rel => exact ⟨k + 1, by omega, by go_num, by rw [HT.out], by rw [HT.out], HV5, HK5, BW5.out⟩
       case measure => simp [intOf]; omega
     ·-- after true, before true
      have HT : Hid (nextS l b v (k + 1) = ((k : Int), false)) := HS1.out.trans (if_pos (Or.inr ⟨rfl, rfl⟩))
      clear HS1
      go_wp2
      go_roundw
      case rel => exact ⟨k + 1, by omega, by go_num, by rw [HT.out], by rw [HT.out], HV3, HK3, BW3.out⟩
      case measure => simp [intOf]; omega
   ·have hd := (ptB (sgD l k).1 v).trans (decide_eq_false h1)
    have HT : Hid (nextS l b v (k + 1) = nextS l b v k) := HS.out.trans (if_neg h1)
    clear h1 HS HVX
    go_wp2_with fail
    go_quiet (fail)
    have B1 : Below wr.heap.size wr (wr.drewN nq) := bq
    have HV1 := blk_below HV B1
    have HK1 := blk_below HK B1
    clear B1
    go_wp2
    go_roundw
    case rel => exact ⟨k + 1, by omega, by go_num, by rw [HT.out], by rw [HT.out], HV1, HK1, (by repeat (first | exact Below.refl _ _ | apply below_alloc | apply below_drewN | apply below_drew | (refine below_set2 ?_ ?_; (first | (simp; done) | (simp; omega))) | (refine below_step ?_ HB.out)))⟩
    case measure => simp [intOf]; omega
  ·obtain rfl : k = l.length := by omega
   go_wp2
   go_ret
   exact ⟨ret_int HZ.out.symm, HB.out⟩
end
section
def upP (p : Pt) : Prop := p.2 > 0 ∨ p.2 = 0 ∧ p.1 > 0
def crP (a b : Pt) : Int := a.1 * b.2 - a.2 * b.1
instance (p : Pt) : Decidable (upP p) := by unfold upP; exact inferInstance
theorem half_up (p : Pt) : halfZ p = if upP p then 0 else 1 := by unfold halfZ upP; rfl
theorem up_neg {p : Pt} (h : ¬ upP p) (h0 : p ≠ (0, 0)) : upP (-p.1, -p.2) := by
 obtain ⟨a, b⟩ := p
 unfold upP at *
 simp only [ne_eq, Prod.mk.injEq] at *
 omega
theorem up_tr {p q r : Pt} (hp : upP p) (hq : upP q) (hr : upP r) (h1 : 0 ≤ crP p q) (h2 : 0 ≤ crP q r) : 0 ≤ crP p r ∧ (0 < crP p q ∨ 0 < crP q r → 0 < crP p r) := by
 obtain ⟨p1, p2⟩ := p
 obtain ⟨q1, q2⟩ := q
 obtain ⟨r1, r2⟩ := r
 unfold upP at *
 unfold crP at *
 simp only at *
 have id2 : (p1 * r2 - p2 * r1) * q2 = (q1 * r2 - q2 * r1) * p2 + (p1 * q2 - p2 * q1) * r2 := by grind
 rcases hq with hq | ⟨hq0, hq⟩
 ·have g1 : 0 ≤ (q1 * r2 - q2 * r1) * p2 := Int.mul_nonneg h2 (by omega)
  have g2 : 0 ≤ (p1 * q2 - p2 * q1) * r2 := Int.mul_nonneg h1 (by omega)
  constructor
  ·refine Int.le_of_mul_le_mul_right (show 0 * q2 ≤ (p1 * r2 - p2 * r1) * q2 from ?_) hq
   rw [Int.zero_mul]; omega
  ·rintro (h | h)
   ·have hr2 : 0 < r2 := by
     rcases hr with hr | ⟨hr0, hr⟩
     ·exact hr
     ·subst hr0
      have : 0 < q2 * r1 := Int.mul_pos hq hr
      rw [Int.mul_zero] at h2
      omega
    have g3 : 0 < (p1 * q2 - p2 * q1) * r2 := Int.mul_pos h hr2
    refine Int.lt_of_mul_lt_mul_right (show 0 * q2 < (p1 * r2 - p2 * r1) * q2 from ?_) (by omega)
    rw [Int.zero_mul]; omega
   ·rcases hp with hp | ⟨hp0, hp⟩
    ·have g3 : 0 < (q1 * r2 - q2 * r1) * p2 := Int.mul_pos h hp
     refine Int.lt_of_mul_lt_mul_right (show 0 * q2 < (p1 * r2 - p2 * r1) * q2 from ?_) (by omega)
     rw [Int.zero_mul]; omega
    ·subst hp0
     rcases hr with hr | ⟨hr0, hr⟩
     ·have := Int.mul_pos hp hr
      rw [Int.zero_mul]; omega
     ·subst hr0
      have : 0 < q2 * r1 := Int.mul_pos hq hr
      rw [Int.mul_zero] at h
      omega
 ·subst hq0
  have hp2 : p2 = 0 := by
   rcases hp with hp | ⟨hp0, hp⟩
   ·have := Int.mul_pos hp hq
    rw [Int.mul_zero] at h1
    omega
   ·exact hp0
  subst hp2
  have hp1 : 0 < p1 := by omega
  simp only [Int.mul_zero, Int.zero_mul, Int.sub_self, Int.sub_zero, Int.le_refl, Int.lt_irrefl, false_or] at *
  have hr2 : 0 ≤ r2 := by omega
  refine ⟨Int.mul_nonneg (by omega) hr2, fun h => ?_⟩
  have : r2 ≠ 0 := fun e => by subst e; rw [Int.mul_zero] at h; omega
  exact Int.mul_pos hp1 (by omega)
/-- what three upward directions tell about their products -/
def triZ (x y z : Int) : Prop :=
 (0 ≤ x → 0 ≤ -z → 0 ≤ y ∧ (0 < x ∨ 0 < -z → 0 < y)) ∧ (0 ≤ y → 0 ≤ z → 0 ≤ x ∧ (0 < y ∨ 0 < z → 0 < x)) ∧ (0 ≤ -x → 0 ≤ y → 0 ≤ -z ∧ (0 < -x ∨ 0 < y → 0 < -z)) ∧
 (0 ≤ -z → 0 ≤ -y → 0 ≤ -x ∧ (0 < -z ∨ 0 < -y → 0 < -x)) ∧ (0 ≤ z → 0 ≤ -x → 0 ≤ -y ∧ (0 < z ∨ 0 < -x → 0 < -y)) ∧ (0 ≤ -y → 0 ≤ x → 0 ≤ z ∧ (0 < -y ∨ 0 < x → 0 < z))
theorem crP_swap (a b : Pt) : crP b a = - crP a b := by unfold crP; grind
theorem tri_up {B A b : Pt} (hB : upP B) (hA : upP A) (hb : upP b) : triZ (crP B A) (crP B b) (crP b A) := by
 have s1 := crP_swap B A
 have s2 := crP_swap B b
 have s3 := crP_swap b A
 refine ⟨fun h1 h2 => ?_, fun h1 h2 => ?_, fun h1 h2 => ?_, fun h1 h2 => ?_, fun h1 h2 => ?_, fun h1 h2 => ?_⟩
 ·have := up_tr hB hA hb h1 (by rw [s3]; exact h2); rwa [s3] at this
 ·exact up_tr hB hb hA h1 h2
 ·have := up_tr hA hB hb (by rw [s1]; exact h1) h2; rwa [s1, s3] at this
 ·have := up_tr hA hb hB (by rw [s3]; exact h1) (by rw [s2]; exact h2); rwa [s1, s2, s3] at this
 ·have := up_tr hb hA hB h1 (by rw [s1]; exact h2); rwa [s1, s2] at this
 ·have := up_tr hb hB hA (by rw [s2]; exact h1) h2; rwa [s2] at this
theorem crP_neg1 (a b : Pt) : crP (-a.1, -a.2) b = - crP a b := by unfold crP; grind
theorem crP_neg2 (a b : Pt) : crP a (-b.1, -b.2) = - crP a b := by unfold crP; grind
theorem better_sgn {x y z hB hA hb : Int} (kB : hB = 0 ∨ hB = 1) (kA : hA = 0 ∨ hA = 1) (kb : hb = 0 ∨ hb = 1)
  (T : triZ ((if hB = 0 then 1 else -1) * ((if hA = 0 then 1 else -1) * x)) ((if hB = 0 then 1 else -1) * ((if hb = 0 then 1 else -1) * y)) ((if hb = 0 then 1 else -1) * ((if hA = 0 then 1 else -1) * z)))
  (d1 : hA = hB → x ≠ 0) (d2 : hb = hB → y ≠ 0) :
  (((if x < 0 then (0 : Int) else if x = 0 then 1 else 2) < (if y < 0 then (0 : Int) else if y = 0 then 1 else 2)) ∨ ((if x < 0 then (0 : Int) else if x = 0 then 1 else 2) = (if y < 0 then (0 : Int) else if y = 0 then 1 else 2)) ∧ z > 0) ↔
  ((¬ (if hb = hB then -y > 0 else hb < hB) ∧ (if hA = hB then -x > 0 else hA < hB)) ∨ (((if hb = hB then -y > 0 else hb < hB) ↔ (if hA = hB then -x > 0 else hA < hB)) ∧ (if hb = hA then z > 0 else hb < hA))) := by
 rcases kB with rfl | rfl <;> rcases kA with rfl | rfl <;> rcases kb with rfl | rfl <;> unfold triZ at T <;> simp at T d1 d2 ⊢ <;> grind
theorem before_iff (a b : Pt) : beforeB a b = true ↔ (if halfZ a = halfZ b then crP a b > 0 else halfZ a < halfZ b) := by
 unfold beforeB crP
 split <;> simp
theorem half_01 (p : Pt) : halfZ p = 0 ∨ halfZ p = 1 := by unfold halfZ; split <;> simp
theorem half_tri {B A b : Pt} (nB : B ≠ (0, 0)) (nA : A ≠ (0, 0)) (nb : b ≠ (0, 0)) : triZ ((if halfZ B = 0 then 1 else -1) * ((if halfZ A = 0 then 1 else -1) * crP B A)) ((if halfZ B = 0 then 1 else -1) * ((if halfZ b = 0 then 1 else -1) * crP B b)) ((if halfZ b = 0 then 1 else -1) * ((if halfZ A = 0 then 1 else -1) * crP b A)) := by
 have f : ∀ p : Pt, p ≠ (0, 0) → ∃ q : Pt, upP q ∧ (∀ r, crP q r = (if halfZ p = 0 then 1 else -1) * crP p r) ∧ (∀ r, crP r q = (if halfZ p = 0 then 1 else -1) * crP r p) := fun p hp => by
  by_cases h : upP p
  ·exact ⟨p, h, fun r => by rw [half_up, if_pos h]; simp, fun r => by rw [half_up, if_pos h]; simp⟩
  ·exact ⟨(-p.1, -p.2), up_neg h hp, fun r => by rw [half_up, if_neg h, crP_neg1]; simp, fun r => by rw [half_up, if_neg h, crP_neg2]; simp⟩
 obtain ⟨B', hB, B1, B2⟩ := f B nB
 obtain ⟨A', hA, A1, A2⟩ := f A nA
 obtain ⟨b', hb, b1, b2⟩ := f b nb
 have T := tri_up hB hA hb
 rw [B1, B1, A2, b2, b1, A2] at T
 exact T
theorem dir_zero {v a : Pt} (h : a ≠ v) : dirP v a ≠ (0, 0) := fun e => h (by
 unfold dirP at e
 obtain ⟨v1, v2⟩ := v
 obtain ⟨a1, a2⟩ := a
 simp only [Prod.mk.injEq] at *
 omega)
theorem better_same {v u b a : Pt} (nu : u ≠ v) (na : a ≠ v) (nb : b ≠ v) (d1 : ¬ (halfZ (dirP v a) = halfZ (dirP v u) ∧ crP (dirP v u) (dirP v a) = 0)) (d2 : ¬ (halfZ (dirP v b) = halfZ (dirP v u) ∧ crP (dirP v u) (dirP v b) = 0)) :
  betterB u v b a = true ↔ (¬ beforeB (dirP v b) (dirP v u) = true ∧ beforeB (dirP v a) (dirP v u) = true) ∨ ((beforeB (dirP v b) (dirP v u) = true ↔ beforeB (dirP v a) (dirP v u) = true) ∧ beforeB (dirP v b) (dirP v a) = true) := by
 have T := half_tri (dir_zero nu) (dir_zero na) (dir_zero nb)
 have K := better_sgn (half_01 (dirP v u)) (half_01 (dirP v a)) (half_01 (dirP v b)) T (fun e e' => d1 ⟨e, e'⟩) (fun e e' => d2 ⟨e, e'⟩)
 rw [before_iff, before_iff, before_iff, crP_swap (dirP v u) (dirP v b), crP_swap (dirP v u) (dirP v a), ← K]
 unfold betterB sideZ
 simp only [Bool.or_eq_true, Bool.and_eq_true, decide_eq_true_eq]
 exact Iff.rfl
theorem lex_half {a b : Pt} (hh : halfZ a = halfZ b) (hz : crP a b = 0) (ha : a.1 > 0 ∨ a.1 = 0 ∧ a.2 > 0) (hb : b.1 < 0 ∨ b.1 = 0 ∧ b.2 < 0) : False := by
 obtain ⟨a1, a2⟩ := a
 obtain ⟨b1, b2⟩ := b
 rw [half_up, half_up] at hh
 unfold crP at hz
 simp only at *
 by_cases ua : upP (a1, a2) <;> by_cases ub : upP (b1, b2)
 ·unfold upP at ua ub
  simp only at ua ub
  have g1 : 0 ≤ a1 * b2 := Int.mul_nonneg (by omega) (by omega)
  have g2 : 0 ≤ a2 * (-b1) := Int.mul_nonneg (by omega) (by omega)
  rw [Int.mul_neg] at g2
  have e1 : a1 * b2 = 0 := by omega
  have e2 : a2 * b1 = 0 := by omega
  rcases Int.mul_eq_zero.1 e1 with e | e <;> rcases Int.mul_eq_zero.1 e2 with e' | e' <;> omega
 ·rw [if_pos ua, if_neg ub] at hh; omega
 ·rw [if_neg ua, if_pos ub] at hh; omega
 ·unfold upP at ua ub
  simp only at ua ub
  have g1 : 0 ≤ a1 * (-b2) := Int.mul_nonneg (by omega) (by omega)
  have g2 : 0 ≤ (-a2) * (-b1) := Int.mul_nonneg (by omega) (by omega)
  rw [Int.mul_neg] at g1
  rw [Int.neg_mul_neg] at g2
  have e1 : a1 * b2 = 0 := by omega
  have e2 : a2 * b1 = 0 := by omega
  rcases Int.mul_eq_zero.1 e1 with e | e <;> rcases Int.mul_eq_zero.1 e2 with e' | e' <;> omega
theorem dir_diff {l : Sgs} (hc : cleanZ l = true) {s t : Sg} (hs : s ∈ uniqZ l) (ht : t ∈ uniqZ l) (hne : s ≠ t) {v p q : Pt} (h1 : s = (v, p) ∨ s = (p, v)) (h2 : t = (v, q) ∨ t = (q, v)) :
  ¬ (halfZ (dirP v q) = halfZ (dirP v p) ∧ crP (dirP v p) (dirP v q) = 0) := by
 rintro ⟨hh, hz⟩
 have ls := canon_less (uniq_canon hs)
 have lt := canon_less (uniq_canon ht)
 have LB := fun a b c => long_bad hc hs ht hne a b c
 clear hs ht hne hc
 have LX := fun a b => lex_half (a := dirP v q) (b := dirP v p) hh (by rw [crP_swap, hz]; rfl) a b
 have LY := fun a b => lex_half (a := dirP v p) (b := dirP v q) hh.symm hz a b
 clear hh
 obtain ⟨v1, v2⟩ := v
 obtain ⟨p1, p2⟩ := p
 obtain ⟨q1, q2⟩ := q
 unfold crP dirP at hz
 unfold dirP at LX LY
 simp only at hz LX LY
 rw [lessB_or] at ls lt
 have hlo := (lo_le s t).2.2.2
 have hhi := (hi_le s t).2.2.2
 rcases h1 with rfl | rfl <;> rcases h2 with rfl | rfl <;> simp only at ls lt hlo hhi LB
 all_goals
  refine LB (by unfold crossZ; simp only; grind) (by unfold crossZ; simp only; grind) ?_
  rw [lessB_or]
  clear LB hz
  rcases hlo with e | e <;> rcases hhi with e' | e' <;> rw [e, e'] <;> simp only <;> first | omega | exact (LY (by omega) (by omega)).elim | exact (LX (by omega) (by omega)).elim
theorem dir_from {u : Sgs} {x : Sg} (h : x ∈ dirZ u) : ∃ s ∈ u, x = dirF u s ∧ (s = x ∨ s = (x.2, x.1)) := by
 rw [dir_eq] at h
 obtain ⟨s, hs, rfl⟩ := List.mem_map.1 h
 refine ⟨s, hs, rfl, ?_⟩
 unfold dirF
 split
 ·exact .inl rfl
 ·exact .inr rfl
theorem dir_apart {l : Sgs} (hc : cleanZ l = true) {x y : Sg} (hx : x ∈ dirZ (uniqZ l)) (hy : y ∈ dirZ (uniqZ l)) (hj : x.2 = y.1) :
  x.1 ≠ x.2 ∧ y.2 ≠ x.2 ∧ ¬ (halfZ (dirP x.2 y.2) = halfZ (dirP x.2 x.1) ∧ crP (dirP x.2 x.1) (dirP x.2 y.2) = 0) := by
 obtain ⟨s, hs, ex, ks⟩ := dir_from hx
 obtain ⟨t, ht, ey, kt⟩ := dir_from hy
 have ns := uniq_ne hs
 have nt := uniq_ne ht
 have nx : x.1 ≠ x.2 := fun e => by rcases ks with k | k <;> rw [k] at ns <;> simp [e] at ns
 have ny : y.2 ≠ x.2 := fun e => by rcases kt with k | k <;> rw [k] at nt <;> simp [e, hj] at nt
 refine ⟨nx, ny, ?_⟩
 have hne : s ≠ t := fun e => by
  rw [e, ← ey] at ex
  rw [ex] at hj nx
  exact nx hj.symm
 refine dir_diff hc hs ht hne (v := x.2) (p := x.1) (q := y.2) ?_ ?_
 ·rcases ks with k | k
  ·exact .inr k
  ·exact .inl k
 ·rw [hj]
  exact kt
theorem outs_snoc (dl : Sgs) (v : Pt) (k : Nat) (h : k < dl.length) : outs (dl.take (k + 1)) v = if (sgD dl k).1 = v then outs (dl.take k) v ++ [(sgD dl k).2] else outs (dl.take k) v := by
 unfold outs
 rw [take_snoc dl k ((0, 0), (0, 0)) h, List.filter_append, List.map_append]
 show _ ++ (List.filter _ [sgD dl k]).map _ = _
 by_cases e : (sgD dl k).1 = v
 ·rw [if_pos e]; simp [e]
 ·rw [if_neg e]; simp [e]
theorem turnL_app (u v : Pt) {l : Pts} (h : l ≠ []) (a : Pt) : turnL u v (l ++ [a]) = if betterB u v (turnL u v l) a = true then a else turnL u v l := by
 cases l with
 | nil => exact absurd rfl h
 | cons b l =>
  show (l ++ [a]).foldl _ b = _
  rw [List.foldl_append]
  rfl
theorem next_turn {dl : Sgs} {u v : Pt} (hu : u ≠ v) (H : ∀ y ∈ dl, y.1 = v → y.2 ≠ v ∧ ¬ (halfZ (dirP v y.2) = halfZ (dirP v u) ∧ crP (dirP v u) (dirP v y.2) = 0)) : ∀ k, k ≤ dl.length →
  (outs (dl.take k) v = [] ∧ nextS dl (dirP v u) v k = (-1, false)) ∨ ∃ j : Nat, j < k ∧ (sgD dl j).1 = v ∧ outs (dl.take k) v ≠ [] ∧ (sgD dl j).2 = turnL u v (outs (dl.take k) v) ∧ nextS dl (dirP v u) v k = ((j : Int), !beforeB (dirP v (sgD dl j).2) (dirP v u))
 | 0, _ => .inl ⟨rfl, rfl⟩
 | k + 1, hk => by
  have ih := next_turn hu H k (by omega)
  rw [nextS_snoc, outs_snoc dl v k (by omega)]
  by_cases h : (sgD dl k).1 = v
  ·rw [if_pos h]
   have hy := H (sgD dl k) (sgD_mem (by omega)) h
   rcases ih with ⟨e1, e2⟩ | ⟨j, hj, ej, e0, e1, e2⟩
   ·rw [e1, e2]
    refine .inr ⟨k, by omega, h, by simp, rfl, ?_⟩
    unfold nextF
    rw [if_pos h, if_pos (Or.inl (by decide))]
   ·have hyj := H (sgD dl j) (sgD_mem (by omega)) ej
    have K := better_same hu hy.1 hyj.1 hy.2 hyj.2
    rw [turnL_app u v e0, ← e1, e2]
    unfold nextF
    rw [if_pos h]
    simp only [Int.toNat_natCast]
    by_cases hb : betterB u v (sgD dl j).2 (sgD dl k).2 = true
    ·rw [if_pos hb]
     refine .inr ⟨k, by omega, h, by simp, rfl, ?_⟩
     rcases K.1 hb with ⟨h1, h2⟩ | ⟨h1, h2⟩
     ·rw [if_pos (Or.inr ⟨by simpa using h1, h2⟩)]
     ·have h3 : beforeB (dirP v (sgD dl j).2) (dirP v u) = beforeB (dirP v (sgD dl k).2) (dirP v u) := Bool.eq_iff_iff.2 h1
      split
      ·rfl
      ·rw [if_pos ⟨by rw [h3], h2⟩, h3]
    ·rw [if_neg hb]
     refine .inr ⟨j, by omega, ej, by simp, rfl, ?_⟩
     have hb' := mt K.2 hb
     rw [if_neg, if_neg]
     ·rintro ⟨h1, h2⟩
      refine hb' (.inr ⟨?_, h2⟩)
      rw [Bool.not_inj h1]
     ·rintro (h1 | ⟨h1, h2⟩)
      ·omega
      ·exact hb' (.inl ⟨by simpa using h1, h2⟩)
  ·rw [if_neg h]
   have e : nextF dl (dirP v u) v (nextS dl (dirP v u) v k) k = nextS dl (dirP v u) v k := by unfold nextF; rw [if_neg h]
   rw [e]
   rcases ih with ⟨e1, e2⟩ | ⟨j, hj, ej, e0, e1, e2⟩
   ·exact .inl ⟨e1, e2⟩
   ·exact .inr ⟨j, by omega, ej, e0, e1, e2⟩
theorem next_ix {l : Sgs} (hc : cleanZ l = true) {x : Sg} (hx : x ∈ dirZ (uniqZ l)) :
  (nextZ (dirZ (uniqZ l)) x.1 x.2 = -1 ∧ outs (dirZ (uniqZ l)) x.2 = []) ∨ ∃ j : Nat, j < (dirZ (uniqZ l)).length ∧ nextZ (dirZ (uniqZ l)) x.1 x.2 = j ∧ sgD (dirZ (uniqZ l)) j = succZ (dirZ (uniqZ l)) x := by
 generalize hd : dirZ (uniqZ l) = dl at *
 rcases List.mem_iff_getElem.1 hx with ⟨i, hi, hxi⟩
 by_cases hu : x.1 = x.2
 ·exfalso
  rw [← hd] at hx
  obtain ⟨s, hs, _, ks⟩ := dir_from hx
  have := uniq_ne hs
  rcases ks with k | k <;> rw [k] at this <;> simp [hu] at this
 ·have N := next_turn (dl := dl) (u := x.1) (v := x.2) hu (fun y hy e => by
   have := dir_apart hc (x := x) (y := y) (by rw [hd]; exact hx) (by rw [hd]; exact hy) e.symm
   exact ⟨this.2.1, this.2.2⟩) dl.length (Nat.le_refl _)
  rw [List.take_length] at N
  unfold nextZ
  rcases N with ⟨e1, e2⟩ | ⟨j, hj, ej, e0, e1, e2⟩
  ·exact .inl ⟨by rw [e2], e1⟩
  ·refine .inr ⟨j, hj, by rw [e2], ?_⟩
   unfold succZ
   rw [← e1, ← ej]
end
end Go.Proofs.YtlmjciajpjdilaaGreat
