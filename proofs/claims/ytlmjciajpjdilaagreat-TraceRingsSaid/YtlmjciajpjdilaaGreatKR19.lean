/- The law TraceRings holds: whatever the input, it answers true, and each argument reads afterwards as it read before. -/
import Derived.Test.YtlmjciajpjdilaaGreatKR18
import Derived.Test.YtlmjciajpjdilaaGreatKR13
import Derived.Test.YtlmjciajpjdilaaGreatKR1
import Derived.Deep.Slices
import Derived.Test.YtlmjciajpjdilaaGreatRows
import Derived.WalkKit
import Derived.ProofKit
import Derived.OpenShut
import Derived.ShutString
import Derived.ChangeOld
import Derived.Below
import Derived.SizedLaws
import Derived.Lib.SmallJoins
namespace Go.Proofs.YtlmjciajpjdilaaGreat
set_option linter.unusedVariables false
set_option linter.unusedSimpArgs false
section
open Go.RowKit Go.Proofs.YtlmjciajpjdilaaGreatW.PrintLast

attribute [local go_sem high] eqPt eqSg
theorem SlR.reads {ok : Nat → Prop} {w : World} {v : Value} {l : Rgs} (h : SlR ok w v l) : ∃ A c, v = .slice A l.length c ∧ Row Ty.ring ok w A l := by
 rcases h with ⟨rfl, rfl⟩ | ⟨ad, c, rfl, _, _, hr⟩
 ·exact ⟨none, 0, rfl, Row.nil _ _ _ _⟩
 ·exact ⟨some ad, c, rfl, hr⟩
set_option maxRecDepth 100000 in
set_option maxHeartbeats 4000000 in
theorem law21_TraceRings {ok : Nat → Prop} (l : Sgs) (A : Option Addr) (n c : Nat) (s : Sg) (w : World) (hr : Row Ty.sg ok w A l) (hn : n = l.length) :
  Calls Tryz.prog 4 #[.slice A n c, sgA s] w fun e w' => e = .returned (.bool true) ∧ Below w.heap.size w w' := by
 subst hn
 have hlb := hr.len
 have HR := Lib.hid hr
 clear hr
 by_cases h1 : 60 < l.length
 ·have q1 : decide ((60 : Int) < (l.length : Int)) = true := decide_eq_true (by omega)
  go_enter Tryz.func4, Tryz.ntmps4
  go_wp2_with fail
  (refine (law21_lives _).mono ?_; rintro e w1 ⟨rfl, hb1⟩)
  go_wp2
  go_ret
  exact ⟨rfl, (by repeat (first | exact Below.refl _ _ | apply below_alloc | apply below_drewN | apply below_drew | (refine below_set2 ?_ ?_; (first | (simp; done) | (simp; omega))) | (refine below_step ?_ hb1)))⟩
 have q1 : decide ((60 : Int) < (l.length : Int)) = false := decide_eq_false (by omega)
 have h60 : l.length ≤ 60 := by omega
 clear h1
 have C1 := Lib.hid (fun W h => trace_Rings (ok := ok) l A l.length c W h rfl (by omega))
 have C2 := Lib.hid (fun W h => ref21_Rings (ok := ok) l A l.length c W h rfl (by omega))
 have C3 := Lib.hid (fun (x : Sg) W h => trace_LeftInside (ok := ok) l A l.length c x W h rfl (by omega))
 have C4 := Lib.hid (fun (x : Sg) W h => (leftR_eq l x) ▸ ref21_LeftInside (ok := ok) l A l.length c x W h rfl (by omega))
 have CM := Lib.hid (fun (B1 B2 : Option Addr) (d1 d2 : Nat) W h1 h2 => ref21_Same (ok := fun _ => True) (ok' := fun _ => True) (ringsZ l) (ringsZ l) B1 B2 (ringsZ l).length (ringsZ l).length d1 d2 W h1 h2 rfl rfl)
 have qe : (checkZ l == checkZ l) = true := by simp
 have qf : (checkZ l != checkZ l) = false := by simp
 have qs : decide (ringsZ l = ringsZ l) = true := decide_eq_true rfl
 rw [qs] at CM
 clear qs
 generalize checkZ l = cz at *
 generalize ringsZ l = z at *
 have qx : ∀ x, (leftIn l x == leftIn l x) = true := fun x => by simp
 have qy : ∀ x, (leftIn l x != leftIn l x) = false := fun x => by simp
 generalize leftIn l = lf at *
 have HX0 : (w.alloc (.cells #[.int .i64 s.1.1, .int .i64 s.1.2, .int .i64 s.2.1, .int .i64 s.2.2] 32)).heap[w.heap.size]? = some (.cells #[.int .i64 s.1.1, .int .i64 s.1.2, .int .i64 s.2.1, .int .i64 s.2.2] 32 (0, 0)) := heap_alloc_new _ _
 have HQX := Lib.hid qx
 have HQY := Lib.hid qy
 clear qx qy
 go_enter Tryz.func4, Tryz.ntmps4
 go_wp2_with fail
 obtain ⟨W0, hW0⟩ : ∃ W0, W0 = w.alloc (.cells #[.int .i64 s.1.1, .int .i64 s.1.2, .int .i64 s.2.1, .int .i64 s.2.2] 32) := ⟨_, rfl⟩
 rw [← hW0] at HX0 ⊢
 have HB0 : Hid (Below w.heap.size w W0) := by show Below _ _ _; rw [hW0]; exact below_alloc (Below.refl _ _) _
 clear hW0
 refine Calls.mono (C1.out _ (HR.out.below HB0.out)) ?_
 rintro e w1 ⟨v1, rfl, ho1, hb1⟩
 obtain ⟨B1, d1, rfl, _, hr1⟩ := ho1.reads
 have HX1 := blk_below HX0 hb1
 have HB1 : Hid (Below w.heap.size w w1) := below_step HB0.out hb1
 have HZ1 := Lib.hid hr1
 clear ho1 hr1 hb1 HX0 HB0 C1
 go_wp2_with fail
 refine Calls.mono (C2.out _ (HR.out.below HB1.out)) ?_
 rintro e w2 ⟨v2, rfl, hs2, hb2⟩
 obtain ⟨B2, d2, rfl, hr2⟩ := hs2.reads
 have HX2 := blk_below HX1 hb2
 have HB2 : Hid (Below w.heap.size w w2) := below_step HB1.out hb2
 have HZ2 := Lib.hid ((HZ1.out.below hb2).below (below_drew (Below.refl _ _)))
 have HZ2' := Lib.hid (hr2.below (below_drew (Below.refl _ _)))
 have HR2 := Lib.hid ((HR.out.below HB2.out).below (below_drew (Below.refl _ _)))
 clear hs2 hr2 hb2 HX1 HB1 C2 HZ1
 have pc0 := blk_cell HX2 0 rfl
 have pc1 := blk_cell HX2 1 rfl
 have pc2 := blk_cell HX2 2 rfl
 have pc3 := blk_cell HX2 3 rfl
 have qs1 := HQX.out s
 have qs2 := HQY.out s
 have CM1 := Lib.hid (CM.out B1 B2 d1 d2 w2.drew HZ2.out (HZ2'.out.mono (fun _ _ => trivial)))
 clear CM
 go_wp2_with fail
 refine start_ (n := 18) (S := fun w' => w'.cell? ⟨w.heap.size, 0, none⟩ = some (.int .i64 s.1.1) ∧ w'.cell? ⟨w.heap.size, 1, none⟩ = some (.int .i64 s.1.2) ∧ w'.cell? ⟨w.heap.size, 2, none⟩ = some (.int .i64 s.2.1) ∧ w'.cell? ⟨w.heap.size, 3, none⟩ = some (.int .i64 s.2.2)) (ds := []) #[Z,Z,Z,Z,Z,Z,Z,Z,Z,Z,Z,Z,Z,Z,Z,Z,Z,Z] (by kernel_rfl) rfl rfl ⟨pc0, pc1, pc2, pc3⟩ (fun hHeld => ?_)
 refine pure_ (i := 0) (N := some 24) (v := ?_) (a' := ?_) #[J,Z,Z,Z,Z,Z,Z,Z,Z,Z,Z,Z,Z,Z,Z,Z,Z,Z] rfl rfl (by kernel_rfl) (fun _ _ _ h => h) (Or.inl ⟨by rfl, ?_⟩) ?_ ?_
 rotate_left
 ·intro w'; go_simp; with_reducible rfl
 rotate_left
 ·simp only [Act.put, sA, sB, sC, i64_w, i32_w]; rfl
 refine pure_ (i := 1) (N := some 25) (v := ?_) (a' := ?_) #[J,J,Z,Z,Z,Z,Z,Z,Z,Z,Z,Z,Z,Z,Z,Z,Z,Z] rfl rfl (by kernel_rfl) (fun _ _ _ h => h) (Or.inl ⟨by rfl, ?_⟩) ?_ ?_
 rotate_left
 ·intro w'; go_simp; with_reducible rfl
 rotate_left
 ·simp only [Act.put, sA, sB, sC, i64_w, i32_w]; rfl
 refine pure_ (i := 2) (N := some 26) (v := ?_) (a' := ?_) #[J,J,J,Z,Z,Z,Z,Z,Z,Z,Z,Z,Z,Z,Z,Z,Z,Z] rfl rfl (by kernel_rfl) (fun _ _ _ h => h) (Or.inl ⟨by rfl, ?_⟩) ?_ ?_
 rotate_left
 ·intro w'; go_simp; with_reducible rfl
 rotate_left
 ·simp only [Act.put, sA, sB, sC, i64_w, i32_w]; rfl
 refine pure_ (i := 3) (N := some 27) (v := ?_) (a' := ?_) #[J,J,J,J,Z,Z,Z,Z,Z,Z,Z,Z,Z,Z,Z,Z,Z,Z] rfl rfl (by kernel_rfl) (fun _ _ _ h => h) (Or.inl ⟨by rfl, ?_⟩) ?_ ?_
 rotate_left
 ·intro w'; go_simp; with_reducible rfl
 rotate_left
 ·simp only [Act.put, sA, sB, sC, i64_w, i32_w]; rfl
 refine pure_ (i := 4) (N := some 28) (v := ?_) (a' := ?_) #[J,J,J,J,J,Z,Z,Z,Z,Z,Z,Z,Z,Z,Z,Z,Z,Z] rfl rfl (by kernel_rfl) (fun _ _ _ h => h) (Or.inl ⟨by rfl, ?_⟩) ?_ ?_
 rotate_left
 ·intro w'; go_simp; with_reducible rfl
 rotate_left
 ·simp only [Act.put, sA, sB, sC, i64_w, i32_w]; rfl
 refine pure_ (i := 5) (N := some 29) (v := ?_) (a' := ?_) #[J,J,J,J,J,J,Z,Z,Z,Z,Z,Z,Z,Z,Z,Z,Z,Z] rfl rfl (by kernel_rfl) (fun _ _ _ h => h) (Or.inl ⟨by rfl, ?_⟩) ?_ ?_
 rotate_left
 ·intro w'; go_simp; with_reducible rfl
 rotate_left
 ·simp only [Act.put, sA, sB, sC, i64_w, i32_w]; rfl
 refine one_ (i := 6) (N := some 30) #[J,J,J,J,J,J,J,Z,Z,Z,Z,Z,Z,Z,Z,Z,Z,Z] rfl rfl (by kernel_rfl) (by decide) (fun K hK => ?_)
 refine goes_ Tryz.func15 (by kernel_rfl) rfl #[.slice B1 z.length d1, .slice B2 z.length d2] (by rfl) rfl rfl (by simp only [List.map_toArray, List.map_cons, List.map_nil]; rfl) ?_
 with_reducible refine (CM1.out).mono ?_
 rintro e w3 ⟨rfl, hb3⟩
 refine ⟨_, rfl, ?_⟩
 have HX3 := blk_below (W := w2.drew) HX2 hb3
 have HR3 := Lib.hid (HR2.out.below hb3)
 refine hK.out _ _ ⟨blk_cell HX3 0 rfl, blk_cell HX3 1 rfl, blk_cell HX3 2 rfl, blk_cell HX3 3 rfl⟩ (fun hHeld => ?_)
 clear hK K
 refine norm_ (a' := ?_) ?_ ?_
 rotate_left
 ·show Act.put _ (some 30) _ = _
  simp only [Act.put, sA, sB, sC, i64_w, i32_w]; rfl
 refine pure_ (i := 7) (N := some 31) (v := ?_) (a' := ?_) #[J,J,J,J,J,J,J,J,Z,Z,Z,Z,Z,Z,Z,Z,Z,Z] rfl rfl (by kernel_rfl) (fun _ _ _ h => h) (Or.inl ⟨by rfl, ?_⟩) ?_ ?_
 rotate_left
 ·intro w'; go_simp; with_reducible rfl
 rotate_left
 ·simp only [Act.put, sA, sB, sC, i64_w, i32_w]; rfl
 refine pure_ (i := 8) (N := some 32) (v := ?_) (a' := ?_) #[J,J,J,J,J,J,J,J,J,Z,Z,Z,Z,Z,Z,Z,Z,Z] rfl rfl (by kernel_rfl) (fun _ _ _ h => h) (Or.inl ⟨by rfl, ?_⟩) ?_ ?_
 rotate_left
 ·intro w'; go_simp; with_reducible rfl
 rotate_left
 ·simp only [Act.put, sA, sB, sC, i64_w, i32_w]; rfl
 refine pure_ (i := 9) (N := some 33) (v := ?_) (a' := ?_) #[J,J,J,J,J,J,J,J,J,J,Z,Z,Z,Z,Z,Z,Z,Z] rfl rfl (by kernel_rfl) (fun _ _ _ h => h) (Or.inl ⟨by rfl, ?_⟩) ?_ ?_
 rotate_left
 ·intro w'; go_simp; with_reducible rfl
 rotate_left
 ·simp only [Act.put, sA, sB, sC, i64_w, i32_w]; rfl
 refine pure_ (i := 10) (N := some 34) (v := ?_) (a' := ?_) #[J,J,J,J,J,J,J,J,J,J,J,Z,Z,Z,Z,Z,Z,Z] rfl rfl (by kernel_rfl) (fun _ _ _ h => h) (Or.inl ⟨by rfl, ?_⟩) ?_ ?_
 rotate_left
 ·intro w'; go_simp; with_reducible rfl
 rotate_left
 ·simp only [Act.put, sA, sB, sC, i64_w, i32_w]; rfl
 refine pure_ (i := 13) (N := some 37) (v := ?_) (a' := ?_) #[J,J,J,J,J,J,J,J,J,J,J,Z,Z,J,Z,Z,Z,Z] rfl rfl (by kernel_rfl) (fun _ _ _ h => h) (Or.inl ⟨by rfl, ?_⟩) ?_ ?_
 rotate_left
 ·intro w'; go_simp; with_reducible rfl
 rotate_left
 ·simp only [Act.put, sA, sB, sC, i64_w, i32_w]; rfl
 refine take_ (i := 11) (N := some 35) (v := ?_) (a' := ?_) #[J,J,J,J,J,J,J,J,J,J,J,J,Z,J,Z,Z,Z,Z] rfl rfl (by kernel_rfl) (fun _ _ _ h => h) (Or.inl ⟨by rfl, ?_⟩) hHeld ?_ ?_
 rotate_left
 ·rintro w' ⟨s0, s1, s2, s3⟩; go_simp; with_reducible rfl
 rotate_left
 ·simp only [Act.put, sA, sB, sC, i64_w, i32_w]; rfl
 refine take_ (i := 14) (N := some 38) (v := ?_) (a' := ?_) #[J,J,J,J,J,J,J,J,J,J,J,J,Z,J,J,Z,Z,Z] rfl rfl (by kernel_rfl) (fun _ _ _ h => h) (Or.inl ⟨by rfl, ?_⟩) hHeld ?_ ?_
 rotate_left
 ·rintro w' ⟨s0, s1, s2, s3⟩; go_simp; with_reducible rfl
 rotate_left
 ·simp only [Act.put, sA, sB, sC, i64_w, i32_w]; rfl
 refine one_ (i := 12) (N := some 36) #[J,J,J,J,J,J,J,J,J,J,J,J,J,J,J,Z,Z,Z] rfl rfl (by kernel_rfl) (by decide) (fun K hK => ?_)
 refine goes_ Tryz.func16 (by kernel_rfl) rfl #[.slice A l.length c, sgA s] (by rfl) rfl rfl (by simp only [List.map_toArray, List.map_cons, List.map_nil]; rfl) ?_
 with_reducible refine (C3.out s _ HR3.out).mono ?_
 rintro e w4 ⟨rfl, hb4⟩
 refine ⟨_, rfl, ?_⟩
 have HX4 := blk_below HX3 hb4
 have HR4 := Lib.hid (HR3.out.below hb4)
 refine hK.out _ _ ⟨blk_cell HX4 0 rfl, blk_cell HX4 1 rfl, blk_cell HX4 2 rfl, blk_cell HX4 3 rfl⟩ (fun hHeld => ?_)
 clear hK K
 refine norm_ (a' := ?_) ?_ ?_
 rotate_left
 ·show Act.put _ (some 36) _ = _
  simp only [Act.put, sA, sB, sC, i64_w, i32_w]; rfl
 refine one_ (i := 15) (N := some 39) #[J,J,J,J,J,J,J,J,J,J,J,J,J,J,J,J,Z,Z] rfl rfl (by kernel_rfl) (by decide) (fun K hK => ?_)
 refine goes_ Tryz.func17 (by kernel_rfl) rfl #[.slice A l.length c, sgA s] (by rfl) rfl rfl (by simp only [List.map_toArray, List.map_cons, List.map_nil]; rfl) ?_
 with_reducible refine (C4.out s _ HR4.out).mono ?_
 rintro e w5 ⟨rfl, hb5⟩
 refine ⟨_, rfl, ?_⟩
 refine hK.out _ _ ⟨blk_cell (blk_below HX4 hb5) 0 rfl, blk_cell (blk_below HX4 hb5) 1 rfl, blk_cell (blk_below HX4 hb5) 2 rfl, blk_cell (blk_below HX4 hb5) 3 rfl⟩ (fun hHeld => ?_)
 clear hK K
 refine norm_ (a' := ?_) ?_ ?_
 rotate_left
 ·show Act.put _ (some 39) _ = _
  simp only [Act.put, sA, sB, sC, i64_w, i32_w]; rfl
 refine pure_ (i := 16) (N := some 40) (v := ?_) (a' := ?_) #[J,J,J,J,J,J,J,J,J,J,J,J,J,J,J,J,J,Z] rfl rfl (by kernel_rfl) (fun _ _ _ h => h) (Or.inl ⟨by rfl, ?_⟩) ?_ ?_
 rotate_left
 ·intro w'; go_simp; with_reducible rfl
 rotate_left
 ·simp only [Act.put, sA, sB, sC, i64_w, i32_w]; rfl
 refine pure_ (i := 17) (N := some 41) (v := ?_) (a' := ?_) #[J,J,J,J,J,J,J,J,J,J,J,J,J,J,J,J,J,J] rfl rfl (by kernel_rfl) (fun _ _ _ h => h) (Or.inl ⟨by rfl, ?_⟩) ?_ ?_
 rotate_left
 ·intro w'; go_simp; with_reducible rfl
 rotate_left
 ·simp only [Act.put, sA, sB, sC, i64_w, i32_w]; rfl
 refine done_ (by kernel_rfl) ?_
 have HB5 : Hid (Below w.heap.size w w5) := below_step (below_step (below_step (below_drew HB2.out) hb3) hb4) hb5
 clear hb3 hb4 hb5 HX2 HX3 HX4 HR2 HR3 HR4 HB2 pc0 pc1 pc2 pc3 qs1 qs2 HZ2 HZ2' CM1
 go_wp2
 go_loopw [9] (fun iv wr => ∃ k : Nat, k ≤ l.length ∧ iv = .int .i64 k ∧ Hid (Below w5.heap.size w5 wr)) (fun iv _ => l.length - (intOf iv).toNat)
 case atStart => exact ⟨0, Nat.zero_le _, rfl, Below.refl _ _⟩
 case round =>
  obtain ⟨k, hk, rfl, HBr⟩ := hrel
  have HBw : Hid (Below w.heap.size w wr) := below_step HB5.out HBr.out
  by_cases hlt : k < l.length
  ·have HRw := Lib.hid ((HR.out.below HBw.out).below (below_drew (Below.refl _ _)))
   obtain ⟨ad, rfl, hx0, hx1, hx2, hx3⟩ := (HR.out.below HBw.out).sg_at k hlt
   have hx3' : wr.cell? ⟨(ad.add (k * 4)).block, (ad.add (k * 4)).off + 2 + 1, none⟩ = some (.int .i64 (sgD l k).2.2) := hx3
   generalize sgD l k = x at *
   have qs1 := HQX.out x
   have qs2 := HQY.out x
   go_wp2_with fail
   refine start_ (n := 13) (S := fun w' => w'.cell? (ad.add (k * 4)) = some (.int .i64 x.1.1) ∧ w'.cell? ⟨(ad.add (k * 4)).block, (ad.add (k * 4)).off + 1, none⟩ = some (.int .i64 x.1.2) ∧ w'.cell? ⟨(ad.add (k * 4)).block, (ad.add (k * 4)).off + 2, none⟩ = some (.int .i64 x.2.1) ∧ w'.cell? ⟨(ad.add (k * 4)).block, (ad.add (k * 4)).off + 3, none⟩ = some (.int .i64 x.2.2)) (ds := []) #[Z,Z,Z,Z,Z,Z,Z,Z,Z,Z,Z,Z,Z] (by kernel_rfl) rfl rfl ⟨hx0, hx1, hx2, hx3⟩ (fun hHeld => ?_)
   refine pure_ (i := 0) (N := some 48) (v := ?_) (a' := ?_) #[J,Z,Z,Z,Z,Z,Z,Z,Z,Z,Z,Z,Z] rfl rfl (by kernel_rfl) (fun _ _ _ h => h) (Or.inl ⟨by rfl, ?_⟩) ?_ ?_
   rotate_left
   ·intro w'; go_simp; with_reducible rfl
   rotate_left
   ·simp only [Act.put, sA, sB, sC, i64_w, i32_w]; rfl
   refine pure_ (i := 1) (N := some 49) (v := ?_) (a' := ?_) #[J,J,Z,Z,Z,Z,Z,Z,Z,Z,Z,Z,Z] rfl rfl (by kernel_rfl) (fun _ _ _ h => h) (Or.inl ⟨by rfl, ?_⟩) ?_ ?_
   rotate_left
   ·intro w'; go_simp; with_reducible rfl
   rotate_left
   ·simp only [Act.put, sA, sB, sC, i64_w, i32_w]; rfl
   refine pure_ (i := 2) (N := some 50) (v := ?_) (a' := ?_) #[J,J,J,Z,Z,Z,Z,Z,Z,Z,Z,Z,Z] rfl rfl (by kernel_rfl) (fun _ _ _ h => h) (Or.inl ⟨by rfl, ?_⟩) ?_ ?_
   rotate_left
   ·intro w'; go_simp; with_reducible rfl
   rotate_left
   ·simp only [Act.put, sA, sB, sC, i64_w, i32_w]; rfl
   refine pure_ (i := 3) (N := some 51) (v := ?_) (a' := ?_) #[J,J,J,J,Z,Z,Z,Z,Z,Z,Z,Z,Z] rfl rfl (by kernel_rfl) (fun _ _ _ h => h) (Or.inl ⟨by rfl, ?_⟩) ?_ ?_
   rotate_left
   ·intro w'; go_simp; with_reducible rfl
   rotate_left
   ·simp only [Act.put, sA, sB, sC, i64_w, i32_w]; rfl
   refine pure_ (i := 6) (N := some 54) (v := ?_) (a' := ?_) #[J,J,J,J,Z,Z,J,Z,Z,Z,Z,Z,Z] rfl rfl (by kernel_rfl) (fun _ _ _ h => h) (Or.inl ⟨by rfl, ?_⟩) ?_ ?_
   rotate_left
   ·intro w'; go_simp; with_reducible rfl
   rotate_left
   ·simp only [Act.put, sA, sB, sC, i64_w, i32_w]; rfl
   refine pure_ (i := 7) (N := some 55) (v := ?_) (a' := ?_) #[J,J,J,J,Z,Z,J,J,Z,Z,Z,Z,Z] rfl rfl (by kernel_rfl) (fun _ _ _ h => h) (Or.inl ⟨by rfl, ?_⟩) ?_ ?_
   rotate_left
   ·intro w'; go_simp; with_reducible rfl
   rotate_left
   ·simp only [Act.put, sA, sB, sC, i64_w, i32_w]; rfl
   refine pure_ (i := 8) (N := some 56) (v := ?_) (a' := ?_) #[J,J,J,J,Z,Z,J,J,J,Z,Z,Z,Z] rfl rfl (by kernel_rfl) (fun _ _ _ h => h) (Or.inl ⟨by rfl, ?_⟩) ?_ ?_
   rotate_left
   ·intro w'; go_simp; with_reducible rfl
   rotate_left
   ·simp only [Act.put, sA, sB, sC, i64_w, i32_w]; rfl
   refine pure_ (i := 9) (N := some 57) (v := ?_) (a' := ?_) #[J,J,J,J,Z,Z,J,J,J,J,Z,Z,Z] rfl rfl (by kernel_rfl) (fun _ _ _ h => h) (Or.inl ⟨by rfl, ?_⟩) ?_ ?_
   rotate_left
   ·intro w'; go_simp; with_reducible rfl
   rotate_left
   ·simp only [Act.put, sA, sB, sC, i64_w, i32_w]; rfl
   refine take_ (i := 4) (N := some 52) (v := ?_) (a' := ?_) #[J,J,J,J,J,Z,J,J,J,J,Z,Z,Z] rfl rfl (by kernel_rfl) (fun _ _ _ h => h) (Or.inl ⟨by rfl, ?_⟩) hHeld ?_ ?_
   rotate_left
   ·rintro w' ⟨s0, s1, s2, s3⟩; go_simp; with_reducible rfl
   rotate_left
   ·simp only [Act.put, sA, sB, sC, i64_w, i32_w]; rfl
   refine take_ (i := 10) (N := some 58) (v := ?_) (a' := ?_) #[J,J,J,J,J,Z,J,J,J,J,J,Z,Z] rfl rfl (by kernel_rfl) (fun _ _ _ h => h) (Or.inl ⟨by rfl, ?_⟩) hHeld ?_ ?_
   rotate_left
   ·rintro w' ⟨s0, s1, s2, s3⟩; go_simp; with_reducible rfl
   rotate_left
   ·simp only [Act.put, sA, sB, sC, i64_w, i32_w]; rfl
   refine one_ (i := 5) (N := some 53) #[J,J,J,J,J,J,J,J,J,J,J,Z,Z] rfl rfl (by kernel_rfl) (by decide) (fun K hK => ?_)
   refine goes_ Tryz.func16 (by kernel_rfl) rfl #[.slice (some ad) l.length c, sgA x] (by rfl) rfl rfl (by simp only [List.map_toArray, List.map_cons, List.map_nil]; rfl) ?_
   with_reducible refine (C3.out x _ HRw.out).mono ?_
   rintro e w6 ⟨rfl, hb6⟩
   refine ⟨_, rfl, ?_⟩
   have HR6 := Lib.hid (HRw.out.below hb6)
   refine hK.out _ _ ⟨cell_below (w := wr.drew) hb6 hx0, cell_below (w := wr.drew) hb6 hx1, cell_below (w := wr.drew) hb6 hx2, cell_below (w := wr.drew) hb6 hx3⟩ (fun hHeld => ?_)
   clear hK K
   refine norm_ (a' := ?_) ?_ ?_
   rotate_left
   ·show Act.put _ (some 53) _ = _
    simp only [Act.put, sA, sB, sC, i64_w, i32_w]; rfl
   refine one_ (i := 11) (N := some 59) #[J,J,J,J,J,J,J,J,J,J,J,J,Z] rfl rfl (by kernel_rfl) (by decide) (fun K hK => ?_)
   refine goes_ Tryz.func17 (by kernel_rfl) rfl #[.slice (some ad) l.length c, sgA x] (by rfl) rfl rfl (by simp only [List.map_toArray, List.map_cons, List.map_nil]; rfl) ?_
   with_reducible refine (C4.out x _ HR6.out).mono ?_
   rintro e w7 ⟨rfl, hb7⟩
   refine ⟨_, rfl, ?_⟩
   refine hK.out _ _ ⟨cell_below hb7 (cell_below (w := wr.drew) hb6 hx0), cell_below hb7 (cell_below (w := wr.drew) hb6 hx1), cell_below hb7 (cell_below (w := wr.drew) hb6 hx2), cell_below hb7 (cell_below (w := wr.drew) hb6 hx3)⟩ (fun hHeld => ?_)
   clear hK K
   refine norm_ (a' := ?_) ?_ ?_
   rotate_left
   ·show Act.put _ (some 59) _ = _
    simp only [Act.put, sA, sB, sC, i64_w, i32_w]; rfl
   refine pure_ (i := 12) (N := some 60) (v := ?_) (a' := ?_) #[J,J,J,J,J,J,J,J,J,J,J,J,J] rfl rfl (by kernel_rfl) (fun _ _ _ h => h) (Or.inl ⟨by rfl, ?_⟩) ?_ ?_
   rotate_left
   ·intro w'; go_simp; with_reducible rfl
   rotate_left
   ·simp only [Act.put, sA, sB, sC, i64_w, i32_w]; rfl
   refine done_ (by kernel_rfl) ?_
   have HB7 : Hid (Below w5.heap.size w5 w7) := below_step (below_step (below_drew HBr.out) hb6) hb7
   clear hb6 hb7 HR6 HRw hx0 hx1 hx2 hx3 hx3' HBw HBr
   go_wp2
   go_roundw
   case rel => exact ⟨k + 1, by omega, by go_num, HB7.out⟩
   case measure => simp [intOf]; omega
  ·obtain rfl : k = l.length := by omega
   go_wp2_with fail
   (refine (law21_lives _).mono ?_; rintro e w8 ⟨rfl, hb8⟩)
   go_wp2
   go_ret
   exact ⟨rfl, (by repeat (first | exact Below.refl _ _ | apply below_alloc | apply below_drewN | apply below_drew | (refine below_set2 ?_ ?_; (first | (simp; done) | (simp; omega))) | (refine below_step ?_ hb8) | (refine below_step ?_ HBw.out)))⟩
end
section
open Go.RowKit Go.ChangeShapes Go.WideShapes

/-- What reads by type t is a T. -/
def Opens {α : Type} (P : Program) (T : Ty α) (t : TypeId) : Prop := ∀ (H : Type) (enc : TypeId × Value → H) (w : World) (base : Nat) (spare : Nat → Bool) (held : Bool) (fuel : Nat) (cs : List Value) (x : DataW H × List MemPlace),
 DataW.trod enc P w base spare held fuel t cs = some x → ∃ a : α, T.R (fun _ => True) w a cs

section
variable {P : Program} {α β : Type}
theorem Opens.int {t : TypeId} {k : IntKind} (ht : P.underlying t = some (.int k)) : Opens P (Ty.int k) t := fun H enc w base spare held fuel cs x h => by
 obtain ⟨n, rfl, _⟩ := DataW.trod_int ht h
 exact ⟨n, rfl⟩
theorem Opens.slice [Inhabited α] {T : Ty α} {t e : TypeId} (ht : P.underlying t = some (.slice e)) (hs : P.cellsOf e = T.sz) (ho : Opens P T e) : Opens P (Ty.slice T) t := fun H enc w base spare held fuel cs x h => by
 rcases Deep.open_slice ht h with ⟨rfl, _⟩ | ⟨a, len, cap, m, n, D, Pl, rfl, hb, hl, hm, hmm, _, hx⟩
 ·exact ⟨[], none, 0, rfl, Nat.le_refl _, Row.nil _ _ _ _⟩
 ·have hlm : len ≤ m := by rw [hmm]; split <;> omega
  obtain ⟨f, hf⟩ := Deep.choose_lt (α := α) (n := len) (p := fun i y => ∃ cs', T.R (fun _ => True) w y cs' ∧ CellsAt w a (i * T.sz) cs') (fun i hi => by
   obtain ⟨cs', h1, h2⟩ := hx i (by omega)
   rw [hs] at h1
   obtain ⟨y, hy⟩ := ho H enc w base spare held n cs' _ h2
   obtain ⟨_, hlen, hc⟩ := World.cells?_some h1
   refine ⟨y, cs', hy, fun j u hu => ?_⟩
   have := hc j (by have := (List.getElem?_eq_some_iff.1 hu).1; omega)
   rw [← add_add, this, hu])
  have hlen : ((List.range len).map f).length = len := by simp
  refine ⟨(List.range len).map f, some a, cap, by rw [hlen], by rw [hlen]; exact hl, by rw [hlen]; simp only [maxLen] at hm; omega, fun _ => ⟨a, rfl, trivial, fun i y hy => ?_⟩⟩
  have hi : i < len := by have := (List.getElem?_eq_some_iff.1 hy).1; rwa [hlen] at this
  obtain ⟨cs', h1, h2⟩ := hf i hi
  have e : y = f i := by simp [hi] at hy; exact hy.symm
  rw [e]
  exact ⟨cs', h1, h2⟩
theorem Opens.pair {T : Ty α} {U : Ty β} {t : TypeId} {f0 f1 : Field} (ht : P.underlying t = some (.struct #[f0, f1])) (hs : P.cellsOf t = T.sz + U.sz) (h0 : f0.offset = 0) (h1 : f1.offset = T.sz)
  (c0 : P.cellsOf f0.type = T.sz) (c1 : P.cellsOf f1.type = U.sz) (o0 : Opens P T f0.type) (o1 : Opens P U f1.type) : Opens P (Ty.pair T U) t := fun H enc w base spare held fuel cs x h => by
 obtain ⟨xs, n, rfl, _, hl, hxl, hf⟩ := DataW.trod_struct ht h
 have g0 := hf 0 f0 rfl
 have g1 := hf 1 f1 rfl
 rw [h0, c0, List.drop_zero] at g0
 rw [h1, c1] at g1
 rw [hs] at hl
 match xs, hxl with
 | [y0, y1], _ =>
  obtain ⟨a, ha⟩ := o0 H enc w base spare held n _ y0 (by simpa using g0)
  obtain ⟨b, hb⟩ := o1 H enc w base spare held n _ y1 (by simpa using g1)
  refine ⟨(a, b), cs.take T.sz, (cs.drop T.sz).take U.sz, ?_, ha, hb⟩
  rw [List.take_of_length_le (l := cs.drop T.sz) (by rw [List.length_drop]; omega), List.take_append_drop]
theorem Opens.of_eq {T U : Ty α} {t : TypeId} (h : ∀ w x cs, T.R (fun _ => True) w x cs → U.R (fun _ => True) w x cs) (ho : Opens P T t) : Opens P U t := fun H enc w base spare held fuel cs x hx => by
 obtain ⟨a, ha⟩ := ho H enc w base spare held fuel cs x hx
 exact ⟨a, h w a cs ha⟩
theorem Opens.pt {t : TypeId} {f0 f1 : Field} (ht : P.underlying t = some (.struct #[f0, f1])) (hs : P.cellsOf t = 2) (h0 : f0.offset = 0) (h1 : f1.offset = 1)
  (c0 : P.cellsOf f0.type = 1) (c1 : P.cellsOf f1.type = 1) (o0 : P.underlying f0.type = some (.int .i64)) (o1 : P.underlying f1.type = some (.int .i64)) : Opens P Ty.pt t :=
 Opens.of_eq (T := Ty.pair (Ty.int .i64) (Ty.int .i64)) (fun w x cs h => by obtain ⟨c1, c2, rfl, h1, h2⟩ := h; rw [show c1 = _ from h1, show c2 = _ from h2]; rfl) (Opens.pair ht hs h0 h1 c0 c1 (Opens.int o0) (Opens.int o1))
theorem Opens.sg {t : TypeId} {f0 f1 : Field} (ht : P.underlying t = some (.struct #[f0, f1])) (hs : P.cellsOf t = 4) (h0 : f0.offset = 0) (h1 : f1.offset = 2)
  (c0 : P.cellsOf f0.type = 2) (c1 : P.cellsOf f1.type = 2) (o0 : Opens P Ty.pt f0.type) (o1 : Opens P Ty.pt f1.type) : Opens P Ty.sg t :=
 Opens.of_eq (T := Ty.pair Ty.pt Ty.pt) (fun w x cs h => by obtain ⟨c1, c2, rfl, h1, h2⟩ := h; rw [show c1 = _ from h1, show c2 = _ from h2]; rfl) (Opens.pair ht hs h0 h1 c0 c1 o0 o1)
/-- A slice that came as an argument. -/
theorem Opens.arg [Inhabited α] {T : Ty α} {t e : TypeId} (ht : P.underlying t = some (.slice e)) (hs : P.cellsOf e = T.sz) (ho : Opens P T e) {H : Type} {enc : TypeId × Value → H} {w : World} {base : Nat} {spare : Nat → Bool} {held : Bool} {A : Option Addr} {n c : Nat} {d : DataW H} {ps : List MemPlace}
  (h : DataW.Trod enc P w base spare held t (.slice A n c) d ps) : ∃ xs : List α, n = xs.length ∧ Row T (fun _ => True) w A xs := by
 obtain ⟨fuel, hf⟩ := h
 obtain ⟨xs, A', c', e1, _, hr⟩ := Opens.slice ht hs ho H enc w base spare held fuel _ _ hf
 simp only [Value.cells, List.cons.injEq, Value.slice.injEq, and_true] at e1
 obtain ⟨rfl, rfl, rfl⟩ := e1
 exact ⟨xs, rfl, hr⟩
/-- A point that came as an argument. -/
theorem Opens.ptArg {t : TypeId} {fs : Array Field} (hs : P.underlying t = some (.struct fs)) (ho : Opens P Ty.pt t) {H : Type} {enc : TypeId × Value → H} {w : World} {base b0 : Nat} {spare : Nat → Bool} {held : Bool} {r : Reach} {v : Value} {d : DataW H} {ps : List MemPlace}
  (hv : Value.okWide P w r b0 t v) (h : DataW.Trod enc P w base spare held t v d ps) : ∃ x y : Int, v = .agg #[.int .i64 x, .int .i64 y] := by
 obtain ⟨cs, rfl, hsz⟩ := okWide_struct hs hv
 obtain ⟨fuel, hf⟩ := h
 obtain ⟨a, ha⟩ := ho H enc w base spare held fuel _ _ hf
 have e : cs.toList = [.int .i64 a.1, .int .i64 a.2] := ha
 refine ⟨a.1, a.2, ?_⟩
 have := congrArg List.toArray e
 rw [Array.toArray_toList] at this
 rw [this]
/-- A segment that came as an argument. -/
theorem Opens.sgArg {t : TypeId} {fs : Array Field} (hs : P.underlying t = some (.struct fs)) (ho : Opens P Ty.sg t) {H : Type} {enc : TypeId × Value → H} {w : World} {base b0 : Nat} {spare : Nat → Bool} {held : Bool} {r : Reach} {v : Value} {d : DataW H} {ps : List MemPlace}
  (hv : Value.okWide P w r b0 t v) (h : DataW.Trod enc P w base spare held t v d ps) : ∃ s : Sg, v = .agg #[.int .i64 s.1.1, .int .i64 s.1.2, .int .i64 s.2.1, .int .i64 s.2.2] := by
 obtain ⟨cs, rfl, hsz⟩ := okWide_struct hs hv
 obtain ⟨fuel, hf⟩ := h
 obtain ⟨a, ha⟩ := ho H enc w base spare held fuel _ _ hf
 have e : cs.toList = [.int .i64 a.1.1, .int .i64 a.1.2, .int .i64 a.2.1, .int .i64 a.2.2] := ha
 refine ⟨a, ?_⟩
 have := congrArg List.toArray e
 rw [Array.toArray_toList] at this
 rw [this]
end
end
end Go.Proofs.YtlmjciajpjdilaaGreat
section
namespace Go.Proofs.YtlmjciajpjdilaaGreat.traceRings
open Go.ChangeShapes Go.WideShapes Go.ChangeAt Go.RowKit
set_option linter.unusedVariables false
set_option linter.unusedSimpArgs false
theorem own : ownKnob Tryz.prog.godebug = none := by kernel_rfl
theorem laidOut : laidOutB Tryz.prog = true := by kernel_rfl
theorem opens0 : Opens Tryz.prog Ty.sg 32 := Opens.sg Tryz.underlying32 (by kernel_rfl) rfl rfl (by kernel_rfl) (by kernel_rfl) (Opens.pt Tryz.underlying24 (by kernel_rfl) rfl rfl (by kernel_rfl) (by kernel_rfl) Tryz.underlying3 Tryz.underlying3) (Opens.pt Tryz.underlying24 (by kernel_rfl) rfl rfl (by kernel_rfl) (by kernel_rfl) Tryz.underlying3 Tryz.underlying3)
theorem opens1 : Opens Tryz.prog Ty.sg 32 := Opens.sg Tryz.underlying32 (by kernel_rfl) rfl rfl (by kernel_rfl) (by kernel_rfl) (Opens.pt Tryz.underlying24 (by kernel_rfl) rfl rfl (by kernel_rfl) (by kernel_rfl) Tryz.underlying3 Tryz.underlying3) (Opens.pt Tryz.underlying24 (by kernel_rfl) rfl rfl (by kernel_rfl) (by kernel_rfl) Tryz.underlying3 Tryz.underlying3)
set_option maxRecDepth 100000 in
theorem lifted (os : Os) (started : os.Started) (H : Type) (enc : TypeId × Value → H) :
  ReturnsInHanded {} Tryz.checked os 4 .any (Rows.traceRingsSpec.pre6 enc Tryz.prog Tryz.f4 Rows.traceRingsRow.domain false) (Rows.traceRingsSpec.post enc Tryz.prog Tryz.f4 false true false false) := by
 refine returnsInHanded_of_change_sized (C := Tryz.checked) own started (by kernel_rfl) Tryz.func4
  (ChangeSpec.witness6 (enc := enc) (C := Tryz.checked) false ⟨#[], #[.slice none 0 0, .agg #[.int .i64 0, .int .i64 0, .int .i64 0, .int .i64 0]], []⟩ 8 (by kernel_rfl) (by kernel_rfl) (by kernel_rfl) (by kernel_rfl)) ?_
 intro W base args ds gs before hval0 hW hcnd hsz0 _
 have hval : ∀ (j : Nat) t v, Tryz.f4.params[j]? = some t → args[j]? = some v → Value.okWide Tryz.prog W .any base t v := hval0
 have hW' := hW
 obtain ⟨p, q, hA0, hV, rfl, hfz, hnd⟩ := hW
 have hA : DataW.TrodAll enc Tryz.prog W 0 (fun _ => true) true Tryz.f4.params.toList args.toList ds p := hA0
 rw [Tryz.params4] at hA hval
 obtain ⟨v0, vs0, d0, ds0, p0, q0, hargs, rfl, rfl, h0, r0⟩ := trodAll_cons hA
 obtain ⟨v1, vs1, d1, ds1, p1, q1, rfl, rfl, rfl, h1, r1⟩ := trodAll_cons r0
 obtain ⟨rfl, rfl, rfl⟩ := trodAll_nil r1
 obtain rfl : args = #[v0, v1] := by cases args; simp_all
 obtain ⟨rfl, rfl⟩ := trodVars_none hV
 obtain ⟨a0, len0, cap0, rfl⟩ := okWide_slice Tryz.underlying22 (hval 0 22 v0 rfl rfl)
 have k0 := h0
 have lt0 : ∀ x ∈ p0, x.block < W.heap.size := by obtain ⟨m, hm⟩ := k0; exact DataW.trod_lt m _ _ _ hm
 obtain ⟨xs0, hn0, hr0⟩ := Opens.arg (T := Ty.sg) Tryz.underlying22 (by kernel_rfl) opens0 h0
 have k1 := h1
 have lt1 : ∀ x ∈ p1, x.block < W.heap.size := by obtain ⟨m, hm⟩ := k1; exact DataW.trod_lt m _ _ _ hm
 obtain ⟨x1, rfl⟩ := Opens.sgArg Tryz.underlying32 opens1 (hval 1 32 v1 rfl rfl) h1
 clear hA0 hval0 hsz0
 refine (law21_TraceRings xs0 _ _ _ x1 W hr0 hn0).mono fun e W' ⟨he, bel⟩ => ?_
 subst he
 exact ⟨_, rfl, _, _, _, [], _, [], hW', trodAll_mk1 (shut_bool Tryz.underlying4 _), (trodAll_cons_mk (Below.trod laidOut (by kernel_rfl) (of_decide_eq_true (by kernel_rfl)) k0 bel lt0) (trodAll_cons_mk (Below.trod laidOut (by kernel_rfl) (of_decide_eq_true (by kernel_rfl)) k1 bel lt1) trodAll_mk0)), rfl, bel.frame _, fun h => by cases h⟩
theorem over : Rows.traceRingsRow.holds Tryz.pinned (OpenSpec.ofChange Rows.traceRingsSpec) :=
 OpenClaim.holds_of_wide 4 Tryz.f4 rfl rfl rfl rfl rfl rfl rfl ⟨rfl, rfl, rfl, rfl, rfl⟩ rfl rfl rfl rfl rfl (by kernel_rfl) Tryz.func4 (by kernel_rfl)
  (of_decide_eq_true (by kernel_rfl)) (by unfold Func.isWrapper; first | (rw [if_pos (by decide +kernel)]; kernel_rfl) | (rw [if_neg (by decide +kernel)]; exact ⟨rfl, rfl⟩))
  (fun os started H enc _ => lifted os started H enc)
theorem proved : Rows.TraceRingsSaid := over
#print axioms proved
end Go.Proofs.YtlmjciajpjdilaaGreat.traceRings
namespace Go.Proofs.YtlmjciajpjdilaaGreat
theorem traceRings_holds : Rows.TraceRingsSaid := traceRings.proved
end Go.Proofs.YtlmjciajpjdilaaGreat
end
