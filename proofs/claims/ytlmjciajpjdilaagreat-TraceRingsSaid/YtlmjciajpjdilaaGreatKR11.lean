/- Contracts of trace.cross, trace.side and trace.turn. -/
import Derived.Test.YtlmjciajpjdilaaGreatKR7
namespace Go.Proofs.YtlmjciajpjdilaaGreat
set_option linter.unusedVariables false
set_option linter.unusedSimpArgs false
section
open Go.RowKit Go.Proofs.YtlmjciajpjdilaaGreatW.PrintLast

theorem trace_cross (v a b : Pt) (w : World) (hv : validB v = true) (ha : validB a = true) (hb : validB b = true) :
  Calls Tryz.prog 114 #[ptA v, ptA a, ptA b] w fun e w' => e = .returned (.int .i64 (crossV v a b)) ∧ Below w.heap.size w w' := by
 have HE : Hid (crossV v a b = (a.1 - v.1) * (b.2 - v.2) - (a.2 - v.2) * (b.1 - v.1)) := rfl
 generalize crossV v a b = r at *
 obtain ⟨v1, v2⟩ := v
 obtain ⟨a1, a2⟩ := a
 obtain ⟨b1, b2⟩ := b
 obtain ⟨h1, h2, h3, h4⟩ := valid_bd hv
 obtain ⟨h5, h6, h7, h8⟩ := valid_bd ha
 obtain ⟨h9, h10, h11, h12⟩ := valid_bd hb
 simp only at h1 h2 h3 h4 h5 h6 h7 h8 h9 h10 h11 h12 HE
 clear hv ha hb
 have q1 := wr_in (x := a1 - v1) (by omega) (by omega)
 have q2 := wr_in (x := b2 - v2) (by omega) (by omega)
 have q3 := wr_in (x := a2 - v2) (by omega) (by omega)
 have q4 := wr_in (x := b1 - v1) (by omega) (by omega)
 have d1 := mul_bd2 (a := a1 - v1) (b := b2 - v2) (by omega) (by omega) (by omega) (by omega)
 have d2 := mul_bd2 (a := a2 - v2) (b := b1 - v1) (by omega) (by omega) (by omega) (by omega)
 have q5 := wr_in (x := (a1 - v1) * (b2 - v2)) (by omega) (by omega)
 have q6 := wr_in (x := (a2 - v2) * (b1 - v1)) (by omega) (by omega)
 have q7 := wr_in (x := (a1 - v1) * (b2 - v2) - (a2 - v2) * (b1 - v1)) (by omega) (by omega)
 clear d1 d2 h1 h2 h3 h4 h5 h6 h7 h8 h9 h10 h11 h12
 simp only [ptA]
 go_enter Tryz.func114, Tryz.ntmps114
 go_wp2
 go_ret
 exact ⟨ret_int HE.out.symm, bq⟩
theorem trace_side (v u a : Pt) (w : World) (hv : validB v = true) (hu : validB u = true) (ha : validB a = true) :
  Calls Tryz.prog 113 #[ptA v, ptA u, ptA a] w fun e w' => e = .returned (.int .i64 (sideZ v u a)) ∧ Below w.heap.size w w' := by
 have HC := Lib.hid (fun W => trace_cross v u a W hv hu ha)
 have HE : Hid (sideZ v u a = if crossV v u a < 0 then 0 else if crossV v u a = 0 then 1 else 2) := rfl
 generalize sideZ v u a = r at *
 generalize crossV v u a = c at *
 clear hv hu ha
 by_cases h1 : c < 0
 ·have q1 : decide (c < 0) = true := decide_eq_true h1
  have HR : Hid (r = 0) := HE.out.trans (if_pos h1)
  clear HE h1
  go_enter Tryz.func113, Tryz.ntmps113
  go_wp2_with fail
  refine Calls.mono (HC.out _) ?_
  rintro e w1 ⟨rfl, hb1⟩
  go_wp2
  go_ret
  exact ⟨ret_int HR.out.symm, (by repeat (first | exact Below.refl _ _ | apply below_alloc | apply below_drewN | apply below_drew | (refine below_set2 ?_ ?_; (first | (simp; done) | (simp; omega))) | (refine below_step ?_ hb1)))⟩
 ·have q1 : decide (c < 0) = false := decide_eq_false h1
  by_cases h2 : c = 0
  ·have q2 : (c == 0) = true := by simp [h2]
   have HR : Hid (r = 1) := by show r = _; rw [HE.out, if_neg h1, if_pos h2]
   clear HE h1 h2
   go_enter Tryz.func113, Tryz.ntmps113
   go_wp2_with fail
   refine Calls.mono (HC.out _) ?_
   rintro e w1 ⟨rfl, hb1⟩
   go_wp2
   go_ret
   exact ⟨ret_int HR.out.symm, (by repeat (first | exact Below.refl _ _ | apply below_alloc | apply below_drewN | apply below_drew | (refine below_set2 ?_ ?_; (first | (simp; done) | (simp; omega))) | (refine below_step ?_ hb1)))⟩
  ·have q2 : (c == 0) = false := by simp [h2]
   have HR : Hid (r = 2) := by show r = _; rw [HE.out, if_neg h1, if_neg h2]
   clear HE h1 h2
   go_enter Tryz.func113, Tryz.ntmps113
   go_wp2_with fail
   refine Calls.mono (HC.out _) ?_
   rintro e w1 ⟨rfl, hb1⟩
   go_wp2
   go_ret
   exact ⟨ret_int HR.out.symm, (by repeat (first | exact Below.refl _ _ | apply below_alloc | apply below_drewN | apply below_drew | (refine below_set2 ?_ ?_; (first | (simp; done) | (simp; omega))) | (refine below_step ?_ hb1)))⟩
theorem turnL_zero (u v : Pt) (l : Pts) : turnL u v (l.take 0) = (0, 0) := rfl
theorem turnL_one (u v : Pt) (l : Pts) (h : 0 < l.length) : turnL u v (l.take (0 + 1)) = ptD l 0 := by
 cases l with
 | nil => cases h
 | cons a l => rfl
theorem turnL_snoc (u v : Pt) (l : Pts) (k : Nat) (h0 : 0 < k) (h : k < l.length) : turnL u v (l.take (k + 1)) = if betterB u v (turnL u v (l.take k)) (ptD l k) = true then ptD l k else turnL u v (l.take k) := by
 rw [take_snoc l k (0, 0) h]
 obtain ⟨a, at_, e⟩ : ∃ a at_, l.take k = a :: at_ := by
  cases hl : l.take k with
  | nil => have := congrArg List.length hl; rw [List.length_take, List.length_nil] at this; omega
  | cons a at_ => exact ⟨a, at_, rfl⟩
 rw [e]
 show (at_ ++ [_]).foldl _ a = _
 rw [List.foldl_append]
 rfl
theorem turnL_valid (u v : Pt) : ∀ (l : Pts), (∀ x ∈ l, validB x = true) → validB (turnL u v l) = true
 | [], _ => by show validB (0, 0) = true; decide
 | a :: l, h => by
  have key : ∀ (l : Pts) (b : Pt), validB b = true → (∀ x ∈ l, validB x = true) → validB (l.foldl (fun best a => if betterB u v best a then a else best) b) = true := by
   intro l
   induction l with
   | nil => intro b hb _; exact hb
   | cons x xs ih =>
    intro b hb hx
    rw [List.foldl_cons]
    refine ih _ ?_ (fun y hy => hx y (List.mem_cons_of_mem _ hy))
    split
    ·exact hx x List.mem_cons_self
    ·exact hb
  exact key l a (h a List.mem_cons_self) (fun x hx => h x (List.mem_cons_of_mem _ hx))
set_option maxRecDepth 100000 in
set_option maxHeartbeats 2000000 in
theorem trace_turn {ok : Nat → Prop} (l : Pts) (A : Option Addr) (n c : Nat) (u v : Pt) (w : World) (hr : Row Ty.pt ok w A l) (hn : n = l.length) (hl : ∀ x ∈ l, validB x = true) (hu : validB u = true) (hv : validB v = true) :
  Calls Tryz.prog 89 #[.slice A n c, ptA u, ptA v] w fun e w' => e = .returned (ptA (turnL u v l)) ∧ Below w.heap.size w w' := by
 subst hn
 have HR := Lib.hid hr
 have HL := Lib.hid hl
 have hmx := hr.len
 clear hr hl
 go_enter Tryz.func89, Tryz.ntmps89
 go_wp2
 go_loopw [12] (fun i wr => ∃ k : Nat, k ≤ l.length ∧ i = .int .i64 k ∧ wr.heap[w.heap.size]? = some (.cells #[.int .i64 u.1, .int .i64 u.2] 24 (0, 0)) ∧ wr.heap[w.heap.size + 1]? = some (.cells #[.int .i64 v.1, .int .i64 v.2] 24 (0, 0)) ∧ wr.heap[w.heap.size + 1 + 1]? = some (.cells #[.int .i64 0, .int .i64 0] 24 (0, 0)) ∧
  wr.heap[w.heap.size + 1 + 1 + 1]? = some (.cells #[.int .i64 (turnL u v (l.take k)).1, .int .i64 (turnL u v (l.take k)).2] 24 (0, 0)) ∧ Hid (Below w.heap.size w wr)) (fun i _ => l.length - (intOf i).toNat)
 case atStart => exact ⟨0, Nat.zero_le _, rfl, blk_alloc (blk_alloc (two_alloc w _ _).1 _) _, blk_alloc (blk_alloc (two_alloc w _ _).2 _) _, blk_alloc (by have := heap_alloc_new ((w.alloc (.cells #[.int .i64 u.1, .int .i64 u.2] 24)).alloc (.cells #[.int .i64 v.1, .int .i64 v.2] 24)) (.cells #[.int .i64 0, .int .i64 0] 24); simpa using this) _, (by have := heap_alloc_new (((w.alloc (.cells #[.int .i64 u.1, .int .i64 u.2] 24)).alloc (.cells #[.int .i64 v.1, .int .i64 v.2] 24)).alloc (.cells #[.int .i64 0, .int .i64 0] 24)) (.cells #[.int .i64 0, .int .i64 0] 24); simpa [turnL] using this), bq⟩
 case round =>
  obtain ⟨k, hk, rfl, HU, HV, H0, HBe, HB⟩ := hrel
  have hz := lt_of_block HBe
  by_cases hlt : k < l.length
  ·have HRk := Lib.hid (HR.out.below HB.out)
   obtain ⟨ad, rfl, hx0, hx1⟩ := HRk.out.pt_at k hlt
   have HVA : Hid (validB (ptD l k) = true) := HL.out _ (by rw [ptD_eq hlt]; exact List.getElem_mem hlt)
   have HVB : Hid (validB (turnL u v (l.take k)) = true) := turnL_valid u v _ (fun x hx => HL.out x (List.mem_of_mem_take hx))
   have HS0 := Lib.hid (fun h : 0 < l.length => turnL_one u v l h)
   have HS1 := Lib.hid (fun h0 : 0 < k => turnL_snoc u v l k h0 hlt)
   have HAb := heap_alloc_new wr (.cells #[.int .i64 (ptD l k).1, .int .i64 (ptD l k).2] 24)
   clear HRk
   obtain ⟨W0, hW0⟩ : ∃ W0, W0 = wr.alloc (.cells #[.int .i64 (ptD l k).1, .int .i64 (ptD l k).2] 24) := ⟨_, rfl⟩
   have HU0 := blk_alloc HU (.cells #[.int .i64 (ptD l k).1, .int .i64 (ptD l k).2] 24)
   have HV0 := blk_alloc HV (.cells #[.int .i64 (ptD l k).1, .int .i64 (ptD l k).2] 24)
   have H00 := blk_alloc H0 (.cells #[.int .i64 (ptD l k).1, .int .i64 (ptD l k).2] 24)
   have HB0 := blk_alloc HBe (.cells #[.int .i64 (ptD l k).1, .int .i64 (ptD l k).2] 24)
   have BW0 : Hid (Below w.heap.size w W0) := by show Below _ _ _; rw [hW0]; exact below_alloc HB.out _
   rw [← hW0] at HAb HU0 HV0 H00 HB0
   by_cases hk0 : k = 0
   ·have HT : Hid (turnL u v (l.take (k + 1)) = ptD l k) := by have := HS0.out (by omega); rw [hk0]; exact this
    have q0 : ((k : Int) == 0) = true := by simp [hk0]
    clear hk0 HS0 HS1
    go_wp2_with fail
    rw [← hW0]
    clear hW0 hx0 hx1
    have vc0 := blk_cell HV0 0 rfl
    have vc1 := blk_cell HV0 1 rfl
    have uc0 := blk_cell HU0 0 rfl
    have uc1 := blk_cell HU0 1 rfl
    have ac0 := blk_cell HAb 0 rfl
    have ac1 := blk_cell HAb 1 rfl
    have bc0 := blk_cell HB0 0 rfl
    have bc1 := blk_cell HB0 1 rfl
    refine start_ (n := 31) (S := fun w' => w'.cell? ⟨w.heap.size + 1, 0, none⟩ = some (.int .i64 v.1) ∧ w'.cell? ⟨w.heap.size + 1, 1, none⟩ = some (.int .i64 v.2) ∧ w'.cell? ⟨w.heap.size, 0, none⟩ = some (.int .i64 u.1) ∧ w'.cell? ⟨w.heap.size, 1, none⟩ = some (.int .i64 u.2) ∧ w'.cell? ⟨wr.heap.size, 0, none⟩ = some (.int .i64 (ptD l k).1) ∧ w'.cell? ⟨wr.heap.size, 1, none⟩ = some (.int .i64 (ptD l k).2) ∧ w'.cell? ⟨w.heap.size + 1 + 1 + 1, 0, none⟩ = some (.int .i64 (turnL u v (l.take k)).1) ∧ w'.cell? ⟨w.heap.size + 1 + 1 + 1, 1, none⟩ = some (.int .i64 (turnL u v (l.take k)).2)) (ds := []) #[Z,Z,Z,Z,Z,Z,Z,Z,Z,Z,Z,Z,Z,Z,Z,Z,Z,Z,Z,Z,Z,Z,Z,Z,Z,Z,Z,Z,Z,Z,Z] (by kernel_rfl) rfl rfl ⟨vc0, vc1, uc0, uc1, ac0, ac1, bc0, bc1⟩ (fun hHeld => ?_)
    refine pure_ (i := 0) (N := some 17) (v := ?_) (a' := ?_) #[J,Z,Z,Z,Z,Z,Z,Z,Z,Z,Z,Z,Z,Z,Z,Z,Z,Z,Z,Z,Z,Z,Z,Z,Z,Z,Z,Z,Z,Z,Z] rfl rfl (by kernel_rfl) (fun _ _ _ h => h) (Or.inl ⟨by rfl, ?_⟩) ?_ ?_
    rotate_left
    ·intro w'; go_simp; with_reducible rfl
    rotate_left
    ·simp only [Act.put, sA, sB, sC, i64_w, i32_w]; rfl
    refine pure_ (i := 1) (N := some 18) (v := ?_) (a' := ?_) #[J,J,Z,Z,Z,Z,Z,Z,Z,Z,Z,Z,Z,Z,Z,Z,Z,Z,Z,Z,Z,Z,Z,Z,Z,Z,Z,Z,Z,Z,Z] rfl rfl (by kernel_rfl) (fun _ _ _ h => h) (Or.inl ⟨by rfl, ?_⟩) ?_ ?_
    rotate_left
    ·intro w'; go_simp; with_reducible rfl
    rotate_left
    ·simp only [Act.put, sA, sB, sC, i64_w, i32_w]; rfl
    refine pure_ (i := 2) (N := some 19) (v := ?_) (a' := ?_) #[J,J,J,Z,Z,Z,Z,Z,Z,Z,Z,Z,Z,Z,Z,Z,Z,Z,Z,Z,Z,Z,Z,Z,Z,Z,Z,Z,Z,Z,Z] rfl rfl (by kernel_rfl) (fun _ _ _ h => h) (Or.inl ⟨by rfl, ?_⟩) ?_ ?_
    rotate_left
    ·intro w'; go_simp; with_reducible rfl
    rotate_left
    ·simp only [Act.put, sA, sB, sC, i64_w, i32_w]; rfl
    refine pure_ (i := 3) (N := some 20) (v := undef) (a' := ?_) #[J,J,J,J,Z,Z,Z,Z,Z,Z,Z,Z,Z,Z,Z,Z,Z,Z,Z,Z,Z,Z,Z,Z,Z,Z,Z,Z,Z,Z,Z] rfl rfl (by kernel_rfl) (fun _ _ _ h => h) (Or.inr ⟨by rfl, rfl⟩) ?_ ?_
    rotate_left
    ·simp only [Act.put, sA, sB, sC, i64_w, i32_w]; rfl
    refine pure_ (i := 4) (N := some 21) (v := undef) (a' := ?_) #[J,J,J,J,J,Z,Z,Z,Z,Z,Z,Z,Z,Z,Z,Z,Z,Z,Z,Z,Z,Z,Z,Z,Z,Z,Z,Z,Z,Z,Z] rfl rfl (by kernel_rfl) (fun _ _ _ h => h) (Or.inr ⟨by rfl, rfl⟩) ?_ ?_
    rotate_left
    ·simp only [Act.put, sA, sB, sC, i64_w, i32_w]; rfl
    refine pure_ (i := 5) (N := some 22) (v := undef) (a' := ?_) #[J,J,J,J,J,J,Z,Z,Z,Z,Z,Z,Z,Z,Z,Z,Z,Z,Z,Z,Z,Z,Z,Z,Z,Z,Z,Z,Z,Z,Z] rfl rfl (by kernel_rfl) (fun _ _ _ h => h) (Or.inr ⟨by rfl, rfl⟩) ?_ ?_
    rotate_left
    ·simp only [Act.put, sA, sB, sC, i64_w, i32_w]; rfl
    refine pure_ (i := 6) (N := some 23) (v := undef) (a' := ?_) #[J,J,J,J,J,J,J,Z,Z,Z,Z,Z,Z,Z,Z,Z,Z,Z,Z,Z,Z,Z,Z,Z,Z,Z,Z,Z,Z,Z,Z] rfl rfl (by kernel_rfl) (fun _ _ _ h => h) (Or.inr ⟨by rfl, rfl⟩) ?_ ?_
    rotate_left
    ·simp only [Act.put, sA, sB, sC, i64_w, i32_w]; rfl
    refine pure_ (i := 7) (N := some 24) (v := undef) (a' := ?_) #[J,J,J,J,J,J,J,J,Z,Z,Z,Z,Z,Z,Z,Z,Z,Z,Z,Z,Z,Z,Z,Z,Z,Z,Z,Z,Z,Z,Z] rfl rfl (by kernel_rfl) (fun _ _ _ h => h) (Or.inr ⟨by rfl, rfl⟩) ?_ ?_
    rotate_left
    ·simp only [Act.put, sA, sB, sC, i64_w, i32_w]; rfl
    refine pure_ (i := 8) (N := some 25) (v := undef) (a' := ?_) #[J,J,J,J,J,J,J,J,J,Z,Z,Z,Z,Z,Z,Z,Z,Z,Z,Z,Z,Z,Z,Z,Z,Z,Z,Z,Z,Z,Z] rfl rfl (by kernel_rfl) (fun _ _ _ h => h) (Or.inr ⟨by rfl, rfl⟩) ?_ ?_
    rotate_left
    ·simp only [Act.put, sA, sB, sC, i64_w, i32_w]; rfl
    refine pure_ (i := 9) (N := some 26) (v := undef) (a' := ?_) #[J,J,J,J,J,J,J,J,J,J,Z,Z,Z,Z,Z,Z,Z,Z,Z,Z,Z,Z,Z,Z,Z,Z,Z,Z,Z,Z,Z] rfl rfl (by kernel_rfl) (fun _ _ _ h => h) (Or.inr ⟨by rfl, rfl⟩) ?_ ?_
    rotate_left
    ·simp only [Act.put, sA, sB, sC, i64_w, i32_w]; rfl
    refine pure_ (i := 10) (N := some 27) (v := undef) (a' := ?_) #[J,J,J,J,J,J,J,J,J,J,J,Z,Z,Z,Z,Z,Z,Z,Z,Z,Z,Z,Z,Z,Z,Z,Z,Z,Z,Z,Z] rfl rfl (by kernel_rfl) (fun _ _ _ h => h) (Or.inr ⟨by rfl, rfl⟩) ?_ ?_
    rotate_left
    ·simp only [Act.put, sA, sB, sC, i64_w, i32_w]; rfl
    refine pure_ (i := 11) (N := some 28) (v := undef) (a' := ?_) #[J,J,J,J,J,J,J,J,J,J,J,J,Z,Z,Z,Z,Z,Z,Z,Z,Z,Z,Z,Z,Z,Z,Z,Z,Z,Z,Z] rfl rfl (by kernel_rfl) (fun _ _ _ h => h) (Or.inr ⟨by rfl, rfl⟩) ?_ ?_
    rotate_left
    ·simp only [Act.put, sA, sB, sC, i64_w, i32_w]; rfl
    refine pure_ (i := 12) (N := some 29) (v := ?_) (a' := ?_) #[J,J,J,J,J,J,J,J,J,J,J,J,J,Z,Z,Z,Z,Z,Z,Z,Z,Z,Z,Z,Z,Z,Z,Z,Z,Z,Z] rfl rfl (by kernel_rfl) (fun _ _ _ h => h) (Or.inl ⟨by rfl, ?_⟩) ?_ ?_
    rotate_left
    ·intro w'; go_simp; with_reducible rfl
    rotate_left
    ·simp only [Act.put, sA, sB, sC, i64_w, i32_w]; rfl
    refine pure_ (i := 13) (N := some 30) (v := ?_) (a' := ?_) #[J,J,J,J,J,J,J,J,J,J,J,J,J,J,Z,Z,Z,Z,Z,Z,Z,Z,Z,Z,Z,Z,Z,Z,Z,Z,Z] rfl rfl (by kernel_rfl) (fun _ _ _ h => h) (Or.inl ⟨by rfl, ?_⟩) ?_ ?_
    rotate_left
    ·intro w'; go_simp; with_reducible rfl
    rotate_left
    ·simp only [Act.put, sA, sB, sC, i64_w, i32_w]; rfl
    refine pure_ (i := 14) (N := some 31) (v := undef) (a' := ?_) #[J,J,J,J,J,J,J,J,J,J,J,J,J,J,J,Z,Z,Z,Z,Z,Z,Z,Z,Z,Z,Z,Z,Z,Z,Z,Z] rfl rfl (by kernel_rfl) (fun _ _ _ h => h) (Or.inr ⟨by rfl, rfl⟩) ?_ ?_
    rotate_left
    ·simp only [Act.put, sA, sB, sC, i64_w, i32_w]; rfl
    refine pure_ (i := 15) (N := some 32) (v := undef) (a' := ?_) #[J,J,J,J,J,J,J,J,J,J,J,J,J,J,J,J,Z,Z,Z,Z,Z,Z,Z,Z,Z,Z,Z,Z,Z,Z,Z] rfl rfl (by kernel_rfl) (fun _ _ _ h => h) (Or.inr ⟨by rfl, rfl⟩) ?_ ?_
    rotate_left
    ·simp only [Act.put, sA, sB, sC, i64_w, i32_w]; rfl
    refine pure_ (i := 16) (N := some 33) (v := undef) (a' := ?_) #[J,J,J,J,J,J,J,J,J,J,J,J,J,J,J,J,J,Z,Z,Z,Z,Z,Z,Z,Z,Z,Z,Z,Z,Z,Z] rfl rfl (by kernel_rfl) (fun _ _ _ h => h) (Or.inr ⟨by rfl, rfl⟩) ?_ ?_
    rotate_left
    ·simp only [Act.put, sA, sB, sC, i64_w, i32_w]; rfl
    refine pure_ (i := 17) (N := some 34) (v := undef) (a' := ?_) #[J,J,J,J,J,J,J,J,J,J,J,J,J,J,J,J,J,J,Z,Z,Z,Z,Z,Z,Z,Z,Z,Z,Z,Z,Z] rfl rfl (by kernel_rfl) (fun _ _ _ h => h) (Or.inr ⟨by rfl, rfl⟩) ?_ ?_
    rotate_left
    ·simp only [Act.put, sA, sB, sC, i64_w, i32_w]; rfl
    refine pure_ (i := 18) (N := some 35) (v := undef) (a' := ?_) #[J,J,J,J,J,J,J,J,J,J,J,J,J,J,J,J,J,J,J,Z,Z,Z,Z,Z,Z,Z,Z,Z,Z,Z,Z] rfl rfl (by kernel_rfl) (fun _ _ _ h => h) (Or.inr ⟨by rfl, rfl⟩) ?_ ?_
    rotate_left
    ·simp only [Act.put, sA, sB, sC, i64_w, i32_w]; rfl
    refine pure_ (i := 19) (N := some 36) (v := undef) (a' := ?_) #[J,J,J,J,J,J,J,J,J,J,J,J,J,J,J,J,J,J,J,J,Z,Z,Z,Z,Z,Z,Z,Z,Z,Z,Z] rfl rfl (by kernel_rfl) (fun _ _ _ h => h) (Or.inr ⟨by rfl, rfl⟩) ?_ ?_
    rotate_left
    ·simp only [Act.put, sA, sB, sC, i64_w, i32_w]; rfl
    refine pure_ (i := 20) (N := some 37) (v := undef) (a' := ?_) #[J,J,J,J,J,J,J,J,J,J,J,J,J,J,J,J,J,J,J,J,J,Z,Z,Z,Z,Z,Z,Z,Z,Z,Z] rfl rfl (by kernel_rfl) (fun _ _ _ h => h) (Or.inr ⟨by rfl, rfl⟩) ?_ ?_
    rotate_left
    ·simp only [Act.put, sA, sB, sC, i64_w, i32_w]; rfl
    refine pure_ (i := 21) (N := some 38) (v := undef) (a' := ?_) #[J,J,J,J,J,J,J,J,J,J,J,J,J,J,J,J,J,J,J,J,J,J,Z,Z,Z,Z,Z,Z,Z,Z,Z] rfl rfl (by kernel_rfl) (fun _ _ _ h => h) (Or.inr ⟨by rfl, rfl⟩) ?_ ?_
    rotate_left
    ·simp only [Act.put, sA, sB, sC, i64_w, i32_w]; rfl
    refine pure_ (i := 22) (N := some 39) (v := undef) (a' := ?_) #[J,J,J,J,J,J,J,J,J,J,J,J,J,J,J,J,J,J,J,J,J,J,J,Z,Z,Z,Z,Z,Z,Z,Z] rfl rfl (by kernel_rfl) (fun _ _ _ h => h) (Or.inr ⟨by rfl, rfl⟩) ?_ ?_
    rotate_left
    ·simp only [Act.put, sA, sB, sC, i64_w, i32_w]; rfl
    refine pure_ (i := 23) (N := some 40) (v := undef) (a' := ?_) #[J,J,J,J,J,J,J,J,J,J,J,J,J,J,J,J,J,J,J,J,J,J,J,J,Z,Z,Z,Z,Z,Z,Z] rfl rfl (by kernel_rfl) (fun _ _ _ h => h) (Or.inr ⟨by rfl, rfl⟩) ?_ ?_
    rotate_left
    ·simp only [Act.put, sA, sB, sC, i64_w, i32_w]; rfl
    refine pure_ (i := 24) (N := some 41) (v := undef) (a' := ?_) #[J,J,J,J,J,J,J,J,J,J,J,J,J,J,J,J,J,J,J,J,J,J,J,J,J,Z,Z,Z,Z,Z,Z] rfl rfl (by kernel_rfl) (fun _ _ _ h => h) (Or.inr ⟨by rfl, rfl⟩) ?_ ?_
    rotate_left
    ·simp only [Act.put, sA, sB, sC, i64_w, i32_w]; rfl
    refine pure_ (i := 25) (N := some 42) (v := undef) (a' := ?_) #[J,J,J,J,J,J,J,J,J,J,J,J,J,J,J,J,J,J,J,J,J,J,J,J,J,J,Z,Z,Z,Z,Z] rfl rfl (by kernel_rfl) (fun _ _ _ h => h) (Or.inr ⟨by rfl, rfl⟩) ?_ ?_
    rotate_left
    ·simp only [Act.put, sA, sB, sC, i64_w, i32_w]; rfl
    refine pure_ (i := 26) (N := some 43) (v := undef) (a' := ?_) #[J,J,J,J,J,J,J,J,J,J,J,J,J,J,J,J,J,J,J,J,J,J,J,J,J,J,J,Z,Z,Z,Z] rfl rfl (by kernel_rfl) (fun _ _ _ h => h) (Or.inr ⟨by rfl, rfl⟩) ?_ ?_
    rotate_left
    ·simp only [Act.put, sA, sB, sC, i64_w, i32_w]; rfl
    refine pure_ (i := 27) (N := some 44) (v := undef) (a' := ?_) #[J,J,J,J,J,J,J,J,J,J,J,J,J,J,J,J,J,J,J,J,J,J,J,J,J,J,J,J,Z,Z,Z] rfl rfl (by kernel_rfl) (fun _ _ _ h => h) (Or.inr ⟨by rfl, rfl⟩) ?_ ?_
    rotate_left
    ·simp only [Act.put, sA, sB, sC, i64_w, i32_w]; rfl
    refine pure_ (i := 28) (N := some 45) (v := undef) (a' := ?_) #[J,J,J,J,J,J,J,J,J,J,J,J,J,J,J,J,J,J,J,J,J,J,J,J,J,J,J,J,J,Z,Z] rfl rfl (by kernel_rfl) (fun _ _ _ h => h) (Or.inr ⟨by rfl, rfl⟩) ?_ ?_
    rotate_left
    ·simp only [Act.put, sA, sB, sC, i64_w, i32_w]; rfl
    refine pure_ (i := 29) (N := some 46) (v := undef) (a' := ?_) #[J,J,J,J,J,J,J,J,J,J,J,J,J,J,J,J,J,J,J,J,J,J,J,J,J,J,J,J,J,J,Z] rfl rfl (by kernel_rfl) (fun _ _ _ h => h) (Or.inr ⟨by rfl, rfl⟩) ?_ ?_
    rotate_left
    ·simp only [Act.put, sA, sB, sC, i64_w, i32_w]; rfl
    refine pure_ (i := 30) (N := some 47) (v := ?_) (a' := ?_) #[J,J,J,J,J,J,J,J,J,J,J,J,J,J,J,J,J,J,J,J,J,J,J,J,J,J,J,J,J,J,J] rfl rfl (by kernel_rfl) (fun _ _ _ h => h) (Or.inl ⟨by rfl, ?_⟩) ?_ ?_
    rotate_left
    ·intro w'; go_simp; with_reducible rfl
    rotate_left
    ·simp only [Act.put, sA, sB, sC, i64_w, i32_w]; rfl
    refine done_ (by kernel_rfl) ?_
    have HV9 := HV0
    have HU9 := HU0
    have HA9 := HAb
    have HT9 := HB0
    have HZ9 := H00
    have BW9 : Hid (Below w.heap.size w _) := BW0.out
    clear vc0 vc1 uc0 uc1 ac0 ac1 bc0 bc1
    have ac0 := blk_cell HA9 0 rfl
    have ac1 := blk_cell HA9 1 rfl
    have bf0 := blk_free HT9 0
    have bc0 := blk_cell HT9 0 rfl
    have bf1 := blk_free HT9 1
    have bc1 := blk_cell HT9 1 rfl
    go_wp2
    go_roundw
    case rel => exact ⟨k + 1, by omega, by go_num, blk_far (blk_far HU9 (by omega : ¬ w.heap.size = w.heap.size + 1 + 1 + 1) _) (by omega : ¬ w.heap.size = w.heap.size + 1 + 1 + 1) _, blk_far (blk_far HV9 (by omega : ¬ w.heap.size + 1 = w.heap.size + 1 + 1 + 1) _) (by omega : ¬ w.heap.size + 1 = w.heap.size + 1 + 1 + 1) _, blk_far (blk_far HZ9 (by omega : ¬ w.heap.size + 1 + 1 = w.heap.size + 1 + 1 + 1) _) (by omega : ¬ w.heap.size + 1 + 1 = w.heap.size + 1 + 1 + 1) _, by rw [HT.out]; exact blk_set (blk_set HT9 _) _, below_drew (below_set2 (by show _ ≤ w.heap.size + 1 + 1 + 1; omega) (below_set2 (by show _ ≤ w.heap.size + 1 + 1 + 1; omega) BW9.out))⟩
    case measure => simp [intOf]; omega
   ·have HT := Lib.hid (HS1.out (by omega))
    have q0 : ((k : Int) == 0) = false := by simp [hk0]
    clear hk0 HS0 HS1
    have C1 := Lib.hid (fun W => trace_side v u (ptD l k) W hv hu HVA.out)
    have C2 := Lib.hid (fun W => trace_side v u (turnL u v (l.take k)) W hv hu HVB.out)
    have C3 := Lib.hid (fun W => trace_cross v (turnL u v (l.take k)) (ptD l k) W hv HVB.out HVA.out)
    have HE : Hid (betterB u v (turnL u v (l.take k)) (ptD l k) = (decide (sideZ v u (ptD l k) < sideZ v u (turnL u v (l.take k))) || (decide (sideZ v u (ptD l k) = sideZ v u (turnL u v (l.take k))) && decide (crossV v (turnL u v (l.take k)) (ptD l k) > 0)))) := rfl
    generalize sideZ v u (ptD l k) = sa at *
    generalize sideZ v u (turnL u v (l.take k)) = sb at *
    generalize crossV v (turnL u v (l.take k)) (ptD l k) = cz at *
    by_cases h1 : sa < sb
    ·have q1 : decide (sa < sb) = true := decide_eq_true h1
     have HT2 : Hid (turnL u v (l.take (k + 1)) = ptD l k) := HT.out.trans (if_pos (by rw [HE.out, q1]; rfl))
     clear HT HE h1
     go_wp2_with fail
     rw [← hW0]
     clear hW0 hx0 hx1
     have vc0 := blk_cell HV0 0 rfl
     have vc1 := blk_cell HV0 1 rfl
     have uc0 := blk_cell HU0 0 rfl
     have uc1 := blk_cell HU0 1 rfl
     have ac0 := blk_cell HAb 0 rfl
     have ac1 := blk_cell HAb 1 rfl
     have bc0 := blk_cell HB0 0 rfl
     have bc1 := blk_cell HB0 1 rfl
     refine start_ (n := 31) (S := fun w' => w'.cell? ⟨w.heap.size + 1, 0, none⟩ = some (.int .i64 v.1) ∧ w'.cell? ⟨w.heap.size + 1, 1, none⟩ = some (.int .i64 v.2) ∧ w'.cell? ⟨w.heap.size, 0, none⟩ = some (.int .i64 u.1) ∧ w'.cell? ⟨w.heap.size, 1, none⟩ = some (.int .i64 u.2) ∧ w'.cell? ⟨wr.heap.size, 0, none⟩ = some (.int .i64 (ptD l k).1) ∧ w'.cell? ⟨wr.heap.size, 1, none⟩ = some (.int .i64 (ptD l k).2) ∧ w'.cell? ⟨w.heap.size + 1 + 1 + 1, 0, none⟩ = some (.int .i64 (turnL u v (l.take k)).1) ∧ w'.cell? ⟨w.heap.size + 1 + 1 + 1, 1, none⟩ = some (.int .i64 (turnL u v (l.take k)).2)) (ds := []) #[Z,Z,Z,Z,Z,Z,Z,Z,Z,Z,Z,Z,Z,Z,Z,Z,Z,Z,Z,Z,Z,Z,Z,Z,Z,Z,Z,Z,Z,Z,Z] (by kernel_rfl) rfl rfl ⟨vc0, vc1, uc0, uc1, ac0, ac1, bc0, bc1⟩ (fun hHeld => ?_)
     refine pure_ (i := 0) (N := some 17) (v := ?_) (a' := ?_) #[J,Z,Z,Z,Z,Z,Z,Z,Z,Z,Z,Z,Z,Z,Z,Z,Z,Z,Z,Z,Z,Z,Z,Z,Z,Z,Z,Z,Z,Z,Z] rfl rfl (by kernel_rfl) (fun _ _ _ h => h) (Or.inl ⟨by rfl, ?_⟩) ?_ ?_
     rotate_left
     ·intro w'; go_simp; with_reducible rfl
     rotate_left
     ·simp only [Act.put, sA, sB, sC, i64_w, i32_w]; rfl
     refine pure_ (i := 1) (N := some 18) (v := ?_) (a' := ?_) #[J,J,Z,Z,Z,Z,Z,Z,Z,Z,Z,Z,Z,Z,Z,Z,Z,Z,Z,Z,Z,Z,Z,Z,Z,Z,Z,Z,Z,Z,Z] rfl rfl (by kernel_rfl) (fun _ _ _ h => h) (Or.inl ⟨by rfl, ?_⟩) ?_ ?_
     rotate_left
     ·intro w'; go_simp; with_reducible rfl
     rotate_left
     ·simp only [Act.put, sA, sB, sC, i64_w, i32_w]; rfl
     refine pure_ (i := 2) (N := some 19) (v := ?_) (a' := ?_) #[J,J,J,Z,Z,Z,Z,Z,Z,Z,Z,Z,Z,Z,Z,Z,Z,Z,Z,Z,Z,Z,Z,Z,Z,Z,Z,Z,Z,Z,Z] rfl rfl (by kernel_rfl) (fun _ _ _ h => h) (Or.inl ⟨by rfl, ?_⟩) ?_ ?_
     rotate_left
     ·intro w'; go_simp; with_reducible rfl
     rotate_left
     ·simp only [Act.put, sA, sB, sC, i64_w, i32_w]; rfl
     refine take_ (i := 3) (N := some 20) (v := ?_) (a' := ?_) #[J,J,J,J,Z,Z,Z,Z,Z,Z,Z,Z,Z,Z,Z,Z,Z,Z,Z,Z,Z,Z,Z,Z,Z,Z,Z,Z,Z,Z,Z] rfl rfl (by kernel_rfl) (fun _ _ _ h => h) (Or.inl ⟨by rfl, ?_⟩) hHeld ?_ ?_
     rotate_left
     ·rintro w' ⟨s0, s1, s2, s3, s4, s5, s6, s7⟩; go_simp; with_reducible rfl
     rotate_left
     ·simp only [Act.put, sA, sB, sC, i64_w, i32_w]; rfl
     refine take_ (i := 4) (N := some 21) (v := ?_) (a' := ?_) #[J,J,J,J,J,Z,Z,Z,Z,Z,Z,Z,Z,Z,Z,Z,Z,Z,Z,Z,Z,Z,Z,Z,Z,Z,Z,Z,Z,Z,Z] rfl rfl (by kernel_rfl) (fun _ _ _ h => h) (Or.inl ⟨by rfl, ?_⟩) hHeld ?_ ?_
     rotate_left
     ·rintro w' ⟨s0, s1, s2, s3, s4, s5, s6, s7⟩; go_simp; with_reducible rfl
     rotate_left
     ·simp only [Act.put, sA, sB, sC, i64_w, i32_w]; rfl
     refine take_ (i := 5) (N := some 22) (v := ?_) (a' := ?_) #[J,J,J,J,J,J,Z,Z,Z,Z,Z,Z,Z,Z,Z,Z,Z,Z,Z,Z,Z,Z,Z,Z,Z,Z,Z,Z,Z,Z,Z] rfl rfl (by kernel_rfl) (fun _ _ _ h => h) (Or.inl ⟨by rfl, ?_⟩) hHeld ?_ ?_
     rotate_left
     ·rintro w' ⟨s0, s1, s2, s3, s4, s5, s6, s7⟩; go_simp; with_reducible rfl
     rotate_left
     ·simp only [Act.put, sA, sB, sC, i64_w, i32_w]; rfl
     refine take_ (i := 7) (N := some 24) (v := ?_) (a' := ?_) #[J,J,J,J,J,J,Z,J,Z,Z,Z,Z,Z,Z,Z,Z,Z,Z,Z,Z,Z,Z,Z,Z,Z,Z,Z,Z,Z,Z,Z] rfl rfl (by kernel_rfl) (fun _ _ _ h => h) (Or.inl ⟨by rfl, ?_⟩) hHeld ?_ ?_
     rotate_left
     ·rintro w' ⟨s0, s1, s2, s3, s4, s5, s6, s7⟩; go_simp; with_reducible rfl
     rotate_left
     ·simp only [Act.put, sA, sB, sC, i64_w, i32_w]; rfl
     refine take_ (i := 8) (N := some 25) (v := ?_) (a' := ?_) #[J,J,J,J,J,J,Z,J,J,Z,Z,Z,Z,Z,Z,Z,Z,Z,Z,Z,Z,Z,Z,Z,Z,Z,Z,Z,Z,Z,Z] rfl rfl (by kernel_rfl) (fun _ _ _ h => h) (Or.inl ⟨by rfl, ?_⟩) hHeld ?_ ?_
     rotate_left
     ·rintro w' ⟨s0, s1, s2, s3, s4, s5, s6, s7⟩; go_simp; with_reducible rfl
     rotate_left
     ·simp only [Act.put, sA, sB, sC, i64_w, i32_w]; rfl
     refine take_ (i := 9) (N := some 26) (v := ?_) (a' := ?_) #[J,J,J,J,J,J,Z,J,J,J,Z,Z,Z,Z,Z,Z,Z,Z,Z,Z,Z,Z,Z,Z,Z,Z,Z,Z,Z,Z,Z] rfl rfl (by kernel_rfl) (fun _ _ _ h => h) (Or.inl ⟨by rfl, ?_⟩) hHeld ?_ ?_
     rotate_left
     ·rintro w' ⟨s0, s1, s2, s3, s4, s5, s6, s7⟩; go_simp; with_reducible rfl
     rotate_left
     ·simp only [Act.put, sA, sB, sC, i64_w, i32_w]; rfl
     refine one_ (i := 6) (N := some 23) #[J,J,J,J,J,J,J,J,J,J,Z,Z,Z,Z,Z,Z,Z,Z,Z,Z,Z,Z,Z,Z,Z,Z,Z,Z,Z,Z,Z] rfl rfl (by kernel_rfl) (by decide) (fun K hK => ?_)
     refine goes_ Tryz.func113 (by kernel_rfl) rfl #[ptA v, ptA u, ptA (ptD l k)] (by rfl) rfl rfl (by simp only [List.map_toArray, List.map_cons, List.map_nil]; rfl) ?_
     with_reducible refine (C1.out _).mono ?_
     rintro e w1 ⟨rfl, hb1⟩
     refine ⟨_, rfl, ?_⟩
     refine hK.out _ _ ⟨blk_cell (blk_below (W := W0.drew) HV0 hb1) 0 rfl, blk_cell (blk_below (W := W0.drew) HV0 hb1) 1 rfl, blk_cell (blk_below (W := W0.drew) HU0 hb1) 0 rfl, blk_cell (blk_below (W := W0.drew) HU0 hb1) 1 rfl, blk_cell (blk_below (W := W0.drew) HAb hb1) 0 rfl, blk_cell (blk_below (W := W0.drew) HAb hb1) 1 rfl, blk_cell (blk_below (W := W0.drew) HB0 hb1) 0 rfl, blk_cell (blk_below (W := W0.drew) HB0 hb1) 1 rfl⟩ (fun hHeld => ?_)
     clear hK K
     refine norm_ (a' := ?_) ?_ ?_
     rotate_left
     ·show Act.put _ (some 23) _ = _
      simp only [Act.put, sA, sB, sC, i64_w, i32_w]; rfl
     refine one_ (i := 10) (N := some 27) #[J,J,J,J,J,J,J,J,J,J,J,Z,Z,Z,Z,Z,Z,Z,Z,Z,Z,Z,Z,Z,Z,Z,Z,Z,Z,Z,Z] rfl rfl (by kernel_rfl) (by decide) (fun K hK => ?_)
     refine goes_ Tryz.func113 (by kernel_rfl) rfl #[ptA v, ptA u, ptA (turnL u v (l.take k))] (by rfl) rfl rfl (by simp only [List.map_toArray, List.map_cons, List.map_nil]; rfl) ?_
     with_reducible refine (C2.out _).mono ?_
     rintro e w2 ⟨rfl, hb2⟩
     refine ⟨_, rfl, ?_⟩
     refine hK.out _ _ ⟨blk_cell (blk_below (blk_below (W := W0.drew) HV0 hb1) hb2) 0 rfl, blk_cell (blk_below (blk_below (W := W0.drew) HV0 hb1) hb2) 1 rfl, blk_cell (blk_below (blk_below (W := W0.drew) HU0 hb1) hb2) 0 rfl, blk_cell (blk_below (blk_below (W := W0.drew) HU0 hb1) hb2) 1 rfl, blk_cell (blk_below (blk_below (W := W0.drew) HAb hb1) hb2) 0 rfl, blk_cell (blk_below (blk_below (W := W0.drew) HAb hb1) hb2) 1 rfl, blk_cell (blk_below (blk_below (W := W0.drew) HB0 hb1) hb2) 0 rfl, blk_cell (blk_below (blk_below (W := W0.drew) HB0 hb1) hb2) 1 rfl⟩ (fun hHeld => ?_)
     clear hK K
     refine norm_ (a' := ?_) ?_ ?_
     rotate_left
     ·show Act.put _ (some 27) _ = _
      simp only [Act.put, sA, sB, sC, i64_w, i32_w]; rfl
     refine pure_ (i := 11) (N := some 28) (v := ?_) (a' := ?_) #[J,J,J,J,J,J,J,J,J,J,J,J,Z,Z,Z,Z,Z,Z,Z,Z,Z,Z,Z,Z,Z,Z,Z,Z,Z,Z,Z] rfl rfl (by kernel_rfl) (fun _ _ _ h => h) (Or.inl ⟨by rfl, ?_⟩) ?_ ?_
     rotate_left
     ·intro w'; go_simp; with_reducible rfl
     rotate_left
     ·simp only [Act.put, sA, sB, sC, i64_w, i32_w]; rfl
     refine pure_ (i := 12) (N := some 29) (v := ?_) (a' := ?_) #[J,J,J,J,J,J,J,J,J,J,J,J,J,Z,Z,Z,Z,Z,Z,Z,Z,Z,Z,Z,Z,Z,Z,Z,Z,Z,Z] rfl rfl (by kernel_rfl) (fun _ _ _ h => h) (Or.inl ⟨by rfl, ?_⟩) ?_ ?_
     rotate_left
     ·intro w'; go_simp; with_reducible rfl
     rotate_left
     ·simp only [Act.put, sA, sB, sC, i64_w, i32_w]; rfl
     refine pure_ (i := 13) (N := some 30) (v := ?_) (a' := ?_) #[J,J,J,J,J,J,J,J,J,J,J,J,J,J,Z,Z,Z,Z,Z,Z,Z,Z,Z,Z,Z,Z,Z,Z,Z,Z,Z] rfl rfl (by kernel_rfl) (fun _ _ _ h => h) (Or.inl ⟨by rfl, ?_⟩) ?_ ?_
     rotate_left
     ·intro w'; go_simp; with_reducible rfl
     rotate_left
     ·simp only [Act.put, sA, sB, sC, i64_w, i32_w]; rfl
     refine pure_ (i := 14) (N := some 31) (v := undef) (a' := ?_) #[J,J,J,J,J,J,J,J,J,J,J,J,J,J,J,Z,Z,Z,Z,Z,Z,Z,Z,Z,Z,Z,Z,Z,Z,Z,Z] rfl rfl (by kernel_rfl) (fun _ _ _ h => h) (Or.inr ⟨by rfl, rfl⟩) ?_ ?_
     rotate_left
     ·simp only [Act.put, sA, sB, sC, i64_w, i32_w]; rfl
     refine pure_ (i := 15) (N := some 32) (v := undef) (a' := ?_) #[J,J,J,J,J,J,J,J,J,J,J,J,J,J,J,J,Z,Z,Z,Z,Z,Z,Z,Z,Z,Z,Z,Z,Z,Z,Z] rfl rfl (by kernel_rfl) (fun _ _ _ h => h) (Or.inr ⟨by rfl, rfl⟩) ?_ ?_
     rotate_left
     ·simp only [Act.put, sA, sB, sC, i64_w, i32_w]; rfl
     refine pure_ (i := 16) (N := some 33) (v := undef) (a' := ?_) #[J,J,J,J,J,J,J,J,J,J,J,J,J,J,J,J,J,Z,Z,Z,Z,Z,Z,Z,Z,Z,Z,Z,Z,Z,Z] rfl rfl (by kernel_rfl) (fun _ _ _ h => h) (Or.inr ⟨by rfl, rfl⟩) ?_ ?_
     rotate_left
     ·simp only [Act.put, sA, sB, sC, i64_w, i32_w]; rfl
     refine pure_ (i := 17) (N := some 34) (v := undef) (a' := ?_) #[J,J,J,J,J,J,J,J,J,J,J,J,J,J,J,J,J,J,Z,Z,Z,Z,Z,Z,Z,Z,Z,Z,Z,Z,Z] rfl rfl (by kernel_rfl) (fun _ _ _ h => h) (Or.inr ⟨by rfl, rfl⟩) ?_ ?_
     rotate_left
     ·simp only [Act.put, sA, sB, sC, i64_w, i32_w]; rfl
     refine pure_ (i := 18) (N := some 35) (v := undef) (a' := ?_) #[J,J,J,J,J,J,J,J,J,J,J,J,J,J,J,J,J,J,J,Z,Z,Z,Z,Z,Z,Z,Z,Z,Z,Z,Z] rfl rfl (by kernel_rfl) (fun _ _ _ h => h) (Or.inr ⟨by rfl, rfl⟩) ?_ ?_
     rotate_left
     ·simp only [Act.put, sA, sB, sC, i64_w, i32_w]; rfl
     refine pure_ (i := 19) (N := some 36) (v := undef) (a' := ?_) #[J,J,J,J,J,J,J,J,J,J,J,J,J,J,J,J,J,J,J,J,Z,Z,Z,Z,Z,Z,Z,Z,Z,Z,Z] rfl rfl (by kernel_rfl) (fun _ _ _ h => h) (Or.inr ⟨by rfl, rfl⟩) ?_ ?_
     rotate_left
     ·simp only [Act.put, sA, sB, sC, i64_w, i32_w]; rfl
     refine pure_ (i := 20) (N := some 37) (v := undef) (a' := ?_) #[J,J,J,J,J,J,J,J,J,J,J,J,J,J,J,J,J,J,J,J,J,Z,Z,Z,Z,Z,Z,Z,Z,Z,Z] rfl rfl (by kernel_rfl) (fun _ _ _ h => h) (Or.inr ⟨by rfl, rfl⟩) ?_ ?_
     rotate_left
     ·simp only [Act.put, sA, sB, sC, i64_w, i32_w]; rfl
     refine pure_ (i := 21) (N := some 38) (v := undef) (a' := ?_) #[J,J,J,J,J,J,J,J,J,J,J,J,J,J,J,J,J,J,J,J,J,J,Z,Z,Z,Z,Z,Z,Z,Z,Z] rfl rfl (by kernel_rfl) (fun _ _ _ h => h) (Or.inr ⟨by rfl, rfl⟩) ?_ ?_
     rotate_left
     ·simp only [Act.put, sA, sB, sC, i64_w, i32_w]; rfl
     refine pure_ (i := 22) (N := some 39) (v := undef) (a' := ?_) #[J,J,J,J,J,J,J,J,J,J,J,J,J,J,J,J,J,J,J,J,J,J,J,Z,Z,Z,Z,Z,Z,Z,Z] rfl rfl (by kernel_rfl) (fun _ _ _ h => h) (Or.inr ⟨by rfl, rfl⟩) ?_ ?_
     rotate_left
     ·simp only [Act.put, sA, sB, sC, i64_w, i32_w]; rfl
     refine pure_ (i := 23) (N := some 40) (v := undef) (a' := ?_) #[J,J,J,J,J,J,J,J,J,J,J,J,J,J,J,J,J,J,J,J,J,J,J,J,Z,Z,Z,Z,Z,Z,Z] rfl rfl (by kernel_rfl) (fun _ _ _ h => h) (Or.inr ⟨by rfl, rfl⟩) ?_ ?_
     rotate_left
     ·simp only [Act.put, sA, sB, sC, i64_w, i32_w]; rfl
     refine pure_ (i := 24) (N := some 41) (v := undef) (a' := ?_) #[J,J,J,J,J,J,J,J,J,J,J,J,J,J,J,J,J,J,J,J,J,J,J,J,J,Z,Z,Z,Z,Z,Z] rfl rfl (by kernel_rfl) (fun _ _ _ h => h) (Or.inr ⟨by rfl, rfl⟩) ?_ ?_
     rotate_left
     ·simp only [Act.put, sA, sB, sC, i64_w, i32_w]; rfl
     refine pure_ (i := 25) (N := some 42) (v := undef) (a' := ?_) #[J,J,J,J,J,J,J,J,J,J,J,J,J,J,J,J,J,J,J,J,J,J,J,J,J,J,Z,Z,Z,Z,Z] rfl rfl (by kernel_rfl) (fun _ _ _ h => h) (Or.inr ⟨by rfl, rfl⟩) ?_ ?_
     rotate_left
     ·simp only [Act.put, sA, sB, sC, i64_w, i32_w]; rfl
     refine pure_ (i := 26) (N := some 43) (v := undef) (a' := ?_) #[J,J,J,J,J,J,J,J,J,J,J,J,J,J,J,J,J,J,J,J,J,J,J,J,J,J,J,Z,Z,Z,Z] rfl rfl (by kernel_rfl) (fun _ _ _ h => h) (Or.inr ⟨by rfl, rfl⟩) ?_ ?_
     rotate_left
     ·simp only [Act.put, sA, sB, sC, i64_w, i32_w]; rfl
     refine pure_ (i := 27) (N := some 44) (v := undef) (a' := ?_) #[J,J,J,J,J,J,J,J,J,J,J,J,J,J,J,J,J,J,J,J,J,J,J,J,J,J,J,J,Z,Z,Z] rfl rfl (by kernel_rfl) (fun _ _ _ h => h) (Or.inr ⟨by rfl, rfl⟩) ?_ ?_
     rotate_left
     ·simp only [Act.put, sA, sB, sC, i64_w, i32_w]; rfl
     refine pure_ (i := 28) (N := some 45) (v := undef) (a' := ?_) #[J,J,J,J,J,J,J,J,J,J,J,J,J,J,J,J,J,J,J,J,J,J,J,J,J,J,J,J,J,Z,Z] rfl rfl (by kernel_rfl) (fun _ _ _ h => h) (Or.inr ⟨by rfl, rfl⟩) ?_ ?_
     rotate_left
     ·simp only [Act.put, sA, sB, sC, i64_w, i32_w]; rfl
     refine pure_ (i := 29) (N := some 46) (v := undef) (a' := ?_) #[J,J,J,J,J,J,J,J,J,J,J,J,J,J,J,J,J,J,J,J,J,J,J,J,J,J,J,J,J,J,Z] rfl rfl (by kernel_rfl) (fun _ _ _ h => h) (Or.inr ⟨by rfl, rfl⟩) ?_ ?_
     rotate_left
     ·simp only [Act.put, sA, sB, sC, i64_w, i32_w]; rfl
     refine pure_ (i := 30) (N := some 47) (v := ?_) (a' := ?_) #[J,J,J,J,J,J,J,J,J,J,J,J,J,J,J,J,J,J,J,J,J,J,J,J,J,J,J,J,J,J,J] rfl rfl (by kernel_rfl) (fun _ _ _ h => h) (Or.inl ⟨by rfl, ?_⟩) ?_ ?_
     rotate_left
     ·intro w'; go_simp; with_reducible rfl
     rotate_left
     ·simp only [Act.put, sA, sB, sC, i64_w, i32_w]; rfl
     refine done_ (by kernel_rfl) ?_
     have HV9 := (blk_below (blk_below (W := W0.drew) HV0 hb1) hb2)
     have HU9 := (blk_below (blk_below (W := W0.drew) HU0 hb1) hb2)
     have HA9 := (blk_below (blk_below (W := W0.drew) HAb hb1) hb2)
     have HT9 := (blk_below (blk_below (W := W0.drew) HB0 hb1) hb2)
     have HZ9 := (blk_below (blk_below (W := W0.drew) H00 hb1) hb2)
     have BW9 : Hid (Below w.heap.size w _) := (below_step (below_step (below_drew BW0.out) hb1) hb2)
     clear vc0 vc1 uc0 uc1 ac0 ac1 bc0 bc1
     have ac0 := blk_cell HA9 0 rfl
     have ac1 := blk_cell HA9 1 rfl
     have bf0 := blk_free HT9 0
     have bc0 := blk_cell HT9 0 rfl
     have bf1 := blk_free HT9 1
     have bc1 := blk_cell HT9 1 rfl
     go_wp2
     go_roundw
     case rel => exact ⟨k + 1, by omega, by go_num, blk_far (blk_far HU9 (by omega : ¬ w.heap.size = w.heap.size + 1 + 1 + 1) _) (by omega : ¬ w.heap.size = w.heap.size + 1 + 1 + 1) _, blk_far (blk_far HV9 (by omega : ¬ w.heap.size + 1 = w.heap.size + 1 + 1 + 1) _) (by omega : ¬ w.heap.size + 1 = w.heap.size + 1 + 1 + 1) _, blk_far (blk_far HZ9 (by omega : ¬ w.heap.size + 1 + 1 = w.heap.size + 1 + 1 + 1) _) (by omega : ¬ w.heap.size + 1 + 1 = w.heap.size + 1 + 1 + 1) _, by rw [HT2.out]; exact blk_set (blk_set HT9 _) _, below_set2 (by show _ ≤ w.heap.size + 1 + 1 + 1; omega) (below_set2 (by show _ ≤ w.heap.size + 1 + 1 + 1; omega) BW9.out)⟩
     case measure => simp [intOf]; omega
    ·have q1 : decide (sa < sb) = false := decide_eq_false h1
     by_cases h2 : sa = sb
     ·have q2 : (sa == sb) = true := by simp [h2]
      have q2' : decide (sa = sb) = true := decide_eq_true h2
      by_cases h3 : 0 < cz
      ·have q3 : decide (0 < cz) = true := decide_eq_true h3
       have HT2 : Hid (turnL u v (l.take (k + 1)) = ptD l k) := HT.out.trans (if_pos (by rw [HE.out, q1, q2']; exact decide_eq_true h3))
       clear HT HE h1 h2 h3 q2'
       go_wp2_with fail
       rw [← hW0]
       clear hW0 hx0 hx1
       have vc0 := blk_cell HV0 0 rfl
       have vc1 := blk_cell HV0 1 rfl
       have uc0 := blk_cell HU0 0 rfl
       have uc1 := blk_cell HU0 1 rfl
       have ac0 := blk_cell HAb 0 rfl
       have ac1 := blk_cell HAb 1 rfl
       have bc0 := blk_cell HB0 0 rfl
       have bc1 := blk_cell HB0 1 rfl
       refine start_ (n := 31) (S := fun w' => w'.cell? ⟨w.heap.size + 1, 0, none⟩ = some (.int .i64 v.1) ∧ w'.cell? ⟨w.heap.size + 1, 1, none⟩ = some (.int .i64 v.2) ∧ w'.cell? ⟨w.heap.size, 0, none⟩ = some (.int .i64 u.1) ∧ w'.cell? ⟨w.heap.size, 1, none⟩ = some (.int .i64 u.2) ∧ w'.cell? ⟨wr.heap.size, 0, none⟩ = some (.int .i64 (ptD l k).1) ∧ w'.cell? ⟨wr.heap.size, 1, none⟩ = some (.int .i64 (ptD l k).2) ∧ w'.cell? ⟨w.heap.size + 1 + 1 + 1, 0, none⟩ = some (.int .i64 (turnL u v (l.take k)).1) ∧ w'.cell? ⟨w.heap.size + 1 + 1 + 1, 1, none⟩ = some (.int .i64 (turnL u v (l.take k)).2)) (ds := []) #[Z,Z,Z,Z,Z,Z,Z,Z,Z,Z,Z,Z,Z,Z,Z,Z,Z,Z,Z,Z,Z,Z,Z,Z,Z,Z,Z,Z,Z,Z,Z] (by kernel_rfl) rfl rfl ⟨vc0, vc1, uc0, uc1, ac0, ac1, bc0, bc1⟩ (fun hHeld => ?_)
       refine pure_ (i := 0) (N := some 17) (v := ?_) (a' := ?_) #[J,Z,Z,Z,Z,Z,Z,Z,Z,Z,Z,Z,Z,Z,Z,Z,Z,Z,Z,Z,Z,Z,Z,Z,Z,Z,Z,Z,Z,Z,Z] rfl rfl (by kernel_rfl) (fun _ _ _ h => h) (Or.inl ⟨by rfl, ?_⟩) ?_ ?_
       rotate_left
       ·intro w'; go_simp; with_reducible rfl
       rotate_left
       ·simp only [Act.put, sA, sB, sC, i64_w, i32_w]; rfl
       refine pure_ (i := 1) (N := some 18) (v := ?_) (a' := ?_) #[J,J,Z,Z,Z,Z,Z,Z,Z,Z,Z,Z,Z,Z,Z,Z,Z,Z,Z,Z,Z,Z,Z,Z,Z,Z,Z,Z,Z,Z,Z] rfl rfl (by kernel_rfl) (fun _ _ _ h => h) (Or.inl ⟨by rfl, ?_⟩) ?_ ?_
       rotate_left
       ·intro w'; go_simp; with_reducible rfl
       rotate_left
       ·simp only [Act.put, sA, sB, sC, i64_w, i32_w]; rfl
       refine pure_ (i := 2) (N := some 19) (v := ?_) (a' := ?_) #[J,J,J,Z,Z,Z,Z,Z,Z,Z,Z,Z,Z,Z,Z,Z,Z,Z,Z,Z,Z,Z,Z,Z,Z,Z,Z,Z,Z,Z,Z] rfl rfl (by kernel_rfl) (fun _ _ _ h => h) (Or.inl ⟨by rfl, ?_⟩) ?_ ?_
       rotate_left
       ·intro w'; go_simp; with_reducible rfl
       rotate_left
       ·simp only [Act.put, sA, sB, sC, i64_w, i32_w]; rfl
       refine take_ (i := 3) (N := some 20) (v := ?_) (a' := ?_) #[J,J,J,J,Z,Z,Z,Z,Z,Z,Z,Z,Z,Z,Z,Z,Z,Z,Z,Z,Z,Z,Z,Z,Z,Z,Z,Z,Z,Z,Z] rfl rfl (by kernel_rfl) (fun _ _ _ h => h) (Or.inl ⟨by rfl, ?_⟩) hHeld ?_ ?_
       rotate_left
       ·rintro w' ⟨s0, s1, s2, s3, s4, s5, s6, s7⟩; go_simp; with_reducible rfl
       rotate_left
       ·simp only [Act.put, sA, sB, sC, i64_w, i32_w]; rfl
       refine take_ (i := 4) (N := some 21) (v := ?_) (a' := ?_) #[J,J,J,J,J,Z,Z,Z,Z,Z,Z,Z,Z,Z,Z,Z,Z,Z,Z,Z,Z,Z,Z,Z,Z,Z,Z,Z,Z,Z,Z] rfl rfl (by kernel_rfl) (fun _ _ _ h => h) (Or.inl ⟨by rfl, ?_⟩) hHeld ?_ ?_
       rotate_left
       ·rintro w' ⟨s0, s1, s2, s3, s4, s5, s6, s7⟩; go_simp; with_reducible rfl
       rotate_left
       ·simp only [Act.put, sA, sB, sC, i64_w, i32_w]; rfl
       refine take_ (i := 5) (N := some 22) (v := ?_) (a' := ?_) #[J,J,J,J,J,J,Z,Z,Z,Z,Z,Z,Z,Z,Z,Z,Z,Z,Z,Z,Z,Z,Z,Z,Z,Z,Z,Z,Z,Z,Z] rfl rfl (by kernel_rfl) (fun _ _ _ h => h) (Or.inl ⟨by rfl, ?_⟩) hHeld ?_ ?_
       rotate_left
       ·rintro w' ⟨s0, s1, s2, s3, s4, s5, s6, s7⟩; go_simp; with_reducible rfl
       rotate_left
       ·simp only [Act.put, sA, sB, sC, i64_w, i32_w]; rfl
       refine take_ (i := 7) (N := some 24) (v := ?_) (a' := ?_) #[J,J,J,J,J,J,Z,J,Z,Z,Z,Z,Z,Z,Z,Z,Z,Z,Z,Z,Z,Z,Z,Z,Z,Z,Z,Z,Z,Z,Z] rfl rfl (by kernel_rfl) (fun _ _ _ h => h) (Or.inl ⟨by rfl, ?_⟩) hHeld ?_ ?_
       rotate_left
       ·rintro w' ⟨s0, s1, s2, s3, s4, s5, s6, s7⟩; go_simp; with_reducible rfl
       rotate_left
       ·simp only [Act.put, sA, sB, sC, i64_w, i32_w]; rfl
       refine take_ (i := 8) (N := some 25) (v := ?_) (a' := ?_) #[J,J,J,J,J,J,Z,J,J,Z,Z,Z,Z,Z,Z,Z,Z,Z,Z,Z,Z,Z,Z,Z,Z,Z,Z,Z,Z,Z,Z] rfl rfl (by kernel_rfl) (fun _ _ _ h => h) (Or.inl ⟨by rfl, ?_⟩) hHeld ?_ ?_
       rotate_left
       ·rintro w' ⟨s0, s1, s2, s3, s4, s5, s6, s7⟩; go_simp; with_reducible rfl
       rotate_left
       ·simp only [Act.put, sA, sB, sC, i64_w, i32_w]; rfl
       refine take_ (i := 9) (N := some 26) (v := ?_) (a' := ?_) #[J,J,J,J,J,J,Z,J,J,J,Z,Z,Z,Z,Z,Z,Z,Z,Z,Z,Z,Z,Z,Z,Z,Z,Z,Z,Z,Z,Z] rfl rfl (by kernel_rfl) (fun _ _ _ h => h) (Or.inl ⟨by rfl, ?_⟩) hHeld ?_ ?_
       rotate_left
       ·rintro w' ⟨s0, s1, s2, s3, s4, s5, s6, s7⟩; go_simp; with_reducible rfl
       rotate_left
       ·simp only [Act.put, sA, sB, sC, i64_w, i32_w]; rfl
       refine one_ (i := 6) (N := some 23) #[J,J,J,J,J,J,J,J,J,J,Z,Z,Z,Z,Z,Z,Z,Z,Z,Z,Z,Z,Z,Z,Z,Z,Z,Z,Z,Z,Z] rfl rfl (by kernel_rfl) (by decide) (fun K hK => ?_)
       refine goes_ Tryz.func113 (by kernel_rfl) rfl #[ptA v, ptA u, ptA (ptD l k)] (by rfl) rfl rfl (by simp only [List.map_toArray, List.map_cons, List.map_nil]; rfl) ?_
       with_reducible refine (C1.out _).mono ?_
       rintro e w1 ⟨rfl, hb1⟩
       refine ⟨_, rfl, ?_⟩
       refine hK.out _ _ ⟨blk_cell (blk_below (W := W0.drew) HV0 hb1) 0 rfl, blk_cell (blk_below (W := W0.drew) HV0 hb1) 1 rfl, blk_cell (blk_below (W := W0.drew) HU0 hb1) 0 rfl, blk_cell (blk_below (W := W0.drew) HU0 hb1) 1 rfl, blk_cell (blk_below (W := W0.drew) HAb hb1) 0 rfl, blk_cell (blk_below (W := W0.drew) HAb hb1) 1 rfl, blk_cell (blk_below (W := W0.drew) HB0 hb1) 0 rfl, blk_cell (blk_below (W := W0.drew) HB0 hb1) 1 rfl⟩ (fun hHeld => ?_)
       clear hK K
       refine norm_ (a' := ?_) ?_ ?_
       rotate_left
       ·show Act.put _ (some 23) _ = _
        simp only [Act.put, sA, sB, sC, i64_w, i32_w]; rfl
       refine one_ (i := 10) (N := some 27) #[J,J,J,J,J,J,J,J,J,J,J,Z,Z,Z,Z,Z,Z,Z,Z,Z,Z,Z,Z,Z,Z,Z,Z,Z,Z,Z,Z] rfl rfl (by kernel_rfl) (by decide) (fun K hK => ?_)
       refine goes_ Tryz.func113 (by kernel_rfl) rfl #[ptA v, ptA u, ptA (turnL u v (l.take k))] (by rfl) rfl rfl (by simp only [List.map_toArray, List.map_cons, List.map_nil]; rfl) ?_
       with_reducible refine (C2.out _).mono ?_
       rintro e w2 ⟨rfl, hb2⟩
       refine ⟨_, rfl, ?_⟩
       refine hK.out _ _ ⟨blk_cell (blk_below (blk_below (W := W0.drew) HV0 hb1) hb2) 0 rfl, blk_cell (blk_below (blk_below (W := W0.drew) HV0 hb1) hb2) 1 rfl, blk_cell (blk_below (blk_below (W := W0.drew) HU0 hb1) hb2) 0 rfl, blk_cell (blk_below (blk_below (W := W0.drew) HU0 hb1) hb2) 1 rfl, blk_cell (blk_below (blk_below (W := W0.drew) HAb hb1) hb2) 0 rfl, blk_cell (blk_below (blk_below (W := W0.drew) HAb hb1) hb2) 1 rfl, blk_cell (blk_below (blk_below (W := W0.drew) HB0 hb1) hb2) 0 rfl, blk_cell (blk_below (blk_below (W := W0.drew) HB0 hb1) hb2) 1 rfl⟩ (fun hHeld => ?_)
       clear hK K
       refine norm_ (a' := ?_) ?_ ?_
       rotate_left
       ·show Act.put _ (some 27) _ = _
        simp only [Act.put, sA, sB, sC, i64_w, i32_w]; rfl
       refine pure_ (i := 11) (N := some 28) (v := ?_) (a' := ?_) #[J,J,J,J,J,J,J,J,J,J,J,J,Z,Z,Z,Z,Z,Z,Z,Z,Z,Z,Z,Z,Z,Z,Z,Z,Z,Z,Z] rfl rfl (by kernel_rfl) (fun _ _ _ h => h) (Or.inl ⟨by rfl, ?_⟩) ?_ ?_
       rotate_left
       ·intro w'; go_simp; with_reducible rfl
       rotate_left
       ·simp only [Act.put, sA, sB, sC, i64_w, i32_w]; rfl
       refine pure_ (i := 12) (N := some 29) (v := ?_) (a' := ?_) #[J,J,J,J,J,J,J,J,J,J,J,J,J,Z,Z,Z,Z,Z,Z,Z,Z,Z,Z,Z,Z,Z,Z,Z,Z,Z,Z] rfl rfl (by kernel_rfl) (fun _ _ _ h => h) (Or.inl ⟨by rfl, ?_⟩) ?_ ?_
       rotate_left
       ·intro w'; go_simp; with_reducible rfl
       rotate_left
       ·simp only [Act.put, sA, sB, sC, i64_w, i32_w]; rfl
       refine pure_ (i := 13) (N := some 30) (v := ?_) (a' := ?_) #[J,J,J,J,J,J,J,J,J,J,J,J,J,J,Z,Z,Z,Z,Z,Z,Z,Z,Z,Z,Z,Z,Z,Z,Z,Z,Z] rfl rfl (by kernel_rfl) (fun _ _ _ h => h) (Or.inl ⟨by rfl, ?_⟩) ?_ ?_
       rotate_left
       ·intro w'; go_simp; with_reducible rfl
       rotate_left
       ·simp only [Act.put, sA, sB, sC, i64_w, i32_w]; rfl
       refine take_ (i := 14) (N := some 31) (v := ?_) (a' := ?_) #[J,J,J,J,J,J,J,J,J,J,J,J,J,J,J,Z,Z,Z,Z,Z,Z,Z,Z,Z,Z,Z,Z,Z,Z,Z,Z] rfl rfl (by kernel_rfl) (fun _ _ _ h => h) (Or.inl ⟨by rfl, ?_⟩) hHeld ?_ ?_
       rotate_left
       ·rintro w' ⟨s0, s1, s2, s3, s4, s5, s6, s7⟩; go_simp; with_reducible rfl
       rotate_left
       ·simp only [Act.put, sA, sB, sC, i64_w, i32_w]; rfl
       refine take_ (i := 15) (N := some 32) (v := ?_) (a' := ?_) #[J,J,J,J,J,J,J,J,J,J,J,J,J,J,J,J,Z,Z,Z,Z,Z,Z,Z,Z,Z,Z,Z,Z,Z,Z,Z] rfl rfl (by kernel_rfl) (fun _ _ _ h => h) (Or.inl ⟨by rfl, ?_⟩) hHeld ?_ ?_
       rotate_left
       ·rintro w' ⟨s0, s1, s2, s3, s4, s5, s6, s7⟩; go_simp; with_reducible rfl
       rotate_left
       ·simp only [Act.put, sA, sB, sC, i64_w, i32_w]; rfl
       refine take_ (i := 16) (N := some 33) (v := ?_) (a' := ?_) #[J,J,J,J,J,J,J,J,J,J,J,J,J,J,J,J,J,Z,Z,Z,Z,Z,Z,Z,Z,Z,Z,Z,Z,Z,Z] rfl rfl (by kernel_rfl) (fun _ _ _ h => h) (Or.inl ⟨by rfl, ?_⟩) hHeld ?_ ?_
       rotate_left
       ·rintro w' ⟨s0, s1, s2, s3, s4, s5, s6, s7⟩; go_simp; with_reducible rfl
       rotate_left
       ·simp only [Act.put, sA, sB, sC, i64_w, i32_w]; rfl
       refine take_ (i := 18) (N := some 35) (v := ?_) (a' := ?_) #[J,J,J,J,J,J,J,J,J,J,J,J,J,J,J,J,J,Z,J,Z,Z,Z,Z,Z,Z,Z,Z,Z,Z,Z,Z] rfl rfl (by kernel_rfl) (fun _ _ _ h => h) (Or.inl ⟨by rfl, ?_⟩) hHeld ?_ ?_
       rotate_left
       ·rintro w' ⟨s0, s1, s2, s3, s4, s5, s6, s7⟩; go_simp; with_reducible rfl
       rotate_left
       ·simp only [Act.put, sA, sB, sC, i64_w, i32_w]; rfl
       refine take_ (i := 19) (N := some 36) (v := ?_) (a' := ?_) #[J,J,J,J,J,J,J,J,J,J,J,J,J,J,J,J,J,Z,J,J,Z,Z,Z,Z,Z,Z,Z,Z,Z,Z,Z] rfl rfl (by kernel_rfl) (fun _ _ _ h => h) (Or.inl ⟨by rfl, ?_⟩) hHeld ?_ ?_
       rotate_left
       ·rintro w' ⟨s0, s1, s2, s3, s4, s5, s6, s7⟩; go_simp; with_reducible rfl
       rotate_left
       ·simp only [Act.put, sA, sB, sC, i64_w, i32_w]; rfl
       refine take_ (i := 20) (N := some 37) (v := ?_) (a' := ?_) #[J,J,J,J,J,J,J,J,J,J,J,J,J,J,J,J,J,Z,J,J,J,Z,Z,Z,Z,Z,Z,Z,Z,Z,Z] rfl rfl (by kernel_rfl) (fun _ _ _ h => h) (Or.inl ⟨by rfl, ?_⟩) hHeld ?_ ?_
       rotate_left
       ·rintro w' ⟨s0, s1, s2, s3, s4, s5, s6, s7⟩; go_simp; with_reducible rfl
       rotate_left
       ·simp only [Act.put, sA, sB, sC, i64_w, i32_w]; rfl
       refine one_ (i := 17) (N := some 34) #[J,J,J,J,J,J,J,J,J,J,J,J,J,J,J,J,J,J,J,J,J,Z,Z,Z,Z,Z,Z,Z,Z,Z,Z] rfl rfl (by kernel_rfl) (by decide) (fun K hK => ?_)
       refine goes_ Tryz.func113 (by kernel_rfl) rfl #[ptA v, ptA u, ptA (ptD l k)] (by rfl) rfl rfl (by simp only [List.map_toArray, List.map_cons, List.map_nil]; rfl) ?_
       with_reducible refine (C1.out _).mono ?_
       rintro e w3 ⟨rfl, hb3⟩
       refine ⟨_, rfl, ?_⟩
       refine hK.out _ _ ⟨blk_cell (blk_below (blk_below (blk_below (W := W0.drew) HV0 hb1) hb2) hb3) 0 rfl, blk_cell (blk_below (blk_below (blk_below (W := W0.drew) HV0 hb1) hb2) hb3) 1 rfl, blk_cell (blk_below (blk_below (blk_below (W := W0.drew) HU0 hb1) hb2) hb3) 0 rfl, blk_cell (blk_below (blk_below (blk_below (W := W0.drew) HU0 hb1) hb2) hb3) 1 rfl, blk_cell (blk_below (blk_below (blk_below (W := W0.drew) HAb hb1) hb2) hb3) 0 rfl, blk_cell (blk_below (blk_below (blk_below (W := W0.drew) HAb hb1) hb2) hb3) 1 rfl, blk_cell (blk_below (blk_below (blk_below (W := W0.drew) HB0 hb1) hb2) hb3) 0 rfl, blk_cell (blk_below (blk_below (blk_below (W := W0.drew) HB0 hb1) hb2) hb3) 1 rfl⟩ (fun hHeld => ?_)
       clear hK K
       refine norm_ (a' := ?_) ?_ ?_
       rotate_left
       ·show Act.put _ (some 34) _ = _
        simp only [Act.put, sA, sB, sC, i64_w, i32_w]; rfl
       refine one_ (i := 21) (N := some 38) #[J,J,J,J,J,J,J,J,J,J,J,J,J,J,J,J,J,J,J,J,J,J,Z,Z,Z,Z,Z,Z,Z,Z,Z] rfl rfl (by kernel_rfl) (by decide) (fun K hK => ?_)
       refine goes_ Tryz.func113 (by kernel_rfl) rfl #[ptA v, ptA u, ptA (turnL u v (l.take k))] (by rfl) rfl rfl (by simp only [List.map_toArray, List.map_cons, List.map_nil]; rfl) ?_
       with_reducible refine (C2.out _).mono ?_
       rintro e w4 ⟨rfl, hb4⟩
       refine ⟨_, rfl, ?_⟩
       refine hK.out _ _ ⟨blk_cell (blk_below (blk_below (blk_below (blk_below (W := W0.drew) HV0 hb1) hb2) hb3) hb4) 0 rfl, blk_cell (blk_below (blk_below (blk_below (blk_below (W := W0.drew) HV0 hb1) hb2) hb3) hb4) 1 rfl, blk_cell (blk_below (blk_below (blk_below (blk_below (W := W0.drew) HU0 hb1) hb2) hb3) hb4) 0 rfl, blk_cell (blk_below (blk_below (blk_below (blk_below (W := W0.drew) HU0 hb1) hb2) hb3) hb4) 1 rfl, blk_cell (blk_below (blk_below (blk_below (blk_below (W := W0.drew) HAb hb1) hb2) hb3) hb4) 0 rfl, blk_cell (blk_below (blk_below (blk_below (blk_below (W := W0.drew) HAb hb1) hb2) hb3) hb4) 1 rfl, blk_cell (blk_below (blk_below (blk_below (blk_below (W := W0.drew) HB0 hb1) hb2) hb3) hb4) 0 rfl, blk_cell (blk_below (blk_below (blk_below (blk_below (W := W0.drew) HB0 hb1) hb2) hb3) hb4) 1 rfl⟩ (fun hHeld => ?_)
       clear hK K
       refine norm_ (a' := ?_) ?_ ?_
       rotate_left
       ·show Act.put _ (some 38) _ = _
        simp only [Act.put, sA, sB, sC, i64_w, i32_w]; rfl
       refine pure_ (i := 22) (N := some 39) (v := ?_) (a' := ?_) #[J,J,J,J,J,J,J,J,J,J,J,J,J,J,J,J,J,J,J,J,J,J,J,Z,Z,Z,Z,Z,Z,Z,Z] rfl rfl (by kernel_rfl) (fun _ _ _ h => h) (Or.inl ⟨by rfl, ?_⟩) ?_ ?_
       rotate_left
       ·intro w'; go_simp; with_reducible rfl
       rotate_left
       ·simp only [Act.put, sA, sB, sC, i64_w, i32_w]; rfl
       refine pure_ (i := 23) (N := some 40) (v := ?_) (a' := ?_) #[J,J,J,J,J,J,J,J,J,J,J,J,J,J,J,J,J,J,J,J,J,J,J,J,Z,Z,Z,Z,Z,Z,Z] rfl rfl (by kernel_rfl) (fun _ _ _ h => h) (Or.inl ⟨by rfl, ?_⟩) ?_ ?_
       rotate_left
       ·intro w'; go_simp; with_reducible rfl
       rotate_left
       ·simp only [Act.put, sA, sB, sC, i64_w, i32_w]; rfl
       refine take_ (i := 24) (N := some 41) (v := ?_) (a' := ?_) #[J,J,J,J,J,J,J,J,J,J,J,J,J,J,J,J,J,J,J,J,J,J,J,J,J,Z,Z,Z,Z,Z,Z] rfl rfl (by kernel_rfl) (fun _ _ _ h => h) (Or.inl ⟨by rfl, ?_⟩) hHeld ?_ ?_
       rotate_left
       ·rintro w' ⟨s0, s1, s2, s3, s4, s5, s6, s7⟩; go_simp; with_reducible rfl
       rotate_left
       ·simp only [Act.put, sA, sB, sC, i64_w, i32_w]; rfl
       refine take_ (i := 25) (N := some 42) (v := ?_) (a' := ?_) #[J,J,J,J,J,J,J,J,J,J,J,J,J,J,J,J,J,J,J,J,J,J,J,J,J,J,Z,Z,Z,Z,Z] rfl rfl (by kernel_rfl) (fun _ _ _ h => h) (Or.inl ⟨by rfl, ?_⟩) hHeld ?_ ?_
       rotate_left
       ·rintro w' ⟨s0, s1, s2, s3, s4, s5, s6, s7⟩; go_simp; with_reducible rfl
       rotate_left
       ·simp only [Act.put, sA, sB, sC, i64_w, i32_w]; rfl
       refine take_ (i := 26) (N := some 43) (v := ?_) (a' := ?_) #[J,J,J,J,J,J,J,J,J,J,J,J,J,J,J,J,J,J,J,J,J,J,J,J,J,J,J,Z,Z,Z,Z] rfl rfl (by kernel_rfl) (fun _ _ _ h => h) (Or.inl ⟨by rfl, ?_⟩) hHeld ?_ ?_
       rotate_left
       ·rintro w' ⟨s0, s1, s2, s3, s4, s5, s6, s7⟩; go_simp; with_reducible rfl
       rotate_left
       ·simp only [Act.put, sA, sB, sC, i64_w, i32_w]; rfl
       refine one_ (i := 27) (N := some 44) #[J,J,J,J,J,J,J,J,J,J,J,J,J,J,J,J,J,J,J,J,J,J,J,J,J,J,J,J,Z,Z,Z] rfl rfl (by kernel_rfl) (by decide) (fun K hK => ?_)
       refine goes_ Tryz.func114 (by kernel_rfl) rfl #[ptA v, ptA (turnL u v (l.take k)), ptA (ptD l k)] (by rfl) rfl rfl (by simp only [List.map_toArray, List.map_cons, List.map_nil]; rfl) ?_
       with_reducible refine (C3.out _).mono ?_
       rintro e w5 ⟨rfl, hb5⟩
       refine ⟨_, rfl, ?_⟩
       refine hK.out _ _ ⟨blk_cell (blk_below (blk_below (blk_below (blk_below (blk_below (W := W0.drew) HV0 hb1) hb2) hb3) hb4) hb5) 0 rfl, blk_cell (blk_below (blk_below (blk_below (blk_below (blk_below (W := W0.drew) HV0 hb1) hb2) hb3) hb4) hb5) 1 rfl, blk_cell (blk_below (blk_below (blk_below (blk_below (blk_below (W := W0.drew) HU0 hb1) hb2) hb3) hb4) hb5) 0 rfl, blk_cell (blk_below (blk_below (blk_below (blk_below (blk_below (W := W0.drew) HU0 hb1) hb2) hb3) hb4) hb5) 1 rfl, blk_cell (blk_below (blk_below (blk_below (blk_below (blk_below (W := W0.drew) HAb hb1) hb2) hb3) hb4) hb5) 0 rfl, blk_cell (blk_below (blk_below (blk_below (blk_below (blk_below (W := W0.drew) HAb hb1) hb2) hb3) hb4) hb5) 1 rfl, blk_cell (blk_below (blk_below (blk_below (blk_below (blk_below (W := W0.drew) HB0 hb1) hb2) hb3) hb4) hb5) 0 rfl, blk_cell (blk_below (blk_below (blk_below (blk_below (blk_below (W := W0.drew) HB0 hb1) hb2) hb3) hb4) hb5) 1 rfl⟩ (fun hHeld => ?_)
       clear hK K
       refine norm_ (a' := ?_) ?_ ?_
       rotate_left
       ·show Act.put _ (some 44) _ = _
        simp only [Act.put, sA, sB, sC, i64_w, i32_w]; rfl
       refine pure_ (i := 28) (N := some 45) (v := ?_) (a' := ?_) #[J,J,J,J,J,J,J,J,J,J,J,J,J,J,J,J,J,J,J,J,J,J,J,J,J,J,J,J,J,Z,Z] rfl rfl (by kernel_rfl) (fun _ _ _ h => h) (Or.inl ⟨by rfl, ?_⟩) ?_ ?_
       rotate_left
       ·intro w'; go_simp; with_reducible rfl
       rotate_left
       ·simp only [Act.put, sA, sB, sC, i64_w, i32_w]; rfl
       refine pure_ (i := 29) (N := some 46) (v := ?_) (a' := ?_) #[J,J,J,J,J,J,J,J,J,J,J,J,J,J,J,J,J,J,J,J,J,J,J,J,J,J,J,J,J,J,Z] rfl rfl (by kernel_rfl) (fun _ _ _ h => h) (Or.inl ⟨by rfl, ?_⟩) ?_ ?_
       rotate_left
       ·intro w'; go_simp; with_reducible rfl
       rotate_left
       ·simp only [Act.put, sA, sB, sC, i64_w, i32_w]; rfl
       refine pure_ (i := 30) (N := some 47) (v := ?_) (a' := ?_) #[J,J,J,J,J,J,J,J,J,J,J,J,J,J,J,J,J,J,J,J,J,J,J,J,J,J,J,J,J,J,J] rfl rfl (by kernel_rfl) (fun _ _ _ h => h) (Or.inl ⟨by rfl, ?_⟩) ?_ ?_
       rotate_left
       ·intro w'; go_simp; with_reducible rfl
       rotate_left
       ·simp only [Act.put, sA, sB, sC, i64_w, i32_w]; rfl
       refine done_ (by kernel_rfl) ?_
       have HV9 := (blk_below (blk_below (blk_below (blk_below (blk_below (W := W0.drew) HV0 hb1) hb2) hb3) hb4) hb5)
       have HU9 := (blk_below (blk_below (blk_below (blk_below (blk_below (W := W0.drew) HU0 hb1) hb2) hb3) hb4) hb5)
       have HA9 := (blk_below (blk_below (blk_below (blk_below (blk_below (W := W0.drew) HAb hb1) hb2) hb3) hb4) hb5)
       have HT9 := (blk_below (blk_below (blk_below (blk_below (blk_below (W := W0.drew) HB0 hb1) hb2) hb3) hb4) hb5)
       have HZ9 := (blk_below (blk_below (blk_below (blk_below (blk_below (W := W0.drew) H00 hb1) hb2) hb3) hb4) hb5)
       have BW9 : Hid (Below w.heap.size w _) := (below_step (below_step (below_step (below_step (below_step (below_drew BW0.out) hb1) hb2) hb3) hb4) hb5)
       clear vc0 vc1 uc0 uc1 ac0 ac1 bc0 bc1
       have ac0 := blk_cell HA9 0 rfl
       have ac1 := blk_cell HA9 1 rfl
       have bf0 := blk_free HT9 0
       have bc0 := blk_cell HT9 0 rfl
       have bf1 := blk_free HT9 1
       have bc1 := blk_cell HT9 1 rfl
       go_wp2
       go_roundw
       case rel => exact ⟨k + 1, by omega, by go_num, blk_far (blk_far HU9 (by omega : ¬ w.heap.size = w.heap.size + 1 + 1 + 1) _) (by omega : ¬ w.heap.size = w.heap.size + 1 + 1 + 1) _, blk_far (blk_far HV9 (by omega : ¬ w.heap.size + 1 = w.heap.size + 1 + 1 + 1) _) (by omega : ¬ w.heap.size + 1 = w.heap.size + 1 + 1 + 1) _, blk_far (blk_far HZ9 (by omega : ¬ w.heap.size + 1 + 1 = w.heap.size + 1 + 1 + 1) _) (by omega : ¬ w.heap.size + 1 + 1 = w.heap.size + 1 + 1 + 1) _, by rw [HT2.out]; exact blk_set (blk_set HT9 _) _, below_set2 (by show _ ≤ w.heap.size + 1 + 1 + 1; omega) (below_set2 (by show _ ≤ w.heap.size + 1 + 1 + 1; omega) BW9.out)⟩
       case measure => simp [intOf]; omega
      ·have q3 : decide (0 < cz) = false := decide_eq_false h3
       have HT2 : Hid (turnL u v (l.take (k + 1)) = turnL u v (l.take k)) := HT.out.trans (if_neg (by rw [HE.out, q1, q2', show decide (cz > 0) = false from q3]; decide))
       clear HT HE h1 h2 h3 q2'
       go_wp2_with fail
       rw [← hW0]
       clear hW0 hx0 hx1
       have vc0 := blk_cell HV0 0 rfl
       have vc1 := blk_cell HV0 1 rfl
       have uc0 := blk_cell HU0 0 rfl
       have uc1 := blk_cell HU0 1 rfl
       have ac0 := blk_cell HAb 0 rfl
       have ac1 := blk_cell HAb 1 rfl
       have bc0 := blk_cell HB0 0 rfl
       have bc1 := blk_cell HB0 1 rfl
       refine start_ (n := 31) (S := fun w' => w'.cell? ⟨w.heap.size + 1, 0, none⟩ = some (.int .i64 v.1) ∧ w'.cell? ⟨w.heap.size + 1, 1, none⟩ = some (.int .i64 v.2) ∧ w'.cell? ⟨w.heap.size, 0, none⟩ = some (.int .i64 u.1) ∧ w'.cell? ⟨w.heap.size, 1, none⟩ = some (.int .i64 u.2) ∧ w'.cell? ⟨wr.heap.size, 0, none⟩ = some (.int .i64 (ptD l k).1) ∧ w'.cell? ⟨wr.heap.size, 1, none⟩ = some (.int .i64 (ptD l k).2) ∧ w'.cell? ⟨w.heap.size + 1 + 1 + 1, 0, none⟩ = some (.int .i64 (turnL u v (l.take k)).1) ∧ w'.cell? ⟨w.heap.size + 1 + 1 + 1, 1, none⟩ = some (.int .i64 (turnL u v (l.take k)).2)) (ds := []) #[Z,Z,Z,Z,Z,Z,Z,Z,Z,Z,Z,Z,Z,Z,Z,Z,Z,Z,Z,Z,Z,Z,Z,Z,Z,Z,Z,Z,Z,Z,Z] (by kernel_rfl) rfl rfl ⟨vc0, vc1, uc0, uc1, ac0, ac1, bc0, bc1⟩ (fun hHeld => ?_)
       refine pure_ (i := 0) (N := some 17) (v := ?_) (a' := ?_) #[J,Z,Z,Z,Z,Z,Z,Z,Z,Z,Z,Z,Z,Z,Z,Z,Z,Z,Z,Z,Z,Z,Z,Z,Z,Z,Z,Z,Z,Z,Z] rfl rfl (by kernel_rfl) (fun _ _ _ h => h) (Or.inl ⟨by rfl, ?_⟩) ?_ ?_
       rotate_left
       ·intro w'; go_simp; with_reducible rfl
       rotate_left
       ·simp only [Act.put, sA, sB, sC, i64_w, i32_w]; rfl
       refine pure_ (i := 1) (N := some 18) (v := ?_) (a' := ?_) #[J,J,Z,Z,Z,Z,Z,Z,Z,Z,Z,Z,Z,Z,Z,Z,Z,Z,Z,Z,Z,Z,Z,Z,Z,Z,Z,Z,Z,Z,Z] rfl rfl (by kernel_rfl) (fun _ _ _ h => h) (Or.inl ⟨by rfl, ?_⟩) ?_ ?_
       rotate_left
       ·intro w'; go_simp; with_reducible rfl
       rotate_left
       ·simp only [Act.put, sA, sB, sC, i64_w, i32_w]; rfl
       refine pure_ (i := 2) (N := some 19) (v := ?_) (a' := ?_) #[J,J,J,Z,Z,Z,Z,Z,Z,Z,Z,Z,Z,Z,Z,Z,Z,Z,Z,Z,Z,Z,Z,Z,Z,Z,Z,Z,Z,Z,Z] rfl rfl (by kernel_rfl) (fun _ _ _ h => h) (Or.inl ⟨by rfl, ?_⟩) ?_ ?_
       rotate_left
       ·intro w'; go_simp; with_reducible rfl
       rotate_left
       ·simp only [Act.put, sA, sB, sC, i64_w, i32_w]; rfl
       refine take_ (i := 3) (N := some 20) (v := ?_) (a' := ?_) #[J,J,J,J,Z,Z,Z,Z,Z,Z,Z,Z,Z,Z,Z,Z,Z,Z,Z,Z,Z,Z,Z,Z,Z,Z,Z,Z,Z,Z,Z] rfl rfl (by kernel_rfl) (fun _ _ _ h => h) (Or.inl ⟨by rfl, ?_⟩) hHeld ?_ ?_
       rotate_left
       ·rintro w' ⟨s0, s1, s2, s3, s4, s5, s6, s7⟩; go_simp; with_reducible rfl
       rotate_left
       ·simp only [Act.put, sA, sB, sC, i64_w, i32_w]; rfl
       refine take_ (i := 4) (N := some 21) (v := ?_) (a' := ?_) #[J,J,J,J,J,Z,Z,Z,Z,Z,Z,Z,Z,Z,Z,Z,Z,Z,Z,Z,Z,Z,Z,Z,Z,Z,Z,Z,Z,Z,Z] rfl rfl (by kernel_rfl) (fun _ _ _ h => h) (Or.inl ⟨by rfl, ?_⟩) hHeld ?_ ?_
       rotate_left
       ·rintro w' ⟨s0, s1, s2, s3, s4, s5, s6, s7⟩; go_simp; with_reducible rfl
       rotate_left
       ·simp only [Act.put, sA, sB, sC, i64_w, i32_w]; rfl
       refine take_ (i := 5) (N := some 22) (v := ?_) (a' := ?_) #[J,J,J,J,J,J,Z,Z,Z,Z,Z,Z,Z,Z,Z,Z,Z,Z,Z,Z,Z,Z,Z,Z,Z,Z,Z,Z,Z,Z,Z] rfl rfl (by kernel_rfl) (fun _ _ _ h => h) (Or.inl ⟨by rfl, ?_⟩) hHeld ?_ ?_
       rotate_left
       ·rintro w' ⟨s0, s1, s2, s3, s4, s5, s6, s7⟩; go_simp; with_reducible rfl
       rotate_left
       ·simp only [Act.put, sA, sB, sC, i64_w, i32_w]; rfl
       refine take_ (i := 7) (N := some 24) (v := ?_) (a' := ?_) #[J,J,J,J,J,J,Z,J,Z,Z,Z,Z,Z,Z,Z,Z,Z,Z,Z,Z,Z,Z,Z,Z,Z,Z,Z,Z,Z,Z,Z] rfl rfl (by kernel_rfl) (fun _ _ _ h => h) (Or.inl ⟨by rfl, ?_⟩) hHeld ?_ ?_
       rotate_left
       ·rintro w' ⟨s0, s1, s2, s3, s4, s5, s6, s7⟩; go_simp; with_reducible rfl
       rotate_left
       ·simp only [Act.put, sA, sB, sC, i64_w, i32_w]; rfl
       refine take_ (i := 8) (N := some 25) (v := ?_) (a' := ?_) #[J,J,J,J,J,J,Z,J,J,Z,Z,Z,Z,Z,Z,Z,Z,Z,Z,Z,Z,Z,Z,Z,Z,Z,Z,Z,Z,Z,Z] rfl rfl (by kernel_rfl) (fun _ _ _ h => h) (Or.inl ⟨by rfl, ?_⟩) hHeld ?_ ?_
       rotate_left
       ·rintro w' ⟨s0, s1, s2, s3, s4, s5, s6, s7⟩; go_simp; with_reducible rfl
       rotate_left
       ·simp only [Act.put, sA, sB, sC, i64_w, i32_w]; rfl
       refine take_ (i := 9) (N := some 26) (v := ?_) (a' := ?_) #[J,J,J,J,J,J,Z,J,J,J,Z,Z,Z,Z,Z,Z,Z,Z,Z,Z,Z,Z,Z,Z,Z,Z,Z,Z,Z,Z,Z] rfl rfl (by kernel_rfl) (fun _ _ _ h => h) (Or.inl ⟨by rfl, ?_⟩) hHeld ?_ ?_
       rotate_left
       ·rintro w' ⟨s0, s1, s2, s3, s4, s5, s6, s7⟩; go_simp; with_reducible rfl
       rotate_left
       ·simp only [Act.put, sA, sB, sC, i64_w, i32_w]; rfl
       refine one_ (i := 6) (N := some 23) #[J,J,J,J,J,J,J,J,J,J,Z,Z,Z,Z,Z,Z,Z,Z,Z,Z,Z,Z,Z,Z,Z,Z,Z,Z,Z,Z,Z] rfl rfl (by kernel_rfl) (by decide) (fun K hK => ?_)
       refine goes_ Tryz.func113 (by kernel_rfl) rfl #[ptA v, ptA u, ptA (ptD l k)] (by rfl) rfl rfl (by simp only [List.map_toArray, List.map_cons, List.map_nil]; rfl) ?_
       with_reducible refine (C1.out _).mono ?_
       rintro e w1 ⟨rfl, hb1⟩
       refine ⟨_, rfl, ?_⟩
       refine hK.out _ _ ⟨blk_cell (blk_below (W := W0.drew) HV0 hb1) 0 rfl, blk_cell (blk_below (W := W0.drew) HV0 hb1) 1 rfl, blk_cell (blk_below (W := W0.drew) HU0 hb1) 0 rfl, blk_cell (blk_below (W := W0.drew) HU0 hb1) 1 rfl, blk_cell (blk_below (W := W0.drew) HAb hb1) 0 rfl, blk_cell (blk_below (W := W0.drew) HAb hb1) 1 rfl, blk_cell (blk_below (W := W0.drew) HB0 hb1) 0 rfl, blk_cell (blk_below (W := W0.drew) HB0 hb1) 1 rfl⟩ (fun hHeld => ?_)
       clear hK K
       refine norm_ (a' := ?_) ?_ ?_
       rotate_left
       ·show Act.put _ (some 23) _ = _
        simp only [Act.put, sA, sB, sC, i64_w, i32_w]; rfl
       refine one_ (i := 10) (N := some 27) #[J,J,J,J,J,J,J,J,J,J,J,Z,Z,Z,Z,Z,Z,Z,Z,Z,Z,Z,Z,Z,Z,Z,Z,Z,Z,Z,Z] rfl rfl (by kernel_rfl) (by decide) (fun K hK => ?_)
       refine goes_ Tryz.func113 (by kernel_rfl) rfl #[ptA v, ptA u, ptA (turnL u v (l.take k))] (by rfl) rfl rfl (by simp only [List.map_toArray, List.map_cons, List.map_nil]; rfl) ?_
       with_reducible refine (C2.out _).mono ?_
       rintro e w2 ⟨rfl, hb2⟩
       refine ⟨_, rfl, ?_⟩
       refine hK.out _ _ ⟨blk_cell (blk_below (blk_below (W := W0.drew) HV0 hb1) hb2) 0 rfl, blk_cell (blk_below (blk_below (W := W0.drew) HV0 hb1) hb2) 1 rfl, blk_cell (blk_below (blk_below (W := W0.drew) HU0 hb1) hb2) 0 rfl, blk_cell (blk_below (blk_below (W := W0.drew) HU0 hb1) hb2) 1 rfl, blk_cell (blk_below (blk_below (W := W0.drew) HAb hb1) hb2) 0 rfl, blk_cell (blk_below (blk_below (W := W0.drew) HAb hb1) hb2) 1 rfl, blk_cell (blk_below (blk_below (W := W0.drew) HB0 hb1) hb2) 0 rfl, blk_cell (blk_below (blk_below (W := W0.drew) HB0 hb1) hb2) 1 rfl⟩ (fun hHeld => ?_)
       clear hK K
       refine norm_ (a' := ?_) ?_ ?_
       rotate_left
       ·show Act.put _ (some 27) _ = _
        simp only [Act.put, sA, sB, sC, i64_w, i32_w]; rfl
       refine pure_ (i := 11) (N := some 28) (v := ?_) (a' := ?_) #[J,J,J,J,J,J,J,J,J,J,J,J,Z,Z,Z,Z,Z,Z,Z,Z,Z,Z,Z,Z,Z,Z,Z,Z,Z,Z,Z] rfl rfl (by kernel_rfl) (fun _ _ _ h => h) (Or.inl ⟨by rfl, ?_⟩) ?_ ?_
       rotate_left
       ·intro w'; go_simp; with_reducible rfl
       rotate_left
       ·simp only [Act.put, sA, sB, sC, i64_w, i32_w]; rfl
       refine pure_ (i := 12) (N := some 29) (v := ?_) (a' := ?_) #[J,J,J,J,J,J,J,J,J,J,J,J,J,Z,Z,Z,Z,Z,Z,Z,Z,Z,Z,Z,Z,Z,Z,Z,Z,Z,Z] rfl rfl (by kernel_rfl) (fun _ _ _ h => h) (Or.inl ⟨by rfl, ?_⟩) ?_ ?_
       rotate_left
       ·intro w'; go_simp; with_reducible rfl
       rotate_left
       ·simp only [Act.put, sA, sB, sC, i64_w, i32_w]; rfl
       refine pure_ (i := 13) (N := some 30) (v := ?_) (a' := ?_) #[J,J,J,J,J,J,J,J,J,J,J,J,J,J,Z,Z,Z,Z,Z,Z,Z,Z,Z,Z,Z,Z,Z,Z,Z,Z,Z] rfl rfl (by kernel_rfl) (fun _ _ _ h => h) (Or.inl ⟨by rfl, ?_⟩) ?_ ?_
       rotate_left
       ·intro w'; go_simp; with_reducible rfl
       rotate_left
       ·simp only [Act.put, sA, sB, sC, i64_w, i32_w]; rfl
       refine take_ (i := 14) (N := some 31) (v := ?_) (a' := ?_) #[J,J,J,J,J,J,J,J,J,J,J,J,J,J,J,Z,Z,Z,Z,Z,Z,Z,Z,Z,Z,Z,Z,Z,Z,Z,Z] rfl rfl (by kernel_rfl) (fun _ _ _ h => h) (Or.inl ⟨by rfl, ?_⟩) hHeld ?_ ?_
       rotate_left
       ·rintro w' ⟨s0, s1, s2, s3, s4, s5, s6, s7⟩; go_simp; with_reducible rfl
       rotate_left
       ·simp only [Act.put, sA, sB, sC, i64_w, i32_w]; rfl
       refine take_ (i := 15) (N := some 32) (v := ?_) (a' := ?_) #[J,J,J,J,J,J,J,J,J,J,J,J,J,J,J,J,Z,Z,Z,Z,Z,Z,Z,Z,Z,Z,Z,Z,Z,Z,Z] rfl rfl (by kernel_rfl) (fun _ _ _ h => h) (Or.inl ⟨by rfl, ?_⟩) hHeld ?_ ?_
       rotate_left
       ·rintro w' ⟨s0, s1, s2, s3, s4, s5, s6, s7⟩; go_simp; with_reducible rfl
       rotate_left
       ·simp only [Act.put, sA, sB, sC, i64_w, i32_w]; rfl
       refine take_ (i := 16) (N := some 33) (v := ?_) (a' := ?_) #[J,J,J,J,J,J,J,J,J,J,J,J,J,J,J,J,J,Z,Z,Z,Z,Z,Z,Z,Z,Z,Z,Z,Z,Z,Z] rfl rfl (by kernel_rfl) (fun _ _ _ h => h) (Or.inl ⟨by rfl, ?_⟩) hHeld ?_ ?_
       rotate_left
       ·rintro w' ⟨s0, s1, s2, s3, s4, s5, s6, s7⟩; go_simp; with_reducible rfl
       rotate_left
       ·simp only [Act.put, sA, sB, sC, i64_w, i32_w]; rfl
       refine take_ (i := 18) (N := some 35) (v := ?_) (a' := ?_) #[J,J,J,J,J,J,J,J,J,J,J,J,J,J,J,J,J,Z,J,Z,Z,Z,Z,Z,Z,Z,Z,Z,Z,Z,Z] rfl rfl (by kernel_rfl) (fun _ _ _ h => h) (Or.inl ⟨by rfl, ?_⟩) hHeld ?_ ?_
       rotate_left
       ·rintro w' ⟨s0, s1, s2, s3, s4, s5, s6, s7⟩; go_simp; with_reducible rfl
       rotate_left
       ·simp only [Act.put, sA, sB, sC, i64_w, i32_w]; rfl
       refine take_ (i := 19) (N := some 36) (v := ?_) (a' := ?_) #[J,J,J,J,J,J,J,J,J,J,J,J,J,J,J,J,J,Z,J,J,Z,Z,Z,Z,Z,Z,Z,Z,Z,Z,Z] rfl rfl (by kernel_rfl) (fun _ _ _ h => h) (Or.inl ⟨by rfl, ?_⟩) hHeld ?_ ?_
       rotate_left
       ·rintro w' ⟨s0, s1, s2, s3, s4, s5, s6, s7⟩; go_simp; with_reducible rfl
       rotate_left
       ·simp only [Act.put, sA, sB, sC, i64_w, i32_w]; rfl
       refine take_ (i := 20) (N := some 37) (v := ?_) (a' := ?_) #[J,J,J,J,J,J,J,J,J,J,J,J,J,J,J,J,J,Z,J,J,J,Z,Z,Z,Z,Z,Z,Z,Z,Z,Z] rfl rfl (by kernel_rfl) (fun _ _ _ h => h) (Or.inl ⟨by rfl, ?_⟩) hHeld ?_ ?_
       rotate_left
       ·rintro w' ⟨s0, s1, s2, s3, s4, s5, s6, s7⟩; go_simp; with_reducible rfl
       rotate_left
       ·simp only [Act.put, sA, sB, sC, i64_w, i32_w]; rfl
       refine one_ (i := 17) (N := some 34) #[J,J,J,J,J,J,J,J,J,J,J,J,J,J,J,J,J,J,J,J,J,Z,Z,Z,Z,Z,Z,Z,Z,Z,Z] rfl rfl (by kernel_rfl) (by decide) (fun K hK => ?_)
       refine goes_ Tryz.func113 (by kernel_rfl) rfl #[ptA v, ptA u, ptA (ptD l k)] (by rfl) rfl rfl (by simp only [List.map_toArray, List.map_cons, List.map_nil]; rfl) ?_
       with_reducible refine (C1.out _).mono ?_
       rintro e w3 ⟨rfl, hb3⟩
       refine ⟨_, rfl, ?_⟩
       refine hK.out _ _ ⟨blk_cell (blk_below (blk_below (blk_below (W := W0.drew) HV0 hb1) hb2) hb3) 0 rfl, blk_cell (blk_below (blk_below (blk_below (W := W0.drew) HV0 hb1) hb2) hb3) 1 rfl, blk_cell (blk_below (blk_below (blk_below (W := W0.drew) HU0 hb1) hb2) hb3) 0 rfl, blk_cell (blk_below (blk_below (blk_below (W := W0.drew) HU0 hb1) hb2) hb3) 1 rfl, blk_cell (blk_below (blk_below (blk_below (W := W0.drew) HAb hb1) hb2) hb3) 0 rfl, blk_cell (blk_below (blk_below (blk_below (W := W0.drew) HAb hb1) hb2) hb3) 1 rfl, blk_cell (blk_below (blk_below (blk_below (W := W0.drew) HB0 hb1) hb2) hb3) 0 rfl, blk_cell (blk_below (blk_below (blk_below (W := W0.drew) HB0 hb1) hb2) hb3) 1 rfl⟩ (fun hHeld => ?_)
       clear hK K
       refine norm_ (a' := ?_) ?_ ?_
       rotate_left
       ·show Act.put _ (some 34) _ = _
        simp only [Act.put, sA, sB, sC, i64_w, i32_w]; rfl
       refine one_ (i := 21) (N := some 38) #[J,J,J,J,J,J,J,J,J,J,J,J,J,J,J,J,J,J,J,J,J,J,Z,Z,Z,Z,Z,Z,Z,Z,Z] rfl rfl (by kernel_rfl) (by decide) (fun K hK => ?_)
       refine goes_ Tryz.func113 (by kernel_rfl) rfl #[ptA v, ptA u, ptA (turnL u v (l.take k))] (by rfl) rfl rfl (by simp only [List.map_toArray, List.map_cons, List.map_nil]; rfl) ?_
       with_reducible refine (C2.out _).mono ?_
       rintro e w4 ⟨rfl, hb4⟩
       refine ⟨_, rfl, ?_⟩
       refine hK.out _ _ ⟨blk_cell (blk_below (blk_below (blk_below (blk_below (W := W0.drew) HV0 hb1) hb2) hb3) hb4) 0 rfl, blk_cell (blk_below (blk_below (blk_below (blk_below (W := W0.drew) HV0 hb1) hb2) hb3) hb4) 1 rfl, blk_cell (blk_below (blk_below (blk_below (blk_below (W := W0.drew) HU0 hb1) hb2) hb3) hb4) 0 rfl, blk_cell (blk_below (blk_below (blk_below (blk_below (W := W0.drew) HU0 hb1) hb2) hb3) hb4) 1 rfl, blk_cell (blk_below (blk_below (blk_below (blk_below (W := W0.drew) HAb hb1) hb2) hb3) hb4) 0 rfl, blk_cell (blk_below (blk_below (blk_below (blk_below (W := W0.drew) HAb hb1) hb2) hb3) hb4) 1 rfl, blk_cell (blk_below (blk_below (blk_below (blk_below (W := W0.drew) HB0 hb1) hb2) hb3) hb4) 0 rfl, blk_cell (blk_below (blk_below (blk_below (blk_below (W := W0.drew) HB0 hb1) hb2) hb3) hb4) 1 rfl⟩ (fun hHeld => ?_)
       clear hK K
       refine norm_ (a' := ?_) ?_ ?_
       rotate_left
       ·show Act.put _ (some 38) _ = _
        simp only [Act.put, sA, sB, sC, i64_w, i32_w]; rfl
       refine pure_ (i := 22) (N := some 39) (v := ?_) (a' := ?_) #[J,J,J,J,J,J,J,J,J,J,J,J,J,J,J,J,J,J,J,J,J,J,J,Z,Z,Z,Z,Z,Z,Z,Z] rfl rfl (by kernel_rfl) (fun _ _ _ h => h) (Or.inl ⟨by rfl, ?_⟩) ?_ ?_
       rotate_left
       ·intro w'; go_simp; with_reducible rfl
       rotate_left
       ·simp only [Act.put, sA, sB, sC, i64_w, i32_w]; rfl
       refine pure_ (i := 23) (N := some 40) (v := ?_) (a' := ?_) #[J,J,J,J,J,J,J,J,J,J,J,J,J,J,J,J,J,J,J,J,J,J,J,J,Z,Z,Z,Z,Z,Z,Z] rfl rfl (by kernel_rfl) (fun _ _ _ h => h) (Or.inl ⟨by rfl, ?_⟩) ?_ ?_
       rotate_left
       ·intro w'; go_simp; with_reducible rfl
       rotate_left
       ·simp only [Act.put, sA, sB, sC, i64_w, i32_w]; rfl
       refine take_ (i := 24) (N := some 41) (v := ?_) (a' := ?_) #[J,J,J,J,J,J,J,J,J,J,J,J,J,J,J,J,J,J,J,J,J,J,J,J,J,Z,Z,Z,Z,Z,Z] rfl rfl (by kernel_rfl) (fun _ _ _ h => h) (Or.inl ⟨by rfl, ?_⟩) hHeld ?_ ?_
       rotate_left
       ·rintro w' ⟨s0, s1, s2, s3, s4, s5, s6, s7⟩; go_simp; with_reducible rfl
       rotate_left
       ·simp only [Act.put, sA, sB, sC, i64_w, i32_w]; rfl
       refine take_ (i := 25) (N := some 42) (v := ?_) (a' := ?_) #[J,J,J,J,J,J,J,J,J,J,J,J,J,J,J,J,J,J,J,J,J,J,J,J,J,J,Z,Z,Z,Z,Z] rfl rfl (by kernel_rfl) (fun _ _ _ h => h) (Or.inl ⟨by rfl, ?_⟩) hHeld ?_ ?_
       rotate_left
       ·rintro w' ⟨s0, s1, s2, s3, s4, s5, s6, s7⟩; go_simp; with_reducible rfl
       rotate_left
       ·simp only [Act.put, sA, sB, sC, i64_w, i32_w]; rfl
       refine take_ (i := 26) (N := some 43) (v := ?_) (a' := ?_) #[J,J,J,J,J,J,J,J,J,J,J,J,J,J,J,J,J,J,J,J,J,J,J,J,J,J,J,Z,Z,Z,Z] rfl rfl (by kernel_rfl) (fun _ _ _ h => h) (Or.inl ⟨by rfl, ?_⟩) hHeld ?_ ?_
       rotate_left
       ·rintro w' ⟨s0, s1, s2, s3, s4, s5, s6, s7⟩; go_simp; with_reducible rfl
       rotate_left
       ·simp only [Act.put, sA, sB, sC, i64_w, i32_w]; rfl
       refine one_ (i := 27) (N := some 44) #[J,J,J,J,J,J,J,J,J,J,J,J,J,J,J,J,J,J,J,J,J,J,J,J,J,J,J,J,Z,Z,Z] rfl rfl (by kernel_rfl) (by decide) (fun K hK => ?_)
       refine goes_ Tryz.func114 (by kernel_rfl) rfl #[ptA v, ptA (turnL u v (l.take k)), ptA (ptD l k)] (by rfl) rfl rfl (by simp only [List.map_toArray, List.map_cons, List.map_nil]; rfl) ?_
       with_reducible refine (C3.out _).mono ?_
       rintro e w5 ⟨rfl, hb5⟩
       refine ⟨_, rfl, ?_⟩
       refine hK.out _ _ ⟨blk_cell (blk_below (blk_below (blk_below (blk_below (blk_below (W := W0.drew) HV0 hb1) hb2) hb3) hb4) hb5) 0 rfl, blk_cell (blk_below (blk_below (blk_below (blk_below (blk_below (W := W0.drew) HV0 hb1) hb2) hb3) hb4) hb5) 1 rfl, blk_cell (blk_below (blk_below (blk_below (blk_below (blk_below (W := W0.drew) HU0 hb1) hb2) hb3) hb4) hb5) 0 rfl, blk_cell (blk_below (blk_below (blk_below (blk_below (blk_below (W := W0.drew) HU0 hb1) hb2) hb3) hb4) hb5) 1 rfl, blk_cell (blk_below (blk_below (blk_below (blk_below (blk_below (W := W0.drew) HAb hb1) hb2) hb3) hb4) hb5) 0 rfl, blk_cell (blk_below (blk_below (blk_below (blk_below (blk_below (W := W0.drew) HAb hb1) hb2) hb3) hb4) hb5) 1 rfl, blk_cell (blk_below (blk_below (blk_below (blk_below (blk_below (W := W0.drew) HB0 hb1) hb2) hb3) hb4) hb5) 0 rfl, blk_cell (blk_below (blk_below (blk_below (blk_below (blk_below (W := W0.drew) HB0 hb1) hb2) hb3) hb4) hb5) 1 rfl⟩ (fun hHeld => ?_)
       clear hK K
       refine norm_ (a' := ?_) ?_ ?_
       rotate_left
       ·show Act.put _ (some 44) _ = _
        simp only [Act.put, sA, sB, sC, i64_w, i32_w]; rfl
       refine pure_ (i := 28) (N := some 45) (v := ?_) (a' := ?_) #[J,J,J,J,J,J,J,J,J,J,J,J,J,J,J,J,J,J,J,J,J,J,J,J,J,J,J,J,J,Z,Z] rfl rfl (by kernel_rfl) (fun _ _ _ h => h) (Or.inl ⟨by rfl, ?_⟩) ?_ ?_
       rotate_left
       ·intro w'; go_simp; with_reducible rfl
       rotate_left
       ·simp only [Act.put, sA, sB, sC, i64_w, i32_w]; rfl
       refine pure_ (i := 29) (N := some 46) (v := ?_) (a' := ?_) #[J,J,J,J,J,J,J,J,J,J,J,J,J,J,J,J,J,J,J,J,J,J,J,J,J,J,J,J,J,J,Z] rfl rfl (by kernel_rfl) (fun _ _ _ h => h) (Or.inl ⟨by rfl, ?_⟩) ?_ ?_
       rotate_left
       ·intro w'; go_simp; with_reducible rfl
       rotate_left
       ·simp only [Act.put, sA, sB, sC, i64_w, i32_w]; rfl
       refine pure_ (i := 30) (N := some 47) (v := ?_) (a' := ?_) #[J,J,J,J,J,J,J,J,J,J,J,J,J,J,J,J,J,J,J,J,J,J,J,J,J,J,J,J,J,J,J] rfl rfl (by kernel_rfl) (fun _ _ _ h => h) (Or.inl ⟨by rfl, ?_⟩) ?_ ?_
       rotate_left
       ·intro w'; go_simp; with_reducible rfl
       rotate_left
       ·simp only [Act.put, sA, sB, sC, i64_w, i32_w]; rfl
       refine done_ (by kernel_rfl) ?_
       have HV9 := (blk_below (blk_below (blk_below (blk_below (blk_below (W := W0.drew) HV0 hb1) hb2) hb3) hb4) hb5)
       have HU9 := (blk_below (blk_below (blk_below (blk_below (blk_below (W := W0.drew) HU0 hb1) hb2) hb3) hb4) hb5)
       have HA9 := (blk_below (blk_below (blk_below (blk_below (blk_below (W := W0.drew) HAb hb1) hb2) hb3) hb4) hb5)
       have HT9 := (blk_below (blk_below (blk_below (blk_below (blk_below (W := W0.drew) HB0 hb1) hb2) hb3) hb4) hb5)
       have HZ9 := (blk_below (blk_below (blk_below (blk_below (blk_below (W := W0.drew) H00 hb1) hb2) hb3) hb4) hb5)
       have BW9 : Hid (Below w.heap.size w _) := (below_step (below_step (below_step (below_step (below_step (below_drew BW0.out) hb1) hb2) hb3) hb4) hb5)
       clear vc0 vc1 uc0 uc1 ac0 ac1 bc0 bc1
       go_wp2
       go_roundw
       case rel => exact ⟨k + 1, by omega, by go_num, HU9, HV9, HZ9, by rw [HT2.out]; exact HT9, BW9.out⟩
       case measure => simp [intOf]; omega
     ·have q2 : (sa == sb) = false := by simp [h2]
      have q2' : decide (sa = sb) = false := decide_eq_false h2
      have HT2 : Hid (turnL u v (l.take (k + 1)) = turnL u v (l.take k)) := HT.out.trans (if_neg (by rw [HE.out, q1, q2']; simp))
      clear HT HE h1 h2 q2'
      go_wp2_with fail
      rw [← hW0]
      clear hW0 hx0 hx1
      have vc0 := blk_cell HV0 0 rfl
      have vc1 := blk_cell HV0 1 rfl
      have uc0 := blk_cell HU0 0 rfl
      have uc1 := blk_cell HU0 1 rfl
      have ac0 := blk_cell HAb 0 rfl
      have ac1 := blk_cell HAb 1 rfl
      have bc0 := blk_cell HB0 0 rfl
      have bc1 := blk_cell HB0 1 rfl
      refine start_ (n := 31) (S := fun w' => w'.cell? ⟨w.heap.size + 1, 0, none⟩ = some (.int .i64 v.1) ∧ w'.cell? ⟨w.heap.size + 1, 1, none⟩ = some (.int .i64 v.2) ∧ w'.cell? ⟨w.heap.size, 0, none⟩ = some (.int .i64 u.1) ∧ w'.cell? ⟨w.heap.size, 1, none⟩ = some (.int .i64 u.2) ∧ w'.cell? ⟨wr.heap.size, 0, none⟩ = some (.int .i64 (ptD l k).1) ∧ w'.cell? ⟨wr.heap.size, 1, none⟩ = some (.int .i64 (ptD l k).2) ∧ w'.cell? ⟨w.heap.size + 1 + 1 + 1, 0, none⟩ = some (.int .i64 (turnL u v (l.take k)).1) ∧ w'.cell? ⟨w.heap.size + 1 + 1 + 1, 1, none⟩ = some (.int .i64 (turnL u v (l.take k)).2)) (ds := []) #[Z,Z,Z,Z,Z,Z,Z,Z,Z,Z,Z,Z,Z,Z,Z,Z,Z,Z,Z,Z,Z,Z,Z,Z,Z,Z,Z,Z,Z,Z,Z] (by kernel_rfl) rfl rfl ⟨vc0, vc1, uc0, uc1, ac0, ac1, bc0, bc1⟩ (fun hHeld => ?_)
      refine pure_ (i := 0) (N := some 17) (v := ?_) (a' := ?_) #[J,Z,Z,Z,Z,Z,Z,Z,Z,Z,Z,Z,Z,Z,Z,Z,Z,Z,Z,Z,Z,Z,Z,Z,Z,Z,Z,Z,Z,Z,Z] rfl rfl (by kernel_rfl) (fun _ _ _ h => h) (Or.inl ⟨by rfl, ?_⟩) ?_ ?_
      rotate_left
      ·intro w'; go_simp; with_reducible rfl
      rotate_left
      ·simp only [Act.put, sA, sB, sC, i64_w, i32_w]; rfl
      refine pure_ (i := 1) (N := some 18) (v := ?_) (a' := ?_) #[J,J,Z,Z,Z,Z,Z,Z,Z,Z,Z,Z,Z,Z,Z,Z,Z,Z,Z,Z,Z,Z,Z,Z,Z,Z,Z,Z,Z,Z,Z] rfl rfl (by kernel_rfl) (fun _ _ _ h => h) (Or.inl ⟨by rfl, ?_⟩) ?_ ?_
      rotate_left
      ·intro w'; go_simp; with_reducible rfl
      rotate_left
      ·simp only [Act.put, sA, sB, sC, i64_w, i32_w]; rfl
      refine pure_ (i := 2) (N := some 19) (v := ?_) (a' := ?_) #[J,J,J,Z,Z,Z,Z,Z,Z,Z,Z,Z,Z,Z,Z,Z,Z,Z,Z,Z,Z,Z,Z,Z,Z,Z,Z,Z,Z,Z,Z] rfl rfl (by kernel_rfl) (fun _ _ _ h => h) (Or.inl ⟨by rfl, ?_⟩) ?_ ?_
      rotate_left
      ·intro w'; go_simp; with_reducible rfl
      rotate_left
      ·simp only [Act.put, sA, sB, sC, i64_w, i32_w]; rfl
      refine take_ (i := 3) (N := some 20) (v := ?_) (a' := ?_) #[J,J,J,J,Z,Z,Z,Z,Z,Z,Z,Z,Z,Z,Z,Z,Z,Z,Z,Z,Z,Z,Z,Z,Z,Z,Z,Z,Z,Z,Z] rfl rfl (by kernel_rfl) (fun _ _ _ h => h) (Or.inl ⟨by rfl, ?_⟩) hHeld ?_ ?_
      rotate_left
      ·rintro w' ⟨s0, s1, s2, s3, s4, s5, s6, s7⟩; go_simp; with_reducible rfl
      rotate_left
      ·simp only [Act.put, sA, sB, sC, i64_w, i32_w]; rfl
      refine take_ (i := 4) (N := some 21) (v := ?_) (a' := ?_) #[J,J,J,J,J,Z,Z,Z,Z,Z,Z,Z,Z,Z,Z,Z,Z,Z,Z,Z,Z,Z,Z,Z,Z,Z,Z,Z,Z,Z,Z] rfl rfl (by kernel_rfl) (fun _ _ _ h => h) (Or.inl ⟨by rfl, ?_⟩) hHeld ?_ ?_
      rotate_left
      ·rintro w' ⟨s0, s1, s2, s3, s4, s5, s6, s7⟩; go_simp; with_reducible rfl
      rotate_left
      ·simp only [Act.put, sA, sB, sC, i64_w, i32_w]; rfl
      refine take_ (i := 5) (N := some 22) (v := ?_) (a' := ?_) #[J,J,J,J,J,J,Z,Z,Z,Z,Z,Z,Z,Z,Z,Z,Z,Z,Z,Z,Z,Z,Z,Z,Z,Z,Z,Z,Z,Z,Z] rfl rfl (by kernel_rfl) (fun _ _ _ h => h) (Or.inl ⟨by rfl, ?_⟩) hHeld ?_ ?_
      rotate_left
      ·rintro w' ⟨s0, s1, s2, s3, s4, s5, s6, s7⟩; go_simp; with_reducible rfl
      rotate_left
      ·simp only [Act.put, sA, sB, sC, i64_w, i32_w]; rfl
      refine take_ (i := 7) (N := some 24) (v := ?_) (a' := ?_) #[J,J,J,J,J,J,Z,J,Z,Z,Z,Z,Z,Z,Z,Z,Z,Z,Z,Z,Z,Z,Z,Z,Z,Z,Z,Z,Z,Z,Z] rfl rfl (by kernel_rfl) (fun _ _ _ h => h) (Or.inl ⟨by rfl, ?_⟩) hHeld ?_ ?_
      rotate_left
      ·rintro w' ⟨s0, s1, s2, s3, s4, s5, s6, s7⟩; go_simp; with_reducible rfl
      rotate_left
      ·simp only [Act.put, sA, sB, sC, i64_w, i32_w]; rfl
      refine take_ (i := 8) (N := some 25) (v := ?_) (a' := ?_) #[J,J,J,J,J,J,Z,J,J,Z,Z,Z,Z,Z,Z,Z,Z,Z,Z,Z,Z,Z,Z,Z,Z,Z,Z,Z,Z,Z,Z] rfl rfl (by kernel_rfl) (fun _ _ _ h => h) (Or.inl ⟨by rfl, ?_⟩) hHeld ?_ ?_
      rotate_left
      ·rintro w' ⟨s0, s1, s2, s3, s4, s5, s6, s7⟩; go_simp; with_reducible rfl
      rotate_left
      ·simp only [Act.put, sA, sB, sC, i64_w, i32_w]; rfl
      refine take_ (i := 9) (N := some 26) (v := ?_) (a' := ?_) #[J,J,J,J,J,J,Z,J,J,J,Z,Z,Z,Z,Z,Z,Z,Z,Z,Z,Z,Z,Z,Z,Z,Z,Z,Z,Z,Z,Z] rfl rfl (by kernel_rfl) (fun _ _ _ h => h) (Or.inl ⟨by rfl, ?_⟩) hHeld ?_ ?_
      rotate_left
      ·rintro w' ⟨s0, s1, s2, s3, s4, s5, s6, s7⟩; go_simp; with_reducible rfl
      rotate_left
      ·simp only [Act.put, sA, sB, sC, i64_w, i32_w]; rfl
      refine one_ (i := 6) (N := some 23) #[J,J,J,J,J,J,J,J,J,J,Z,Z,Z,Z,Z,Z,Z,Z,Z,Z,Z,Z,Z,Z,Z,Z,Z,Z,Z,Z,Z] rfl rfl (by kernel_rfl) (by decide) (fun K hK => ?_)
      refine goes_ Tryz.func113 (by kernel_rfl) rfl #[ptA v, ptA u, ptA (ptD l k)] (by rfl) rfl rfl (by simp only [List.map_toArray, List.map_cons, List.map_nil]; rfl) ?_
      with_reducible refine (C1.out _).mono ?_
      rintro e w1 ⟨rfl, hb1⟩
      refine ⟨_, rfl, ?_⟩
      refine hK.out _ _ ⟨blk_cell (blk_below (W := W0.drew) HV0 hb1) 0 rfl, blk_cell (blk_below (W := W0.drew) HV0 hb1) 1 rfl, blk_cell (blk_below (W := W0.drew) HU0 hb1) 0 rfl, blk_cell (blk_below (W := W0.drew) HU0 hb1) 1 rfl, blk_cell (blk_below (W := W0.drew) HAb hb1) 0 rfl, blk_cell (blk_below (W := W0.drew) HAb hb1) 1 rfl, blk_cell (blk_below (W := W0.drew) HB0 hb1) 0 rfl, blk_cell (blk_below (W := W0.drew) HB0 hb1) 1 rfl⟩ (fun hHeld => ?_)
      clear hK K
      refine norm_ (a' := ?_) ?_ ?_
      rotate_left
      ·show Act.put _ (some 23) _ = _
       simp only [Act.put, sA, sB, sC, i64_w, i32_w]; rfl
      refine one_ (i := 10) (N := some 27) #[J,J,J,J,J,J,J,J,J,J,J,Z,Z,Z,Z,Z,Z,Z,Z,Z,Z,Z,Z,Z,Z,Z,Z,Z,Z,Z,Z] rfl rfl (by kernel_rfl) (by decide) (fun K hK => ?_)
      refine goes_ Tryz.func113 (by kernel_rfl) rfl #[ptA v, ptA u, ptA (turnL u v (l.take k))] (by rfl) rfl rfl (by simp only [List.map_toArray, List.map_cons, List.map_nil]; rfl) ?_
      with_reducible refine (C2.out _).mono ?_
      rintro e w2 ⟨rfl, hb2⟩
      refine ⟨_, rfl, ?_⟩
      refine hK.out _ _ ⟨blk_cell (blk_below (blk_below (W := W0.drew) HV0 hb1) hb2) 0 rfl, blk_cell (blk_below (blk_below (W := W0.drew) HV0 hb1) hb2) 1 rfl, blk_cell (blk_below (blk_below (W := W0.drew) HU0 hb1) hb2) 0 rfl, blk_cell (blk_below (blk_below (W := W0.drew) HU0 hb1) hb2) 1 rfl, blk_cell (blk_below (blk_below (W := W0.drew) HAb hb1) hb2) 0 rfl, blk_cell (blk_below (blk_below (W := W0.drew) HAb hb1) hb2) 1 rfl, blk_cell (blk_below (blk_below (W := W0.drew) HB0 hb1) hb2) 0 rfl, blk_cell (blk_below (blk_below (W := W0.drew) HB0 hb1) hb2) 1 rfl⟩ (fun hHeld => ?_)
      clear hK K
      refine norm_ (a' := ?_) ?_ ?_
      rotate_left
      ·show Act.put _ (some 27) _ = _
       simp only [Act.put, sA, sB, sC, i64_w, i32_w]; rfl
      refine pure_ (i := 11) (N := some 28) (v := ?_) (a' := ?_) #[J,J,J,J,J,J,J,J,J,J,J,J,Z,Z,Z,Z,Z,Z,Z,Z,Z,Z,Z,Z,Z,Z,Z,Z,Z,Z,Z] rfl rfl (by kernel_rfl) (fun _ _ _ h => h) (Or.inl ⟨by rfl, ?_⟩) ?_ ?_
      rotate_left
      ·intro w'; go_simp; with_reducible rfl
      rotate_left
      ·simp only [Act.put, sA, sB, sC, i64_w, i32_w]; rfl
      refine pure_ (i := 12) (N := some 29) (v := ?_) (a' := ?_) #[J,J,J,J,J,J,J,J,J,J,J,J,J,Z,Z,Z,Z,Z,Z,Z,Z,Z,Z,Z,Z,Z,Z,Z,Z,Z,Z] rfl rfl (by kernel_rfl) (fun _ _ _ h => h) (Or.inl ⟨by rfl, ?_⟩) ?_ ?_
      rotate_left
      ·intro w'; go_simp; with_reducible rfl
      rotate_left
      ·simp only [Act.put, sA, sB, sC, i64_w, i32_w]; rfl
      refine pure_ (i := 13) (N := some 30) (v := ?_) (a' := ?_) #[J,J,J,J,J,J,J,J,J,J,J,J,J,J,Z,Z,Z,Z,Z,Z,Z,Z,Z,Z,Z,Z,Z,Z,Z,Z,Z] rfl rfl (by kernel_rfl) (fun _ _ _ h => h) (Or.inl ⟨by rfl, ?_⟩) ?_ ?_
      rotate_left
      ·intro w'; go_simp; with_reducible rfl
      rotate_left
      ·simp only [Act.put, sA, sB, sC, i64_w, i32_w]; rfl
      refine take_ (i := 14) (N := some 31) (v := ?_) (a' := ?_) #[J,J,J,J,J,J,J,J,J,J,J,J,J,J,J,Z,Z,Z,Z,Z,Z,Z,Z,Z,Z,Z,Z,Z,Z,Z,Z] rfl rfl (by kernel_rfl) (fun _ _ _ h => h) (Or.inl ⟨by rfl, ?_⟩) hHeld ?_ ?_
      rotate_left
      ·rintro w' ⟨s0, s1, s2, s3, s4, s5, s6, s7⟩; go_simp; with_reducible rfl
      rotate_left
      ·simp only [Act.put, sA, sB, sC, i64_w, i32_w]; rfl
      refine take_ (i := 15) (N := some 32) (v := ?_) (a' := ?_) #[J,J,J,J,J,J,J,J,J,J,J,J,J,J,J,J,Z,Z,Z,Z,Z,Z,Z,Z,Z,Z,Z,Z,Z,Z,Z] rfl rfl (by kernel_rfl) (fun _ _ _ h => h) (Or.inl ⟨by rfl, ?_⟩) hHeld ?_ ?_
      rotate_left
      ·rintro w' ⟨s0, s1, s2, s3, s4, s5, s6, s7⟩; go_simp; with_reducible rfl
      rotate_left
      ·simp only [Act.put, sA, sB, sC, i64_w, i32_w]; rfl
      refine take_ (i := 16) (N := some 33) (v := ?_) (a' := ?_) #[J,J,J,J,J,J,J,J,J,J,J,J,J,J,J,J,J,Z,Z,Z,Z,Z,Z,Z,Z,Z,Z,Z,Z,Z,Z] rfl rfl (by kernel_rfl) (fun _ _ _ h => h) (Or.inl ⟨by rfl, ?_⟩) hHeld ?_ ?_
      rotate_left
      ·rintro w' ⟨s0, s1, s2, s3, s4, s5, s6, s7⟩; go_simp; with_reducible rfl
      rotate_left
      ·simp only [Act.put, sA, sB, sC, i64_w, i32_w]; rfl
      refine take_ (i := 18) (N := some 35) (v := ?_) (a' := ?_) #[J,J,J,J,J,J,J,J,J,J,J,J,J,J,J,J,J,Z,J,Z,Z,Z,Z,Z,Z,Z,Z,Z,Z,Z,Z] rfl rfl (by kernel_rfl) (fun _ _ _ h => h) (Or.inl ⟨by rfl, ?_⟩) hHeld ?_ ?_
      rotate_left
      ·rintro w' ⟨s0, s1, s2, s3, s4, s5, s6, s7⟩; go_simp; with_reducible rfl
      rotate_left
      ·simp only [Act.put, sA, sB, sC, i64_w, i32_w]; rfl
      refine take_ (i := 19) (N := some 36) (v := ?_) (a' := ?_) #[J,J,J,J,J,J,J,J,J,J,J,J,J,J,J,J,J,Z,J,J,Z,Z,Z,Z,Z,Z,Z,Z,Z,Z,Z] rfl rfl (by kernel_rfl) (fun _ _ _ h => h) (Or.inl ⟨by rfl, ?_⟩) hHeld ?_ ?_
      rotate_left
      ·rintro w' ⟨s0, s1, s2, s3, s4, s5, s6, s7⟩; go_simp; with_reducible rfl
      rotate_left
      ·simp only [Act.put, sA, sB, sC, i64_w, i32_w]; rfl
      refine take_ (i := 20) (N := some 37) (v := ?_) (a' := ?_) #[J,J,J,J,J,J,J,J,J,J,J,J,J,J,J,J,J,Z,J,J,J,Z,Z,Z,Z,Z,Z,Z,Z,Z,Z] rfl rfl (by kernel_rfl) (fun _ _ _ h => h) (Or.inl ⟨by rfl, ?_⟩) hHeld ?_ ?_
      rotate_left
      ·rintro w' ⟨s0, s1, s2, s3, s4, s5, s6, s7⟩; go_simp; with_reducible rfl
      rotate_left
      ·simp only [Act.put, sA, sB, sC, i64_w, i32_w]; rfl
      refine one_ (i := 17) (N := some 34) #[J,J,J,J,J,J,J,J,J,J,J,J,J,J,J,J,J,J,J,J,J,Z,Z,Z,Z,Z,Z,Z,Z,Z,Z] rfl rfl (by kernel_rfl) (by decide) (fun K hK => ?_)
      refine goes_ Tryz.func113 (by kernel_rfl) rfl #[ptA v, ptA u, ptA (ptD l k)] (by rfl) rfl rfl (by simp only [List.map_toArray, List.map_cons, List.map_nil]; rfl) ?_
      with_reducible refine (C1.out _).mono ?_
      rintro e w3 ⟨rfl, hb3⟩
      refine ⟨_, rfl, ?_⟩
      refine hK.out _ _ ⟨blk_cell (blk_below (blk_below (blk_below (W := W0.drew) HV0 hb1) hb2) hb3) 0 rfl, blk_cell (blk_below (blk_below (blk_below (W := W0.drew) HV0 hb1) hb2) hb3) 1 rfl, blk_cell (blk_below (blk_below (blk_below (W := W0.drew) HU0 hb1) hb2) hb3) 0 rfl, blk_cell (blk_below (blk_below (blk_below (W := W0.drew) HU0 hb1) hb2) hb3) 1 rfl, blk_cell (blk_below (blk_below (blk_below (W := W0.drew) HAb hb1) hb2) hb3) 0 rfl, blk_cell (blk_below (blk_below (blk_below (W := W0.drew) HAb hb1) hb2) hb3) 1 rfl, blk_cell (blk_below (blk_below (blk_below (W := W0.drew) HB0 hb1) hb2) hb3) 0 rfl, blk_cell (blk_below (blk_below (blk_below (W := W0.drew) HB0 hb1) hb2) hb3) 1 rfl⟩ (fun hHeld => ?_)
      clear hK K
      refine norm_ (a' := ?_) ?_ ?_
      rotate_left
      ·show Act.put _ (some 34) _ = _
       simp only [Act.put, sA, sB, sC, i64_w, i32_w]; rfl
      refine one_ (i := 21) (N := some 38) #[J,J,J,J,J,J,J,J,J,J,J,J,J,J,J,J,J,J,J,J,J,J,Z,Z,Z,Z,Z,Z,Z,Z,Z] rfl rfl (by kernel_rfl) (by decide) (fun K hK => ?_)
      refine goes_ Tryz.func113 (by kernel_rfl) rfl #[ptA v, ptA u, ptA (turnL u v (l.take k))] (by rfl) rfl rfl (by simp only [List.map_toArray, List.map_cons, List.map_nil]; rfl) ?_
      with_reducible refine (C2.out _).mono ?_
      rintro e w4 ⟨rfl, hb4⟩
      refine ⟨_, rfl, ?_⟩
      refine hK.out _ _ ⟨blk_cell (blk_below (blk_below (blk_below (blk_below (W := W0.drew) HV0 hb1) hb2) hb3) hb4) 0 rfl, blk_cell (blk_below (blk_below (blk_below (blk_below (W := W0.drew) HV0 hb1) hb2) hb3) hb4) 1 rfl, blk_cell (blk_below (blk_below (blk_below (blk_below (W := W0.drew) HU0 hb1) hb2) hb3) hb4) 0 rfl, blk_cell (blk_below (blk_below (blk_below (blk_below (W := W0.drew) HU0 hb1) hb2) hb3) hb4) 1 rfl, blk_cell (blk_below (blk_below (blk_below (blk_below (W := W0.drew) HAb hb1) hb2) hb3) hb4) 0 rfl, blk_cell (blk_below (blk_below (blk_below (blk_below (W := W0.drew) HAb hb1) hb2) hb3) hb4) 1 rfl, blk_cell (blk_below (blk_below (blk_below (blk_below (W := W0.drew) HB0 hb1) hb2) hb3) hb4) 0 rfl, blk_cell (blk_below (blk_below (blk_below (blk_below (W := W0.drew) HB0 hb1) hb2) hb3) hb4) 1 rfl⟩ (fun hHeld => ?_)
      clear hK K
      refine norm_ (a' := ?_) ?_ ?_
      rotate_left
      ·show Act.put _ (some 38) _ = _
       simp only [Act.put, sA, sB, sC, i64_w, i32_w]; rfl
      refine pure_ (i := 22) (N := some 39) (v := ?_) (a' := ?_) #[J,J,J,J,J,J,J,J,J,J,J,J,J,J,J,J,J,J,J,J,J,J,J,Z,Z,Z,Z,Z,Z,Z,Z] rfl rfl (by kernel_rfl) (fun _ _ _ h => h) (Or.inl ⟨by rfl, ?_⟩) ?_ ?_
      rotate_left
      ·intro w'; go_simp; with_reducible rfl
      rotate_left
      ·simp only [Act.put, sA, sB, sC, i64_w, i32_w]; rfl
      refine pure_ (i := 23) (N := some 40) (v := ?_) (a' := ?_) #[J,J,J,J,J,J,J,J,J,J,J,J,J,J,J,J,J,J,J,J,J,J,J,J,Z,Z,Z,Z,Z,Z,Z] rfl rfl (by kernel_rfl) (fun _ _ _ h => h) (Or.inl ⟨by rfl, ?_⟩) ?_ ?_
      rotate_left
      ·intro w'; go_simp; with_reducible rfl
      rotate_left
      ·simp only [Act.put, sA, sB, sC, i64_w, i32_w]; rfl
      refine pure_ (i := 24) (N := some 41) (v := undef) (a' := ?_) #[J,J,J,J,J,J,J,J,J,J,J,J,J,J,J,J,J,J,J,J,J,J,J,J,J,Z,Z,Z,Z,Z,Z] rfl rfl (by kernel_rfl) (fun _ _ _ h => h) (Or.inr ⟨by rfl, rfl⟩) ?_ ?_
      rotate_left
      ·simp only [Act.put, sA, sB, sC, i64_w, i32_w]; rfl
      refine pure_ (i := 25) (N := some 42) (v := undef) (a' := ?_) #[J,J,J,J,J,J,J,J,J,J,J,J,J,J,J,J,J,J,J,J,J,J,J,J,J,J,Z,Z,Z,Z,Z] rfl rfl (by kernel_rfl) (fun _ _ _ h => h) (Or.inr ⟨by rfl, rfl⟩) ?_ ?_
      rotate_left
      ·simp only [Act.put, sA, sB, sC, i64_w, i32_w]; rfl
      refine pure_ (i := 26) (N := some 43) (v := undef) (a' := ?_) #[J,J,J,J,J,J,J,J,J,J,J,J,J,J,J,J,J,J,J,J,J,J,J,J,J,J,J,Z,Z,Z,Z] rfl rfl (by kernel_rfl) (fun _ _ _ h => h) (Or.inr ⟨by rfl, rfl⟩) ?_ ?_
      rotate_left
      ·simp only [Act.put, sA, sB, sC, i64_w, i32_w]; rfl
      refine pure_ (i := 27) (N := some 44) (v := undef) (a' := ?_) #[J,J,J,J,J,J,J,J,J,J,J,J,J,J,J,J,J,J,J,J,J,J,J,J,J,J,J,J,Z,Z,Z] rfl rfl (by kernel_rfl) (fun _ _ _ h => h) (Or.inr ⟨by rfl, rfl⟩) ?_ ?_
      rotate_left
      ·simp only [Act.put, sA, sB, sC, i64_w, i32_w]; rfl
      refine pure_ (i := 28) (N := some 45) (v := undef) (a' := ?_) #[J,J,J,J,J,J,J,J,J,J,J,J,J,J,J,J,J,J,J,J,J,J,J,J,J,J,J,J,J,Z,Z] rfl rfl (by kernel_rfl) (fun _ _ _ h => h) (Or.inr ⟨by rfl, rfl⟩) ?_ ?_
      rotate_left
      ·simp only [Act.put, sA, sB, sC, i64_w, i32_w]; rfl
      refine pure_ (i := 29) (N := some 46) (v := ?_) (a' := ?_) #[J,J,J,J,J,J,J,J,J,J,J,J,J,J,J,J,J,J,J,J,J,J,J,J,J,J,J,J,J,J,Z] rfl rfl (by kernel_rfl) (fun _ _ _ h => h) (Or.inl ⟨by rfl, ?_⟩) ?_ ?_
      rotate_left
      ·intro w'; go_simp; with_reducible rfl
      rotate_left
      ·simp only [Act.put, sA, sB, sC, i64_w, i32_w]; rfl
      refine pure_ (i := 30) (N := some 47) (v := ?_) (a' := ?_) #[J,J,J,J,J,J,J,J,J,J,J,J,J,J,J,J,J,J,J,J,J,J,J,J,J,J,J,J,J,J,J] rfl rfl (by kernel_rfl) (fun _ _ _ h => h) (Or.inl ⟨by rfl, ?_⟩) ?_ ?_
      rotate_left
      ·intro w'; go_simp; with_reducible rfl
      rotate_left
      ·simp only [Act.put, sA, sB, sC, i64_w, i32_w]; rfl
      refine done_ (by kernel_rfl) ?_
      have HV9 := (blk_below (blk_below (blk_below (blk_below (W := W0.drew) HV0 hb1) hb2) hb3) hb4)
      have HU9 := (blk_below (blk_below (blk_below (blk_below (W := W0.drew) HU0 hb1) hb2) hb3) hb4)
      have HA9 := (blk_below (blk_below (blk_below (blk_below (W := W0.drew) HAb hb1) hb2) hb3) hb4)
      have HT9 := (blk_below (blk_below (blk_below (blk_below (W := W0.drew) HB0 hb1) hb2) hb3) hb4)
      have HZ9 := (blk_below (blk_below (blk_below (blk_below (W := W0.drew) H00 hb1) hb2) hb3) hb4)
      have BW9 : Hid (Below w.heap.size w _) := (below_step (below_step (below_step (below_step (below_drew BW0.out) hb1) hb2) hb3) hb4)
      clear vc0 vc1 uc0 uc1 ac0 ac1 bc0 bc1
      go_wp2
      go_roundw
      case rel => exact ⟨k + 1, by omega, by go_num, HU9, HV9, HZ9, by rw [HT2.out]; exact HT9, BW9.out⟩
      case measure => simp [intOf]; omega
  ·obtain rfl : k = l.length := by omega
   rw [List.take_length] at HBe
   have hc0 := blk_cell HBe 0 rfl
   have hc1 := blk_cell HBe 1 rfl
   have hf0 := blk_free H0 0
   have hf1 := blk_free H0 1
   have hg0 := blk_cell H0 0 rfl
   have hg1 := blk_cell H0 1 rfl
   go_wp2
   exact bodyPost_ret (v := .agg #[.int .i64 (turnL u v l).1, .int .i64 (turnL u v l).2]) (by simp [results, Tryz.results89]; go_simp) rfl ⟨rfl, below_set2 (by show _ ≤ w.heap.size + 1 + 1; omega) (below_set2 (by show _ ≤ w.heap.size + 1 + 1; omega) HB.out)⟩
end
end Go.Proofs.YtlmjciajpjdilaaGreat
