/- Contract of trace.crossings: how many segments cross a ray. -/
import Derived.Test.YtlmjciajpjdilaaGreatKR2
namespace Go.Proofs.YtlmjciajpjdilaaGreat
set_option linter.unusedVariables false
set_option linter.unusedSimpArgs false
section
open Go.RowKit Go.Proofs.YtlmjciajpjdilaaGreatW.PrintLast

attribute [local go_sem high] eqPt eqSg
theorem mul_bd2 {a b : Int} (h1 : -65535 ≤ a) (h2 : a ≤ 65535) (h3 : -65535 ≤ b) (h4 : b ≤ 65535) : -4294836225 ≤ a * b ∧ a * b ≤ 4294836225 := by
 have h : (a * b).natAbs ≤ 65535 * 65535 := by rw [Int.natAbs_mul]; exact Nat.mul_le_mul (by omega) (by omega)
 omega
theorem wr_in {x : Int} (h1 : -1000000000000 ≤ x) (h2 : x ≤ 1000000000000) : IntKind.i64.wrap x = x := IntWalk.i64_in _ (by omega)
theorem crossN_snoc (u : Sgs) (m : Pt) (but : Sg) (k : Nat) (h : k < u.length) : crossN (u.take (k + 1)) m but = crossN (u.take k) m but + (if rayB m but (sgD u k) = true then 1 else 0) := by
 unfold crossN
 rw [take_snoc u k ((0, 0), (0, 0)) h, List.countP_append, List.countP_singleton]
 rfl
theorem rayB_of (m1 m2 : Int) (but s : Sg) (l1 l2 h1 h2 : Int) (e : (if s.1.2 > s.2.2 then s.2 else s.1) = (l1, l2) ∧ (if s.1.2 > s.2.2 then s.1 else s.2) = (h1, h2)) :
  rayB (m1, m2) but s = (!(decide (s = but) || (decide (2 * l2 > m2) || decide (2 * h2 ≤ m2))) && decide ((h1 - l1) * (m2 - 2 * l2) - (h2 - l2) * (m1 - 2 * l1) > 0)) := by
 unfold rayB
 rw [e.1, e.2]
def segsV (u : Sgs) : Prop := ∀ s ∈ u, (validB s.1 && validB s.2) = true
set_option maxRecDepth 100000 in
set_option maxHeartbeats 2000000 in
theorem trace_crossings {ok : Nat → Prop} (u : Sgs) (A : Option Addr) (n c : Nat) (m1 m2 b1 b2 b3 b4 : Int) (w : World) (hr : Row Ty.sg ok w A u) (hn : n = u.length) (hv : segsV u) (hm1 : 0 ≤ m1 ∧ m1 ≤ 65535) (hm2 : 0 ≤ m2 ∧ m2 ≤ 65535) :
  Calls Tryz.prog 40 #[.slice A n c, .agg #[.int .i64 m1, .int .i64 m2], .agg #[.int .i64 b1, .int .i64 b2, .int .i64 b3, .int .i64 b4]] w fun e w' => e = .returned (.int .i64 (crossN u (m1, m2) ((b1, b2), (b3, b4)))) ∧ Below w.heap.size w w' := by
 subst hn
 have HR := Lib.hid hr
 have HV := Lib.hid hv
 have hmx := hr.len
 clear hr hv
 go_enter Tryz.func40, Tryz.ntmps40
 go_wp2
 go_loopw [7, 14] (fun nv iv wr => ∃ k : Nat, k ≤ u.length ∧ iv = .int .i64 k ∧ nv = .int .i64 (crossN (u.take k) (m1, m2) ((b1, b2), (b3, b4)) : Nat) ∧ wr.heap[w.heap.size]? = some (.cells #[.int .i64 m1, .int .i64 m2] 24 (0, 0)) ∧
  wr.heap[w.heap.size + 1]? = some (.cells #[.int .i64 b1, .int .i64 b2, .int .i64 b3, .int .i64 b4] 32 (0, 0)) ∧ Hid (Below w.heap.size w wr)) (fun _ i _ => u.length - (intOf i).toNat)
 case atStart => exact ⟨0, Nat.zero_le _, rfl, rfl, (two_alloc w _ _).1, (two_alloc w _ _).2, below_alloc (below_alloc (Below.refl _ _) _) _⟩
 case round =>
  obtain ⟨k, hk, rfl, rfl, HM, HU, HB⟩ := hrel
  by_cases hlt : k < u.length
  ·have HRk := Lib.hid (HR.out.below HB.out)
   obtain ⟨ad, rfl, hx0, hx1, hx2, hx3⟩ := HRk.out.sg_at k hlt
   have hvs := HV.out (sgD u k) (by rw [sgD_eq hlt]; exact List.getElem_mem hlt)
   have HS := Lib.hid (crossN_snoc u (m1, m2) ((b1, b2), (b3, b4)) k hlt)
   obtain ⟨s, hs⟩ : ∃ s, s = sgD u k := ⟨_, rfl⟩
   rw [← hs] at hx0 hx1 hx2 hx3 HS hvs
   clear hs HRk
   obtain ⟨⟨a1, a2⟩, ⟨a3, a4⟩⟩ := s
   simp only at hx0 hx1 hx2 hx3 hvs
   rw [Bool.and_eq_true] at hvs
   obtain ⟨v1, v2, v3, v4⟩ := valid_bd hvs.1
   obtain ⟨v5, v6, v7, v8⟩ := valid_bd hvs.2
   simp only at v1 v2 v3 v4 v5 v6 v7 v8
   clear hvs
   have hsz := lt_of_block HU
   have hcb : crossN (u.take k) (m1, m2) ((b1, b2), (b3, b4)) ≤ k := by unfold crossN; exact Nat.le_trans List.countP_le_length (by rw [List.length_take]; omega)
   generalize crossN (u.take k) (m1, m2) ((b1, b2), (b3, b4)) = cn at *
   go_wp2_with fail
   obtain ⟨W0, hW0⟩ : ∃ W0, W0 = wr.alloc (.cells #[.int .i64 a1, .int .i64 a2, .int .i64 a3, .int .i64 a4] 32) := ⟨_, rfl⟩
   have HA : W0.heap[wr.heap.size]? = some (.cells #[.int .i64 a1, .int .i64 a2, .int .i64 a3, .int .i64 a4] 32 (0, 0)) := by rw [hW0]; exact heap_alloc_new _ _
   have HM0 : W0.heap[w.heap.size]? = some (.cells #[.int .i64 m1, .int .i64 m2] 24 (0, 0)) := by rw [hW0]; exact blk_alloc HM _
   have HU0 : W0.heap[w.heap.size + 1]? = some (.cells #[.int .i64 b1, .int .i64 b2, .int .i64 b3, .int .i64 b4] 32 (0, 0)) := by rw [hW0]; exact blk_alloc HU _
   have HB0 : Below wr.heap.size wr W0 := by rw [hW0]; exact below_alloc (Below.refl _ _) _
   rw [← hW0]
   clear hW0 hx0 hx1 hx2 hx3
   refine start_ (n := 8) (S := fun w' => w'.cell? ⟨wr.heap.size, 0, none⟩ = some (.int .i64 a1) ∧ w'.cell? ⟨wr.heap.size, 1, none⟩ = some (.int .i64 a2) ∧ w'.cell? ⟨wr.heap.size, 2, none⟩ = some (.int .i64 a3) ∧ w'.cell? ⟨wr.heap.size, 3, none⟩ = some (.int .i64 a4)) (ds := [7]) #[Z,Z,Z,Z,Z,Z,Z,Z] (by kernel_rfl) rfl rfl ⟨blk_cell HA 0 rfl, blk_cell HA 1 rfl, blk_cell HA 2 rfl, blk_cell HA 3 rfl⟩ (fun hHeld => ?_)
   refine pure_ (i := 0) (N := some 18) (v := ?_) (a' := ?_) #[J,Z,Z,Z,Z,Z,Z,Z] rfl rfl (by kernel_rfl) (fun _ _ _ h => h) (Or.inl ⟨by rfl, ?_⟩) ?_ ?_
   rotate_left
   ·intro w'; go_simp; with_reducible rfl
   rotate_left
   ·simp only [Act.put, sA, sB, sC, i64_w, i32_w]; rfl
   refine pure_ (i := 2) (N := some 20) (v := ?_) (a' := ?_) #[J,Z,J,Z,Z,Z,Z,Z] rfl rfl (by kernel_rfl) (fun _ _ _ h => h) (Or.inl ⟨by rfl, ?_⟩) ?_ ?_
   rotate_left
   ·intro w'; go_simp; with_reducible rfl
   rotate_left
   ·simp only [Act.put, sA, sB, sC, i64_w, i32_w]; rfl
   refine take_ (i := 1) (N := some 19) (v := ?_) (a' := ?_) #[J,J,J,Z,Z,Z,Z,Z] rfl rfl (by kernel_rfl) (fun _ _ _ h => h) (Or.inl ⟨by rfl, ?_⟩) hHeld ?_ ?_
   rotate_left
   ·rintro w' ⟨s0, s1, s2, s3⟩; go_simp; with_reducible rfl
   rotate_left
   ·simp only [Act.put, sA, sB, sC, i64_w, i32_w]; rfl
   refine take_ (i := 3) (N := some 21) (v := ?_) (a' := ?_) #[J,J,J,J,Z,Z,Z,Z] rfl rfl (by kernel_rfl) (fun _ _ _ h => h) (Or.inl ⟨by rfl, ?_⟩) hHeld ?_ ?_
   rotate_left
   ·rintro w' ⟨s0, s1, s2, s3⟩; go_simp; with_reducible rfl
   rotate_left
   ·simp only [Act.put, sA, sB, sC, i64_w, i32_w]; rfl
   refine join_ (σ := Nat × Nat) 2 #[J,J,J,J,J,J,Z,Z] (fun s => [(10, .pointer (some ⟨s.1, 0, none⟩)), (11, .pointer (some ⟨s.2, 0, none⟩))]) (fun s w' => W0.heap.size ≤ s.1 ∧ W0.heap.size ≤ s.2 ∧ s.1 ≠ s.2 ∧ w'.heap[s.1]? = some (.cells #[.int .i64 0, .int .i64 0] 24 (0, 0)) ∧ w'.heap[s.2]? = some (.cells #[.int .i64 0, .int .i64 0] 24 (0, 0)) ∧ Below W0.heap.size W0 w') ?_ ?_
   rotate_left
   ·intro hCont
    refine two_ (i := 4) (j := 5) (Ni := some 10) (Nj := some 11) #[J,J,J,J,J,Z,Z,Z] #[J,J,J,J,Z,J,Z,Z] rfl rfl rfl rfl (by kernel_rfl) (by decide) (by decide) (fun K hK => ?_) (fun K hK => ?_)
    ·skip
     refine value_ (w1 := ?_) (v := ?_) (by rfl) rfl ?_ ?_
     rotate_left 2
     ·go_simp
      constructor
      ·rfl
      ·rfl
     refine hK.out _ _ ⟨blk_cell (blk_alloc HA _) 0 rfl, blk_cell (blk_alloc HA _) 1 rfl, blk_cell (blk_alloc HA _) 2 rfl, blk_cell (blk_alloc HA _) 3 rfl⟩ (fun hHeld => ?_)
     clear hK K
     refine norm_ (a' := ?_) ?_ ?_
     rotate_left
     ·show Act.put _ (some 10) _ = _
      simp only [Act.put, sA, sB, sC, i64_w, i32_w]; rfl
     refine one_ (i := 5) (N := some 11) #[J,J,J,J,J,J,Z,Z] rfl rfl (by kernel_rfl) (by decide) (fun K hK => ?_)
     refine value_ (w1 := ?_) (v := ?_) (by rfl) rfl ?_ ?_
     rotate_left 2
     ·go_simp
      constructor
      ·rfl
      ·rfl
     refine hK.out _ _ ⟨blk_cell (blk_alloc (blk_alloc HA _) _) 0 rfl, blk_cell (blk_alloc (blk_alloc HA _) _) 1 rfl, blk_cell (blk_alloc (blk_alloc HA _) _) 2 rfl, blk_cell (blk_alloc (blk_alloc HA _) _) 3 rfl⟩ (fun hHeld => ?_)
     clear hK K
     refine norm_ (a' := ?_) ?_ ?_
     rotate_left
     ·show Act.put _ (some 11) _ = _
      simp only [Act.put, sA, sB, sC, i64_w, i32_w]; rfl
     exact norm_ (by simp only [putAll, Act.put, List.setIfInBounds_toArray, List.set_cons_zero, List.set_cons_succ]) (hCont (W0.heap.size, W0.heap.size + 1) _ ⟨Nat.le_refl _, Nat.le_succ _, by simp, (two_alloc W0.drew _ _).1, (two_alloc W0.drew _ _).2, below_alloc (below_alloc (below_drew (Below.refl _ _)) _) _⟩)
    ·skip
     refine value_ (w1 := ?_) (v := ?_) (by rfl) rfl ?_ ?_
     rotate_left 2
     ·go_simp
      constructor
      ·rfl
      ·rfl
     refine hK.out _ _ ⟨blk_cell (blk_alloc HA _) 0 rfl, blk_cell (blk_alloc HA _) 1 rfl, blk_cell (blk_alloc HA _) 2 rfl, blk_cell (blk_alloc HA _) 3 rfl⟩ (fun hHeld => ?_)
     clear hK K
     refine norm_ (a' := ?_) ?_ ?_
     rotate_left
     ·show Act.put _ (some 11) _ = _
      simp only [Act.put, sA, sB, sC, i64_w, i32_w]; rfl
     refine one_ (i := 4) (N := some 10) #[J,J,J,J,J,J,Z,Z] rfl rfl (by kernel_rfl) (by decide) (fun K hK => ?_)
     refine value_ (w1 := ?_) (v := ?_) (by rfl) rfl ?_ ?_
     rotate_left 2
     ·go_simp
      constructor
      ·rfl
      ·rfl
     refine hK.out _ _ ⟨blk_cell (blk_alloc (blk_alloc HA _) _) 0 rfl, blk_cell (blk_alloc (blk_alloc HA _) _) 1 rfl, blk_cell (blk_alloc (blk_alloc HA _) _) 2 rfl, blk_cell (blk_alloc (blk_alloc HA _) _) 3 rfl⟩ (fun hHeld => ?_)
     clear hK K
     refine norm_ (a' := ?_) ?_ ?_
     rotate_left
     ·show Act.put _ (some 10) _ = _
      simp only [Act.put, sA, sB, sC, i64_w, i32_w]; rfl
     exact norm_ (by simp only [putAll, Act.put, List.setIfInBounds_toArray, List.set_cons_zero, List.set_cons_succ]) (hCont (W0.heap.size + 1, W0.heap.size) _ ⟨Nat.le_succ _, Nat.le_refl _, by simp, (two_alloc W0.drew _ _).2, (two_alloc W0.drew _ _).1, below_alloc (below_alloc (below_drew (Below.refl _ _)) _) _⟩)
   rintro ⟨p, q⟩ w1 ⟨hp, hq, hpq, hP, hQ, hW1⟩
   have hAp : ¬ wr.heap.size = p := by have := lt_of_block HA; omega
   have hAq : ¬ wr.heap.size = q := by have := lt_of_block HA; omega
   have hpqn : ¬ p = q := hpq
   have hqpn : ¬ q = p := fun e => hpq e.symm
   have hA1 := blk_below HA hW1
   have hHeld := And.intro (blk_cell hA1 0 rfl) (And.intro (blk_cell hA1 1 rfl) (And.intro (blk_cell hA1 2 rfl) (blk_cell hA1 3 rfl)))
   have pf0 := blk_free hP 0
   have pc0 := blk_cell hP 0 rfl
   have pf1 := blk_free hP 1
   have pc1 := blk_cell hP 1 rfl
   have qf0 := blk_free hQ 0
   have qc0 := blk_cell hQ 0 rfl
   have qf1 := blk_free hQ 1
   have qc1 := blk_cell hQ 1 rfl
   refine norm_ (a' := ?_) ?_ ?_
   rotate_left
   ·simp only [putAll, Act.put, List.setIfInBounds_toArray, List.set_cons_zero, List.set_cons_succ]
    rfl
   refine one_ (i := 6) (N := none) #[J,J,J,J,J,J,J,Z] rfl rfl (by kernel_rfl) (by decide) (fun K hK => ?_)
   refine skip_ (w1 := ?_) (by rfl) rfl ?_ ?_
   rotate_left
   ·go_simp
    rfl
   refine hK.out _ _ ⟨blk_cell (blk_far (blk_far hA1 hAp _) hAp _) 0 rfl, blk_cell (blk_far (blk_far hA1 hAp _) hAp _) 1 rfl, blk_cell (blk_far (blk_far hA1 hAp _) hAp _) 2 rfl, blk_cell (blk_far (blk_far hA1 hAp _) hAp _) 3 rfl⟩ (fun hHeld => ?_)
   clear hK K
   refine last_ (i := 7) (N := none) #[J,J,J,J,J,J,J,J] rfl rfl (by kernel_rfl) (by decide) (fun K hK => ?_)
   refine skip_ (w1 := ?_) (by rfl) rfl ?_ ?_
   rotate_left
   ·go_simp
    rfl
   refine hK.out _ _ ?_
   clear hK K
   refine done_ (by kernel_rfl) ?_
   clear hHeld pf0 pf1 qf0 qf1 pc0 pc1 qc0 qc1
   obtain ⟨W3, hW3⟩ : ∃ W3, W3 = (((w1.setCell ⟨p, 0, none⟩ (.int .i64 a1)).setCell ⟨p, 1, none⟩ (.int .i64 a2)).setCell ⟨q, 0, none⟩ (.int .i64 a3)).setCell ⟨q, 1, none⟩ (.int .i64 a4) := ⟨_, rfl⟩
   have HP : W3.heap[p]? = some (.cells #[(.int .i64 a1), (.int .i64 a2)] 24 (0, 0)) := by rw [hW3]; exact blk_far (blk_far (blk_set (blk_set hP _) _) hpqn _) hpqn _
   have HQ : W3.heap[q]? = some (.cells #[(.int .i64 a3), (.int .i64 a4)] 24 (0, 0)) := by rw [hW3]; exact blk_set (blk_set (blk_far (blk_far hQ hqpn _) hqpn _) _) _
   have HA3 : W3.heap[wr.heap.size]? = some (.cells #[(.int .i64 a1), (.int .i64 a2), (.int .i64 a3), (.int .i64 a4)] 32 (0, 0)) := by rw [hW3]; exact blk_far (blk_far (blk_far (blk_far hA1 hAp _) hAp _) hAq _) hAq _
   have hbp : ¬ w.heap.size = p := by have := lt_of_block HM0; omega
   have hbq : ¬ w.heap.size = q := by have := lt_of_block HM0; omega
   have HM03 : W3.heap[w.heap.size]? = some (.cells #[.int .i64 m1, .int .i64 m2] 24 (0, 0)) := by rw [hW3]; exact blk_far (blk_far (blk_far (blk_far (blk_below HM0 hW1) hbp _) hbp _) hbq _) hbq _
   clear hbp hbq
   have hbp : ¬ w.heap.size + 1 = p := by have := lt_of_block HU0; omega
   have hbq : ¬ w.heap.size + 1 = q := by have := lt_of_block HU0; omega
   have HU03 : W3.heap[w.heap.size + 1]? = some (.cells #[.int .i64 b1, .int .i64 b2, .int .i64 b3, .int .i64 b4] 32 (0, 0)) := by rw [hW3]; exact blk_far (blk_far (blk_far (blk_far (blk_below HU0 hW1) hbp _) hbp _) hbq _) hbq _
   clear hbp hbq
   have HB3 : Below W0.heap.size W0 W3 := by rw [hW3]; exact below_set2 hq (below_set2 hq (below_set2 hp (below_set2 hp hW1)))
   rw [← hW3]
   clear hP hQ hA1 hW1 hAp hAq hW3
   have hs0 := lt_of_block HU0
   have hs1 := lt_of_block HA
   have HBr : Hid (Below w.heap.size w W3) := below_step HB.out (below_step HB0 HB3)
   clear HB HB0 HB3
   have pc0 := blk_cell HP 0 rfl
   have pc1 := blk_cell HP 1 rfl
   have qc0 := blk_cell HQ 0 rfl
   have qc1 := blk_cell HQ 1 rfl
   have ac0 := blk_cell HA3 0 rfl
   have ac1 := blk_cell HA3 1 rfl
   have ac2 := blk_cell HA3 2 rfl
   have ac3 := blk_cell HA3 3 rfl
   have mc0 := blk_cell HM03 0 rfl
   have mc1 := blk_cell HM03 1 rfl
   have uc0 := blk_cell HU03 0 rfl
   have uc1 := blk_cell HU03 1 rfl
   have uc2 := blk_cell HU03 2 rfl
   have uc3 := blk_cell HU03 3 rfl
   have pf0 := blk_free HP 0
   have pf1 := blk_free HP 1
   have qf0 := blk_free HQ 0
   have qf1 := blk_free HQ 1
   by_cases hsw : a2 > a4
   ·have q0 : decide (a4 < a2) = true := decide_eq_true hsw
    have hwp : w.heap.size + 1 < p := by omega
    have hwq : w.heap.size + 1 < q := by omega
    have hrp : wr.heap.size < p := by omega
    have hrq : wr.heap.size < q := by omega
    have hHMp : ¬ w.heap.size = p := by omega
    have hHMq : ¬ w.heap.size = q := by omega
    have HM3 : Hid (((((W3.setCell ⟨p, 0, none⟩ (.int .i64 a3)).setCell ⟨p, 1, none⟩ (.int .i64 a4)).setCell ⟨q, 0, none⟩ (.int .i64 a1)).setCell ⟨q, 1, none⟩ (.int .i64 a2)).heap[w.heap.size]? = some (.cells #[.int .i64 m1, .int .i64 m2] 24 (0, 0))) := blk_far (blk_far (blk_far (blk_far HM03 hHMp _) hHMp _) hHMq _) hHMq _
    have hHUp : ¬ w.heap.size + 1 = p := by omega
    have hHUq : ¬ w.heap.size + 1 = q := by omega
    have HU3 : Hid (((((W3.setCell ⟨p, 0, none⟩ (.int .i64 a3)).setCell ⟨p, 1, none⟩ (.int .i64 a4)).setCell ⟨q, 0, none⟩ (.int .i64 a1)).setCell ⟨q, 1, none⟩ (.int .i64 a2)).heap[w.heap.size + 1]? = some (.cells #[.int .i64 b1, .int .i64 b2, .int .i64 b3, .int .i64 b4] 32 (0, 0))) := blk_far (blk_far (blk_far (blk_far HU03 hHUp _) hHUp _) hHUq _) hHUq _
    have hHAp : ¬ wr.heap.size = p := by omega
    have hHAq : ¬ wr.heap.size = q := by omega
    have HBs : Hid (Below w.heap.size w ((((W3.setCell ⟨p, 0, none⟩ (.int .i64 a3)).setCell ⟨p, 1, none⟩ (.int .i64 a4)).setCell ⟨q, 0, none⟩ (.int .i64 a1)).setCell ⟨q, 1, none⟩ (.int .i64 a2))) := below_set2 (by show _ ≤ q; omega) (below_set2 (by show _ ≤ q; omega) (below_set2 (by show _ ≤ p; omega) (below_set2 (by show _ ≤ p; omega) HBr.out)))
    clear HBr
    have HBr := HBs
    clear HBs HM03 HU03 HP HQ HA3
    have HE := Lib.hid (rayB_of m1 m2 ((b1, b2), (b3, b4)) ((a1, a2), (a3, a4)) a3 a4 a1 a2 ⟨if_pos hsw, if_pos hsw⟩)
    clear hsw
    by_cases t1 : (((a1, a2), (a3, a4)) : Sg) = ((b1, b2), (b3, b4))
    ·have q1 := (sgB ((a1, a2), (a3, a4)) ((b1, b2), (b3, b4))).trans (decide_eq_true t1)
     have HC : Hid (crossN (u.take (k + 1)) (m1, m2) ((b1, b2), (b3, b4)) = cn) := by show _ = _; rw [HS.out, HE.out, decide_eq_true t1]; simp
     clear HE HS t1
     go_wp2
     go_roundw
     case rel => exact ⟨k + 1, by omega, by go_num, by rw [HC.out], HM3.out, HU3.out, HBr⟩
     case measure => simp [intOf]; omega
    ·have q1 := (sgB ((a1, a2), (a3, a4)) ((b1, b2), (b3, b4))).trans (decide_eq_false t1)
     have w2 := wr_in (x := 2 * a4) (by omega) (by omega)
     have w3 := wr_in (x := 2 * a2) (by omega) (by omega)
     by_cases t2 : m2 < 2 * a4
     ·have q2 : decide (m2 < 2 * a4) = true := decide_eq_true t2
      have HC : Hid (crossN (u.take (k + 1)) (m1, m2) ((b1, b2), (b3, b4)) = cn) := by show _ = _; rw [HS.out, HE.out, decide_eq_true (show 2 * a4 > m2 from t2)]; simp
      clear HE HS t1 t2
      go_wp2
      go_roundw
      case rel => exact ⟨k + 1, by omega, by go_num, by rw [HC.out], HM3.out, HU3.out, HBr⟩
      case measure => simp [intOf]; omega
     ·have q2 : decide (m2 < 2 * a4) = false := decide_eq_false t2
      by_cases t3 : 2 * a2 ≤ m2
      ·have q3 : decide (2 * a2 ≤ m2) = true := decide_eq_true t3
       have HC : Hid (crossN (u.take (k + 1)) (m1, m2) ((b1, b2), (b3, b4)) = cn) := by show _ = _; rw [HS.out, HE.out, q3]; simp
       clear HE HS t1 t2 t3
       go_wp2
       go_roundw
       case rel => exact ⟨k + 1, by omega, by go_num, by rw [HC.out], HM3.out, HU3.out, HBr⟩
       case measure => simp [intOf]; omega
      ·have q3 : decide (2 * a2 ≤ m2) = false := decide_eq_false t3
       have w4 := wr_in (x := a1 - a3) (by omega) (by omega)
       have w5 := wr_in (x := m2 - 2 * a4) (by omega) (by omega)
       have w6 := wr_in (x := a2 - a4) (by omega) (by omega)
       have w7 := wr_in (x := 2 * a3) (by omega) (by omega)
       have w8 := wr_in (x := m1 - 2 * a3) (by omega) (by omega)
       have d1 := mul_bd2 (a := a1 - a3) (b := m2 - 2 * a4) (by omega) (by omega) (by omega) (by omega)
       have d2 := mul_bd2 (a := a2 - a4) (b := m1 - 2 * a3) (by omega) (by omega) (by omega) (by omega)
       have w9 := wr_in (x := (a1 - a3) * (m2 - 2 * a4)) (by omega) (by omega)
       have w10 := wr_in (x := (a2 - a4) * (m1 - 2 * a3)) (by omega) (by omega)
       have w11 := wr_in (x := (a1 - a3) * (m2 - 2 * a4) - (a2 - a4) * (m1 - 2 * a3)) (by omega) (by omega)
       clear d1 d2
       by_cases t4 : (a2 - a4) * (m1 - 2 * a3) < (a1 - a3) * (m2 - 2 * a4)
       ·have q4 : decide ((a2 - a4) * (m1 - 2 * a3) < (a1 - a3) * (m2 - 2 * a4)) = true := decide_eq_true t4
        have HC : Hid (crossN (u.take (k + 1)) (m1, m2) ((b1, b2), (b3, b4)) = cn + 1) := by show _ = _; rw [HS.out, HE.out, decide_eq_false t1, decide_eq_false (show ¬ 2 * a4 > m2 from t2), q3]; show cn + (if (true && decide ((a1 - a3) * (m2 - 2 * a4) - (a2 - a4) * (m1 - 2 * a3) > 0)) = true then 1 else 0) = _; rw [show decide ((a1 - a3) * (m2 - 2 * a4) - (a2 - a4) * (m1 - 2 * a3) > 0) = true from decide_eq_true (by omega)]; rfl
        clear HE HS t1 t2 t3 t4
        go_wp2
        go_roundw
        case rel => exact ⟨k + 1, by omega, by go_num, by rw [HC.out]; go_num, HM3.out, HU3.out, HBr⟩
        case measure => simp [intOf]; omega
       ·have q4 : decide ((a2 - a4) * (m1 - 2 * a3) < (a1 - a3) * (m2 - 2 * a4)) = false := decide_eq_false t4
        have HC : Hid (crossN (u.take (k + 1)) (m1, m2) ((b1, b2), (b3, b4)) = cn) := by show _ = _; rw [HS.out, HE.out, decide_eq_false t1, decide_eq_false (show ¬ 2 * a4 > m2 from t2), q3]; show cn + (if (true && decide ((a1 - a3) * (m2 - 2 * a4) - (a2 - a4) * (m1 - 2 * a3) > 0)) = true then 1 else 0) = _; rw [show decide ((a1 - a3) * (m2 - 2 * a4) - (a2 - a4) * (m1 - 2 * a3) > 0) = false from decide_eq_false (by omega)]; rfl
        clear HE HS t1 t2 t3 t4
        go_wp2
        go_roundw
        case rel => exact ⟨k + 1, by omega, by go_num, by rw [HC.out], HM3.out, HU3.out, HBr⟩
        case measure => simp [intOf]; omega
   ·have q0 : decide (a4 < a2) = false := decide_eq_false hsw
    clear pf0 pf1 qf0 qf1
    have HM3 := HM03
    have HU3 := HU03
    clear HM03 HU03 HP HQ HA3
    have HE := Lib.hid (rayB_of m1 m2 ((b1, b2), (b3, b4)) ((a1, a2), (a3, a4)) a1 a2 a3 a4 ⟨if_neg hsw, if_neg hsw⟩)
    clear hsw
    by_cases t1 : (((a1, a2), (a3, a4)) : Sg) = ((b1, b2), (b3, b4))
    ·have q1 := (sgB ((a1, a2), (a3, a4)) ((b1, b2), (b3, b4))).trans (decide_eq_true t1)
     have HC : Hid (crossN (u.take (k + 1)) (m1, m2) ((b1, b2), (b3, b4)) = cn) := by show _ = _; rw [HS.out, HE.out, decide_eq_true t1]; simp
     clear HE HS t1
     go_wp2
     go_roundw
     case rel => exact ⟨k + 1, by omega, by go_num, by rw [HC.out], HM3, HU3, HBr⟩
     case measure => simp [intOf]; omega
    ·have q1 := (sgB ((a1, a2), (a3, a4)) ((b1, b2), (b3, b4))).trans (decide_eq_false t1)
     have w2 := wr_in (x := 2 * a2) (by omega) (by omega)
     have w3 := wr_in (x := 2 * a4) (by omega) (by omega)
     by_cases t2 : m2 < 2 * a2
     ·have q2 : decide (m2 < 2 * a2) = true := decide_eq_true t2
      have HC : Hid (crossN (u.take (k + 1)) (m1, m2) ((b1, b2), (b3, b4)) = cn) := by show _ = _; rw [HS.out, HE.out, decide_eq_true (show 2 * a2 > m2 from t2)]; simp
      clear HE HS t1 t2
      go_wp2
      go_roundw
      case rel => exact ⟨k + 1, by omega, by go_num, by rw [HC.out], HM3, HU3, HBr⟩
      case measure => simp [intOf]; omega
     ·have q2 : decide (m2 < 2 * a2) = false := decide_eq_false t2
      by_cases t3 : 2 * a4 ≤ m2
      ·have q3 : decide (2 * a4 ≤ m2) = true := decide_eq_true t3
       have HC : Hid (crossN (u.take (k + 1)) (m1, m2) ((b1, b2), (b3, b4)) = cn) := by show _ = _; rw [HS.out, HE.out, q3]; simp
       clear HE HS t1 t2 t3
       go_wp2
       go_roundw
       case rel => exact ⟨k + 1, by omega, by go_num, by rw [HC.out], HM3, HU3, HBr⟩
       case measure => simp [intOf]; omega
      ·have q3 : decide (2 * a4 ≤ m2) = false := decide_eq_false t3
       have w4 := wr_in (x := a3 - a1) (by omega) (by omega)
       have w5 := wr_in (x := m2 - 2 * a2) (by omega) (by omega)
       have w6 := wr_in (x := a4 - a2) (by omega) (by omega)
       have w7 := wr_in (x := 2 * a1) (by omega) (by omega)
       have w8 := wr_in (x := m1 - 2 * a1) (by omega) (by omega)
       have d1 := mul_bd2 (a := a3 - a1) (b := m2 - 2 * a2) (by omega) (by omega) (by omega) (by omega)
       have d2 := mul_bd2 (a := a4 - a2) (b := m1 - 2 * a1) (by omega) (by omega) (by omega) (by omega)
       have w9 := wr_in (x := (a3 - a1) * (m2 - 2 * a2)) (by omega) (by omega)
       have w10 := wr_in (x := (a4 - a2) * (m1 - 2 * a1)) (by omega) (by omega)
       have w11 := wr_in (x := (a3 - a1) * (m2 - 2 * a2) - (a4 - a2) * (m1 - 2 * a1)) (by omega) (by omega)
       clear d1 d2
       by_cases t4 : (a4 - a2) * (m1 - 2 * a1) < (a3 - a1) * (m2 - 2 * a2)
       ·have q4 : decide ((a4 - a2) * (m1 - 2 * a1) < (a3 - a1) * (m2 - 2 * a2)) = true := decide_eq_true t4
        have HC : Hid (crossN (u.take (k + 1)) (m1, m2) ((b1, b2), (b3, b4)) = cn + 1) := by show _ = _; rw [HS.out, HE.out, decide_eq_false t1, decide_eq_false (show ¬ 2 * a2 > m2 from t2), q3]; show cn + (if (true && decide ((a3 - a1) * (m2 - 2 * a2) - (a4 - a2) * (m1 - 2 * a1) > 0)) = true then 1 else 0) = _; rw [show decide ((a3 - a1) * (m2 - 2 * a2) - (a4 - a2) * (m1 - 2 * a1) > 0) = true from decide_eq_true (by omega)]; rfl
        clear HE HS t1 t2 t3 t4
        go_wp2
        go_roundw
        case rel => exact ⟨k + 1, by omega, by go_num, by rw [HC.out]; go_num, HM3, HU3, HBr⟩
        case measure => simp [intOf]; omega
       ·have q4 : decide ((a4 - a2) * (m1 - 2 * a1) < (a3 - a1) * (m2 - 2 * a2)) = false := decide_eq_false t4
        have HC : Hid (crossN (u.take (k + 1)) (m1, m2) ((b1, b2), (b3, b4)) = cn) := by show _ = _; rw [HS.out, HE.out, decide_eq_false t1, decide_eq_false (show ¬ 2 * a2 > m2 from t2), q3]; show cn + (if (true && decide ((a3 - a1) * (m2 - 2 * a2) - (a4 - a2) * (m1 - 2 * a1) > 0)) = true then 1 else 0) = _; rw [show decide ((a3 - a1) * (m2 - 2 * a2) - (a4 - a2) * (m1 - 2 * a1) > 0) = false from decide_eq_false (by omega)]; rfl
        clear HE HS t1 t2 t3 t4
        go_wp2
        go_roundw
        case rel => exact ⟨k + 1, by omega, by go_num, by rw [HC.out], HM3, HU3, HBr⟩
        case measure => simp [intOf]; omega
  ·obtain rfl : k = u.length := by omega
   rw [List.take_length]
   go_wp2
   go_ret
   exact ⟨rfl, HB.out⟩
end
end Go.Proofs.YtlmjciajpjdilaaGreat
