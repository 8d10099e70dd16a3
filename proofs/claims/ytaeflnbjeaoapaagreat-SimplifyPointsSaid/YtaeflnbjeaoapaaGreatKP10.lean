/- Contract of mesh.sides. -/
import Derived.Test.YtaeflnbjeaoapaaGreatKPW
import Derived.Test.YtaeflnbjeaoapaaGreatKP3
import Derived.Test.YtaeflnbjeaoapaaGreatKP1
namespace Go.Proofs.YtaeflnbjeaoapaaGreat
set_option linter.unusedVariables false
set_option linter.unusedSimpArgs false
section
open Go.RowKit Go.Proofs.YtaeflnbjeaoapaaGreatW.PrintLast

attribute [local go_sem high] eqPt eqSg
theorem side_of (m1 m2 : Int) (st : Bool × Bool) (s : Sg) (l1 l2 h1 h2 : Int) (e : (if s.1.2 > s.2.2 then s.2 else s.1) = (l1, l2) ∧ (if s.1.2 > s.2.2 then s.1 else s.2) = (h1, h2)) :
  sideF (m1, m2) st s = if decide ((h1 - l1) * (m2 - 2 * l2) - (h2 - l2) * (m1 - 2 * l1) = 0) && (decide (m2 ≥ 2 * l2) && (decide (m2 ≤ 2 * h2) && (decide (m1 ≥ 2 * min l1 h1) && decide (m1 ≤ 2 * max l1 h1)))) then (st.1, true)
   else if decide (m2 ≥ 2 * l2) && (decide (m2 < 2 * h2) && decide ((h1 - l1) * (m2 - 2 * l2) - (h2 - l2) * (m1 - 2 * l1) > 0)) then (!st.1, st.2) else st := by
 unfold sideF
 rw [e.1, e.2]
theorem side_snoc (m : Pt) (u : Sgs) (k : Nat) (h : k < u.length) : (u.take (k + 1)).foldl (sideF m) (false, false) = sideF m ((u.take k).foldl (sideF m) (false, false)) (sgD u k) := by
 rw [take_snoc u k ((0, 0), (0, 0)) h, List.foldl_append]; rfl
def segsVd (l : Sgs) : Prop := ∀ s ∈ l, (validB s.1 && validB s.2) = true
set_option maxRecDepth 100000 in
set_option maxHeartbeats 4000000 in
theorem mesh_sides {ok : Nat → Prop} (u : Sgs) (A : Option Addr) (n c : Nat) (s : Sg) (w : World) (hr : Row Ty.sg ok w A u) (hn : n = u.length) (hv : segsVd u) (hs : (validB s.1 && validB s.2) = true) (hlen : u.length ≤ 1000000) :
  Calls Tryz.prog 51 #[.slice A n c, sgA s] w fun e w' => e = .returned (.tuple #[.bool (sidesM u s).1, .bool (sidesM u s).2]) ∧ Below w.heap.size w w' := by
 subst hn
 have HR := Lib.hid hr
 have HV := Lib.hid hv
 have hmx := hr.len
 clear hr hv
 rcases Nat.eq_zero_or_pos u.length with h0 | h0
 ·obtain rfl := List.eq_nil_of_length_eq_zero h0
  simp only [sgA]
  go_enter Tryz.func51, Tryz.ntmps51
  go_wp2
  go_ret2
  exact ⟨by simp [sidesM], bq⟩
 have hne : ((u.length : Int) == 0) = false := beq_eq_false_iff_ne.2 (by omega)
 have hne2 : u ≠ [] := fun e => by rw [e] at h0; exact absurd h0 (Nat.lt_irrefl _)
 obtain ⟨⟨g1, g2⟩, ⟨g3, g4⟩⟩ := s
 have HZ : Hid (sidesM u ((g1, g2), (g3, g4)) = if g4 > g2 then ((u.foldl (sideF (g1 + g3, g2 + g4)) (false, false)).1 != (u.foldl (sideF (g1 + g3, g2 + g4)) (false, false)).2, (u.foldl (sideF (g1 + g3, g2 + g4)) (false, false)).1) else ((u.foldl (sideF (g1 + g3, g2 + g4)) (false, false)).1, (u.foldl (sideF (g1 + g3, g2 + g4)) (false, false)).1 != (u.foldl (sideF (g1 + g3, g2 + g4)) (false, false)).2)) := Lib.hid (by unfold sidesM; rw [if_neg hne2])
 obtain ⟨z, hz⟩ : ∃ z, z = sidesM u ((g1, g2), (g3, g4)) := ⟨_, rfl⟩
 rw [← hz] at HZ ⊢
 rw [Bool.and_eq_true] at hs
 obtain ⟨v1, v2, v3, v4⟩ := valid_bd hs.1
 obtain ⟨v5, v6, v7, v8⟩ := valid_bd hs.2
 simp only at v1 v2 v3 v4 v5 v6 v7 v8
 have q1 := wr_in (x := g1 + g3) (by omega) (by omega)
 have q2 := wr_in (x := g2 + g4) (by omega) (by omega)
 have hm1 : 0 ≤ g1 + g3 ∧ g1 + g3 ≤ 65535 := by omega
 have hm2 : 0 ≤ g2 + g4 ∧ g2 + g4 ≤ 65535 := by omega
 clear hz hs hne2 v1 v2 v3 v4 v5 v6 v7 v8
 simp only [sgA]
 have HS0 : (w.alloc (.cells #[.int .i64 g1, .int .i64 g2, .int .i64 g3, .int .i64 g4] 48)).heap[w.heap.size]? = some (.cells #[.int .i64 g1, .int .i64 g2, .int .i64 g3, .int .i64 g4] 48 (0, 0)) := heap_alloc_new _ _
 have hgz := lt_of_block HS0
 go_enter Tryz.func51, Tryz.ntmps51
 go_wp2_with fail
 clear q1 q2
 generalize g1 + g3 = m1 at *
 generalize g2 + g4 = m2 at *
 obtain ⟨W1, hW1⟩ : ∃ W1, W1 = (w.alloc (.cells #[.int .i64 g1, .int .i64 g2, .int .i64 g3, .int .i64 g4] 48)).alloc (.cells #[.int .i64 m1, .int .i64 m2] 28) := ⟨_, rfl⟩
 rw [← hW1]
 have B1 : Below w.heap.size w W1 := by rw [hW1]; exact bq
 have HG1 : W1.heap[w.heap.size]? = some (.cells #[.int .i64 g1, .int .i64 g2, .int .i64 g3, .int .i64 g4] 48 (0, 0)) := by rw [hW1]; exact blk_alloc HS0 _
 have HM1 : W1.heap[w.heap.size + 1]? = some (.cells #[.int .i64 m1, .int .i64 m2] 28 (0, 0)) := by rw [hW1]; have := heap_alloc_new (w.alloc (.cells #[.int .i64 g1, .int .i64 g2, .int .i64 g3, .int .i64 g4] 48)) (.cells #[.int .i64 m1, .int .i64 m2] 28); simpa using this
 clear hW1 HS0 hgz
 go_loopw [7, 8, 36] (fun od on iv wr => ∃ (k : Nat) (x y : Bool), k ≤ u.length ∧ iv = .int .i64 k ∧ od = .bool x ∧ on = .bool y ∧ Hid ((u.take k).foldl (sideF (m1, m2)) (false, false) = (x, y)) ∧ wr.heap[w.heap.size]? = some (.cells #[.int .i64 g1, .int .i64 g2, .int .i64 g3, .int .i64 g4] 48 (0, 0)) ∧ wr.heap[w.heap.size + 1]? = some (.cells #[.int .i64 m1, .int .i64 m2] 28 (0, 0)) ∧ Hid (Below w.heap.size w wr)) (fun _ _ iv _ => u.length - (intOf iv).toNat)
 case atStart => exact ⟨0, false, false, Nat.zero_le _, rfl, rfl, rfl, rfl, HG1, HM1, B1⟩
 case round =>
  obtain ⟨k, x, y, hk, rfl, rfl, rfl, HST, HG, HM, HB⟩ := hrel
  clear HG1 HM1 B1
  by_cases hlt : k < u.length
  ·have HRk := Lib.hid (HR.out.below HB.out)
   obtain ⟨ad, rfl, hx0, hx1, hx2, hx3⟩ := HRk.out.sg_at k hlt
   have hvs := HV.out (sgD u k) (by rw [sgD_eq hlt]; exact List.getElem_mem hlt)
   have HS := Lib.hid ((side_snoc (m1, m2) u k hlt).trans (by rw [HST.out]))
   obtain ⟨s, hs⟩ : ∃ s, s = sgD u k := ⟨_, rfl⟩
   rw [← hs] at hx0 hx1 hx2 hx3 HS hvs
   clear hs HRk HST
   obtain ⟨⟨a1, a2⟩, ⟨a3, a4⟩⟩ := s
   simp only at hx0 hx1 hx2 hx3 hvs
   rw [Bool.and_eq_true] at hvs
   obtain ⟨v1, v2, v3, v4⟩ := valid_bd hvs.1
   obtain ⟨v5, v6, v7, v8⟩ := valid_bd hvs.2
   simp only at v1 v2 v3 v4 v5 v6 v7 v8
   clear hvs
   have hsz := lt_of_block HM
   go_wp2_with fail
   obtain ⟨W2, hW2⟩ : ∃ W2, W2 = wr.alloc (.cells #[.int .i64 a1, .int .i64 a2, .int .i64 a3, .int .i64 a4] 48) := ⟨_, rfl⟩
   rw [← hW2]
   have HB2 : Below wr.heap.size wr W2 := by rw [hW2]; exact bq
   have HT : W2.heap[wr.heap.size]? = some (.cells #[.int .i64 a1, .int .i64 a2, .int .i64 a3, .int .i64 a4] 48 (0, 0)) := by rw [hW2]; exact heap_alloc_new _ _
   have hz2 := lt_of_block HT
   clear hW2 hx0 hx1 hx2 hx3
   have t0 := blk_cell HT 0 rfl
   have t1 := blk_cell HT 1 rfl
   have t2 := blk_cell HT 2 rfl
   have t3 := blk_cell HT 3 rfl
   refine start_ (n := 8) (S := fun w' => w'.cell? ⟨wr.heap.size, 0, none⟩ = some (.int .i64 a1) ∧ w'.cell? ⟨wr.heap.size, 1, none⟩ = some (.int .i64 a2) ∧ w'.cell? ⟨wr.heap.size, 2, none⟩ = some (.int .i64 a3) ∧ w'.cell? ⟨wr.heap.size, 3, none⟩ = some (.int .i64 a4)) (ds := [7]) #[Z,Z,Z,Z,Z,Z,Z,Z] (by kernel_rfl) rfl rfl ⟨t0, t1, t2, t3⟩ (fun hHeld => ?_)
   refine pu 0 40 ?_
   refine pu 2 42 ?_
   refine ta 1 41 hHeld ?_
   refine ta 3 43 hHeld ?_
   refine join_ (σ := Nat × Nat) 2 #[J,J,J,J,J,J,Z,Z] (fun s => [(11, .pointer (some ⟨s.1, 0, none⟩)), (12, .pointer (some ⟨s.2, 0, none⟩))]) (fun s w' => W2.heap.size ≤ s.1 ∧ W2.heap.size ≤ s.2 ∧ s.1 ≠ s.2 ∧ w'.heap[s.1]? = some (.cells #[.int .i64 0, .int .i64 0] 28 (0, 0)) ∧ w'.heap[s.2]? = some (.cells #[.int .i64 0, .int .i64 0] 28 (0, 0)) ∧ Below W2.heap.size W2 w') ?_ ?_
   rotate_left
   ·intro hCont
    refine two_ (i := 4) (j := 5) (Ni := some 11) (Nj := some 12) #[J,J,J,J,J,Z,Z,Z] #[J,J,J,J,Z,J,Z,Z] rfl rfl rfl rfl (by kernel_rfl) (by decide) (by decide) (fun K hK => ?_) (fun K hK => ?_)
    ·skip
     refine value_ (w1 := ?_) (v := ?_) (by rfl) rfl ?_ ?_
     rotate_left 2
     ·go_simp
      constructor
      ·rfl
      ·rfl
     refine hK.out _ _ ⟨cell_below (below_alloc (below_drew (Below.refl _ _)) _) t0, cell_below (below_alloc (below_drew (Below.refl _ _)) _) t1, cell_below (below_alloc (below_drew (Below.refl _ _)) _) t2, cell_below (below_alloc (below_drew (Below.refl _ _)) _) t3⟩ (fun hHeld => ?_)
     clear hK K
     refine nm 11 ?_
     refine one_ (i := 5) (N := some 12) #[J,J,J,J,J,J,Z,Z] rfl rfl (by kernel_rfl) (by decide) (fun K hK => ?_)
     refine value_ (w1 := ?_) (v := ?_) (by rfl) rfl ?_ ?_
     rotate_left 2
     ·go_simp
      constructor
      ·rfl
      ·rfl
     refine hK.out _ _ ⟨cell_below (below_alloc (below_alloc (below_drew (Below.refl _ _)) _) _) t0, cell_below (below_alloc (below_alloc (below_drew (Below.refl _ _)) _) _) t1, cell_below (below_alloc (below_alloc (below_drew (Below.refl _ _)) _) _) t2, cell_below (below_alloc (below_alloc (below_drew (Below.refl _ _)) _) _) t3⟩ (fun hHeld => ?_)
     clear hK K
     refine nm 12 ?_
     exact norm_ (by simp only [putAll, Act.put, List.setIfInBounds_toArray, List.set_cons_zero, List.set_cons_succ]) (hCont (W2.heap.size, W2.heap.size + 1) _ ⟨Nat.le_refl _, Nat.le_succ _, by simp, (two_alloc W2.drew _ _).1, (two_alloc W2.drew _ _).2, below_alloc (below_alloc (below_drew (Below.refl _ _)) _) _⟩)
    ·skip
     refine value_ (w1 := ?_) (v := ?_) (by rfl) rfl ?_ ?_
     rotate_left 2
     ·go_simp
      constructor
      ·rfl
      ·rfl
     refine hK.out _ _ ⟨cell_below (below_alloc (below_drew (Below.refl _ _)) _) t0, cell_below (below_alloc (below_drew (Below.refl _ _)) _) t1, cell_below (below_alloc (below_drew (Below.refl _ _)) _) t2, cell_below (below_alloc (below_drew (Below.refl _ _)) _) t3⟩ (fun hHeld => ?_)
     clear hK K
     refine nm 12 ?_
     refine one_ (i := 4) (N := some 11) #[J,J,J,J,J,J,Z,Z] rfl rfl (by kernel_rfl) (by decide) (fun K hK => ?_)
     refine value_ (w1 := ?_) (v := ?_) (by rfl) rfl ?_ ?_
     rotate_left 2
     ·go_simp
      constructor
      ·rfl
      ·rfl
     refine hK.out _ _ ⟨cell_below (below_alloc (below_alloc (below_drew (Below.refl _ _)) _) _) t0, cell_below (below_alloc (below_alloc (below_drew (Below.refl _ _)) _) _) t1, cell_below (below_alloc (below_alloc (below_drew (Below.refl _ _)) _) _) t2, cell_below (below_alloc (below_alloc (below_drew (Below.refl _ _)) _) _) t3⟩ (fun hHeld => ?_)
     clear hK K
     refine nm 11 ?_
     exact norm_ (by simp only [putAll, Act.put, List.setIfInBounds_toArray, List.set_cons_zero, List.set_cons_succ]) (hCont (W2.heap.size + 1, W2.heap.size) _ ⟨Nat.le_succ _, Nat.le_refl _, by simp, (two_alloc W2.drew _ _).2, (two_alloc W2.drew _ _).1, below_alloc (below_alloc (below_drew (Below.refl _ _)) _) _⟩)
   rintro ⟨p, q⟩ w1 ⟨hp, hq, hpq, hP, hQ, hW1⟩
   have hpqn : ¬ p = q := hpq
   have hqpn : ¬ q = p := fun e => hpq e.symm
   have hHeld := And.intro (cell_below hW1 t0) (And.intro (cell_below hW1 t1) (And.intro (cell_below hW1 t2) (cell_below hW1 t3)))
   have pf0 := blk_free hP 0
   have pc0 := blk_cell hP 0 rfl
   have pf1 := blk_free hP 1
   have pc1 := blk_cell hP 1 rfl
   have qf0 := blk_free hQ 0
   have qc0 := blk_cell hQ 0 rfl
   have qf1 := blk_free hQ 1
   have qc1 := blk_cell hQ 1 rfl
   refine norm_ (a' := ?_) ?_ ?_
   rotate_left
   ·simp only [putAll, Act.put, List.setIfInBounds_toArray, List.set_cons_zero, List.set_cons_succ]
    rfl
   refine one_ (i := 6) (N := none) #[J,J,J,J,J,J,J,Z] rfl rfl (by kernel_rfl) (by decide) (fun K hK => ?_)
   refine skip_ (w1 := ?_) (by rfl) rfl ?_ ?_
   rotate_left
   ·go_simp
    rfl
   refine hK.out _ _ ⟨cell_below (below_set2 hp (below_set2 hp hW1)) t0, cell_below (below_set2 hp (below_set2 hp hW1)) t1, cell_below (below_set2 hp (below_set2 hp hW1)) t2, cell_below (below_set2 hp (below_set2 hp hW1)) t3⟩ (fun hHeld => ?_)
   clear hK K
   refine last_ (i := 7) (N := none) #[J,J,J,J,J,J,J,J] rfl rfl (by kernel_rfl) (by decide) (fun K hK => ?_)
   refine skip_ (w1 := ?_) (by rfl) rfl ?_ ?_
   rotate_left
   ·go_simp
    rfl
   refine hK.out _ _ ?_
   clear hK K
   refine done_ (by kernel_rfl) ?_
   clear hHeld pf0 pf1 qf0 qf1 pc0 pc1 qc0 qc1 t0 t1 t2 t3
   obtain ⟨W3, hW3⟩ : ∃ W3, W3 = (((w1.setCell ⟨p, 0, none⟩ (.int .i64 a1)).setCell ⟨p, 1, none⟩ (.int .i64 a2)).setCell ⟨q, 0, none⟩ (.int .i64 a3)).setCell ⟨q, 1, none⟩ (.int .i64 a4) := ⟨_, rfl⟩
   have HP : W3.heap[p]? = some (.cells #[.int .i64 a1, .int .i64 a2] 28 (0, 0)) := by rw [hW3]; exact blk_far (blk_far (blk_set (blk_set hP _) _) hpqn _) hpqn _
   have HQ : W3.heap[q]? = some (.cells #[.int .i64 a3, .int .i64 a4] 28 (0, 0)) := by rw [hW3]; exact blk_set (blk_set (blk_far (blk_far hQ hqpn _) hqpn _) _) _
   have HB3 : Below W2.heap.size W2 W3 := by rw [hW3]; exact below_set2 hq (below_set2 hq (below_set2 hp (below_set2 hp hW1)))
   rw [← hW3]
   clear hP hQ hW1 hW3
   have HBr : Hid (Below w.heap.size w W3) := below_step HB.out (below_step HB2 HB3)
   have HG3 := blk_below (blk_below HG HB2) HB3
   have HM3 := blk_below (blk_below HM HB2) HB3
   have hz3 := HB2.size
   clear HB HB3 HB2 HG HM HT
   have pc0 := blk_cell HP 0 rfl
   have pc1 := blk_cell HP 1 rfl
   have qc0 := blk_cell HQ 0 rfl
   have qc1 := blk_cell HQ 1 rfl
   have pf0 := blk_free HP 0
   have pf1 := blk_free HP 1
   have qf0 := blk_free HQ 0
   have qf1 := blk_free HQ 1
   have mc0 := blk_cell HM3 0 rfl
   have mc1 := blk_cell HM3 1 rfl
   have hpm : ¬ p = w.heap.size + 1 := by omega
   have hqm : ¬ q = w.heap.size + 1 := by omega
   have hmp : ¬ w.heap.size + 1 = p := by omega
   have hmq : ¬ w.heap.size + 1 = q := by omega
   by_cases hsw : a2 > a4
   ·have q0 : decide (a4 < a2) = true := decide_eq_true hsw
    have q0' : decide (a2 > a4) = true := decide_eq_true hsw
    have HE := Lib.hid (side_of m1 m2 (x, y) ((a1, a2), (a3, a4)) a3 a4 a1 a2 ⟨if_pos hsw, if_pos hsw⟩)
    have w2 := wr_in (x := 2 * a4) (by omega) (by omega)
    have w3 := wr_in (x := 2 * a2) (by omega) (by omega)
    have w4 := wr_in (x := a1 - a3) (by omega) (by omega)
    have w5 := wr_in (x := m2 - 2 * a4) (by omega) (by omega)
    have w6 := wr_in (x := a2 - a4) (by omega) (by omega)
    have w7 := wr_in (x := 2 * a3) (by omega) (by omega)
    have w8 := wr_in (x := m1 - 2 * a3) (by omega) (by omega)
    have d1 := mul_bd2 (a := a1 - a3) (b := m2 - 2 * a4) (by omega) (by omega) (by omega) (by omega)
    have d2 := mul_bd2 (a := a2 - a4) (b := m1 - 2 * a3) (by omega) (by omega) (by omega) (by omega)
    have w9 := wr_in (x := (a1 - a3) * (m2 - 2 * a4)) (by omega) (by omega)
    have w10 := wr_in (x := (a2 - a4) * (m1 - 2 * a3)) (by omega) (by omega)
    have w11 := wr_in (x := (a1 - a3) * (m2 - 2 * a4) - (a2 - a4) * (m1 - 2 * a3)) (by omega) (by omega)
    clear d1 d2 hsw
    go_wp2_with fail
    obtain ⟨W4, hW4⟩ : ∃ W4, W4 = (((W3.setCell ⟨p, 0, none⟩ (.int .i64 a3)).setCell ⟨p, 1, none⟩ (.int .i64 a4)).setCell ⟨q, 0, none⟩ (.int .i64 a1)).setCell ⟨q, 1, none⟩ (.int .i64 a2) := ⟨_, rfl⟩
    rw [← hW4]
    have HP4 : W4.heap[p]? = some (.cells #[.int .i64 a3, .int .i64 a4] 28 (0, 0)) := by rw [hW4]; exact blk_far (blk_far (blk_set (i := 1) (blk_set (i := 0) HP _) _) hpqn _) hpqn _
    have HQ4 : W4.heap[q]? = some (.cells #[.int .i64 a1, .int .i64 a2] 28 (0, 0)) := by rw [hW4]; exact blk_set (i := 1) (blk_set (i := 0) (blk_far (blk_far HQ hqpn _) hqpn _) _) _
    have HG4 : W4.heap[w.heap.size]? = some (.cells #[.int .i64 g1, .int .i64 g2, .int .i64 g3, .int .i64 g4] 48 (0, 0)) := by rw [hW4]; exact blk_far (blk_far (blk_far (blk_far HG3 (by omega) _) (by omega) _) (by omega) _) (by omega) _
    have HM4 : W4.heap[w.heap.size + 1]? = some (.cells #[.int .i64 m1, .int .i64 m2] 28 (0, 0)) := by rw [hW4]; exact blk_far (blk_far (blk_far (blk_far HM3 hmp _) hmp _) hmq _) hmq _
    have HB4 : Hid (Below w.heap.size w W4) := by rw [hW4]; exact below_set2 (by show _ ≤ q; omega) (below_set2 (by show _ ≤ q; omega) (below_set2 (by show _ ≤ p; omega) (below_set2 (by show _ ≤ p; omega) HBr.out)))
    clear hW4 HP HQ HG3 HM3 HBr
    generalize (a1 - a3) * (m2 - 2 * a4) - (a2 - a4) * (m1 - 2 * a3) = T at *
    clear w4 w5 w6 w7 w8 w9 w10 w11 pc0 pc1 qc0 qc1 pf0 pf1 qf0 qf1 mc0 mc1
    have pc0 := blk_cell HP4 0 rfl
    have pc1 := blk_cell HP4 1 rfl
    have qc0 := blk_cell HQ4 0 rfl
    have qc1 := blk_cell HQ4 1 rfl
    refine start_ (n := 12) (S := fun w' => w'.cell? ⟨p, 0, none⟩ = some (.int .i64 a3) ∧ w'.cell? ⟨q, 0, none⟩ = some (.int .i64 a1)) (ds := []) #[Z,Z,Z,Z,Z,Z,Z,Z,Z,Z,Z,Z] (by kernel_rfl) rfl rfl ⟨pc0, qc0⟩ (fun hHeld => ?_)
    refine pu 0 76 ?_
    refine pu 2 78 ?_
    refine pu 5 81 ?_
    refine pu 7 83 ?_
    refine ta 1 77 hHeld ?_
    refine ta 3 79 hHeld ?_
    refine pu 4 80 ?_
    refine pu 10 14 ?_
    refine ta 6 82 hHeld ?_
    refine ta 8 84 hHeld ?_
    refine pu 9 85 ?_
    refine pu 11 15 ?_
    refine done_ (by kernel_rfl) ?_
    have HP5 : (World.drew W4).heap[p]? = some (.cells #[.int .i64 a3, .int .i64 a4] 28 (0, 0)) := HP4
    have HQ5 : (World.drew W4).heap[q]? = some (.cells #[.int .i64 a1, .int .i64 a2] 28 (0, 0)) := HQ4
    have HG5 : (World.drew W4).heap[w.heap.size]? = some (.cells #[.int .i64 g1, .int .i64 g2, .int .i64 g3, .int .i64 g4] 48 (0, 0)) := HG4
    have HM5 : (World.drew W4).heap[w.heap.size + 1]? = some (.cells #[.int .i64 m1, .int .i64 m2] 28 (0, 0)) := HM4
    have HB5 : Hid (Below w.heap.size w (World.drew W4)) := below_drew HB4.out
    generalize World.drew W4 = W5 at *
    clear pc0 pc1 qc0 qc1 HP4 HQ4 HG4 HM4 HB4 hHeld
    have pc0 := blk_cell HP5 0 rfl
    have pc1 := blk_cell HP5 1 rfl
    have qc0 := blk_cell HQ5 0 rfl
    have qc1 := blk_cell HQ5 1 rfl
    have mc0 := blk_cell HM5 0 rfl
    have mc1 := blk_cell HM5 1 rfl
    have hmn : 0 ≤ min a3 a1 ∧ min a3 a1 ≤ 32767 := by omega
    have hmx2 : 0 ≤ max a3 a1 ∧ max a3 a1 ≤ 32767 := by omega
    have emn : (if a1 < a3 then a1 else a3) = min a3 a1 := by split <;> omega
    have emx : (if a3 < a1 then a1 else a3) = max a3 a1 := by split <;> omega
    rw [emn, emx]
    clear emn emx
    generalize min a3 a1 = n1 at *
    generalize max a3 a1 = n2 at *
    have w4 := wr_in (x := 2 * n1) (by omega) (by omega)
    have w5 := wr_in (x := 2 * n2) (by omega) (by omega)
    clear HP5 HQ5
    by_cases cT : T = 0
    ·subst cT
     have hT : ((0 : Int) == 0) = true := rfl
     have hT0 : decide ((0 : Int) > 0) = false := by decide
     have hT1 : decide ((0 : Int) = 0) = true := by decide
     by_cases cdB : m2 ≥ 2 * a4
     ·skip
      have dB : decide (m2 ≥ 2 * a4) = true := decide_eq_true (by omega)
      have dBa : decide (2 * a4 ≤ m2) = true := decide_eq_true (by omega)
      skip
      by_cases cdC : m2 ≤ 2 * a2
      ·skip
       have dC : decide (m2 ≤ 2 * a2) = true := decide_eq_true (by omega)
       skip
       by_cases cdD : m1 ≥ 2 * n1
       ·skip
        have dD : decide (m1 ≥ 2 * n1) = true := decide_eq_true (by omega)
        have dDa : decide (2 * n1 ≤ m1) = true := decide_eq_true (by omega)
        skip
        by_cases cdE : m1 ≤ 2 * n2
        ·skip
         have dE : decide (m1 ≤ 2 * n2) = true := decide_eq_true (by omega)
         skip
         have HN : Hid ((u.take (k + 1)).foldl (sideF (m1, m2)) (false, false) = (x, true)) := Lib.hid (HS.out.trans (HE.out.trans (by simp only [hT1, hT0, dB, dC, dD, dE, decide_true, decide_false, Bool.and_true, Bool.true_and, Bool.false_and, Bool.and_false, if_true, if_false, Bool.false_eq_true])))
         clear HE HS
         go_wp2
         go_roundw
         case rel => exact ⟨k + 1, x, true, by omega, by go_num, rfl, rfl, HN, HG5, HM5, HB5⟩
         case measure => simp [intOf]; omega
        ·skip
         have dE : decide (m1 ≤ 2 * n2) = false := decide_eq_false (by omega)
         by_cases cdL : m2 < 2 * a2
         ·skip
          have dL : decide (m2 < 2 * a2) = true := decide_eq_true (by omega)
          skip
          have HN : Hid ((u.take (k + 1)).foldl (sideF (m1, m2)) (false, false) = (x, y)) := Lib.hid (HS.out.trans (HE.out.trans (by simp only [hT1, hT0, dB, dC, dD, dE, dL, decide_true, decide_false, Bool.and_true, Bool.true_and, Bool.false_and, Bool.and_false, if_true, if_false, Bool.false_eq_true])))
          clear HE HS
          go_wp2
          go_roundw
          case rel => exact ⟨k + 1, x, y, by omega, by go_num, rfl, rfl, HN, HG5, HM5, HB5⟩
          case measure => simp [intOf]; omega
         ·skip
          have dL : decide (m2 < 2 * a2) = false := decide_eq_false (by omega)
          have HN : Hid ((u.take (k + 1)).foldl (sideF (m1, m2)) (false, false) = (x, y)) := Lib.hid (HS.out.trans (HE.out.trans (by simp only [hT1, hT0, dB, dC, dD, dE, dL, decide_true, decide_false, Bool.and_true, Bool.true_and, Bool.false_and, Bool.and_false, if_true, if_false, Bool.false_eq_true])))
          clear HE HS
          go_wp2
          go_roundw
          case rel => exact ⟨k + 1, x, y, by omega, by go_num, rfl, rfl, HN, HG5, HM5, HB5⟩
          case measure => simp [intOf]; omega
       ·skip
        have dD : decide (m1 ≥ 2 * n1) = false := decide_eq_false (by omega)
        have dDa : decide (2 * n1 ≤ m1) = false := decide_eq_false (by omega)
        by_cases cdL : m2 < 2 * a2
        ·skip
         have dL : decide (m2 < 2 * a2) = true := decide_eq_true (by omega)
         skip
         have HN : Hid ((u.take (k + 1)).foldl (sideF (m1, m2)) (false, false) = (x, y)) := Lib.hid (HS.out.trans (HE.out.trans (by simp only [hT1, hT0, dB, dC, dD, dL, decide_true, decide_false, Bool.and_true, Bool.true_and, Bool.false_and, Bool.and_false, if_true, if_false, Bool.false_eq_true])))
         clear HE HS
         go_wp2
         go_roundw
         case rel => exact ⟨k + 1, x, y, by omega, by go_num, rfl, rfl, HN, HG5, HM5, HB5⟩
         case measure => simp [intOf]; omega
        ·skip
         have dL : decide (m2 < 2 * a2) = false := decide_eq_false (by omega)
         have HN : Hid ((u.take (k + 1)).foldl (sideF (m1, m2)) (false, false) = (x, y)) := Lib.hid (HS.out.trans (HE.out.trans (by simp only [hT1, hT0, dB, dC, dD, dL, decide_true, decide_false, Bool.and_true, Bool.true_and, Bool.false_and, Bool.and_false, if_true, if_false, Bool.false_eq_true])))
         clear HE HS
         go_wp2
         go_roundw
         case rel => exact ⟨k + 1, x, y, by omega, by go_num, rfl, rfl, HN, HG5, HM5, HB5⟩
         case measure => simp [intOf]; omega
      ·skip
       have dC : decide (m2 ≤ 2 * a2) = false := decide_eq_false (by omega)
       have dL : decide (m2 < 2 * a2) = false := decide_eq_false (by omega)
       have HN : Hid ((u.take (k + 1)).foldl (sideF (m1, m2)) (false, false) = (x, y)) := Lib.hid (HS.out.trans (HE.out.trans (by simp only [hT1, hT0, dB, dC, dL, decide_true, decide_false, Bool.and_true, Bool.true_and, Bool.false_and, Bool.and_false, if_true, if_false, Bool.false_eq_true])))
       clear HE HS
       go_wp2
       go_roundw
       case rel => exact ⟨k + 1, x, y, by omega, by go_num, rfl, rfl, HN, HG5, HM5, HB5⟩
       case measure => simp [intOf]; omega
     ·skip
      have dB : decide (m2 ≥ 2 * a4) = false := decide_eq_false (by omega)
      have dBa : decide (2 * a4 ≤ m2) = false := decide_eq_false (by omega)
      have HN : Hid ((u.take (k + 1)).foldl (sideF (m1, m2)) (false, false) = (x, y)) := Lib.hid (HS.out.trans (HE.out.trans (by simp only [hT1, hT0, dB, decide_true, decide_false, Bool.and_true, Bool.true_and, Bool.false_and, Bool.and_false, if_true, if_false, Bool.false_eq_true])))
      clear HE HS
      go_wp2
      go_roundw
      case rel => exact ⟨k + 1, x, y, by omega, by go_num, rfl, rfl, HN, HG5, HM5, HB5⟩
      case measure => simp [intOf]; omega
    ·have hT : (T == 0) = false := by simpa using cT
     have hT1 : decide (T = 0) = false := decide_eq_false cT
     by_cases cdB : m2 ≥ 2 * a4
     ·skip
      have dB : decide (m2 ≥ 2 * a4) = true := decide_eq_true (by omega)
      have dBa : decide (2 * a4 ≤ m2) = true := decide_eq_true (by omega)
      skip
      by_cases cdL : m2 < 2 * a2
      ·skip
       have dL : decide (m2 < 2 * a2) = true := decide_eq_true (by omega)
       skip
       by_cases cdT : T > 0
       ·skip
        have dT : decide (T > 0) = true := decide_eq_true (by omega)
        have dTa : decide (0 < T) = true := decide_eq_true (by omega)
        skip
        have HN : Hid ((u.take (k + 1)).foldl (sideF (m1, m2)) (false, false) = ((!x), y)) := Lib.hid (HS.out.trans (HE.out.trans (by simp only [hT1, dB, dL, dT, decide_true, decide_false, Bool.and_true, Bool.true_and, Bool.false_and, Bool.and_false, if_true, if_false, Bool.false_eq_true])))
        clear HE HS
        go_wp2
        go_roundw
        case rel => exact ⟨k + 1, (!x), y, by omega, by go_num, rfl, rfl, HN, HG5, HM5, HB5⟩
        case measure => simp [intOf]; omega
       ·skip
        have dT : decide (T > 0) = false := decide_eq_false (by omega)
        have dTa : decide (0 < T) = false := decide_eq_false (by omega)
        have HN : Hid ((u.take (k + 1)).foldl (sideF (m1, m2)) (false, false) = (x, y)) := Lib.hid (HS.out.trans (HE.out.trans (by simp only [hT1, dB, dL, dT, decide_true, decide_false, Bool.and_true, Bool.true_and, Bool.false_and, Bool.and_false, if_true, if_false, Bool.false_eq_true])))
        clear HE HS
        go_wp2
        go_roundw
        case rel => exact ⟨k + 1, x, y, by omega, by go_num, rfl, rfl, HN, HG5, HM5, HB5⟩
        case measure => simp [intOf]; omega
      ·skip
       have dL : decide (m2 < 2 * a2) = false := decide_eq_false (by omega)
       have HN : Hid ((u.take (k + 1)).foldl (sideF (m1, m2)) (false, false) = (x, y)) := Lib.hid (HS.out.trans (HE.out.trans (by simp only [hT1, dB, dL, decide_true, decide_false, Bool.and_true, Bool.true_and, Bool.false_and, Bool.and_false, if_true, if_false, Bool.false_eq_true])))
       clear HE HS
       go_wp2
       go_roundw
       case rel => exact ⟨k + 1, x, y, by omega, by go_num, rfl, rfl, HN, HG5, HM5, HB5⟩
       case measure => simp [intOf]; omega
     ·skip
      have dB : decide (m2 ≥ 2 * a4) = false := decide_eq_false (by omega)
      have dBa : decide (2 * a4 ≤ m2) = false := decide_eq_false (by omega)
      have HN : Hid ((u.take (k + 1)).foldl (sideF (m1, m2)) (false, false) = (x, y)) := Lib.hid (HS.out.trans (HE.out.trans (by simp only [hT1, dB, decide_true, decide_false, Bool.and_true, Bool.true_and, Bool.false_and, Bool.and_false, if_true, if_false, Bool.false_eq_true])))
      clear HE HS
      go_wp2
      go_roundw
      case rel => exact ⟨k + 1, x, y, by omega, by go_num, rfl, rfl, HN, HG5, HM5, HB5⟩
      case measure => simp [intOf]; omega
   ·have q0 : decide (a4 < a2) = false := decide_eq_false hsw
    have q0' : decide (a2 > a4) = false := decide_eq_false hsw
    have HE := Lib.hid (side_of m1 m2 (x, y) ((a1, a2), (a3, a4)) a1 a2 a3 a4 ⟨if_neg hsw, if_neg hsw⟩)
    have w2 := wr_in (x := 2 * a2) (by omega) (by omega)
    have w3 := wr_in (x := 2 * a4) (by omega) (by omega)
    have w4 := wr_in (x := a3 - a1) (by omega) (by omega)
    have w5 := wr_in (x := m2 - 2 * a2) (by omega) (by omega)
    have w6 := wr_in (x := a4 - a2) (by omega) (by omega)
    have w7 := wr_in (x := 2 * a1) (by omega) (by omega)
    have w8 := wr_in (x := m1 - 2 * a1) (by omega) (by omega)
    have d1 := mul_bd2 (a := a3 - a1) (b := m2 - 2 * a2) (by omega) (by omega) (by omega) (by omega)
    have d2 := mul_bd2 (a := a4 - a2) (b := m1 - 2 * a1) (by omega) (by omega) (by omega) (by omega)
    have w9 := wr_in (x := (a3 - a1) * (m2 - 2 * a2)) (by omega) (by omega)
    have w10 := wr_in (x := (a4 - a2) * (m1 - 2 * a1)) (by omega) (by omega)
    have w11 := wr_in (x := (a3 - a1) * (m2 - 2 * a2) - (a4 - a2) * (m1 - 2 * a1)) (by omega) (by omega)
    clear d1 d2 hsw
    go_wp2_with fail
    have HP4 := HP
    have HQ4 := HQ
    have HG4 := HG3
    have HM4 := HM3
    have HB4 := HBr
    clear HP HQ HG3 HM3 HBr
    generalize (a3 - a1) * (m2 - 2 * a2) - (a4 - a2) * (m1 - 2 * a1) = T at *
    clear w4 w5 w6 w7 w8 w9 w10 w11 pc0 pc1 qc0 qc1 pf0 pf1 qf0 qf1 mc0 mc1
    have pc0 := blk_cell HP4 0 rfl
    have pc1 := blk_cell HP4 1 rfl
    have qc0 := blk_cell HQ4 0 rfl
    have qc1 := blk_cell HQ4 1 rfl
    refine start_ (n := 12) (S := fun w' => w'.cell? ⟨p, 0, none⟩ = some (.int .i64 a1) ∧ w'.cell? ⟨q, 0, none⟩ = some (.int .i64 a3)) (ds := []) #[Z,Z,Z,Z,Z,Z,Z,Z,Z,Z,Z,Z] (by kernel_rfl) rfl rfl ⟨pc0, qc0⟩ (fun hHeld => ?_)
    refine pu 0 76 ?_
    refine pu 2 78 ?_
    refine pu 5 81 ?_
    refine pu 7 83 ?_
    refine ta 1 77 hHeld ?_
    refine ta 3 79 hHeld ?_
    refine pu 4 80 ?_
    refine pu 10 14 ?_
    refine ta 6 82 hHeld ?_
    refine ta 8 84 hHeld ?_
    refine pu 9 85 ?_
    refine pu 11 15 ?_
    refine done_ (by kernel_rfl) ?_
    have HP5 : (World.drew W3).heap[p]? = some (.cells #[.int .i64 a1, .int .i64 a2] 28 (0, 0)) := HP4
    have HQ5 : (World.drew W3).heap[q]? = some (.cells #[.int .i64 a3, .int .i64 a4] 28 (0, 0)) := HQ4
    have HG5 : (World.drew W3).heap[w.heap.size]? = some (.cells #[.int .i64 g1, .int .i64 g2, .int .i64 g3, .int .i64 g4] 48 (0, 0)) := HG4
    have HM5 : (World.drew W3).heap[w.heap.size + 1]? = some (.cells #[.int .i64 m1, .int .i64 m2] 28 (0, 0)) := HM4
    have HB5 : Hid (Below w.heap.size w (World.drew W3)) := below_drew HB4.out
    generalize World.drew W3 = W5 at *
    clear pc0 pc1 qc0 qc1 HP4 HQ4 HG4 HM4 HB4 hHeld
    have pc0 := blk_cell HP5 0 rfl
    have pc1 := blk_cell HP5 1 rfl
    have qc0 := blk_cell HQ5 0 rfl
    have qc1 := blk_cell HQ5 1 rfl
    have mc0 := blk_cell HM5 0 rfl
    have mc1 := blk_cell HM5 1 rfl
    have hmn : 0 ≤ min a1 a3 ∧ min a1 a3 ≤ 32767 := by omega
    have hmx2 : 0 ≤ max a1 a3 ∧ max a1 a3 ≤ 32767 := by omega
    have emn : (if a3 < a1 then a3 else a1) = min a1 a3 := by split <;> omega
    have emx : (if a1 < a3 then a3 else a1) = max a1 a3 := by split <;> omega
    rw [emn, emx]
    clear emn emx
    generalize min a1 a3 = n1 at *
    generalize max a1 a3 = n2 at *
    have w4 := wr_in (x := 2 * n1) (by omega) (by omega)
    have w5 := wr_in (x := 2 * n2) (by omega) (by omega)
    clear HP5 HQ5
    by_cases cT : T = 0
    ·subst cT
     have hT : ((0 : Int) == 0) = true := rfl
     have hT0 : decide ((0 : Int) > 0) = false := by decide
     have hT1 : decide ((0 : Int) = 0) = true := by decide
     by_cases cdB : m2 ≥ 2 * a2
     ·skip
      have dB : decide (m2 ≥ 2 * a2) = true := decide_eq_true (by omega)
      have dBa : decide (2 * a2 ≤ m2) = true := decide_eq_true (by omega)
      skip
      by_cases cdC : m2 ≤ 2 * a4
      ·skip
       have dC : decide (m2 ≤ 2 * a4) = true := decide_eq_true (by omega)
       skip
       by_cases cdD : m1 ≥ 2 * n1
       ·skip
        have dD : decide (m1 ≥ 2 * n1) = true := decide_eq_true (by omega)
        have dDa : decide (2 * n1 ≤ m1) = true := decide_eq_true (by omega)
        skip
        by_cases cdE : m1 ≤ 2 * n2
        ·skip
         have dE : decide (m1 ≤ 2 * n2) = true := decide_eq_true (by omega)
         skip
         have HN : Hid ((u.take (k + 1)).foldl (sideF (m1, m2)) (false, false) = (x, true)) := Lib.hid (HS.out.trans (HE.out.trans (by simp only [hT1, hT0, dB, dC, dD, dE, decide_true, decide_false, Bool.and_true, Bool.true_and, Bool.false_and, Bool.and_false, if_true, if_false, Bool.false_eq_true])))
         clear HE HS
         go_wp2
         go_roundw
         case rel => exact ⟨k + 1, x, true, by omega, by go_num, rfl, rfl, HN, HG5, HM5, HB5⟩
         case measure => simp [intOf]; omega
        ·skip
         have dE : decide (m1 ≤ 2 * n2) = false := decide_eq_false (by omega)
         by_cases cdL : m2 < 2 * a4
         ·skip
          have dL : decide (m2 < 2 * a4) = true := decide_eq_true (by omega)
          skip
          have HN : Hid ((u.take (k + 1)).foldl (sideF (m1, m2)) (false, false) = (x, y)) := Lib.hid (HS.out.trans (HE.out.trans (by simp only [hT1, hT0, dB, dC, dD, dE, dL, decide_true, decide_false, Bool.and_true, Bool.true_and, Bool.false_and, Bool.and_false, if_true, if_false, Bool.false_eq_true])))
          clear HE HS
          go_wp2
          go_roundw
          case rel => exact ⟨k + 1, x, y, by omega, by go_num, rfl, rfl, HN, HG5, HM5, HB5⟩
          case measure => simp [intOf]; omega
         ·skip
          have dL : decide (m2 < 2 * a4) = false := decide_eq_false (by omega)
          have HN : Hid ((u.take (k + 1)).foldl (sideF (m1, m2)) (false, false) = (x, y)) := Lib.hid (HS.out.trans (HE.out.trans (by simp only [hT1, hT0, dB, dC, dD, dE, dL, decide_true, decide_false, Bool.and_true, Bool.true_and, Bool.false_and, Bool.and_false, if_true, if_false, Bool.false_eq_true])))
          clear HE HS
          go_wp2
          go_roundw
          case rel => exact ⟨k + 1, x, y, by omega, by go_num, rfl, rfl, HN, HG5, HM5, HB5⟩
          case measure => simp [intOf]; omega
       ·skip
        have dD : decide (m1 ≥ 2 * n1) = false := decide_eq_false (by omega)
        have dDa : decide (2 * n1 ≤ m1) = false := decide_eq_false (by omega)
        by_cases cdL : m2 < 2 * a4
        ·skip
         have dL : decide (m2 < 2 * a4) = true := decide_eq_true (by omega)
         skip
         have HN : Hid ((u.take (k + 1)).foldl (sideF (m1, m2)) (false, false) = (x, y)) := Lib.hid (HS.out.trans (HE.out.trans (by simp only [hT1, hT0, dB, dC, dD, dL, decide_true, decide_false, Bool.and_true, Bool.true_and, Bool.false_and, Bool.and_false, if_true, if_false, Bool.false_eq_true])))
         clear HE HS
         go_wp2
         go_roundw
         case rel => exact ⟨k + 1, x, y, by omega, by go_num, rfl, rfl, HN, HG5, HM5, HB5⟩
         case measure => simp [intOf]; omega
        ·skip
         have dL : decide (m2 < 2 * a4) = false := decide_eq_false (by omega)
         have HN : Hid ((u.take (k + 1)).foldl (sideF (m1, m2)) (false, false) = (x, y)) := Lib.hid (HS.out.trans (HE.out.trans (by simp only [hT1, hT0, dB, dC, dD, dL, decide_true, decide_false, Bool.and_true, Bool.true_and, Bool.false_and, Bool.and_false, if_true, if_false, Bool.false_eq_true])))
         clear HE HS
         go_wp2
         go_roundw
         case rel => exact ⟨k + 1, x, y, by omega, by go_num, rfl, rfl, HN, HG5, HM5, HB5⟩
         case measure => simp [intOf]; omega
      ·skip
       have dC : decide (m2 ≤ 2 * a4) = false := decide_eq_false (by omega)
       have dL : decide (m2 < 2 * a4) = false := decide_eq_false (by omega)
       have HN : Hid ((u.take (k + 1)).foldl (sideF (m1, m2)) (false, false) = (x, y)) := Lib.hid (HS.out.trans (HE.out.trans (by simp only [hT1, hT0, dB, dC, dL, decide_true, decide_false, Bool.and_true, Bool.true_and, Bool.false_and, Bool.and_false, if_true, if_false, Bool.false_eq_true])))
       clear HE HS
       go_wp2
       go_roundw
       case rel => exact ⟨k + 1, x, y, by omega, by go_num, rfl, rfl, HN, HG5, HM5, HB5⟩
       case measure => simp [intOf]; omega
     ·skip
      have dB : decide (m2 ≥ 2 * a2) = false := decide_eq_false (by omega)
      have dBa : decide (2 * a2 ≤ m2) = false := decide_eq_false (by omega)
      have HN : Hid ((u.take (k + 1)).foldl (sideF (m1, m2)) (false, false) = (x, y)) := Lib.hid (HS.out.trans (HE.out.trans (by simp only [hT1, hT0, dB, decide_true, decide_false, Bool.and_true, Bool.true_and, Bool.false_and, Bool.and_false, if_true, if_false, Bool.false_eq_true])))
      clear HE HS
      go_wp2
      go_roundw
      case rel => exact ⟨k + 1, x, y, by omega, by go_num, rfl, rfl, HN, HG5, HM5, HB5⟩
      case measure => simp [intOf]; omega
    ·have hT : (T == 0) = false := by simpa using cT
     have hT1 : decide (T = 0) = false := decide_eq_false cT
     by_cases cdB : m2 ≥ 2 * a2
     ·skip
      have dB : decide (m2 ≥ 2 * a2) = true := decide_eq_true (by omega)
      have dBa : decide (2 * a2 ≤ m2) = true := decide_eq_true (by omega)
      skip
      by_cases cdL : m2 < 2 * a4
      ·skip
       have dL : decide (m2 < 2 * a4) = true := decide_eq_true (by omega)
       skip
       by_cases cdT : T > 0
       ·skip
        have dT : decide (T > 0) = true := decide_eq_true (by omega)
        have dTa : decide (0 < T) = true := decide_eq_true (by omega)
        skip
        have HN : Hid ((u.take (k + 1)).foldl (sideF (m1, m2)) (false, false) = ((!x), y)) := Lib.hid (HS.out.trans (HE.out.trans (by simp only [hT1, dB, dL, dT, decide_true, decide_false, Bool.and_true, Bool.true_and, Bool.false_and, Bool.and_false, if_true, if_false, Bool.false_eq_true])))
        clear HE HS
        go_wp2
        go_roundw
        case rel => exact ⟨k + 1, (!x), y, by omega, by go_num, rfl, rfl, HN, HG5, HM5, HB5⟩
        case measure => simp [intOf]; omega
       ·skip
        have dT : decide (T > 0) = false := decide_eq_false (by omega)
        have dTa : decide (0 < T) = false := decide_eq_false (by omega)
        have HN : Hid ((u.take (k + 1)).foldl (sideF (m1, m2)) (false, false) = (x, y)) := Lib.hid (HS.out.trans (HE.out.trans (by simp only [hT1, dB, dL, dT, decide_true, decide_false, Bool.and_true, Bool.true_and, Bool.false_and, Bool.and_false, if_true, if_false, Bool.false_eq_true])))
        clear HE HS
        go_wp2
        go_roundw
        case rel => exact ⟨k + 1, x, y, by omega, by go_num, rfl, rfl, HN, HG5, HM5, HB5⟩
        case measure => simp [intOf]; omega
      ·skip
       have dL : decide (m2 < 2 * a4) = false := decide_eq_false (by omega)
       have HN : Hid ((u.take (k + 1)).foldl (sideF (m1, m2)) (false, false) = (x, y)) := Lib.hid (HS.out.trans (HE.out.trans (by simp only [hT1, dB, dL, decide_true, decide_false, Bool.and_true, Bool.true_and, Bool.false_and, Bool.and_false, if_true, if_false, Bool.false_eq_true])))
       clear HE HS
       go_wp2
       go_roundw
       case rel => exact ⟨k + 1, x, y, by omega, by go_num, rfl, rfl, HN, HG5, HM5, HB5⟩
       case measure => simp [intOf]; omega
     ·skip
      have dB : decide (m2 ≥ 2 * a2) = false := decide_eq_false (by omega)
      have dBa : decide (2 * a2 ≤ m2) = false := decide_eq_false (by omega)
      have HN : Hid ((u.take (k + 1)).foldl (sideF (m1, m2)) (false, false) = (x, y)) := Lib.hid (HS.out.trans (HE.out.trans (by simp only [hT1, dB, decide_true, decide_false, Bool.and_true, Bool.true_and, Bool.false_and, Bool.and_false, if_true, if_false, Bool.false_eq_true])))
      clear HE HS
      go_wp2
      go_roundw
      case rel => exact ⟨k + 1, x, y, by omega, by go_num, rfl, rfl, HN, HG5, HM5, HB5⟩
      case measure => simp [intOf]; omega
  ·obtain rfl : k = u.length := by omega
   have HST2 : Hid (u.foldl (sideF (m1, m2)) (false, false) = (x, y)) := Lib.hid (by have := HST.out; rwa [List.take_length] at this)
   have HZ2 : Hid (z = if g4 > g2 then (x != y, x) else (x, x != y)) := Lib.hid (by rw [HZ.out, HST2.out])
   have mc1 := blk_cell HG 1 rfl
   have mc3 := blk_cell HG 3 rfl
   clear HZ HST HST2
   by_cases h2 : g4 > g2
   ·have q2 : decide (g4 > g2) = true := decide_eq_true h2
    have q3 : decide (g2 < g4) = true := decide_eq_true h2
    have HR1 := Lib.hid (HZ2.out.trans (if_pos h2))
    clear HZ2 h2
    go_wp2
    go_ret2
    exact ⟨by rw [HR1.out]; cases x <;> cases y <;> rfl, HB.out⟩
   ·have q2 : decide (g4 > g2) = false := decide_eq_false h2
    have q3 : decide (g2 < g4) = false := decide_eq_false h2
    have HR1 := Lib.hid (HZ2.out.trans (if_neg h2))
    clear HZ2 h2
    go_wp2
    go_ret2
    exact ⟨by rw [HR1.out]; cases x <;> cases y <;> rfl, HB.out⟩
end
end Go.Proofs.YtaeflnbjeaoapaaGreat
