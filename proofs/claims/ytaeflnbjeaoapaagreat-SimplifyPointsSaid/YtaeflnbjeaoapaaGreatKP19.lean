/- Contract of ref21.Sides. -/
import Derived.Test.YtaeflnbjeaoapaaGreatKPW
import Derived.Test.YtaeflnbjeaoapaaGreatKP3
namespace Go.Proofs.YtaeflnbjeaoapaaGreat
set_option linter.unusedVariables false
set_option linter.unusedSimpArgs false
section
open Go.RowKit Go.Proofs.YtaeflnbjeaoapaaGreatW.PrintLast

attribute [local go_sem high] eqPt eqSg
def rayR (m : Pt) (s : Sg) : Bool :=
 let low := if s.1.2 > s.2.2 then s.2 else s.1
 let high := if s.1.2 > s.2.2 then s.1 else s.2
 !(decide (2 * low.2 > m.2) || decide (2 * high.2 ≤ m.2)) && decide ((high.1 - low.1) * (m.2 - 2 * low.2) - (high.2 - low.2) * (m.1 - 2 * low.1) > 0)
def onS (m : Pt) (s : Sg) : Bool :=
 let low := if s.1.2 > s.2.2 then s.2 else s.1
 let high := if s.1.2 > s.2.2 then s.1 else s.2
 if low.2 = high.2 then decide (2 * low.2 = m.2) && (decide (2 * min low.1 high.1 < m.1) && decide (m.1 < 2 * max low.1 high.1))
 else !(decide (2 * low.2 > m.2) || decide (2 * high.2 ≤ m.2)) && decide ((high.1 - low.1) * (m.2 - 2 * low.2) - (high.2 - low.2) * (m.1 - 2 * low.1) = 0)
def sideE (u : Sgs) (m : Pt) : Bool := decide (u.countP (rayR m) % 2 = 1)
def sideW (u : Sgs) (m : Pt) : Bool := decide ((u.countP (rayR m) + u.countP (onS m)) % 2 = 1)
def midS (s : Sg) : Pt := (s.1.1 + s.2.1, s.1.2 + s.2.2)
def sidesZ (u : Sgs) (s : Sg) : Bool × Bool := if s.1.2 = s.2.2 then (sideE u (midS s), sideW u (midS s)) else if s.1.2 < s.2.2 then (sideW u (midS s), sideE u (midS s)) else (sideE u (midS s), sideW u (midS s))
theorem rayR_of (m1 m2 : Int) (s : Sg) (l1 l2 h1 h2 : Int) (e : (if s.1.2 > s.2.2 then s.2 else s.1) = (l1, l2) ∧ (if s.1.2 > s.2.2 then s.1 else s.2) = (h1, h2)) :
  rayR (m1, m2) s = (!(decide (2 * l2 > m2) || decide (2 * h2 ≤ m2)) && decide ((h1 - l1) * (m2 - 2 * l2) - (h2 - l2) * (m1 - 2 * l1) > 0)) := by
 unfold rayR
 rw [e.1, e.2]
theorem onS_of (m1 m2 : Int) (s : Sg) (l1 l2 h1 h2 : Int) (e : (if s.1.2 > s.2.2 then s.2 else s.1) = (l1, l2) ∧ (if s.1.2 > s.2.2 then s.1 else s.2) = (h1, h2)) :
  onS (m1, m2) s = if l2 = h2 then decide (2 * l2 = m2) && (decide (2 * min l1 h1 < m1) && decide (m1 < 2 * max l1 h1)) else !(decide (2 * l2 > m2) || decide (2 * h2 ≤ m2)) && decide ((h1 - l1) * (m2 - 2 * l2) - (h2 - l2) * (m1 - 2 * l1) = 0) := by
 unfold onS
 rw [e.1, e.2]
theorem cnt_snoc (f : Sg → Bool) (u : Sgs) (k : Nat) (h : k < u.length) : (u.take (k + 1)).countP f = (u.take k).countP f + if f (sgD u k) = true then 1 else 0 := by
 rw [take_snoc u k ((0, 0), (0, 0)) h, List.countP_append, List.countP_singleton]
 rfl
theorem cnt_le (f : Sg → Bool) (u : Sgs) (k : Nat) : (u.take k).countP f ≤ k := Nat.le_trans List.countP_le_length (by rw [List.length_take]; omega)
theorem par_odd (n : Nat) : ((Int.tmod (n : Int) 2 == 1) = decide (n % 2 = 1)) ∧ (((n : Int) % 2 == 1) = decide (n % 2 = 1)) := by
 have h : ((n : Int) % 2 == 1) = decide (n % 2 = 1) := by
  by_cases h : n % 2 = 1
  ·rw [decide_eq_true h]; simp; omega
  ·rw [decide_eq_false h, beq_eq_false_iff_ne]; omega
 refine ⟨?_, h⟩
 rw [Int.tmod_eq_emod_of_nonneg (by omega)]
 exact h
set_option maxRecDepth 100000 in
set_option maxHeartbeats 4000000 in
theorem ref21_Sides {ok : Nat → Prop} (u : Sgs) (A : Option Addr) (n c : Nat) (s : Sg) (w : World) (hr : Row Ty.sg ok w A u) (hn : n = u.length) (hv : segsV u) (hs : (validB s.1 && validB s.2) = true) (hlen : u.length ≤ 1000000) :
  Calls Tryz.prog 63 #[.slice A n c, sgA s] w fun e w' => e = .returned (.tuple #[.bool (sidesZ u s).1, .bool (sidesZ u s).2]) ∧ Below w.heap.size w w' := by
 subst hn
 have HR := Lib.hid hr
 have HV := Lib.hid hv
 have hmx := hr.len
 clear hr hv
 obtain ⟨z, hz⟩ : ∃ z, z = sidesZ u s := ⟨_, rfl⟩
 rw [← hz]
 obtain ⟨⟨g1, g2⟩, ⟨g3, g4⟩⟩ := s
 rw [Bool.and_eq_true] at hs
 obtain ⟨v1, v2, v3, v4⟩ := valid_bd hs.1
 obtain ⟨v5, v6, v7, v8⟩ := valid_bd hs.2
 simp only at v1 v2 v3 v4 v5 v6 v7 v8
 have q1 := wr_in (x := g1 + g3) (by omega) (by omega)
 have q2 := wr_in (x := g2 + g4) (by omega) (by omega)
 have HZ : Hid (z = if g2 = g4 then (sideE u (g1 + g3, g2 + g4), sideW u (g1 + g3, g2 + g4)) else if g2 < g4 then (sideW u (g1 + g3, g2 + g4), sideE u (g1 + g3, g2 + g4)) else (sideE u (g1 + g3, g2 + g4), sideW u (g1 + g3, g2 + g4))) := hz
 have hm1 : 0 ≤ g1 + g3 ∧ g1 + g3 ≤ 65535 := by omega
 have hm2 : 0 ≤ g2 + g4 ∧ g2 + g4 ≤ 65535 := by omega
 clear hz hs v1 v2 v3 v4 v5 v6 v7 v8
 simp only [sgA]
 go_enter Tryz.func63, Tryz.ntmps63
 go_wp2_with fail
 go_quiet (fail)
 have HS0 : ((w.alloc (.cells #[.int .i64 g1, .int .i64 g2, .int .i64 g3, .int .i64 g4] 48)).drewN nq).heap[w.heap.size]? = some (.cells #[.int .i64 g1, .int .i64 g2, .int .i64 g3, .int .i64 g4] 48 (0, 0)) := heap_alloc_new _ _
 go_wp2
 clear q1 q2
 generalize g1 + g3 = m1 at *
 generalize g2 + g4 = m2 at *
 go_loopw [8, 9, 10] (fun rv ov iv wr => ∃ k : Nat, k ≤ u.length ∧ iv = .int .i64 k ∧ rv = .int .i64 ((u.take k).countP (rayR (m1, m2)) : Nat) ∧ ov = .int .i64 ((u.take k).countP (onS (m1, m2)) : Nat) ∧ wr.heap[w.heap.size]? = some (.cells #[.int .i64 g1, .int .i64 g2, .int .i64 g3, .int .i64 g4] 48 (0, 0)) ∧ Hid (Below w.heap.size w wr)) (fun _ _ i _ => u.length - (intOf i).toNat)
 case atStart => exact ⟨0, Nat.zero_le _, rfl, rfl, rfl, HS0, bq⟩
 case round =>
  obtain ⟨k, hk, rfl, rfl, rfl, HM, HB⟩ := hrel
  by_cases hlt : k < u.length
  ·have HRk := Lib.hid (HR.out.below HB.out)
   obtain ⟨ad, rfl, hx0, hx1, hx2, hx3⟩ := HRk.out.sg_at k hlt
   have hvs := HV.out (sgD u k) (by rw [sgD_eq hlt]; exact List.getElem_mem hlt)
   have HS := Lib.hid (cnt_snoc (rayR (m1, m2)) u k hlt)
   have HT := Lib.hid (cnt_snoc (onS (m1, m2)) u k hlt)
   have hcb := cnt_le (rayR (m1, m2)) u k
   have hco := cnt_le (onS (m1, m2)) u k
   obtain ⟨s, hs⟩ : ∃ s, s = sgD u k := ⟨_, rfl⟩
   rw [← hs] at hx0 hx1 hx2 hx3 HS HT hvs
   clear hs HRk
   obtain ⟨⟨a1, a2⟩, ⟨a3, a4⟩⟩ := s
   simp only at hx0 hx1 hx2 hx3 hvs
   have hx3' : wr.cell? ⟨(ad.add (k * 4)).block, (ad.add (k * 4)).off + 2 + 1, none⟩ = some (.int .i64 a4) := hx3
   rw [Bool.and_eq_true] at hvs
   obtain ⟨v1, v2, v3, v4⟩ := valid_bd hvs.1
   obtain ⟨v5, v6, v7, v8⟩ := valid_bd hvs.2
   simp only at v1 v2 v3 v4 v5 v6 v7 v8
   clear hvs
   have hsz := lt_of_block HM
   generalize (u.take k).countP (rayR (m1, m2)) = cn at *
   generalize (u.take k).countP (onS (m1, m2)) = co at *
   go_wp2_with fail
   refine start_ (n := 14) (S := fun w' => w'.cell? (ad.add (k * 4)) = some (.int .i64 a1) ∧ w'.cell? ⟨(ad.add (k * 4)).block, (ad.add (k * 4)).off + 1, none⟩ = some (.int .i64 a2) ∧ w'.cell? ⟨(ad.add (k * 4)).block, (ad.add (k * 4)).off + 2, none⟩ = some (.int .i64 a3) ∧ w'.cell? ⟨(ad.add (k * 4)).block, (ad.add (k * 4)).off + 2 + 1, none⟩ = some (.int .i64 a4)) (ds := [13]) #[Z,Z,Z,Z,Z,Z,Z,Z,Z,Z,Z,Z,Z,Z] (by kernel_rfl) rfl rfl ⟨hx0, hx1, hx2, hx3'⟩ (fun hHeld => ?_)
   refine pu 0 36 ?_
   refine pu 1 37 ?_
   refine pu 2 38 ?_
   refine pu 3 39 ?_
   refine pu 5 41 ?_
   refine pu 6 42 ?_
   refine pu 7 43 ?_
   refine pu 8 44 ?_
   refine ta 4 40 hHeld ?_
   refine ta 9 45 hHeld ?_
   refine join_ (σ := Nat × Nat) 2 #[J,J,J,J,J,J,J,J,J,J,J,J,Z,Z] (fun s => [(11, .pointer (some ⟨s.1, 0, none⟩)), (12, .pointer (some ⟨s.2, 0, none⟩))]) (fun s w' => wr.heap.size ≤ s.1 ∧ wr.heap.size ≤ s.2 ∧ s.1 ≠ s.2 ∧ w'.heap[s.1]? = some (.cells #[.int .i64 0, .int .i64 0] 28 (0, 0)) ∧ w'.heap[s.2]? = some (.cells #[.int .i64 0, .int .i64 0] 28 (0, 0)) ∧ Below wr.heap.size wr w') ?_ ?_
   rotate_left
   ·intro hCont
    refine two_ (i := 10) (j := 11) (Ni := some 11) (Nj := some 12) #[J,J,J,J,J,J,J,J,J,J,J,Z,Z,Z] #[J,J,J,J,J,J,J,J,J,J,Z,J,Z,Z] rfl rfl rfl rfl (by kernel_rfl) (by decide) (by decide) (fun K hK => ?_) (fun K hK => ?_)
    ·skip
     refine value_ (w1 := ?_) (v := ?_) (by rfl) rfl ?_ ?_
     rotate_left 2
     ·go_simp
      constructor
      ·rfl
      ·rfl
     refine hK.out _ _ ⟨cell_below (below_alloc (below_drew (Below.refl _ _)) _) hx0, cell_below (below_alloc (below_drew (Below.refl _ _)) _) hx1, cell_below (below_alloc (below_drew (Below.refl _ _)) _) hx2, cell_below (below_alloc (below_drew (Below.refl _ _)) _) hx3'⟩ (fun hHeld => ?_)
     clear hK K
     refine nm 11 ?_
     refine one_ (i := 11) (N := some 12) #[J,J,J,J,J,J,J,J,J,J,J,J,Z,Z] rfl rfl (by kernel_rfl) (by decide) (fun K hK => ?_)
     refine value_ (w1 := ?_) (v := ?_) (by rfl) rfl ?_ ?_
     rotate_left 2
     ·go_simp
      constructor
      ·rfl
      ·rfl
     refine hK.out _ _ ⟨cell_below (below_alloc (below_alloc (below_drew (Below.refl _ _)) _) _) hx0, cell_below (below_alloc (below_alloc (below_drew (Below.refl _ _)) _) _) hx1, cell_below (below_alloc (below_alloc (below_drew (Below.refl _ _)) _) _) hx2, cell_below (below_alloc (below_alloc (below_drew (Below.refl _ _)) _) _) hx3'⟩ (fun hHeld => ?_)
     clear hK K
     refine nm 12 ?_
     exact norm_ (by simp only [putAll, Act.put, List.setIfInBounds_toArray, List.set_cons_zero, List.set_cons_succ]) (hCont (wr.heap.size, wr.heap.size + 1) _ ⟨Nat.le_refl _, Nat.le_succ _, by simp, (two_alloc wr.drew _ _).1, (two_alloc wr.drew _ _).2, below_alloc (below_alloc (below_drew (Below.refl _ _)) _) _⟩)
    ·skip
     refine value_ (w1 := ?_) (v := ?_) (by rfl) rfl ?_ ?_
     rotate_left 2
     ·go_simp
      constructor
      ·rfl
      ·rfl
     refine hK.out _ _ ⟨cell_below (below_alloc (below_drew (Below.refl _ _)) _) hx0, cell_below (below_alloc (below_drew (Below.refl _ _)) _) hx1, cell_below (below_alloc (below_drew (Below.refl _ _)) _) hx2, cell_below (below_alloc (below_drew (Below.refl _ _)) _) hx3'⟩ (fun hHeld => ?_)
     clear hK K
     refine nm 12 ?_
     refine one_ (i := 10) (N := some 11) #[J,J,J,J,J,J,J,J,J,J,J,J,Z,Z] rfl rfl (by kernel_rfl) (by decide) (fun K hK => ?_)
     refine value_ (w1 := ?_) (v := ?_) (by rfl) rfl ?_ ?_
     rotate_left 2
     ·go_simp
      constructor
      ·rfl
      ·rfl
     refine hK.out _ _ ⟨cell_below (below_alloc (below_alloc (below_drew (Below.refl _ _)) _) _) hx0, cell_below (below_alloc (below_alloc (below_drew (Below.refl _ _)) _) _) hx1, cell_below (below_alloc (below_alloc (below_drew (Below.refl _ _)) _) _) hx2, cell_below (below_alloc (below_alloc (below_drew (Below.refl _ _)) _) _) hx3'⟩ (fun hHeld => ?_)
     clear hK K
     refine nm 11 ?_
     exact norm_ (by simp only [putAll, Act.put, List.setIfInBounds_toArray, List.set_cons_zero, List.set_cons_succ]) (hCont (wr.heap.size + 1, wr.heap.size) _ ⟨Nat.le_succ _, Nat.le_refl _, by simp, (two_alloc wr.drew _ _).2, (two_alloc wr.drew _ _).1, below_alloc (below_alloc (below_drew (Below.refl _ _)) _) _⟩)
   rintro ⟨p, q⟩ w1 ⟨hp, hq, hpq, hP, hQ, hW1⟩
   have hpqn : ¬ p = q := hpq
   have hqpn : ¬ q = p := fun e => hpq e.symm
   have hHeld := And.intro (cell_below hW1 hx0) (And.intro (cell_below hW1 hx1) (And.intro (cell_below hW1 hx2) (cell_below hW1 hx3')))
   have pf0 := blk_free hP 0
   have pc0 := blk_cell hP 0 rfl
   have pf1 := blk_free hP 1
   have pc1 := blk_cell hP 1 rfl
   have qf0 := blk_free hQ 0
   have qc0 := blk_cell hQ 0 rfl
   have qf1 := blk_free hQ 1
   have qc1 := blk_cell hQ 1 rfl
   refine norm_ (a' := ?_) ?_ ?_
   rotate_left
   ·simp only [putAll, Act.put, List.setIfInBounds_toArray, List.set_cons_zero, List.set_cons_succ]
    rfl
   refine one_ (i := 12) (N := none) #[J,J,J,J,J,J,J,J,J,J,J,J,J,Z] rfl rfl (by kernel_rfl) (by decide) (fun K hK => ?_)
   refine skip_ (w1 := ?_) (by rfl) rfl ?_ ?_
   rotate_left
   ·go_simp
    rfl
   refine hK.out _ _ ⟨cell_below (below_set2 hp (below_set2 hp hW1)) hx0, cell_below (below_set2 hp (below_set2 hp hW1)) hx1, cell_below (below_set2 hp (below_set2 hp hW1)) hx2, cell_below (below_set2 hp (below_set2 hp hW1)) hx3'⟩ (fun hHeld => ?_)
   clear hK K
   refine last_ (i := 13) (N := none) #[J,J,J,J,J,J,J,J,J,J,J,J,J,J] rfl rfl (by kernel_rfl) (by decide) (fun K hK => ?_)
   refine skip_ (w1 := ?_) (by rfl) rfl ?_ ?_
   rotate_left
   ·go_simp
    rfl
   refine hK.out _ _ ?_
   clear hK K
   refine done_ (by kernel_rfl) ?_
   clear hHeld pf0 pf1 qf0 qf1 pc0 pc1 qc0 qc1
   obtain ⟨W3, hW3⟩ : ∃ W3, W3 = (((w1.setCell ⟨p, 0, none⟩ (.int .i64 a1)).setCell ⟨p, 1, none⟩ (.int .i64 a2)).setCell ⟨q, 0, none⟩ (.int .i64 a3)).setCell ⟨q, 1, none⟩ (.int .i64 a4) := ⟨_, rfl⟩
   have HP : W3.heap[p]? = some (.cells #[.int .i64 a1, .int .i64 a2] 28 (0, 0)) := by rw [hW3]; exact blk_far (blk_far (blk_set (blk_set hP _) _) hpqn _) hpqn _
   have HQ : W3.heap[q]? = some (.cells #[.int .i64 a3, .int .i64 a4] 28 (0, 0)) := by rw [hW3]; exact blk_set (blk_set (blk_far (blk_far hQ hqpn _) hqpn _) _) _
   have hbp : ¬ w.heap.size = p := by omega
   have hbq : ¬ w.heap.size = q := by omega
   have HM03 : W3.heap[w.heap.size]? = some (.cells #[.int .i64 g1, .int .i64 g2, .int .i64 g3, .int .i64 g4] 48 (0, 0)) := by rw [hW3]; exact blk_far (blk_far (blk_far (blk_far (blk_below HM hW1) hbp _) hbp _) hbq _) hbq _
   have HB3 : Below wr.heap.size wr W3 := by rw [hW3]; exact below_set2 hq (below_set2 hq (below_set2 hp (below_set2 hp hW1)))
   rw [← hW3]
   clear hP hQ hW1 hW3 hx0 hx1 hx2 hx3 hx3' HM
   have HBr : Hid (Below w.heap.size w W3) := below_step HB.out HB3
   clear HB HB3
   have pc0 := blk_cell HP 0 rfl
   have pc1 := blk_cell HP 1 rfl
   have qc0 := blk_cell HQ 0 rfl
   have qc1 := blk_cell HQ 1 rfl
   have pf0 := blk_free HP 0
   have pf1 := blk_free HP 1
   have qf0 := blk_free HQ 0
   have qf1 := blk_free HQ 1
   by_cases hsw : a2 > a4
   ·have q0 : decide (a4 < a2) = true := decide_eq_true hsw
    have HM3 : Hid (((((W3.setCell ⟨p, 0, none⟩ (.int .i64 a3)).setCell ⟨p, 1, none⟩ (.int .i64 a4)).setCell ⟨q, 0, none⟩ (.int .i64 a1)).setCell ⟨q, 1, none⟩ (.int .i64 a2)).heap[w.heap.size]? = some (.cells #[.int .i64 g1, .int .i64 g2, .int .i64 g3, .int .i64 g4] 48 (0, 0))) := blk_far (blk_far (blk_far (blk_far HM03 hbp _) hbp _) hbq _) hbq _
    have HBs : Hid (Below w.heap.size w ((((W3.setCell ⟨p, 0, none⟩ (.int .i64 a3)).setCell ⟨p, 1, none⟩ (.int .i64 a4)).setCell ⟨q, 0, none⟩ (.int .i64 a1)).setCell ⟨q, 1, none⟩ (.int .i64 a2))) := below_set2 (by show _ ≤ q; omega) (below_set2 (by show _ ≤ q; omega) (below_set2 (by show _ ≤ p; omega) (below_set2 (by show _ ≤ p; omega) HBr.out)))
    clear HBr
    have HBr := HBs
    clear HBs HM03 HP HQ
    have HE := Lib.hid (rayR_of m1 m2 ((a1, a2), (a3, a4)) a3 a4 a1 a2 ⟨if_pos hsw, if_pos hsw⟩)
    have HF := Lib.hid (onS_of m1 m2 ((a1, a2), (a3, a4)) a3 a4 a1 a2 ⟨if_pos hsw, if_pos hsw⟩)
    have w2 := wr_in (x := 2 * a4) (by omega) (by omega)
    have w3 := wr_in (x := 2 * a2) (by omega) (by omega)
    have hz : ¬ a4 = a2 := by omega
    have qz : (a4 == a2) = false := by simp [hz]
    have HF2 := Lib.hid (HF.out.trans (if_neg hz))
    clear HF hz hsw
    by_cases t2 : m2 < 2 * a4
    ·have q2 : decide (m2 < 2 * a4) = true := decide_eq_true t2
     have HC : Hid ((u.take (k + 1)).countP (rayR (m1, m2)) = cn) := by show _ = _; rw [HS.out, HE.out, decide_eq_true (show 2 * a4 > m2 from t2)]; simp
     have HD : Hid ((u.take (k + 1)).countP (onS (m1, m2)) = co) := by show _ = _; rw [HT.out, HF2.out, decide_eq_true (show 2 * a4 > m2 from t2)]; simp
     clear HE HS HF2 HT t2
     go_wp2
     go_roundw
     case rel => exact ⟨k + 1, by omega, by go_num, by rw [HC.out], by rw [HD.out], HM3.out, HBr.out⟩
     case measure => simp [intOf]; omega
    ·have q2 : decide (m2 < 2 * a4) = false := decide_eq_false t2
     by_cases t3 : 2 * a2 ≤ m2
     ·have q3 : decide (2 * a2 ≤ m2) = true := decide_eq_true t3
      have HC : Hid ((u.take (k + 1)).countP (rayR (m1, m2)) = cn) := by show _ = _; rw [HS.out, HE.out, q3]; simp
      have HD : Hid ((u.take (k + 1)).countP (onS (m1, m2)) = co) := by show _ = _; rw [HT.out, HF2.out, q3]; simp
      clear HE HS HF2 HT t2 t3
      go_wp2
      go_roundw
      case rel => exact ⟨k + 1, by omega, by go_num, by rw [HC.out], by rw [HD.out], HM3.out, HBr.out⟩
      case measure => simp [intOf]; omega
     ·have q3 : decide (2 * a2 ≤ m2) = false := decide_eq_false t3
      have w4 := wr_in (x := a1 - a3) (by omega) (by omega)
      have w5 := wr_in (x := m2 - 2 * a4) (by omega) (by omega)
      have w6 := wr_in (x := a2 - a4) (by omega) (by omega)
      have w7 := wr_in (x := 2 * a3) (by omega) (by omega)
      have w8 := wr_in (x := m1 - 2 * a3) (by omega) (by omega)
      have d1 := mul_bd2 (a := a1 - a3) (b := m2 - 2 * a4) (by omega) (by omega) (by omega) (by omega)
      have d2 := mul_bd2 (a := a2 - a4) (b := m1 - 2 * a3) (by omega) (by omega) (by omega) (by omega)
      have w9 := wr_in (x := (a1 - a3) * (m2 - 2 * a4)) (by omega) (by omega)
      have w10 := wr_in (x := (a2 - a4) * (m1 - 2 * a3)) (by omega) (by omega)
      have w11 := wr_in (x := (a1 - a3) * (m2 - 2 * a4) - (a2 - a4) * (m1 - 2 * a3)) (by omega) (by omega)
      clear d1 d2
      have HE2 : Hid (rayR (m1, m2) ((a1, a2), (a3, a4)) = decide ((a2 - a4) * (m1 - 2 * a3) < (a1 - a3) * (m2 - 2 * a4))) := by show _ = _; rw [HE.out, decide_eq_false (show ¬ 2 * a4 > m2 from t2), q3]; show (true && _) = _; rw [Bool.true_and]; exact decide_eq_decide.2 (by omega)
      have HF3 : Hid (onS (m1, m2) ((a1, a2), (a3, a4)) = decide ((a1 - a3) * (m2 - 2 * a4) - (a2 - a4) * (m1 - 2 * a3) = 0)) := by show _ = _; rw [HF2.out, decide_eq_false (show ¬ 2 * a4 > m2 from t2), q3]; rfl
      clear HE HF2 t2 t3
      by_cases t4 : (a2 - a4) * (m1 - 2 * a3) < (a1 - a3) * (m2 - 2 * a4)
      ·have t5 : ¬ (a1 - a3) * (m2 - 2 * a4) - (a2 - a4) * (m1 - 2 * a3) = 0 := by omega
       have q4 : decide ((a2 - a4) * (m1 - 2 * a3) < (a1 - a3) * (m2 - 2 * a4)) = true := decide_eq_true t4
       have q5 : ((a1 - a3) * (m2 - 2 * a4) - (a2 - a4) * (m1 - 2 * a3) == 0) = false := beq_eq_false_iff_ne.2 t5
       have q6 : ((a1 - a3) * (m2 - 2 * a4) == (a2 - a4) * (m1 - 2 * a3)) = false := beq_eq_false_iff_ne.2 (by omega)
       have HC : Hid ((u.take (k + 1)).countP (rayR (m1, m2)) = cn + 1) := by show _ = _; rw [HS.out, HE2.out, q4]; rfl
       have HD : Hid ((u.take (k + 1)).countP (onS (m1, m2)) = co) := by show _ = _; rw [HT.out, HF3.out, decide_eq_false t5]; rfl
       clear HE2 HF3 HS HT t4 t5
       go_wp2
       go_roundw
       case rel => exact ⟨k + 1, by omega, by go_num, by rw [HC.out]; go_num, by rw [HD.out], HM3.out, HBr.out⟩
       case measure => simp [intOf]; omega
      ·by_cases t5 : (a1 - a3) * (m2 - 2 * a4) - (a2 - a4) * (m1 - 2 * a3) = 0
       ·skip
        have q4 : decide ((a2 - a4) * (m1 - 2 * a3) < (a1 - a3) * (m2 - 2 * a4)) = false := decide_eq_false t4
        have q5 : ((a1 - a3) * (m2 - 2 * a4) - (a2 - a4) * (m1 - 2 * a3) == 0) = true := beq_iff_eq.2 t5
        have q6 : ((a1 - a3) * (m2 - 2 * a4) == (a2 - a4) * (m1 - 2 * a3)) = true := beq_iff_eq.2 (by omega)
        have HC : Hid ((u.take (k + 1)).countP (rayR (m1, m2)) = cn) := by show _ = _; rw [HS.out, HE2.out, q4]; rfl
        have HD : Hid ((u.take (k + 1)).countP (onS (m1, m2)) = co + 1) := by show _ = _; rw [HT.out, HF3.out, decide_eq_true t5]; rfl
        clear HE2 HF3 HS HT t4 t5
        go_wp2
        go_roundw
        case rel => exact ⟨k + 1, by omega, by go_num, by rw [HC.out], by rw [HD.out]; go_num, HM3.out, HBr.out⟩
        case measure => simp [intOf]; omega
       ·skip
        have q4 : decide ((a2 - a4) * (m1 - 2 * a3) < (a1 - a3) * (m2 - 2 * a4)) = false := decide_eq_false t4
        have q5 : ((a1 - a3) * (m2 - 2 * a4) - (a2 - a4) * (m1 - 2 * a3) == 0) = false := beq_eq_false_iff_ne.2 t5
        have q6 : ((a1 - a3) * (m2 - 2 * a4) == (a2 - a4) * (m1 - 2 * a3)) = false := beq_eq_false_iff_ne.2 (by omega)
        have HC : Hid ((u.take (k + 1)).countP (rayR (m1, m2)) = cn) := by show _ = _; rw [HS.out, HE2.out, q4]; rfl
        have HD : Hid ((u.take (k + 1)).countP (onS (m1, m2)) = co) := by show _ = _; rw [HT.out, HF3.out, decide_eq_false t5]; rfl
        clear HE2 HF3 HS HT t4 t5
        go_wp2
        go_roundw
        case rel => exact ⟨k + 1, by omega, by go_num, by rw [HC.out], by rw [HD.out], HM3.out, HBr.out⟩
        case measure => simp [intOf]; omega
   ·have q0 : decide (a4 < a2) = false := decide_eq_false hsw
    clear pf0 pf1 qf0 qf1 HP HQ
    have HE := Lib.hid (rayR_of m1 m2 ((a1, a2), (a3, a4)) a1 a2 a3 a4 ⟨if_neg hsw, if_neg hsw⟩)
    have HF := Lib.hid (onS_of m1 m2 ((a1, a2), (a3, a4)) a1 a2 a3 a4 ⟨if_neg hsw, if_neg hsw⟩)
    have w2 := wr_in (x := 2 * a2) (by omega) (by omega)
    have w3 := wr_in (x := 2 * a4) (by omega) (by omega)
    by_cases hz : a2 = a4
    ·have qz : (a2 == a4) = true := by simp [hz]
     have HC : Hid ((u.take (k + 1)).countP (rayR (m1, m2)) = cn) := by show _ = _; rw [HS.out, HE.out]; simp only [Bool.and_eq_true, Bool.not_eq_true', Bool.or_eq_false_iff, decide_eq_false_iff_not]; rw [if_neg (fun h => by have := h.1; omega)]; rfl
     have HF2 : Hid (onS (m1, m2) ((a1, a2), (a3, a4)) = (decide (2 * a2 = m2) && (decide (2 * min a1 a3 < m1) && decide (m1 < 2 * max a1 a3)))) := HF.out.trans (if_pos hz)
     clear HE HS HF hsw w3 hz
     by_cases t1 : 2 * a2 = m2
     ·have q1 : (2 * a2 == m2) = true := by simp [t1]
      by_cases hx : a1 < a3
      ·have hmn : min a1 a3 = a1 := by omega
       have hmx2 : max a1 a3 = a3 := by omega
       have hx2 : ¬ a3 < a1 := by omega
       have w4 := wr_in (x := 2 * a1) (by omega) (by omega)
       have w5 := wr_in (x := 2 * a3) (by omega) (by omega)
       rw [hmn, hmx2, decide_eq_true t1, Bool.true_and] at HF2
       have hmn' : (if a3 < a1 then a3 else a1) = a1 := if_neg hx2
       have hmx' : (if a1 < a3 then a3 else a1) = a3 := if_pos hx
       clear hmn hmx2 hx2 hx t1
       by_cases t2 : 2 * a1 < m1
       ·have q2 : decide (2 * a1 < m1) = true := decide_eq_true t2
        by_cases t3 : m1 < 2 * a3
        ·have q3 : decide (m1 < 2 * a3) = true := decide_eq_true t3
         have HD : Hid ((u.take (k + 1)).countP (onS (m1, m2)) = co + 1) := by show _ = _; rw [HT.out, HF2.out, q2, q3]; rfl
         clear HF2 HT t2 t3
         go_wp2
         go_roundw
         case rel => exact ⟨k + 1, by omega, by go_num, by rw [HC.out], by rw [HD.out]; go_num, HM03, HBr.out⟩
         case measure => simp [intOf]; omega
        ·have q3 : decide (m1 < 2 * a3) = false := decide_eq_false t3
         have HD : Hid ((u.take (k + 1)).countP (onS (m1, m2)) = co) := by show _ = _; rw [HT.out, HF2.out, q2, q3]; rfl
         clear HF2 HT t2 t3
         go_wp2
         go_roundw
         case rel => exact ⟨k + 1, by omega, by go_num, by rw [HC.out], by rw [HD.out], HM03, HBr.out⟩
         case measure => simp [intOf]; omega
       ·have q2 : decide (2 * a1 < m1) = false := decide_eq_false t2
        have HD : Hid ((u.take (k + 1)).countP (onS (m1, m2)) = co) := by show _ = _; rw [HT.out, HF2.out, q2]; rfl
        clear HF2 HT t2
        go_wp2
        go_roundw
        case rel => exact ⟨k + 1, by omega, by go_num, by rw [HC.out], by rw [HD.out], HM03, HBr.out⟩
        case measure => simp [intOf]; omega
      ·have hmn : min a1 a3 = a3 := by omega
       have hmx2 : max a1 a3 = a1 := by omega
       have hx2 : a3 < a1 ∨ a3 = a1 := by omega
       have w4 := wr_in (x := 2 * a1) (by omega) (by omega)
       have w5 := wr_in (x := 2 * a3) (by omega) (by omega)
       rw [hmn, hmx2, decide_eq_true t1, Bool.true_and] at HF2
       have hmn' : (if a3 < a1 then a3 else a1) = a3 := by split <;> omega
       have hmx' : (if a1 < a3 then a3 else a1) = a1 := if_neg hx
       clear hmn hmx2 hx2 hx t1
       by_cases t2 : 2 * a3 < m1
       ·have q2 : decide (2 * a3 < m1) = true := decide_eq_true t2
        by_cases t3 : m1 < 2 * a1
        ·have q3 : decide (m1 < 2 * a1) = true := decide_eq_true t3
         have HD : Hid ((u.take (k + 1)).countP (onS (m1, m2)) = co + 1) := by show _ = _; rw [HT.out, HF2.out, q2, q3]; rfl
         clear HF2 HT t2 t3
         go_wp2
         go_roundw
         case rel => exact ⟨k + 1, by omega, by go_num, by rw [HC.out], by rw [HD.out]; go_num, HM03, HBr.out⟩
         case measure => simp [intOf]; omega
        ·have q3 : decide (m1 < 2 * a1) = false := decide_eq_false t3
         have HD : Hid ((u.take (k + 1)).countP (onS (m1, m2)) = co) := by show _ = _; rw [HT.out, HF2.out, q2, q3]; rfl
         clear HF2 HT t2 t3
         go_wp2
         go_roundw
         case rel => exact ⟨k + 1, by omega, by go_num, by rw [HC.out], by rw [HD.out], HM03, HBr.out⟩
         case measure => simp [intOf]; omega
       ·have q2 : decide (2 * a3 < m1) = false := decide_eq_false t2
        have HD : Hid ((u.take (k + 1)).countP (onS (m1, m2)) = co) := by show _ = _; rw [HT.out, HF2.out, q2]; rfl
        clear HF2 HT t2
        go_wp2
        go_roundw
        case rel => exact ⟨k + 1, by omega, by go_num, by rw [HC.out], by rw [HD.out], HM03, HBr.out⟩
        case measure => simp [intOf]; omega
     ·have q1 : (2 * a2 == m2) = false := by simp [t1]
      have HD : Hid ((u.take (k + 1)).countP (onS (m1, m2)) = co) := by show _ = _; rw [HT.out, HF2.out, decide_eq_false t1]; rfl
      clear HF2 HT t1
      go_wp2
      go_roundw
      case rel => exact ⟨k + 1, by omega, by go_num, by rw [HC.out], by rw [HD.out], HM03, HBr.out⟩
      case measure => simp [intOf]; omega
    ·have qz : (a2 == a4) = false := by simp [hz]
     have HF2 := Lib.hid (HF.out.trans (if_neg hz))
     clear HF hz hsw
     by_cases t2 : m2 < 2 * a2
     ·have q2 : decide (m2 < 2 * a2) = true := decide_eq_true t2
      have HC : Hid ((u.take (k + 1)).countP (rayR (m1, m2)) = cn) := by show _ = _; rw [HS.out, HE.out, decide_eq_true (show 2 * a2 > m2 from t2)]; simp
      have HD : Hid ((u.take (k + 1)).countP (onS (m1, m2)) = co) := by show _ = _; rw [HT.out, HF2.out, decide_eq_true (show 2 * a2 > m2 from t2)]; simp
      clear HE HS HF2 HT t2
      go_wp2
      go_roundw
      case rel => exact ⟨k + 1, by omega, by go_num, by rw [HC.out], by rw [HD.out], HM03, HBr.out⟩
      case measure => simp [intOf]; omega
     ·have q2 : decide (m2 < 2 * a2) = false := decide_eq_false t2
      by_cases t3 : 2 * a4 ≤ m2
      ·have q3 : decide (2 * a4 ≤ m2) = true := decide_eq_true t3
       have HC : Hid ((u.take (k + 1)).countP (rayR (m1, m2)) = cn) := by show _ = _; rw [HS.out, HE.out, q3]; simp
       have HD : Hid ((u.take (k + 1)).countP (onS (m1, m2)) = co) := by show _ = _; rw [HT.out, HF2.out, q3]; simp
       clear HE HS HF2 HT t2 t3
       go_wp2
       go_roundw
       case rel => exact ⟨k + 1, by omega, by go_num, by rw [HC.out], by rw [HD.out], HM03, HBr.out⟩
       case measure => simp [intOf]; omega
      ·have q3 : decide (2 * a4 ≤ m2) = false := decide_eq_false t3
       have w4 := wr_in (x := a3 - a1) (by omega) (by omega)
       have w5 := wr_in (x := m2 - 2 * a2) (by omega) (by omega)
       have w6 := wr_in (x := a4 - a2) (by omega) (by omega)
       have w7 := wr_in (x := 2 * a1) (by omega) (by omega)
       have w8 := wr_in (x := m1 - 2 * a1) (by omega) (by omega)
       have d1 := mul_bd2 (a := a3 - a1) (b := m2 - 2 * a2) (by omega) (by omega) (by omega) (by omega)
       have d2 := mul_bd2 (a := a4 - a2) (b := m1 - 2 * a1) (by omega) (by omega) (by omega) (by omega)
       have w9 := wr_in (x := (a3 - a1) * (m2 - 2 * a2)) (by omega) (by omega)
       have w10 := wr_in (x := (a4 - a2) * (m1 - 2 * a1)) (by omega) (by omega)
       have w11 := wr_in (x := (a3 - a1) * (m2 - 2 * a2) - (a4 - a2) * (m1 - 2 * a1)) (by omega) (by omega)
       clear d1 d2
       have HE2 : Hid (rayR (m1, m2) ((a1, a2), (a3, a4)) = decide ((a4 - a2) * (m1 - 2 * a1) < (a3 - a1) * (m2 - 2 * a2))) := by show _ = _; rw [HE.out, decide_eq_false (show ¬ 2 * a2 > m2 from t2), q3]; show (true && _) = _; rw [Bool.true_and]; exact decide_eq_decide.2 (by omega)
       have HF3 : Hid (onS (m1, m2) ((a1, a2), (a3, a4)) = decide ((a3 - a1) * (m2 - 2 * a2) - (a4 - a2) * (m1 - 2 * a1) = 0)) := by show _ = _; rw [HF2.out, decide_eq_false (show ¬ 2 * a2 > m2 from t2), q3]; rfl
       clear HE HF2 t2 t3
       by_cases t4 : (a4 - a2) * (m1 - 2 * a1) < (a3 - a1) * (m2 - 2 * a2)
       ·have t5 : ¬ (a3 - a1) * (m2 - 2 * a2) - (a4 - a2) * (m1 - 2 * a1) = 0 := by omega
        have q4 : decide ((a4 - a2) * (m1 - 2 * a1) < (a3 - a1) * (m2 - 2 * a2)) = true := decide_eq_true t4
        have q5 : ((a3 - a1) * (m2 - 2 * a2) - (a4 - a2) * (m1 - 2 * a1) == 0) = false := beq_eq_false_iff_ne.2 t5
        have q6 : ((a3 - a1) * (m2 - 2 * a2) == (a4 - a2) * (m1 - 2 * a1)) = false := beq_eq_false_iff_ne.2 (by omega)
        have HC : Hid ((u.take (k + 1)).countP (rayR (m1, m2)) = cn + 1) := by show _ = _; rw [HS.out, HE2.out, q4]; rfl
        have HD : Hid ((u.take (k + 1)).countP (onS (m1, m2)) = co) := by show _ = _; rw [HT.out, HF3.out, decide_eq_false t5]; rfl
        clear HE2 HF3 HS HT t4 t5
        go_wp2
        go_roundw
        case rel => exact ⟨k + 1, by omega, by go_num, by rw [HC.out]; go_num, by rw [HD.out], HM03, HBr.out⟩
        case measure => simp [intOf]; omega
       ·by_cases t5 : (a3 - a1) * (m2 - 2 * a2) - (a4 - a2) * (m1 - 2 * a1) = 0
        ·skip
         have q4 : decide ((a4 - a2) * (m1 - 2 * a1) < (a3 - a1) * (m2 - 2 * a2)) = false := decide_eq_false t4
         have q5 : ((a3 - a1) * (m2 - 2 * a2) - (a4 - a2) * (m1 - 2 * a1) == 0) = true := beq_iff_eq.2 t5
         have q6 : ((a3 - a1) * (m2 - 2 * a2) == (a4 - a2) * (m1 - 2 * a1)) = true := beq_iff_eq.2 (by omega)
         have HC : Hid ((u.take (k + 1)).countP (rayR (m1, m2)) = cn) := by show _ = _; rw [HS.out, HE2.out, q4]; rfl
         have HD : Hid ((u.take (k + 1)).countP (onS (m1, m2)) = co + 1) := by show _ = _; rw [HT.out, HF3.out, decide_eq_true t5]; rfl
         clear HE2 HF3 HS HT t4 t5
         go_wp2
         go_roundw
         case rel => exact ⟨k + 1, by omega, by go_num, by rw [HC.out], by rw [HD.out]; go_num, HM03, HBr.out⟩
         case measure => simp [intOf]; omega
        ·skip
         have q4 : decide ((a4 - a2) * (m1 - 2 * a1) < (a3 - a1) * (m2 - 2 * a2)) = false := decide_eq_false t4
         have q5 : ((a3 - a1) * (m2 - 2 * a2) - (a4 - a2) * (m1 - 2 * a1) == 0) = false := beq_eq_false_iff_ne.2 t5
         have q6 : ((a3 - a1) * (m2 - 2 * a2) == (a4 - a2) * (m1 - 2 * a1)) = false := beq_eq_false_iff_ne.2 (by omega)
         have HC : Hid ((u.take (k + 1)).countP (rayR (m1, m2)) = cn) := by show _ = _; rw [HS.out, HE2.out, q4]; rfl
         have HD : Hid ((u.take (k + 1)).countP (onS (m1, m2)) = co) := by show _ = _; rw [HT.out, HF3.out, decide_eq_false t5]; rfl
         clear HE2 HF3 HS HT t4 t5
         go_wp2
         go_roundw
         case rel => exact ⟨k + 1, by omega, by go_num, by rw [HC.out], by rw [HD.out], HM03, HBr.out⟩
         case measure => simp [intOf]; omega
  ·obtain rfl : k = u.length := by omega
   have hcb := cnt_le (rayR (m1, m2)) u u.length
   have hco := cnt_le (onS (m1, m2)) u u.length
   rw [List.take_length] at hcb hco ⊢
   have HE : Hid (sideE u (m1, m2) = decide (u.countP (rayR (m1, m2)) % 2 = 1)) := rfl
   have HW : Hid (sideW u (m1, m2) = decide ((u.countP (rayR (m1, m2)) + u.countP (onS (m1, m2))) % 2 = 1)) := rfl
   generalize u.countP (rayR (m1, m2)) = cn at *
   generalize u.countP (onS (m1, m2)) = co at *
   have e1 := (par_odd cn).1.trans HE.out.symm
   have e2 := (par_odd cn).2.trans HE.out.symm
   have e3 := (par_odd (cn + co)).1.trans HW.out.symm
   have e4 := (par_odd (cn + co)).2.trans HW.out.symm
   rw [Int.natCast_add] at e3 e4
   have w1 := wr_in (x := (cn : Int) + (co : Int)) (by omega) (by omega)
   have mc0 := blk_cell HM 0 rfl
   have mc1 := blk_cell HM 1 rfl
   have mc2 := blk_cell HM 2 rfl
   have mc3 := blk_cell HM 3 rfl
   clear HE HW
   generalize sideE u (m1, m2) = E at *
   generalize sideW u (m1, m2) = F at *
   by_cases h1 : g2 = g4
   ·have q1 : (g2 == g4) = true := by simp [h1]
    have HR1 : Hid (z = (E, F)) := HZ.out.trans (if_pos h1)
    clear HZ h1
    go_wp2
    go_ret2
    exact ⟨by rw [HR1.out]; first | done | rfl, HB.out⟩
   ·have q1 : (g2 == g4) = false := by simp [h1]
    by_cases h2 : g2 < g4
    ·have q2 : decide (g2 < g4) = true := decide_eq_true h2
     have HR1 : Hid (z = (F, E)) := HZ.out.trans ((if_neg h1).trans (if_pos h2))
     clear HZ h1 h2
     go_wp2
     go_ret2
     exact ⟨by rw [HR1.out]; first | done | rfl, HB.out⟩
    ·have q2 : decide (g2 < g4) = false := decide_eq_false h2
     have HR1 : Hid (z = (E, F)) := HZ.out.trans ((if_neg h1).trans (if_neg h2))
     clear HZ h1 h2
     go_wp2
     go_ret2
     exact ⟨by rw [HR1.out]; first | done | rfl, HB.out⟩
end
end Go.Proofs.YtaeflnbjeaoapaaGreat
