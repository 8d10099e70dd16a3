/- Contract of ref21.ends. Contracts of ref20.Clean and ref21.Check. Contract of ref21.Check. Plain laws: the reference's check and position are the code's. Plain laws: the reference divides a set's segments as the code does. Plain laws: the reference's crossings are the code's. Plain law: the reference's check is the code's. Plain law on clean sets: two segments have no common part beyond one end, and no end lies within another segment. -/
import Derived.Test.YtaeflnbjeaoapaaGreatKPW
import Derived.Test.YtaeflnbjeaoapaaGreatKP15
import Derived.Test.YtaeflnbjeaoapaaGreatKP17
import Derived.Test.YtaeflnbjeaoapaaGreatKP12
import Derived.Test.YtaeflnbjeaoapaaGreatKP11
import Derived.Test.YtaeflnbjeaoapaaGreatKP6
namespace Go.Proofs.YtaeflnbjeaoapaaGreat
set_option linter.unusedVariables false
set_option linter.unusedSimpArgs false
section
open Go.RowKit Go.Proofs.YtaeflnbjeaoapaaGreatW.PrintLast

attribute [local go_sem high] eqPt eqSg
def endB (p : Pt) (s : Sg) : Bool := decide (s.1 = p) || decide (s.2 = p)
def endsN (l : Sgs) (p : Pt) : Nat := l.countP (endB p)
theorem endsN_snoc (l : Sgs) (p : Pt) (k : Nat) (h : k < l.length) : endsN (l.take (k + 1)) p = endsN (l.take k) p + if endB p (sgD l k) = true then 1 else 0 := by
 unfold endsN
 rw [take_snoc l k ((0, 0), (0, 0)) h, List.countP_append, List.countP_singleton]
 rfl
theorem endsN_le (l : Sgs) (p : Pt) (k : Nat) : endsN (l.take k) p ≤ k := by
 unfold endsN
 exact Nat.le_trans List.countP_le_length (by rw [List.length_take]; omega)
set_option maxRecDepth 100000 in
set_option maxHeartbeats 2000000 in
theorem ref21_ends {ok : Nat → Prop} (l : Sgs) (A : Option Addr) (n c : Nat) (p : Pt) (w : World) (hr : Row Ty.sg ok w A l) (hn : n = l.length) :
  Calls Tryz.prog 100 #[.slice A n c, ptA p] w fun e w' => e = .returned (.int .i64 (endsN l p : Nat)) ∧ Below w.heap.size w w' := by
 subst hn
 have hmx := hr.len
 have HR := Lib.hid hr
 clear hr
 go_enter Tryz.func100, Tryz.ntmps100
 go_wp2
 go_loopw [5, 6] (fun v i wr => ∃ k : Nat, k ≤ l.length ∧ i = .int .i64 k ∧ v = .int .i64 (endsN (l.take k) p : Nat) ∧ wr.heap[w.heap.size]? = some (.cells #[.int .i64 p.1, .int .i64 p.2] 28 (0, 0)) ∧ Hid (Below w.heap.size w wr)) (fun _ i _ => l.length - (intOf i).toNat)
 case atStart => exact ⟨0, Nat.zero_le _, rfl, rfl, heap_alloc_new _ _, below_alloc (Below.refl _ _) _⟩
 case round =>
  obtain ⟨k, hk, rfl, rfl, HX, HB⟩ := hrel
  have hsz := lt_of_block HX
  have pc0 := blk_cell HX 0 rfl
  have pc1 := blk_cell HX 1 rfl
  have hle := endsN_le l p k
  by_cases hlt : k < l.length
  ·obtain ⟨ad, rfl, hx0, hx1, hx2, hx3⟩ := (HR.out.below HB.out).sg_at k hlt
   have hx3' : wr.cell? ⟨(ad.add (k * 4)).block, (ad.add (k * 4)).off + 2 + 1, none⟩ = some (.int .i64 (sgD l k).2.2) := hx3
   have HS := Lib.hid (endsN_snoc l p k hlt)
   generalize sgD l k = x at *
   generalize endsN (l.take k) p = cn at *
   by_cases h1 : x.1 = p
   ·have hd := (ptB x.1 p).trans (decide_eq_true h1)
    have HT : Hid (endsN (l.take (k + 1)) p = cn + 1) := HS.out.trans (by rw [if_pos (by simp [endB, h1])])
    clear h1 HS
    go_wp2_with fail
    go_quiet (fail)
    have BR : Below wr.heap.size wr (wr.drewN nq) := bq
    have HX1 := blk_below HX BR
    clear BR
    go_wp2
    go_roundw
    case rel => exact ⟨k + 1, by omega, by go_num, by rw [HT.out]; go_num, HX1, (by repeat (first | exact Below.refl _ _ | apply below_alloc | apply below_drewN | apply below_drew | (refine below_set2 ?_ ?_; (first | (simp; done) | (simp; omega))) | (refine below_step ?_ HB.out)))⟩
    case measure => simp [intOf]; omega
   ·have hd := (ptB x.1 p).trans (decide_eq_false h1)
    by_cases h2 : x.2 = p
    ·have hd2 := (ptB x.2 p).trans (decide_eq_true h2)
     have HT : Hid (endsN (l.take (k + 1)) p = cn + 1) := HS.out.trans (by rw [if_pos (by simp [endB, h2])])
     clear h1 h2 HS
     go_wp2_with fail
     go_quiet (fail)
     have BR : Below wr.heap.size wr (wr.drewN nq) := bq
     have HX1 := blk_below HX BR
     clear BR
     go_wp2
     go_roundw
     case rel => exact ⟨k + 1, by omega, by go_num, by rw [HT.out]; go_num, HX1, (by repeat (first | exact Below.refl _ _ | apply below_alloc | apply below_drewN | apply below_drew | (refine below_set2 ?_ ?_; (first | (simp; done) | (simp; omega))) | (refine below_step ?_ HB.out)))⟩
     case measure => simp [intOf]; omega
    ·have hd2 := (ptB x.2 p).trans (decide_eq_false h2)
     have HT : Hid (endsN (l.take (k + 1)) p = cn) := HS.out.trans (by rw [if_neg (by simp [endB, h1, h2])]; rfl)
     clear h1 h2 HS
     go_wp2_with fail
     go_quiet (fail)
     have BR : Below wr.heap.size wr (wr.drewN nq) := bq
     have HX1 := blk_below HX BR
     clear BR
     go_wp2
     go_roundw
     case rel => exact ⟨k + 1, by omega, by go_num, by rw [HT.out], HX1, (by repeat (first | exact Below.refl _ _ | apply below_alloc | apply below_drewN | apply below_drew | (refine below_set2 ?_ ?_; (first | (simp; done) | (simp; omega))) | (refine below_step ?_ HB.out)))⟩
     case measure => simp [intOf]; omega
  ·obtain rfl : k = l.length := by omega
   have HL : Hid (endsN (l.take l.length) p = endsN l p) := by rw [List.take_length]; exact rfl
   generalize endsN (l.take l.length) p = cn at *
   go_wp2
   go_ret
   exact ⟨ret_int (by rw [HL.out]), HB.out⟩
end
section
open Go.RowKit Go.Proofs.YtaeflnbjeaoapaaGreatW.PrintLast

def cleanR (l : Sgs) : Bool := decide (splR (sortZ l) = sortZ l) && decide (crossR (uniqZ l) = [])
set_option maxHeartbeats 2000000 in
theorem ref20_Clean {ok : Nat → Prop} (l : Sgs) (A : Option Addr) (n c : Nat) (w : World) (hr : Row Ty.sg ok w A l) (hn : n = l.length) (hlen : l.length ≤ 600) :
  Calls Tryz.prog 33 #[.slice A n c] w fun e w' => e = .returned (.bool (cleanR l)) ∧ Below w.heap.size w w' := by
 subst hn
 have HR := Lib.hid hr
 clear hr
 have C1 := Lib.hid (fun W h => ref20_Split (ok := ok) l A l.length c W h rfl (by omega))
 have C2 := Lib.hid (fun W h => ref20_Sort (ok := ok) l A l.length c W h rfl (by omega))
 have C3 := Lib.hid (fun W h => ref20_Crossings (ok := ok) l A l.length c W h rfl (by omega))
 have HZ : Hid (cleanR l = (decide (splR (sortZ l) = sortZ l) && decide (crossR (uniqZ l) = []))) := rfl
 obtain ⟨z, hz⟩ : ∃ z, z = cleanR l := ⟨_, rfl⟩
 rw [← hz] at HZ ⊢
 clear hz
 generalize splR (sortZ l) = a at *
 generalize sortZ l = b at *
 generalize crossR (uniqZ l) = cr at *
 cases hq : decide (a = b)
 ·have HQ := Lib.hid hq
  have HR1 : Hid (z = false) := HZ.out.trans (by rw [hq]; rfl)
  clear hq HZ
  go_enter Tryz.func33, Tryz.ntmps33
  go_wp2_with fail
  refine Calls.mono (C1.out _ HR.out) ?_
  rintro e w1 ⟨v1, rfl, ho1, hb1⟩
  obtain ⟨A1, c1, rfl, hl1, hr1⟩ := ho1.reads
  have HA := Lib.hid hr1
  have HB1 := Lib.hid hb1
  clear ho1 hr1 hb1
  go_wp2_with fail
  refine Calls.mono (C2.out _ (HR.out.below HB1.out)) ?_
  rintro e w2 ⟨v2, rfl, ho2, hb2⟩
  obtain ⟨A2, c2, rfl, hl2, hr2⟩ := ho2.reads
  have HBr := Lib.hid hr2
  have HA2 := Lib.hid (HA.out.below hb2)
  have HB2 := Lib.hid (below_step HB1.out hb2)
  clear ho2 hr2 hb2
  go_wp2_with fail
  refine (ref20_Same a b A1 A2 _ _ c1 c2 _ HA2.out HBr.out rfl rfl).mono ?_
  rintro e w3 ⟨rfl, hb3⟩
  rw [HQ.out]
  have HB3 := Lib.hid (below_step HB2.out hb3)
  clear hb3
  go_wp2
  go_ret
  exact ⟨ret_bool HR1.out.symm, HB3.out⟩
 ·have HQ := Lib.hid hq
  have HR1 : Hid (z = decide (cr = [])) := HZ.out.trans (by rw [hq]; rfl)
  clear hq HZ
  go_enter Tryz.func33, Tryz.ntmps33
  go_wp2_with fail
  refine Calls.mono (C1.out _ HR.out) ?_
  rintro e w1 ⟨v1, rfl, ho1, hb1⟩
  obtain ⟨A1, c1, rfl, hl1, hr1⟩ := ho1.reads
  have HA := Lib.hid hr1
  have HB1 := Lib.hid hb1
  clear ho1 hr1 hb1
  go_wp2_with fail
  refine Calls.mono (C2.out _ (HR.out.below HB1.out)) ?_
  rintro e w2 ⟨v2, rfl, ho2, hb2⟩
  obtain ⟨A2, c2, rfl, hl2, hr2⟩ := ho2.reads
  have HBr := Lib.hid hr2
  have HA2 := Lib.hid (HA.out.below hb2)
  have HB2 := Lib.hid (below_step HB1.out hb2)
  clear ho2 hr2 hb2
  go_wp2_with fail
  refine (ref20_Same a b A1 A2 _ _ c1 c2 _ HA2.out HBr.out rfl rfl).mono ?_
  rintro e w3 ⟨rfl, hb3⟩
  rw [HQ.out]
  have HB3 := Lib.hid (below_step HB2.out hb3)
  clear hb3
  go_wp2_with fail
  refine Calls.mono (C3.out _ (HR.out.below HB3.out)) ?_
  rintro e w4 ⟨B4, d4, rfl, hb4⟩
  have HB4 := Lib.hid (below_step HB3.out hb4)
  clear hb4
  by_cases hc : cr = []
  ·have q0 : ((cr.length : Int) == 0) = true := by rw [hc]; rfl
   have q1 : (cr.length == 0) = true := by rw [hc]; rfl
   have HR2 : Hid (z = true) := HR1.out.trans (decide_eq_true hc)
   clear hc
   generalize cr.length = nn at *
   go_wp2
   go_ret
   exact ⟨ret_bool HR2.out.symm, HB4.out⟩
  ·have hl : 0 < cr.length := List.length_pos_iff.2 hc
   have q0 : ((cr.length : Int) == 0) = false := by rw [beq_eq_false_iff_ne]; omega
   have q1 : (cr.length == 0) = false := by rw [beq_eq_false_iff_ne]; omega
   have HR2 : Hid (z = false) := HR1.out.trans (decide_eq_false hc)
   clear hc
   generalize cr.length = nn at *
   go_wp2
   go_ret
   exact ⟨ret_bool HR2.out.symm, HB4.out⟩
end
section
open Go.RowKit Go.Proofs.YtaeflnbjeaoapaaGreatW.PrintLast

def oddB (u : Sgs) (s : Sg) : Bool := decide (endsN u s.1 % 2 = 1) || decide (endsN u s.2 % 2 = 1)
def checkUR (u : Sgs) : Int := if u = [] then 15 else if cleanR u = false then 13 else if u.any (oddB u) = true then 14 else 0
def checkR (l : Sgs) : Int := checkUR (uniqZ l)
theorem odd_of {n : Nat} (h : n % 2 = 1) : ((n : Int) % 2 == 1) = true := by simp; omega
theorem even_of {n : Nat} (h : ¬ n % 2 = 1) : ((n : Int) % 2 == 1) = false := by rw [beq_eq_false_iff_ne]; omega
set_option maxRecDepth 100000 in
set_option maxHeartbeats 2000000 in
theorem ref21_Check {ok : Nat → Prop} (l : Sgs) (A : Option Addr) (n c : Nat) (w : World) (hr : Row Ty.sg ok w A l) (hn : n = l.length) (hlen : l.length ≤ 600) :
  Calls Tryz.prog 61 #[.slice A n c] w fun e w' => e = .returned (.int .i64 (checkR l)) ∧ Below w.heap.size w w' := by
 subst hn
 have HR := Lib.hid hr
 clear hr
 have hul := uniq_len l
 have CU := Lib.hid (fun W h => ref20_Unique (ok := ok) l A l.length c W h rfl (by omega))
 obtain ⟨z, hz⟩ : ∃ z, z = checkR l := ⟨_, rfl⟩
 rw [← hz]
 have HE : Hid (z = checkUR (uniqZ l)) := hz
 clear hz
 generalize uniqZ l = u at *
 go_enter Tryz.func61, Tryz.ntmps61
 go_wp2_with fail
 refine Calls.mono (CU.out _ HR.out) ?_
 rintro e w1 ⟨v, rfl, ho, hb1⟩
 obtain ⟨A1, c1, rfl, hl1, hr1⟩ := ho.reads
 have HU := Lib.hid hr1
 have HB1 := Lib.hid hb1
 clear ho hr1 hb1 CU
 by_cases hu : u = []
 ·subst hu
  have HR15 : Hid (z = 15) := HE.out
  clear HE
  go_wp2
  go_ret
  exact ⟨ret_int HR15.out.symm, HB1.out⟩
 have HE2 : Hid (z = if cleanR u = false then 13 else if u.any (oddB u) = true then 14 else 0) := HE.out.trans (if_neg hu)
 have hpos : 0 < u.length := List.length_pos_iff.2 hu
 have hq : ((u.length : Int) == 0) = false := by rw [beq_eq_false_iff_ne]; omega
 have hq2 : (u.length == 0) = false := by rw [beq_eq_false_iff_ne]; omega
 clear hu HE
 cases hc : cleanR u
 ·have HC := Lib.hid hc
  have HR13 : Hid (z = 13) := HE2.out.trans (if_pos hc)
  clear hc HE2
  go_wp2_with fail
  refine (ref20_Clean u A1 _ c1 _ HU.out rfl (by omega)).mono ?_
  rintro e w2 ⟨rfl, hb2⟩
  rw [HC.out]
  go_wp2
  go_ret
  exact ⟨ret_int HR13.out.symm, (by repeat (first | exact Below.refl _ _ | apply below_alloc | apply below_drewN | apply below_drew | (refine below_set2 ?_ ?_; (first | (simp; done) | (simp; omega))) | (refine below_step ?_ hb2) | (refine below_step ?_ HB1.out)))⟩
 ·have HC := Lib.hid hc
  have HE3 : Hid (z = if u.any (oddB u) = true then 14 else 0) := HE2.out.trans (if_neg (by rw [hc]; decide))
  clear hc HE2
  go_wp2_with fail
  refine (ref20_Clean u A1 _ c1 _ HU.out rfl (by omega)).mono ?_
  rintro e w2 ⟨rfl, hb2⟩
  rw [HC.out]
  have HB2 := Lib.hid (below_step HB1.out hb2)
  have HU2 := Lib.hid (HU.out.below hb2)
  clear hb2 HU HB1
  go_wp2
  go_loopw [4] (fun i wr => ∃ k : Nat, k ≤ u.length ∧ i = .int .i64 k ∧ Hid (Below w2.heap.size w2 wr) ∧ Hid ((u.take k).any (oddB u) = false)) (fun i _ => u.length - (intOf i).toNat)
  case atStart => exact ⟨0, Nat.zero_le _, rfl, Below.refl _ _, by simp [Hid]⟩
  case round =>
   obtain ⟨k, hk, rfl, HB, HN⟩ := hrel
   by_cases hlt : k < u.length
   ·have HUr := Lib.hid (HU2.out.below HB.out)
    obtain ⟨ad, rfl, hx0, hx1, hx2, hx3⟩ := HUr.out.sg_at k hlt
    have HA := Lib.hid (any_snoc u ((0, 0), (0, 0)) (oddB u) k hlt)
    have HH := Lib.hid (fun h => any_hit (xs := u) (d := ((0, 0), (0, 0))) (f := oddB u) (k := k) hlt h)
    have e0 : u.getD k ((0, 0), (0, 0)) = sgD u k := rfl
    rw [e0] at HA HH
    clear e0
    generalize sgD u k = x at *
    have E1 := Lib.hid (fun W h => ref21_ends (ok := fun _ => True) u (some ad) u.length c1 x.1 W h rfl)
    have E2 := Lib.hid (fun W h => ref21_ends (ok := fun _ => True) u (some ad) u.length c1 x.2 W h rfl)
    by_cases h1 : endsN u x.1 % 2 = 1
    ·have HR1 : Hid (z = 14) := HE3.out.trans (if_pos (HH.out (by simp [oddB, h1])))
     have o1 := odd_of h1
     clear h1 HH HA
     generalize endsN u x.1 = n1 at *
     go_wp2_with fail
     refine Calls.mono (E1.out _ HUr.out) ?_
     rintro e w4 ⟨rfl, hb4⟩
     go_wp2
     go_ret
     exact ⟨ret_int HR1.out.symm, (by repeat (first | exact Below.refl _ _ | apply below_alloc | apply below_drewN | apply below_drew | (refine below_set2 ?_ ?_; (first | (simp; done) | (simp; omega))) | (refine below_step ?_ hb4) | (refine below_step ?_ HB.out) | (refine below_step ?_ HB2.out)))⟩
    ·have o1 := even_of h1
     by_cases h2 : endsN u x.2 % 2 = 1
     ·have HR1 : Hid (z = 14) := HE3.out.trans (if_pos (HH.out (by simp [oddB, h2])))
      have o2 := odd_of h2
      clear h1 h2 HH HA
      generalize endsN u x.1 = n1 at *
      generalize endsN u x.2 = n2 at *
      go_wp2_with fail
      refine Calls.mono (E1.out _ HUr.out) ?_
      rintro e w4 ⟨rfl, hb4⟩
      have hy2 := cell_below hb4 hx2
      have hy3 : w4.cell? ⟨(ad.add (k * 4)).block, (ad.add (k * 4)).off + 2 + 1, none⟩ = some (.int .i64 x.2.2) := cell_below hb4 hx3
      have HU4 := Lib.hid (HUr.out.below hb4)
      have HB4 := Lib.hid (below_step HB.out hb4)
      clear hb4 hx0 hx1 hx2 hx3
      go_wp2_with fail
      refine Calls.mono (E2.out _ HU4.out) ?_
      rintro e w5 ⟨rfl, hb5⟩
      go_wp2
      go_ret
      exact ⟨ret_int HR1.out.symm, (by repeat (first | exact Below.refl _ _ | apply below_alloc | apply below_drewN | apply below_drew | (refine below_set2 ?_ ?_; (first | (simp; done) | (simp; omega))) | (refine below_step ?_ hb5) | (refine below_step ?_ HB4.out) | (refine below_step ?_ HB2.out)))⟩
     ·have o2 := even_of h2
      have HN2 : Hid ((u.take (k + 1)).any (oddB u) = false) := HA.out.trans (by rw [HN.out]; simp [oddB, h1, h2])
      clear h1 h2 HH HA
      generalize endsN u x.1 = n1 at *
      generalize endsN u x.2 = n2 at *
      go_wp2_with fail
      refine Calls.mono (E1.out _ HUr.out) ?_
      rintro e w4 ⟨rfl, hb4⟩
      have hy2 := cell_below hb4 hx2
      have hy3 : w4.cell? ⟨(ad.add (k * 4)).block, (ad.add (k * 4)).off + 2 + 1, none⟩ = some (.int .i64 x.2.2) := cell_below hb4 hx3
      have HU4 := Lib.hid (HUr.out.below hb4)
      have HB4 := Lib.hid (below_step HB.out hb4)
      clear hb4 hx0 hx1 hx2 hx3
      go_wp2_with fail
      refine Calls.mono (E2.out _ HU4.out) ?_
      rintro e w5 ⟨rfl, hb5⟩
      have HB5 := Lib.hid (below_step HB4.out hb5)
      clear hb5
      go_wp2
      go_roundw
      case rel => exact ⟨k + 1, by omega, by go_num, HB5.out, HN2.out⟩
      case measure => simp [intOf]; omega
   ·obtain rfl : k = u.length := by omega
    have HR0 : Hid (z = 0) := HE3.out.trans (if_neg (by have := HN.out; rw [List.take_length] at this; rw [this]; decide))
    go_wp2
    go_ret
    exact ⟨ret_int HR0.out.symm, below_step HB2.out HB.out⟩
end
section
/-! ### ends -/
theorem ends_deg : ∀ {u : Sgs} (p : Pt), (∀ s ∈ u, ¬ s.1 = s.2) → endsN u p = degZ u p
 | [], p, _ => rfl
 | s :: u, p, h => by
  have ih := ends_deg (u := u) p (fun t ht => h t (List.mem_cons_of_mem _ ht))
  have hs := h s (List.mem_cons_self ..)
  unfold endsN degZ at *
  have e : ends2 (s :: u) = [s.1, s.2] ++ ends2 u := rfl
  rw [e, List.countP_cons, List.count_append, ih, Nat.add_comm]
  congr 1
  unfold endB
  by_cases h1 : s.1 = p
  ·have h2 : ¬ s.2 = p := fun h => hs (h1.trans h.symm)
   simp [h1, h2]
  ·by_cases h2 : s.2 = p
   ·simp [h1, h2]
   ·simp [h1, h2]
theorem odd_any {u : Sgs} (h : ∀ s ∈ u, ¬ s.1 = s.2) : u.any (oddB u) = (ends2 u).any (fun p => decide (degZ u p % 2 = 1)) := by
 rw [Bool.eq_iff_iff, List.any_eq_true, List.any_eq_true]
 constructor
 ·rintro ⟨s, hs, ho⟩
  unfold oddB at ho
  rw [Bool.or_eq_true] at ho
  rcases ho with ho | ho
  ·exact ⟨s.1, List.mem_flatMap.2 ⟨s, hs, by simp⟩, by rwa [ends_deg s.1 h] at ho⟩
  ·exact ⟨s.2, List.mem_flatMap.2 ⟨s, hs, by simp⟩, by rwa [ends_deg s.2 h] at ho⟩
 ·rintro ⟨p, hp, ho⟩
  obtain ⟨s, hs, hm⟩ := List.mem_flatMap.1 hp
  refine ⟨s, hs, ?_⟩
  unfold oddB
  rw [ends_deg s.1 h, ends_deg s.2 h, Bool.or_eq_true]
  simp only [List.mem_cons, List.not_mem_nil, or_false] at hm
  rcases hm with rfl | rfl
  ·exact .inl ho
  ·exact .inr ho
/-! ### the ray -/
end
section
theorem ch_fold : ∀ (c : Pts) (a : Pt) (out : Sgs), (c.foldl chF (out, a)).1 = (chP a c).foldl (fun acc x => insZ lessS x acc) out
 | [], a, out => rfl
 | q :: c, a, out => by
  rw [List.foldl_cons]
  exact ch_fold c q (insZ lessS (a, q) out)
theorem splR_sort (s : Sgs) : splR s = sortG lessS (s.flatMap fun t => chP t.1 (cutR s t ++ [t.2])) := by
 unfold splR sortG
 rw [List.foldl_flatMap]
 congr 1
 funext out t
 exact ch_fold _ _ _
theorem filter_cut (l : Sgs) (s : Sg) : ((endsZ l).filter fun p => withinB p s.1 s.2) = cutR (sortZ l) s := by
 refine inc_unique totB (fun x => ?_) (List.Pairwise.filter _ (compact_inc totB (sortG_srt totB _))) (cutR_inc _ _)
 rw [List.mem_filter, mem_cutR]
 unfold endsZ
 rw [mem_compact, mem_sortG]
 have e : x ∈ ends2 (uniqZ l) ↔ x ∈ ends2 (sortZ l) := by
  unfold ends2
  rw [List.mem_flatMap, List.mem_flatMap]
  constructor
  ·rintro ⟨t, ht, hx⟩; exact ⟨t, mem_compact.1 ht, hx⟩
  ·rintro ⟨t, ht, hx⟩; exact ⟨t, mem_compact.2 ht, hx⟩
 rw [e]
theorem chain_good {l : Sgs} {s : Sg} (h : s ∈ canonZ l) : ∀ t ∈ chP s.1 (cutR (sortZ l) s ++ [s.2]), goodB t = true ∧ ofS t = t := by
 have hl := canon_less h
 have hv := canon_V l s h
 rw [Bool.and_eq_true] at hv
 have hw : ∀ x ∈ cutR (sortZ l) s, lessB s.1 x = true ∧ lessB x s.2 = true ∧ validB x = true := fun x hx => within_less (mem_cutR.1 hx).2 hl
 refine chP_good hv.1 (fun x hx => ?_) (List.pairwise_cons.2 ⟨fun x hx => ?_, List.pairwise_append.2 ⟨cutR_inc _ _, List.pairwise_singleton _ _, fun x hx y hy => ?_⟩⟩)
 ·rcases List.mem_append.1 hx with hx | hx
  ·exact (hw x hx).2.2
  ·rw [List.mem_singleton.1 hx]; exact hv.2
 ·rcases List.mem_append.1 hx with hx | hx
  ·exact (hw x hx).1
  ·rw [List.mem_singleton.1 hx]; exact hl
 ·rw [List.mem_singleton.1 hy]; exact (hw x hx).2.1
theorem split_same (l : Sgs) : splR (sortZ l) = splitZ l := by
 rw [splR_sort]
 unfold splitZ
 rw [parts_flat, List.nil_append]
 simp only [filter_cut]
 unfold sortZ
 rw [canon_self (l := (canonZ l).flatMap _) (fun t ht => by obtain ⟨s, hs, hm⟩ := List.mem_flatMap.1 ht; exact chain_good hs t hm)]
 exact sortG_congr totS ((sortG_perm (canonZ l)).flatMap_right _)
end
section
theorem both_fold (s t : Sg) : ∀ (es acc : Pts), acc.Nodup → (es.foldl (bothF s t) acc).Nodup ∧ ∀ x, x ∈ es.foldl (bothF s t) acc ↔ x ∈ acc ∨ (x ∈ es ∧ onB x s.1 s.2 = true ∧ onB x t.1 t.2 = true)
 | [], acc, h => ⟨h, fun x => by simp⟩
 | e :: es, acc, h => by
  rw [List.foldl_cons]
  by_cases hc : onB e s.1 s.2 = true ∧ onB e t.1 t.2 = true ∧ e ∉ acc
  ·have e1 : bothF s t acc e = acc ++ [e] := if_pos hc
   have hn : (acc ++ [e]).Nodup := by
    rw [List.nodup_append]
    refine ⟨h, List.pairwise_singleton _ _, fun x hx y hy => ?_⟩
    rw [List.mem_singleton.1 hy]
    exact fun e => hc.2.2 (e ▸ hx)
   have ih := both_fold s t es (acc ++ [e]) hn
   rw [e1]
   refine ⟨ih.1, fun x => ?_⟩
   rw [ih.2 x, List.mem_append, List.mem_singleton, List.mem_cons]
   constructor
   ·rintro ((h | rfl) | ⟨h, h2⟩)
    ·exact .inl h
    ·exact .inr ⟨.inl rfl, hc.1, hc.2.1⟩
    ·exact .inr ⟨.inr h, h2⟩
   ·rintro (h | ⟨rfl | h, h2⟩)
    ·exact .inl (.inl h)
    ·exact .inl (.inr rfl)
    ·exact .inr ⟨h, h2⟩
  ·have e1 : bothF s t acc e = acc := if_neg hc
   have ih := both_fold s t es acc h
   rw [e1]
   refine ⟨ih.1, fun x => ?_⟩
   rw [ih.2 x, List.mem_cons]
   constructor
   ·rintro (h | ⟨h, h2⟩)
    ·exact .inl h
    ·exact .inr ⟨.inr h, h2⟩
   ·rintro (h' | ⟨rfl | h', h2⟩)
    ·exact .inl h'
    ·refine .inl (Classical.byContradiction fun hx => hc ⟨h2.1, h2.2, hx⟩)
    ·exact .inr ⟨h', h2⟩
theorem mem_both {s t : Sg} {x : Pt} : x ∈ bothR s t ↔ x ∈ endsOf s t ∧ onB x s.1 s.2 = true ∧ onB x t.1 t.2 = true := by
 have := (both_fold s t (endsOf s t) [] List.nodup_nil).2 x
 unfold bothR
 simpa using this
theorem both_two {s t : Sg} : 1 < (bothR s t).length ↔ ∃ x y, x ≠ y ∧ x ∈ bothR s t ∧ y ∈ bothR s t := by
 have hn : (bothR s t).Nodup := (both_fold s t (endsOf s t) [] List.nodup_nil).1
 constructor
 ·intro h
  match hb : bothR s t, h with
  | x :: y :: l, _ =>
   rw [hb] at hn
   have := (List.pairwise_cons.1 hn).1 y (List.mem_cons_self ..)
   exact ⟨x, y, this, List.mem_cons_self .., List.mem_cons_of_mem _ (List.mem_cons_self ..)⟩
 ·rintro ⟨x, y, hne, hx, hy⟩
  match hb : bothR s t with
  | [] => rw [hb] at hx; exact absurd hx (List.not_mem_nil)
  | [z] =>
   rw [hb] at hx hy
   exact absurd ((List.mem_singleton.1 hx).trans (List.mem_singleton.1 hy).symm) hne
  | a :: b :: l => simp
theorem par {d1 d2 a1 a2 b1 b2 : Int} (hd : ¬ (d1 = 0 ∧ d2 = 0)) (ha : d1 * a2 - d2 * a1 = 0) (hb : d1 * b2 - d2 * b1 = 0) : a1 * b2 - a2 * b1 = 0 := by
 by_cases h : d1 = 0
 ·have h2 : d2 ≠ 0 := fun e => hd ⟨h, e⟩
  subst h
  have : d2 * (a1 * b2 - a2 * b1) = 0 := by grind
  rcases Int.mul_eq_zero.1 this with h | h
  ·exact absurd h h2
  ·exact h
 ·have : d1 * (a1 * b2 - a2 * b1) = 0 := by grind
  rcases Int.mul_eq_zero.1 this with h' | h'
  ·exact absurd h' h
  ·exact h'
/-- Two different points on two segments: all lie on one line. -/
theorem two_line {s t : Sg} {x y : Pt} (hs : ¬ s.1 = s.2) (ht : ¬ t.1 = t.2) (hne : x ≠ y) (h1 : crossZ s.1 s.2 x = 0) (h2 : crossZ s.1 s.2 y = 0) (h3 : crossZ t.1 t.2 x = 0) (h4 : crossZ t.1 t.2 y = 0) :
  crossZ s.1 s.2 t.1 = 0 ∧ crossZ s.1 s.2 t.2 = 0 ∧ crossZ t.1 t.2 s.1 = 0 ∧ crossZ t.1 t.2 s.2 = 0 := by
 obtain ⟨⟨a1, a2⟩, ⟨b1, b2⟩⟩ := s
 obtain ⟨⟨c1, c2⟩, ⟨d1, d2⟩⟩ := t
 obtain ⟨x1, x2⟩ := x
 obtain ⟨y1, y2⟩ := y
 unfold crossZ at *
 simp only [Prod.mk.injEq, ne_eq] at *
 have ds : ¬ (b1 - a1 = 0 ∧ b2 - a2 = 0) := by omega
 have dt : ¬ (d1 - c1 = 0 ∧ d2 - c2 = 0) := by omega
 have dq : ¬ (y1 - x1 = 0 ∧ y2 - x2 = 0) := by omega
 have e1 : (b1 - a1) * (y2 - x2) - (b2 - a2) * (y1 - x1) = 0 := by grind
 have e2 : (d1 - c1) * (y2 - x2) - (d2 - c2) * (y1 - x1) = 0 := by grind
 have e3 : (b1 - a1) * (d2 - c2) - (b2 - a2) * (d1 - c1) = 0 := par dq (by grind) (by grind)
 have f1 : (b1 - a1) * (x2 - c2) - (b2 - a2) * (x1 - c1) = 0 := par dt (by grind) (by grind)
 have f2 : (d1 - c1) * (x2 - a2) - (d2 - c2) * (x1 - a1) = 0 := par ds (by grind) (by grind)
 exact ⟨by grind, by grind, by grind, by grind⟩
def leB (a b : Pt) : Prop := a = b ∨ lessB a b = true
theorem leB_or {a b : Pt} : leB a b ↔ a.1 < b.1 ∨ (a.1 = b.1 ∧ a.2 ≤ b.2) := by
 obtain ⟨a1, a2⟩ := a
 obtain ⟨b1, b2⟩ := b
 unfold leB
 rw [lessB_or]
 simp only [Prod.mk.injEq]
 omega
theorem mid_le {m n u v : Int} (hm : 0 < m) (hu : 0 ≤ u) (hum : u ≤ m) (h : m * v = n * u) : min 0 n ≤ v ∧ v ≤ max 0 n := by
 rcases Int.le_total 0 n with hn | hn
 ·have h1 : 0 ≤ m * v := by rw [h]; exact Int.mul_nonneg hn hu
  have h2 : m * v ≤ m * n := by rw [h, Int.mul_comm m n]; exact Int.mul_le_mul_of_nonneg_left hum hn
  have h3 : (0 : Int) ≤ v := Int.le_of_mul_le_mul_left (a := m) (b := 0) (c := v) (by rw [Int.mul_zero]; exact h1) hm
  have h4 : v ≤ n := Int.le_of_mul_le_mul_left h2 hm
  omega
 ·have h1 : m * v ≤ 0 := by rw [h]; exact Int.mul_nonpos_of_nonpos_of_nonneg hn hu
  have h2 : m * n ≤ m * v := by rw [h, Int.mul_comm m n]; exact Int.mul_le_mul_of_nonpos_left hn hum
  have h3 : v ≤ (0 : Int) := Int.le_of_mul_le_mul_left (a := m) (b := v) (c := 0) (by rw [Int.mul_zero]; exact h1) hm
  have h4 : n ≤ v := Int.le_of_mul_le_mul_left h2 hm
  omega
theorem on_of {p a b : Pt} (hv : (validB p && validB a && validB b) = true) (hc : crossZ a b p = 0) (h1 : leB a p) (h2 : leB p b) : onB p a b = true := by
 rw [leB_or] at h1 h2
 unfold onB
 rw [hv, Bool.true_and, decide_eq_true hc, Bool.true_and]
 refine decide_eq_true ?_
 obtain ⟨p1, p2⟩ := p
 obtain ⟨a1, a2⟩ := a
 obtain ⟨b1, b2⟩ := b
 unfold crossZ at hc
 simp only at *
 rcases Int.lt_or_le a1 b1 with hx | hx
 ·have := mid_le (m := b1 - a1) (n := b2 - a2) (u := p1 - a1) (v := p2 - a2) (by omega) (by omega) (by omega) (by omega)
  omega
 ·omega
theorem on_le {p a b : Pt} (h : onB p a b = true) (hl : lessB a b = true) : leB a p ∧ leB p b ∧ crossZ a b p = 0 := by
 have hc : crossZ a b p = 0 := by
  unfold onB at h
  simp only [Bool.and_eq_true, decide_eq_true_eq] at h
  exact h.2.1
 by_cases h1 : p = a
 ·exact ⟨.inl h1.symm, .inr (h1 ▸ hl), hc⟩
 ·by_cases h2 : p = b
  ·exact ⟨.inr (h2 ▸ hl), .inl h2, hc⟩
  ·have := within_less (p := p) (a := a) (b := b) (by unfold withinB; simp [h, h1, h2]) hl
   exact ⟨.inr this.1, .inr this.2.1, hc⟩
def loP (s t : Sg) : Pt := if lessB s.1 t.1 then t.1 else s.1
def hiP (s t : Sg) : Pt := if lessB t.2 s.2 then t.2 else s.2
theorem flat_eq (s t : Sg) : flatZ s t = if lessB (loP s t) (hiP s t) = true then 3 else if loP s t = hiP s t then 1 else 0 := rfl
theorem flat_three (s t : Sg) : flatZ s t = 3 ↔ lessB (loP s t) (hiP s t) = true := by
 rw [flat_eq]
 by_cases h : lessB (loP s t) (hiP s t) = true
 ·rw [if_pos h]; exact ⟨fun _ => h, fun _ => rfl⟩
 ·rw [if_neg h]
  by_cases h2 : loP s t = hiP s t
  ·rw [if_pos h2]; exact ⟨fun e => by omega, fun e => absurd e h⟩
  ·rw [if_neg h2]; exact ⟨fun e => by omega, fun e => absurd e h⟩
theorem flat_two (s t : Sg) : ¬ flatZ s t = 2 := by
 rw [flat_eq]
 by_cases h : lessB (loP s t) (hiP s t) = true
 ·rw [if_pos h]; omega
 ·rw [if_neg h]
  by_cases h2 : loP s t = hiP s t
  ·rw [if_pos h2]; omega
  ·rw [if_neg h2]; omega
theorem lo_le (s t : Sg) : leB s.1 (loP s t) ∧ leB t.1 (loP s t) ∧ (∀ x, leB s.1 x → leB t.1 x → leB (loP s t) x) ∧ (loP s t = s.1 ∨ loP s t = t.1) := by
 unfold loP
 by_cases h : lessB s.1 t.1 = true
 ·rw [if_pos h]; exact ⟨.inr h, .inl rfl, fun x _ h => h, .inr rfl⟩
 ·rw [if_neg h]
  refine ⟨.inl rfl, ?_, fun x h _ => h, .inl rfl⟩
  rw [lessB_or] at h
  rw [leB_or]; omega
theorem hi_le (s t : Sg) : leB (hiP s t) s.2 ∧ leB (hiP s t) t.2 ∧ (∀ x, leB x s.2 → leB x t.2 → leB x (hiP s t)) ∧ (hiP s t = s.2 ∨ hiP s t = t.2) := by
 unfold hiP
 by_cases h : lessB t.2 s.2 = true
 ·rw [if_pos h]; exact ⟨.inr h, .inl rfl, fun x _ h => h, .inr rfl⟩
 ·rw [if_neg h]
  refine ⟨.inl rfl, ?_, fun x h _ => h, .inl rfl⟩
  rw [lessB_or] at h
  rw [leB_or]; omega
theorem leB_lt {a b : Pt} (h : leB a b) (hne : a ≠ b) : lessB a b = true := h.elim (fun e => absurd e hne) id
theorem leB_lt_le {a b c d : Pt} (h1 : leB a b) (h2 : lessB b c = true) (h3 : leB c d) : lessB a d = true := by
 rw [leB_or] at h1 h3
 rw [lessB_or] at h2 ⊢
 omega
theorem lt_le {a b : Pt} (h : lessB a b = true) : leB a b := .inr h
/-- Along one line: two common ends iff the common part is longer than a point. -/
theorem two_flat {s t : Sg} (hv : validB s.1 = true ∧ validB s.2 = true ∧ validB t.1 = true ∧ validB t.2 = true) (hs : lessB s.1 s.2 = true) (ht : lessB t.1 t.2 = true)
  (c1 : crossZ s.1 s.2 t.1 = 0) (c2 : crossZ s.1 s.2 t.2 = 0) (c3 : crossZ t.1 t.2 s.1 = 0) (c4 : crossZ t.1 t.2 s.2 = 0) : 1 < (bothR s t).length ↔ lessB (loP s t) (hiP s t) = true := by
 have hlo := lo_le s t
 have hhi := hi_le s t
 have z0 : ∀ a b : Pt, crossZ a b a = 0 ∧ crossZ a b b = 0 := fun a b => by unfold crossZ; constructor <;> grind
 rw [both_two]
 constructor
 ·rintro ⟨x, y, hne, hx, hy⟩
  have key : ∀ x y, x ∈ bothR s t → y ∈ bothR s t → lessB x y = true → lessB (loP s t) (hiP s t) = true := fun x y hx hy hl => by
   have x1 := on_le (mem_both.1 hx).2.1 hs
   have x2 := on_le (mem_both.1 hx).2.2 ht
   have y1 := on_le (mem_both.1 hy).2.1 hs
   have y2 := on_le (mem_both.1 hy).2.2 ht
   exact leB_lt_le (hlo.2.2.1 x x1.1 x2.1) hl (hhi.2.2.1 y y1.2.1 y2.2.1)
  cases hl : lessB x y
  ·have := totB.total hne
   rw [hl] at this
   exact key y x hy hx (by simpa using this)
  ·exact key x y hx hy hl
 ·intro hl
  have vlo : validB (loP s t) = true ∧ crossZ s.1 s.2 (loP s t) = 0 ∧ crossZ t.1 t.2 (loP s t) = 0 ∧ loP s t ∈ endsOf s t := by
   rcases hlo.2.2.2 with e | e
   ·rw [e]; exact ⟨hv.1, (z0 _ _).1, c3, by simp [endsOf]⟩
   ·rw [e]; exact ⟨hv.2.2.1, c1, (z0 _ _).1, by simp [endsOf]⟩
  have vhi : validB (hiP s t) = true ∧ crossZ s.1 s.2 (hiP s t) = 0 ∧ crossZ t.1 t.2 (hiP s t) = 0 ∧ hiP s t ∈ endsOf s t := by
   rcases hhi.2.2.2 with e | e
   ·rw [e]; exact ⟨hv.2.1, (z0 _ _).2, c4, by simp [endsOf]⟩
   ·rw [e]; exact ⟨hv.2.2.2, c2, (z0 _ _).2, by simp [endsOf]⟩
  have hll := lt_le hl
  have tr : ∀ {a b c : Pt}, leB a b → leB b c → leB a c := fun {a b c} h1 h2 => by rw [leB_or] at *; omega
  refine ⟨loP s t, hiP s t, (fun e => by rw [e, totB.irr] at hl; cases hl), mem_both.2 ⟨vlo.2.2.2, on_of (by simp [hv, vlo.1]) vlo.2.1 hlo.1 (tr hll hhi.1), on_of (by simp [hv, vlo.1]) vlo.2.2.1 hlo.2.1 (tr hll hhi.2.1)⟩,
   mem_both.2 ⟨vhi.2.2.2, on_of (by simp [hv, vhi.1]) vhi.2.1 (tr hlo.1 hll) hhi.1, on_of (by simp [hv, vhi.1]) vhi.2.2.1 (tr hlo.2.1 hll) hhi.2.1⟩⟩
theorem sign_zero (n : Int) : signZ n = 0 ↔ n = 0 := by unfold signZ; omega
theorem bad_same {s t : Sg} (hv : validB s.1 = true ∧ validB s.2 = true ∧ validB t.1 = true ∧ validB t.2 = true) (hs : lessB s.1 s.2 = true) (ht : lessB t.1 t.2 = true) : badR s t = badB s t := by
 have ns : ¬ s.1 = s.2 := fun e => by rw [e, totB.irr] at hs; cases hs
 have nt : ¬ t.1 = t.2 := fun e => by rw [e, totB.irr] at ht; cases ht
 have os : ofS s = s := by unfold ofS ofB; rw [if_neg (by rw [totB.asymm hs]; decide)]
 have ot : ofS t = t := by unfold ofS ofB; rw [if_neg (by rw [totB.asymm ht]; decide)]
 have hm := relZ_main (s := s) (t := t) (by simp [hv]) ns nt
 rw [os, ot] at hm
 unfold badR badB relR relC
 rw [hm]
 have ta : turnZ s.1 s.2 t.1 = crossZ s.1 s.2 t.1 := turn_valid (by simp [hv])
 have tb : turnZ s.1 s.2 t.2 = crossZ s.1 s.2 t.2 := turn_valid (by simp [hv])
 have tc : turnZ t.1 t.2 s.1 = crossZ t.1 t.2 s.1 := turn_valid (by simp [hv])
 have td : turnZ t.1 t.2 s.2 = crossZ t.1 t.2 s.2 := turn_valid (by simp [hv])
 rw [ta, tb, tc, td]
 unfold relM
 by_cases hc : signZ (crossZ s.1 s.2 t.1) * signZ (crossZ s.1 s.2 t.2) < 0 ∧ signZ (crossZ t.1 t.2 s.1) * signZ (crossZ t.1 t.2 s.2) < 0
 ·have h0 : ¬ (signZ (crossZ s.1 s.2 t.1) = 0 ∧ signZ (crossZ s.1 s.2 t.2) = 0) := fun h => by
   have := hc.1
   rw [h.1, Int.zero_mul] at this
   omega
  rw [if_pos (decide_eq_true hc), if_neg h0, if_pos hc]; rfl
 ·rw [if_neg (by simpa using hc)]
  by_cases h0 : signZ (crossZ s.1 s.2 t.1) = 0 ∧ signZ (crossZ s.1 s.2 t.2) = 0
  ·rw [if_pos h0]
   have c1 := (sign_zero _).1 h0.1
   have c2 := (sign_zero _).1 h0.2
   have hl := two_line (s := t) (t := s) (x := t.1) (y := t.2) nt ns nt (by unfold crossZ; grind) (by unfold crossZ; grind) c1 c2
   have h2 := two_flat hv hs ht c1 c2 hl.1 hl.2.1
   have h3 := flat_three s t
   have h4 := flat_two s t
   rw [decide_eq_false h4, Bool.false_or]
   apply decide_eq_decide.2
   rw [h3, ← h2]
   constructor
   ·intro h
    by_cases h1 : 1 < (bothR s t).length
    ·exact h1
    ·rw [if_neg h1] at h
     split at h <;> omega
   ·intro h; rw [if_pos h]; omega
  ·rw [if_neg h0, if_neg hc]
   have h1 : ¬ 1 < (bothR s t).length := fun h => by
    obtain ⟨x, y, hne, hx, hy⟩ := both_two.1 h
    have hl := two_line (s := s) (t := t) ns nt hne (on_le (mem_both.1 hx).2.1 hs).2.2 (on_le (mem_both.1 hy).2.1 hs).2.2 (on_le (mem_both.1 hx).2.2 ht).2.2 (on_le (mem_both.1 hy).2.2 ht).2.2
    exact h0 ⟨(sign_zero _).2 hl.1, (sign_zero _).2 hl.2.1⟩
   rw [if_neg h1]
   split <;> split <;> simp
end
section
theorem uniq_canon {l : Sgs} {s : Sg} (h : s ∈ uniqZ l) : s ∈ canonZ l := by
 unfold uniqZ sortZ at h
 exact mem_sortG.1 (mem_compact.1 h)
theorem uniq_valid {l : Sgs} {s : Sg} (h : s ∈ uniqZ l) : validB s.1 = true ∧ validB s.2 = true := by
 have := uniq_V l s h
 rwa [Bool.and_eq_true] at this
theorem uniq_bad {l : Sgs} {s t : Sg} (hs : s ∈ uniqZ l) (ht : t ∈ uniqZ l) : badR s t = badB s t :=
 bad_same ⟨(uniq_valid hs).1, (uniq_valid hs).2, (uniq_valid ht).1, (uniq_valid ht).2⟩ (canon_less (uniq_canon hs)) (canon_less (uniq_canon ht))
theorem flat_congr {α β : Type} {f g : α → List β} : ∀ {l : List α}, (∀ x ∈ l, f x = g x) → l.flatMap f = l.flatMap g
 | [], _ => rfl
 | x :: l, h => by
  rw [List.flatMap_cons, List.flatMap_cons, h x (List.mem_cons_self ..), flat_congr (fun y hy => h y (List.mem_cons_of_mem _ hy))]
theorem sgD_mem {l : Sgs} {k : Nat} (h : k < l.length) : sgD l k ∈ l := by rw [sgD_eq h]; exact List.getElem_mem h
theorem cross_same (l : Sgs) : crossR (uniqZ l) = crossZs (uniqZ l) := by
 unfold crossR crossZs
 refine flat_congr fun i hi => ?_
 have hi' : i < (uniqZ l).length := List.mem_range.1 hi
 congr 1
 refine List.filter_congr fun t ht => ?_
 exact uniq_bad (sgD_mem hi') (List.mem_of_mem_drop ht)
theorem clean_same (l : Sgs) : cleanR l = cleanZ l := by
 unfold cleanR cleanZ
 rw [split_same, cross_same]
theorem check_same (l : Sgs) : checkR l = checkZ l := by
 unfold checkR checkZ checkUR checkU
 rw [clean_same, odd_any (fun s hs => uniq_ne hs)]
end
section
theorem badR_iff {s t : Sg} : badR s t = true ↔ relC s t = true ∨ 1 < (bothR s t).length := by
 unfold badR relR
 rw [decide_eq_true_iff]
 by_cases h : relC s t = true
 ·rw [if_pos h]; exact ⟨fun _ => .inl h, fun _ => by omega⟩
 ·rw [if_neg h]
  by_cases h2 : 1 < (bothR s t).length
  ·rw [if_pos h2]; exact ⟨fun _ => .inr h2, fun _ => by omega⟩
  ·rw [if_neg h2]
   refine ⟨fun e => ?_, fun e => ?_⟩
   ·split at e <;> omega
   ·rcases e with e | e
    ·exact absurd e h
    ·exact absurd e h2
theorem both_swap {s t : Sg} {x : Pt} (h : x ∈ bothR s t) : x ∈ bothR t s := by
 rw [mem_both] at *
 refine ⟨?_, h.2.2, h.2.1⟩
 have := h.1
 simp only [endsOf, List.mem_cons, List.not_mem_nil, or_false] at this ⊢
 rcases this with e | e | e | e <;> simp [e]
theorem badR_symm {s t : Sg} (h : badR s t = true) : badR t s = true := by
 rw [badR_iff] at *
 rcases h with h | h
 ·left
  unfold relC at *
  simp only [decide_eq_true_eq] at *
  exact ⟨h.2, h.1⟩
 ·right
  rw [both_two] at *
  obtain ⟨x, y, hne, hx, hy⟩ := h
  exact ⟨x, y, hne, both_swap hx, both_swap hy⟩
theorem mem_dropX {α : Type} {l : List α} {i j : Nat} (h : j < l.length) (hij : i ≤ j) : l[j] ∈ l.drop i := by
 have hl : j - i < (l.drop i).length := by rw [List.length_drop]; omega
 have e : (l.drop i)[j - i] = l[j] := by
  rw [List.getElem_drop]
  congr 1
  omega
 rw [← e]
 exact List.getElem_mem hl
theorem clean_bad {l : Sgs} (hc : cleanZ l = true) {s t : Sg} (hs : s ∈ uniqZ l) (ht : t ∈ uniqZ l) (hne : s ≠ t) : badR s t = false := by
 have h0 : crossZs (uniqZ l) = [] := by
  unfold cleanZ at hc
  rw [Bool.and_eq_true] at hc
  exact of_decide_eq_true hc.2
 obtain ⟨i, hi, rfl⟩ := List.getElem_of_mem hs
 obtain ⟨j, hj, rfl⟩ := List.getElem_of_mem ht
 have key : ∀ (i j : Nat) (hi : i < (uniqZ l).length) (hj : j < (uniqZ l).length), i < j → ¬ badR (uniqZ l)[i] (uniqZ l)[j] = true := fun i j hi hj hij hb => by
  rw [uniq_bad (List.getElem_mem hi) (List.getElem_mem hj)] at hb
  have hm : ((uniqZ l)[i], (uniqZ l)[j]) ∈ crossZs (uniqZ l) := by
   unfold crossZs
   refine List.mem_flatMap.2 ⟨i, List.mem_range.2 hi, ?_⟩
   rw [sgD_eq hi]
   exact List.mem_map.2 ⟨_, List.mem_filter.2 ⟨mem_dropX hj hij, hb⟩, rfl⟩
  rw [h0] at hm
  exact absurd hm (List.not_mem_nil)
 rcases Nat.lt_trichotomy i j with h | h | h
 ·cases hb : badR (uniqZ l)[i] (uniqZ l)[j]
  ·rfl
  ·exact absurd hb (key i j hi hj h)
 ·subst h; exact absurd rfl hne
 ·cases hb : badR (uniqZ l)[i] (uniqZ l)[j]
  ·rfl
  ·exact absurd (badR_symm hb) (key j i hj hi h)
theorem clean_within {l : Sgs} (hc : cleanZ l = true) {s t : Sg} (hs : s ∈ uniqZ l) (ht : t ∈ uniqZ l) : withinB t.1 s.1 s.2 = false ∧ withinB t.2 s.1 s.2 = false := by
 have h0 : splR (sortZ l) = sortZ l := by
  unfold cleanZ at hc
  rw [Bool.and_eq_true] at hc
  rw [split_same]
  exact of_decide_eq_true hc.1
 rw [splR_sort] at h0
 have h1 := congrArg List.length h0
 rw [sortG_len] at h1
 have hs' : s ∈ sortZ l := mem_compact.1 hs
 have h2 := flat_one (fun x _ => by rw [chP_len, List.length_append]; exact Nat.le_add_left 1 _) (Nat.le_of_eq h1) s hs'
 rw [chP_len, List.length_append, List.length_singleton] at h2
 have h3 : cutR (sortZ l) s = [] := List.eq_nil_of_length_eq_zero (by omega)
 rw [← filter_cut] at h3
 have key : ∀ p, p ∈ ends2 (uniqZ l) → withinB p s.1 s.2 = false := fun p hp => by
  have hp' : p ∈ endsZ l := by unfold endsZ; exact mem_compact.2 (mem_sortG.2 hp)
  cases hw : withinB p s.1 s.2
  ·rfl
  ·have : p ∈ (endsZ l).filter fun p => withinB p s.1 s.2 := List.mem_filter.2 ⟨hp', hw⟩
   rw [h3] at this
   exact absurd this (List.not_mem_nil)
 exact ⟨key _ (by unfold ends2; exact List.mem_flatMap.2 ⟨t, ht, by simp⟩), key _ (by unfold ends2; exact List.mem_flatMap.2 ⟨t, ht, by simp⟩)⟩
theorem long_bad {l : Sgs} (hc : cleanZ l = true) {s t : Sg} (hs : s ∈ uniqZ l) (ht : t ∈ uniqZ l) (hne : s ≠ t) (c3 : crossZ t.1 t.2 s.1 = 0) (c4 : crossZ t.1 t.2 s.2 = 0) (hl : lessB (loP s t) (hiP s t) = true) : False := by
 have z0 : ∀ a b : Pt, crossZ a b a = 0 ∧ crossZ a b b = 0 := fun a b => by unfold crossZ; constructor <;> grind
 have hln := two_line (s := s) (t := t) (x := s.1) (y := s.2) (uniq_ne hs) (uniq_ne ht) (uniq_ne hs) (z0 _ _).1 (z0 _ _).2 c3 c4
 have h2 := (two_flat ⟨(uniq_valid hs).1, (uniq_valid hs).2, (uniq_valid ht).1, (uniq_valid ht).2⟩ (canon_less (uniq_canon hs)) (canon_less (uniq_canon ht)) hln.1 hln.2.1 c3 c4).2 hl
 have h3 := badR_iff.2 (.inr h2)
 rw [clean_bad hc hs ht hne] at h3
 cases h3
theorem sign_neg {x y : Int} (h : x < 0 ∧ 0 < y ∨ 0 < x ∧ y < 0) : signZ x * signZ y < 0 := by
 rcases h with ⟨h1, h2⟩ | ⟨h1, h2⟩
 ·have e1 : signZ x = -1 := by unfold signZ; omega
  have e2 : signZ y = 1 := by unfold signZ; omega
  rw [e1, e2]; decide
 ·have e1 : signZ x = 1 := by unfold signZ; omega
  have e2 : signZ y = -1 := by unfold signZ; omega
  rw [e1, e2]; decide
theorem sect_bad {l : Sgs} (hc : cleanZ l = true) {s t : Sg} (hs : s ∈ uniqZ l) (ht : t ∈ uniqZ l) (hne : s ≠ t)
  (h1 : crossZ s.1 s.2 t.1 < 0 ∧ 0 < crossZ s.1 s.2 t.2 ∨ 0 < crossZ s.1 s.2 t.1 ∧ crossZ s.1 s.2 t.2 < 0) (h2 : crossZ t.1 t.2 s.1 < 0 ∧ 0 < crossZ t.1 t.2 s.2 ∨ 0 < crossZ t.1 t.2 s.1 ∧ crossZ t.1 t.2 s.2 < 0) : False := by
 have hv1 := uniq_valid hs
 have hv2 := uniq_valid ht
 have h3 : relC s t = true := by
  unfold relC
  rw [turn_valid (a := s.1) (b := s.2) (c := t.1) (by simp [hv1, hv2]), turn_valid (a := s.1) (b := s.2) (c := t.2) (by simp [hv1, hv2]), turn_valid (a := t.1) (b := t.2) (c := s.1) (by simp [hv1, hv2]), turn_valid (a := t.1) (b := t.2) (c := s.2) (by simp [hv1, hv2])]
  exact decide_eq_true ⟨sign_neg h1, sign_neg h2⟩
 have h4 := badR_iff.2 (.inl h3)
 rw [clean_bad hc hs ht hne] at h4
 cases h4
/-- the middle of s, doubled -/
def midP (s : Sg) : Pt := (s.1.1 + s.2.1, s.1.2 + s.2.2)
/-- a doubled point lies on t -/
def onM (m : Pt) (t : Sg) : Prop := (t.2.1 - t.1.1) * (m.2 - 2 * t.1.2) - (t.2.2 - t.1.2) * (m.1 - 2 * t.1.1) = 0 ∧ 2 * min t.1.1 t.2.1 ≤ m.1 ∧ m.1 ≤ 2 * max t.1.1 t.2.1 ∧ 2 * min t.1.2 t.2.2 ≤ m.2 ∧ m.2 ≤ 2 * max t.1.2 t.2.2
theorem same_zero {x y p q : Int} (hx : 0 < x) (hy : 0 < y) (hpq : (0 ≤ p ∧ 0 ≤ q) ∨ (p ≤ 0 ∧ q ≤ 0)) (h : x * p + y * q = 0) : p = 0 ∧ q = 0 := by
 have hz : ∀ p q : Int, 0 ≤ p → 0 ≤ q → x * p + y * q = 0 → p = 0 ∧ q = 0 := fun p q hp hq h => by
  have h1 := Int.mul_nonneg (Int.le_of_lt hx) hp
  have h2 := Int.mul_nonneg (Int.le_of_lt hy) hq
  have e1 : x * p = 0 := by omega
  have e2 : y * q = 0 := by omega
  rcases Int.mul_eq_zero.1 e1 with e | e
  ·omega
  ·rcases Int.mul_eq_zero.1 e2 with e' | e'
   ·omega
   ·exact ⟨e, e'⟩
 rcases hpq with ⟨hp, hq⟩ | ⟨hp, hq⟩
 ·exact hz p q hp hq h
 ·have := hz (-p) (-q) (by omega) (by omega) (by rw [Int.mul_neg, Int.mul_neg]; omega)
  omega
set_option maxHeartbeats 2000000 in
theorem mid_off {l : Sgs} (hc : cleanZ l = true) {s t : Sg} (hs : s ∈ uniqZ l) (ht : t ∈ uniqZ l) (hne : s ≠ t) (h : onM (midP s) t) : False := by
 have ls := canon_less (uniq_canon hs)
 have lt := canon_less (uniq_canon ht)
 have ns := uniq_ne hs
 have nt := uniq_ne ht
 have hvs := uniq_valid hs
 have hvt := uniq_valid ht
 have hw := clean_within hc hs ht
 have LB := fun a b c => long_bad hc hs ht hne a b c
 have SB := fun a b => sect_bad hc hs ht hne a b
 clear hs ht hne hc
 obtain ⟨⟨a1, a2⟩, ⟨b1, b2⟩⟩ := s
 obtain ⟨⟨c1, c2⟩, ⟨d1, d2⟩⟩ := t
 unfold onM midP at h
 rw [lessB_or] at ls lt
 simp only [Prod.mk.injEq] at h ls lt ns nt hvs hvt hw LB SB
 obtain ⟨h0, h1, h2, h3, h4⟩ := h
 have hpq : crossZ (c1, c2) (d1, d2) (a1, a2) + crossZ (c1, c2) (d1, d2) (b1, b2) = 0 := by unfold crossZ; grind
 have hxy : crossZ (a1, a2) (b1, b2) (c1, c2) - crossZ (a1, a2) (b1, b2) (d1, d2) = crossZ (c1, c2) (d1, d2) (b1, b2) - crossZ (c1, c2) (d1, d2) (a1, a2) := by unfold crossZ; grind
 have e1 : crossZ (a1, a2) (b1, b2) (c1, c2) * (2 * (d2 - c2) - (a2 + b2 - 2 * c2)) + crossZ (a1, a2) (b1, b2) (d1, d2) * (a2 + b2 - 2 * c2) = 0 := by unfold crossZ; grind
 have e2 : crossZ (a1, a2) (b1, b2) (c1, c2) * (2 * (d1 - c1) - (a1 + b1 - 2 * c1)) + crossZ (a1, a2) (b1, b2) (d1, d2) * (a1 + b1 - 2 * c1) = 0 := by unfold crossZ; grind
 by_cases p0 : crossZ (c1, c2) (d1, d2) (a1, a2) = 0
 ·have q0 : crossZ (c1, c2) (d1, d2) (b1, b2) = 0 := by omega
  have z0 : ∀ a b : Pt, crossZ a b a = 0 ∧ crossZ a b b = 0 := fun a b => by unfold crossZ; constructor <;> grind
  have hln := two_line (s := ((a1, a2), (b1, b2))) (t := ((c1, c2), (d1, d2))) (x := (a1, a2)) (y := (b1, b2)) (by simpa using ns) (by simpa using nt) (by simpa using ns) (z0 _ _).1 (z0 _ _).2 p0 q0
  have f1 : b1 = a1 → b2 = a2 ∨ c1 = a1 := fun e => by
   have : (b2 - a2) * (c1 - a1) = 0 := by have := hln.1; unfold crossZ at this; subst e; grind
   rcases Int.mul_eq_zero.1 this with e | e <;> omega
  have f2 : b1 = a1 → b2 = a2 ∨ d1 = a1 := fun e => by
   have : (b2 - a2) * (d1 - a1) = 0 := by have := hln.2.1; unfold crossZ at this; subst e; grind
   rcases Int.mul_eq_zero.1 this with e | e <;> omega
  refine LB p0 q0 ?_
  rw [lessB_or]
  have hlo := (lo_le ((a1, a2), (b1, b2)) ((c1, c2), (d1, d2))).2.2.2
  have hhi := (hi_le ((a1, a2), (b1, b2)) ((c1, c2), (d1, d2))).2.2.2
  clear e1 e2 hpq hxy hln LB SB hw hvs hvt h0 p0 q0
  rcases hlo with e | e <;> rcases hhi with e' | e' <;> rw [e, e'] <;> simp only <;> omega
 ·have hq : crossZ (c1, c2) (d1, d2) (a1, a2) < 0 ∧ 0 < crossZ (c1, c2) (d1, d2) (b1, b2) ∨ 0 < crossZ (c1, c2) (d1, d2) (a1, a2) ∧ crossZ (c1, c2) (d1, d2) (b1, b2) < 0 := by omega
  by_cases x0 : crossZ (a1, a2) (b1, b2) (c1, c2) = 0
  ·have hm : a1 + b1 - 2 * c1 = 0 ∧ a2 + b2 - 2 * c2 = 0 := by
    by_cases hv : a1 + b1 - 2 * c1 = 0 ∧ a2 + b2 - 2 * c2 = 0
    ·exact hv
    ·have hp := par (a1 := d1 - c1) (a2 := d2 - c2) (b1 := b1 - a1) (b2 := b2 - a2) hv (by grind) (by unfold crossZ at x0; grind)
     exfalso
     apply p0
     unfold crossZ at *
     grind
   have : withinB (c1, c2) (a1, a2) (b1, b2) = true := by
    unfold withinB
    rw [on_of (by simp [hvs, hvt]) x0 (by rw [leB_or]; simp only; omega) (by rw [leB_or]; simp only; omega)]
    simp only [Bool.true_and, Bool.and_eq_true, decide_eq_true_eq, ne_eq, Prod.mk.injEq]
    omega
   rw [hw.1] at this; cases this
  ·by_cases y0 : crossZ (a1, a2) (b1, b2) (d1, d2) = 0
   ·have hm : a1 + b1 - 2 * d1 = 0 ∧ a2 + b2 - 2 * d2 = 0 := by
     by_cases hv : a1 + b1 - 2 * d1 = 0 ∧ a2 + b2 - 2 * d2 = 0
     ·exact hv
     ·have hp := par (a1 := d1 - c1) (a2 := d2 - c2) (b1 := b1 - a1) (b2 := b2 - a2) hv (by grind) (by unfold crossZ at y0; grind)
      exfalso
      apply p0
      unfold crossZ at *
      grind
    have : withinB (d1, d2) (a1, a2) (b1, b2) = true := by
     unfold withinB
     rw [on_of (by simp [hvs, hvt]) y0 (by rw [leB_or]; simp only; omega) (by rw [leB_or]; simp only; omega)]
     simp only [Bool.true_and, Bool.and_eq_true, decide_eq_true_eq, ne_eq, Prod.mk.injEq]
     omega
    rw [hw.2] at this; cases this
   ·refine SB ?_ hq
    generalize crossZ (a1, a2) (b1, b2) (c1, c2) = x at *
    generalize crossZ (a1, a2) (b1, b2) (d1, d2) = y at *
    rcases Int.lt_or_gt_of_ne x0 with hx | hx <;> rcases Int.lt_or_gt_of_ne y0 with hy | hy
    ·have k1 := same_zero (x := -x) (y := -y) (p := 2 * (d2 - c2) - (a2 + b2 - 2 * c2)) (q := a2 + b2 - 2 * c2) (by omega) (by omega) (by omega) (by rw [Int.neg_mul, Int.neg_mul]; omega)
     have k2 := same_zero (x := -x) (y := -y) (p := 2 * (d1 - c1) - (a1 + b1 - 2 * c1)) (q := a1 + b1 - 2 * c1) (by omega) (by omega) (by omega) (by rw [Int.neg_mul, Int.neg_mul]; omega)
     omega
    ·exact .inl ⟨hx, hy⟩
    ·exact .inr ⟨hx, hy⟩
    ·have k1 := same_zero (x := x) (y := y) (p := 2 * (d2 - c2) - (a2 + b2 - 2 * c2)) (q := a2 + b2 - 2 * c2) hx hy (by omega) e1
     have k2 := same_zero (x := x) (y := y) (p := 2 * (d1 - c1) - (a1 + b1 - 2 * c1)) (q := a1 + b1 - 2 * c1) hx hy (by omega) e2
     omega
end
end Go.Proofs.YtaeflnbjeaoapaaGreat
