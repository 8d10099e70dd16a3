/- Plain words on ref20.cuts: the points at which a segment is divided. Contract of ref20.cuts: the points at which a segment is divided. Contract of ref20.Split. -/
import Derived.Test.YtaeflnbjeaoapaaGreatKPW
import Derived.Test.YtaeflnbjeaoapaaGreatKP15
namespace Go.Proofs.YtaeflnbjeaoapaaGreat
set_option linter.unusedVariables false
set_option linter.unusedSimpArgs false
section
open Go.RowKit Go.Proofs.YtaeflnbjeaoapaaGreatW.PrintLast

attribute [local go_sem high] eqPt eqSg
def putA (p : Pt) (st : Pts × Bool) (o : Pt) : Pts × Bool := if st.2 = false ∧ lessB o p = false then (st.1 ++ [p], true) else st
def putB (p : Pt) (st : Pts × Bool) (o : Pt) : Pts × Bool := (if o = p then st.1 else st.1 ++ [o], st.2)
def putF (p : Pt) (st : Pts × Bool) (o : Pt) : Pts × Bool := putB p (putA p st o) o
def putE (p : Pt) (st : Pts × Bool) : Pts := if st.2 = true then st.1 else st.1 ++ [p]
def putSt (p : Pt) (out : Pts) (k : Nat) : Pts × Bool := (out.take k).foldl (putF p) ([], false)
def putZ (p : Pt) (out : Pts) : Pts := putE p (out.foldl (putF p) ([], false))
def cutF1 (s : Sg) (out : Pts) (p : Pt) : Pts := if withinB p s.1 s.2 = true then putZ p out else out
def cutTo (l : Sgs) (s : Sg) (i : Nat) : Pts := ((ends2 l).take i).foldl (cutF1 s) []
def cutR (l : Sgs) (s : Sg) : Pts := (ends2 l).foldl (cutF1 s) []
theorem putSt_snoc (p : Pt) (out : Pts) (k : Nat) (h : k < out.length) : putSt p out (k + 1) = putB p (putA p (putSt p out k) (ptD out k)) (ptD out k) := by
 unfold putSt
 rw [take_snoc out k (0, 0) h, List.foldl_append]; rfl
theorem putSt_end (p : Pt) (out : Pts) : putZ p out = putE p (putSt p out out.length) := by unfold putZ putSt; rw [List.take_length]
theorem putSt_len (p : Pt) (out : Pts) : ∀ k, k ≤ out.length → (putSt p out k).1.length ≤ 2 * k
 | 0, _ => by simp [putSt]
 | k + 1, h => by
  have ih := putSt_len p out k (by omega)
  rw [putSt_snoc p out k (by omega)]
  unfold putB putA
  split <;> split <;> simp <;> omega
theorem ends2_ln (l : Sgs) : (ends2 l).length = 2 * l.length := by
 induction l with
 | nil => rfl
 | cons s l ih => unfold ends2 at *; rw [List.flatMap_cons, List.length_append, ih]; simp; omega
theorem ends2_get (l : Sgs) : ∀ i, i < 2 * l.length → ptD (ends2 l) i = if i % 2 = 1 then (sgD l (i / 2)).2 else (sgD l (i / 2)).1 := by
 induction l with
 | nil => intro i h; simp at h
 | cons s l ih =>
  intro i h
  have e : ends2 (s :: l) = s.1 :: s.2 :: ends2 l := rfl
  rw [e]
  match i, h with
  | 0, _ => rfl
  | 1, _ => rfl
  | i + 2, h =>
   have h' : i < 2 * l.length := by simp at h; omega
   have := ih i h'
   rw [show (i + 2) % 2 = i % 2 by omega, show (i + 2) / 2 = i / 2 + 1 by omega]
   exact this
theorem cutTo_snoc (l : Sgs) (s : Sg) (i : Nat) (h : i < 2 * l.length) : cutTo l s (i + 1) = cutF1 s (cutTo l s i) (ptD (ends2 l) i) := by
 unfold cutTo
 rw [take_snoc (ends2 l) i (0, 0) (by rw [ends2_ln]; exact h), List.foldl_append]; rfl
theorem cutTo_end (l : Sgs) (s : Sg) : cutTo l s (2 * l.length) = cutR l s := by unfold cutTo cutR; rw [← ends2_ln, List.take_length]
/-! ### its members, in increasing order -/
def insP (p : Pt) : Pts → Pts
 | [] => [p]
 | o :: l => if lessB o p = true then o :: insP p l else if o = p then p :: l else p :: o :: l
theorem mem_insP {p x : Pt} : ∀ {l : Pts}, x ∈ insP p l ↔ x = p ∨ x ∈ l
 | [] => by simp [insP]
 | o :: l => by
  unfold insP
  split
  ·rw [List.mem_cons, mem_insP (l := l), List.mem_cons]
   constructor
   ·rintro (h | h | h)
    ·exact .inr (.inl h)
    ·exact .inl h
    ·exact .inr (.inr h)
   ·rintro (h | h | h)
    ·exact .inr (.inl h)
    ·exact .inl h
    ·exact .inr (.inr h)
  ·split
   ·rename_i h; subst h; simp
   ·simp
theorem insP_inc {p : Pt} : ∀ {l : Pts}, Inc lessB l → Inc lessB (insP p l)
 | [], _ => List.pairwise_singleton _ _
 | o :: l, h => by
  have h1 := List.pairwise_cons.1 h
  unfold insP
  split
  ·rename_i hl
   refine List.pairwise_cons.2 ⟨fun x hx => ?_, insP_inc h1.2⟩
   rcases mem_insP.1 hx with rfl | hx
   ·exact hl
   ·exact h1.1 x hx
  ·rename_i hl
   split
   ·rename_i he; subst he; exact h
   ·rename_i he
    have hpo : lessB p o = true := by
     have := totB.total he
     cases hpo : lessB p o
     ·rw [hpo] at this; exact absurd this hl
     ·rfl
    refine List.pairwise_cons.2 ⟨fun x hx => ?_, h⟩
    rcases List.mem_cons.1 hx with rfl | hx
    ·exact hpo
    ·exact totB.trans hpo (h1.1 x hx)
theorem put_true {p : Pt} : ∀ {l : Pts} (acc : Pts), (∀ x ∈ l, x ≠ p) → l.foldl (putF p) (acc, true) = (acc ++ l, true)
 | [], acc, _ => by simp
 | o :: l, acc, h => by
  have ho := h o (List.mem_cons_self ..)
  have e : putF p (acc, true) o = (acc ++ [o], true) := by
   unfold putF putA putB
   simp [ho]
  rw [List.foldl_cons, e, put_true _ (fun x hx => h x (List.mem_cons_of_mem _ hx)), List.append_assoc]; rfl
theorem put_false {p : Pt} : ∀ {l : Pts} (acc : Pts), Inc lessB l → putE p (l.foldl (putF p) (acc, false)) = acc ++ insP p l
 | [], acc, _ => by simp [putE, insP]
 | o :: l, acc, h => by
  have h1 := List.pairwise_cons.1 h
  rw [List.foldl_cons]
  cases hl : lessB o p
  ·by_cases he : o = p
   ·subst he
    have e : putF o (acc, false) o = (acc ++ [o], true) := by unfold putF putA putB; simp [hl]
    have hne : ∀ x ∈ l, x ≠ o := fun x hx e => by have := h1.1 x hx; rw [e, totB.irr] at this; cases this
    rw [e, put_true _ hne]
    unfold putE insP
    simp [hl]
   ·have e : putF p (acc, false) o = (acc ++ [p] ++ [o], true) := by unfold putF putA putB; simp [hl, he]
    have hpo : lessB p o = true := by
     have := totB.total he
     rw [hl] at this
     cases hpo : lessB p o
     ·rw [hpo] at this; cases this
     ·rfl
    have hne : ∀ x ∈ l, x ≠ p := fun x hx e => by have := totB.trans hpo (h1.1 x hx); rw [e, totB.irr] at this; cases this
    rw [e, put_true _ hne]
    unfold putE insP
    simp [hl, he]
  ·have hne : o ≠ p := fun e => by rw [e, totB.irr] at hl; cases hl
   have e : putF p (acc, false) o = (acc ++ [o], false) := by unfold putF putA putB; simp [hl, hne]
   rw [e, put_false _ h1.2]
   conv => rhs; unfold insP
   rw [if_pos hl, List.append_assoc]; rfl
theorem putZ_ins {p : Pt} {out : Pts} (h : Inc lessB out) : putZ p out = insP p out := by
 unfold putZ
 rw [put_false [] h]; rfl
theorem cut_fold (s : Sg) : ∀ (es out : Pts), Inc lessB out → Inc lessB (es.foldl (cutF1 s) out) ∧ ∀ x, x ∈ es.foldl (cutF1 s) out ↔ x ∈ out ∨ (x ∈ es ∧ withinB x s.1 s.2 = true)
 | [], out, h => ⟨h, fun x => by simp⟩
 | e :: es, out, h => by
  rw [List.foldl_cons]
  by_cases hw : withinB e s.1 s.2 = true
  ·have e1 : cutF1 s out e = insP e out := by unfold cutF1; rw [if_pos hw, putZ_ins h]
   have ih := cut_fold s es (insP e out) (insP_inc h)
   rw [e1]
   refine ⟨ih.1, fun x => ?_⟩
   rw [ih.2 x, mem_insP, List.mem_cons]
   constructor
   ·rintro ((rfl | h) | ⟨h, h2⟩)
    ·exact .inr ⟨.inl rfl, hw⟩
    ·exact .inl h
    ·exact .inr ⟨.inr h, h2⟩
   ·rintro (h | ⟨rfl | h, h2⟩)
    ·exact .inl (.inr h)
    ·exact .inl (.inl rfl)
    ·exact .inr ⟨h, h2⟩
  ·have e1 : cutF1 s out e = out := if_neg hw
   have ih := cut_fold s es out h
   rw [e1]
   refine ⟨ih.1, fun x => ?_⟩
   rw [ih.2 x, List.mem_cons]
   constructor
   ·rintro (h | ⟨h, h2⟩)
    ·exact .inl h
    ·exact .inr ⟨.inr h, h2⟩
   ·rintro (h | ⟨rfl | h, h2⟩)
    ·exact .inl h
    ·exact absurd h2 hw
    ·exact .inr ⟨h, h2⟩
theorem cutR_inc (l : Sgs) (s : Sg) : Inc lessB (cutR l s) := (cut_fold s (ends2 l) [] List.Pairwise.nil).1
theorem mem_cutR {l : Sgs} {s : Sg} {x : Pt} : x ∈ cutR l s ↔ x ∈ ends2 l ∧ withinB x s.1 s.2 = true := by
 have := (cut_fold s (ends2 l) [] List.Pairwise.nil).2 x
 unfold cutR
 simpa using this
theorem cutTo_len (l : Sgs) (s : Sg) : ∀ i, i ≤ 2 * l.length → (cutTo l s i).length ≤ i
 | 0, _ => by simp [cutTo]
 | i + 1, h => by
  have ih := cutTo_len l s i (by omega)
  have hinc : Inc lessB (cutTo l s i) := (cut_fold s ((ends2 l).take i) [] List.Pairwise.nil).1
  rw [cutTo_snoc l s i (by omega)]
  unfold cutF1
  split
  ·rw [putZ_ins hinc]
   have : ∀ (p : Pt) (o : Pts), (insP p o).length ≤ o.length + 1 := by
    intro p o
    induction o with
    | nil => simp [insP]
    | cons a o ih => unfold insP; split <;> (try split) <;> simp <;> omega
   have := this (ptD (ends2 l) i) (cutTo l s i)
   omega
  ·omega
end
section
open Go.RowKit Go.Proofs.YtaeflnbjeaoapaaGreatW.PrintLast

attribute [local go_sem high] eqPt eqSg
set_option maxRecDepth 100000 in
set_option maxHeartbeats 16000000 in
theorem ref20_cuts {ok : Nat → Prop} (l : Sgs) (A : Option Addr) (n c : Nat) (s : Sg) (w : World) (hr : Row Ty.sg ok w A l) (hn : n = l.length) (hlen : l.length ≤ 100000) :
  Calls Tryz.prog 95 #[.slice A n c, sgA s] w fun e w' => ∃ v, e = .returned v ∧ Own1 Ty.pt 28 w.heap.size w' v (cutR l s) ∧ Below w.heap.size w w' := by
 subst hn
 have HR := Lib.hid hr
 clear hr
 have hwl : IntKind.i64.wrap (2 * (l.length : Int)) = 2 * (l.length : Int) := IntWalk.i64_in _ (by omega)
 go_enter Tryz.func95, Tryz.ntmps95
 go_wp2
 go_loopw [5, 6] (fun v i wo => ∃ k : Nat, k ≤ 2 * l.length ∧ i = .int .i64 k ∧ wo.heap[w.heap.size]? = some (.cells #[.int .i64 s.1.1, .int .i64 s.1.2, .int .i64 s.2.1, .int .i64 s.2.2] 48 (0, 0)) ∧ Hid (Below w.heap.size w wo) ∧ Hid (Own1 Ty.pt 28 (w.heap.size + 1) wo v (cutTo l s k))) (fun _ i _ => 2 * l.length - (intOf i).toNat)
 case atStart => exact ⟨0, Nat.zero_le _, rfl, heap_alloc_new _ _, below_alloc (Below.refl _ _) _, OwnR.nil _ _ _ _ _⟩
 case round =>
  obtain ⟨k, hk, rfl, HX, HB, HO⟩ := hrel
  obtain ⟨wo, hwo⟩ : ∃ wo, wo = wr := ⟨_, rfl⟩
  subst hwo
  by_cases hlt : k < 2 * l.length
  ·have q0 : decide ((k : Int) < 2 * (l.length : Int)) = true := decide_eq_true (by omega)
   obtain ⟨j, hj⟩ : ∃ j, j = k / 2 := ⟨_, rfl⟩
   have hjl : j < l.length := by omega
   have qd : Int.tdiv (k : Int) 2 = (j : Int) := by rw [Int.tdiv_eq_ediv_of_nonneg (by omega)]; omega
   have qd2 : (k : Int) / 2 = (j : Int) := by omega
   have HC := Lib.hid (cutTo_snoc l s k hlt)
   have HE := Lib.hid (ends2_get l k hlt)
   rw [← hj] at HE
   have hco := cutTo_len l s k hk
   have HRk := Lib.hid (HR.out.below HB.out)
   obtain ⟨ad, rfl, hx0, hx1, hx2, hx3⟩ := HRk.out.sg_at j hjl
   obtain ⟨x, hx⟩ : ∃ x, x = sgD l j := ⟨_, rfl⟩
   rw [← hx] at hx0 hx1 hx2 hx3 HE
   clear hx hj
   have sc0 := blk_cell HX 0 rfl
   have sc1 := blk_cell HX 1 rfl
   have sc2 := blk_cell HX 2 rfl
   have sc3 := blk_cell HX 3 rfl
   have hsx := lt_of_block HX
   have hbl := World.block_lt_of_cell? _ _ hx0
   have hkl := Lib.hid hlt
   have hx3' : wo.cell? ⟨(ad.add (j * 4)).block, (ad.add (j * 4)).off + 2 + 1, none⟩ = some (.int .i64 x.2.2) := hx3
   by_cases hp : k % 2 = 1
   ·have e1 : (Int.tmod (k : Int) 2 == 1) = true := by rw [show (2 : Int) = ((2 : Nat) : Int) from rfl, ← Int.ofNat_tmod, hp]; rfl
    have e2 : ((k : Int) % 2 == 1) = true := by simp; omega
    have HE1 : Hid (ptD (ends2 l) k = x.2) := HE.out.trans (if_pos hp)
    clear hp HE
    go_wp2_with fail
    generalize x.2 = p at *
    clear hx0 hx1 hx2 hx3 hx3' HRk sc0 sc1 sc2 sc3 hbl
    refine (ref09_Within p s.1 s.2 _).mono ?_
    rintro e w1 ⟨rfl, hb1⟩
    have BR1 : Below wo.heap.size wo w1 := (by repeat (first | exact Below.refl _ _ | apply below_alloc | apply below_drewN | apply below_drew | (refine below_set2 ?_ ?_; (first | (simp; done) | (simp; omega))) | (refine below_step ?_ hb1)))
    have HP0 : w1.heap[wo.heap.size]? = some (.cells #[.int .i64 p.1, .int .i64 p.2] 28 (0, 0)) := blk_below (heap_alloc_new _ _) hb1
    have HX1 := blk_below HX BR1
    have HB0 := Lib.hid (below_step HB.out BR1)
    have HO0 := Lib.hid (Own1.below HO.out BR1)
    have hzo := HB.out.size
    have HXH := Lib.hid HX
    clear hb1 HX
    cases hw : withinB p s.1 s.2
    ·have HT : Hid (cutTo l s (k + 1) = cutTo l s k) := HC.out.trans (by rw [HE1.out]; exact if_neg (by rw [hw]; decide))
     clear hw HC HE1
     go_wp2
     go_roundw
     case rel => exact ⟨k + 1, by omega, by go_num, HX1, HB0.out, by rw [HT.out]; exact HO0.out⟩
     case measure => simp [intOf]; omega
    ·have HT : Hid (cutTo l s (k + 1) = putZ p (cutTo l s k)) := HC.out.trans (by rw [HE1.out]; exact if_pos hw)
     clear hw HC HE1
     obtain ⟨A5, c5, hv5, hl5, hr5⟩ := HO.out.reads
     subst hv5
     have HOUT := Lib.hid hr5
     clear hr5
     obtain ⟨out, hout⟩ : ∃ out, out = cutTo l s k := ⟨_, rfl⟩
     rw [← hout] at HT HO HO0 HOUT hco hl5
     rw [← hout]
     clear hout
     have hol : out.length ≤ 200000 := by omega
     have HX1' := Lib.hid HX1
     clear hlt HX1 q0 qd qd2
     go_wp2
     go_loopw [8, 9, 10] (fun m b i wr => ∃ t : Nat, t ≤ out.length ∧ i = .int .i64 t ∧ b = .bool (putSt p out t).2 ∧ wr.heap[wo.heap.size]? = some (.cells #[.int .i64 p.1, .int .i64 p.2] 28 (0, 0)) ∧ Hid (Below wo.heap.size wo wr) ∧ Hid (Own1 Ty.pt 28 (wo.heap.size + 1) wr m (putSt p out t).1)) (fun _ _ i _ => out.length - (intOf i).toNat)
     case atStart => exact ⟨0, Nat.zero_le _, rfl, rfl, HP0, BR1, OwnR.nil _ _ _ _ _⟩
     case round =>
      obtain ⟨t, ht, rfl, rfl, HP, HBi, HM⟩ := hrel
      have hml := putSt_len p out t ht
      have zi := HBi.out.size
      have hpi := lt_of_block HP
      have pc0 := blk_cell HP 0 rfl
      have pc1 := blk_cell HP 1 rfl
      by_cases htl : t < out.length
      ·obtain ⟨ao, hao, oc0, oc1⟩ := (HOUT.out.below HBi.out).pt_at t htl
       subst hao
       have HS := Lib.hid (putSt_snoc p out t htl)
       obtain ⟨o, ho⟩ : ∃ o, o = ptD out t := ⟨_, rfl⟩
       rw [← ho] at oc0 oc1 HS
       have HOo := Lib.hid ho
       clear ho
       generalize putSt p out t = st at *
       obtain ⟨m0, b0⟩ := st
       simp only at hml
       cases b0
       ·cases hle : lessB o p
        ·have HS1 : Hid (putSt p out (t + 1) = putB p (m0 ++ [p], true) o) := HS.out.trans (by unfold putA; rw [if_pos ⟨rfl, hle⟩])
         have HLE : Hid (lessB (o.1, o.2) (p.1, p.2) = false) := hle
         clear hle HS
         go_wp2_with fail
         go_still_tail 8, (by kernel_rfl)
         change wpList _ _ _ _ _ wr.drew
         go_wp2_with fail
         (refine (ref08_Less o.1 o.2 p.1 p.2 _).mono ?_; rintro e W0 ⟨rfl, hb3⟩)
         rw [HLE.out]
         have BR : Below wr.heap.size wr W0 := (by repeat (first | exact Below.refl _ _ | apply below_alloc | apply below_drewN | apply below_drew | (refine below_set2 ?_ ?_; (first | (simp; done) | (simp; omega))) | (refine below_step ?_ hb3)))
         have HP0' := blk_below HP BR
         have HM0 := Lib.hid (Own1.below HM.out BR)
         have HB0' := Lib.hid (below_step HBi.out BR)
         have qc0 := blk_cell HP0' 0 rfl
         have qc1 := blk_cell HP0' 1 rfl
         have zz0 := BR.size
         clear hb3 BR HP HM HBi pc0 pc1 oc0 oc1
         go_wp2_with (at_builtin; refine app_one Ty.pt (W := W0) (wo.heap.size + 1) rfl _ _ 25 28 _ 16 rfl Tryz.underlying25 infoPt rfl (by decide) u8 _ p _ _ rfl rfl rfl rfl HM0.out (by omega) (by first | (simp; omega) | omega) ?_; intro v4 W1 HO4 hg4 hat4)
         have HM1 := Lib.hid (Own1.of HO4)
         have HP1 := (hg4.block _ (lt_of_block HP0') (fun e => by have := (OwnR.lt HM0.out _ e.symm).1; omega)).trans HP0'
         have HB1 := Lib.hid (show Below wo.heap.size wo W1 from below_own HB0'.out hg4 (fun b e => by have := (OwnR.lt HM0.out b e).1; omega))
         obtain ⟨ao', hao', oc0, oc1⟩ := (HOUT.out.below HB1.out).pt_at t htl
         cases hao'
         rw [← HOo.out] at oc0 oc1
         have pc0 := blk_cell HP1 0 rfl
         have pc1 := blk_cell HP1 1 rfl
         have zz1 := hg4.size
         clear HO4 hg4 hat4 HP0' HM0 HB0' qc0 qc1
         by_cases hq : o = p
         ·have hd := (ptB o p).trans (decide_eq_true hq)
          have HT : Hid (putSt p out (t + 1) = ((m0 ++ [p]), true)) := HS1.out.trans (by unfold putB; rw [if_pos hq])
          clear hq HS1
          go_wp2_with fail
          go_quiet (fail)
          have BR : Below W1.heap.size W1 (W1.drewN nq) := bq
          have HP2 := blk_below HP1 BR
          have HM2 := Lib.hid (Own1.below HM1.out BR)
          have HB2 := Lib.hid (show Below wo.heap.size wo (W1.drewN nq) from (by repeat (first | exact Below.refl _ _ | apply below_alloc | apply below_drewN | apply below_drew | (refine below_set2 ?_ ?_; (first | (simp; done) | (simp; omega))) | (refine below_step ?_ HB1.out))))
          clear BR HP1 HM1 HB1 pc0 pc1 oc0 oc1
          go_wp2
          go_roundw
          case rel => exact ⟨t + 1, by omega, by go_num, by rw [HT.out], HP2, HB2.out, by rw [HT.out]; exact HM2.out⟩
          case measure => simp [intOf]; omega
         ·have hd := (ptB o p).trans (decide_eq_false hq)
          have HT : Hid (putSt p out (t + 1) = ((m0 ++ [p]) ++ [o], true)) := HS1.out.trans (by unfold putB; rw [if_neg hq])
          clear hq HS1
          go_wp2_with fail
          go_quiet (fail)
          have BR : Below W1.heap.size W1 (W1.drewN nq) := bq
          obtain ⟨W2, hW2⟩ : ∃ W2, W2 = W1.drewN nq := ⟨_, rfl⟩
          rw [← hW2] at BR ⊢
          have HP2 := blk_below HP1 BR
          have HM2 := Lib.hid (Own1.below HM1.out BR)
          have HB2 := Lib.hid (below_step HB1.out BR)
          have od0 := cell_below BR oc0
          have od1 := cell_below BR oc1
          have zz2 := BR.size
          clear hW2 BR HP1 HM1 HB1 pc0 pc1 oc0 oc1
          go_wp2_with (at_builtin; refine app_one Ty.pt (W := W2) (wo.heap.size + 1) rfl _ _ 25 28 _ 16 rfl Tryz.underlying25 infoPt rfl (by decide) v4 _ o _ _ rfl rfl rfl rfl HM2.out (by omega) (by first | (simp; omega) | omega) ?_; intro v5 w5 HO5 hg5 hat5)
          have HM5 := Lib.hid (Own1.of HO5)
          have HP5 := (hg5.block _ (lt_of_block HP2) (fun e => by have := (OwnR.lt HM2.out _ e.symm).1; omega)).trans HP2
          have HB5 := Lib.hid (show Below wo.heap.size wo w5 from below_own HB2.out hg5 (fun b e => by have := (OwnR.lt HM2.out b e).1; omega))
          clear HO5 hg5 hat5 HP2 HM2 HB2 od0 od1
          go_wp2
          go_roundw
          case rel => exact ⟨t + 1, by omega, by go_num, by rw [HT.out], HP5, HB5.out, by rw [HT.out]; exact HM5.out⟩
          case measure => simp [intOf]; omega
        ·have HS1 : Hid (putSt p out (t + 1) = putB p (m0, false) o) := HS.out.trans (by unfold putA; rw [if_neg (by rw [hle]; simp)])
         have HLE : Hid (lessB (o.1, o.2) (p.1, p.2) = true) := hle
         clear hle HS
         go_wp2_with fail
         go_still_tail 8, (by kernel_rfl)
         change wpList _ _ _ _ _ wr.drew
         go_wp2_with fail
         (refine (ref08_Less o.1 o.2 p.1 p.2 _).mono ?_; rintro e W1 ⟨rfl, hb3⟩)
         rw [HLE.out]
         have BR : Below wr.heap.size wr W1 := (by repeat (first | exact Below.refl _ _ | apply below_alloc | apply below_drewN | apply below_drew | (refine below_set2 ?_ ?_; (first | (simp; done) | (simp; omega))) | (refine below_step ?_ hb3)))
         have HP1 := blk_below HP BR
         have HM1 := Lib.hid (Own1.below HM.out BR)
         have HB1 := Lib.hid (below_step HBi.out BR)
         have oe0 := cell_below BR oc0
         have oe1 := cell_below BR oc1
         clear pc0 pc1 oc0 oc1
         have oc0 := oe0
         have oc1 := oe1
         have pc0 := blk_cell HP1 0 rfl
         have pc1 := blk_cell HP1 1 rfl
         have zz0 := BR.size
         clear hb3 BR HP HM HBi oe0 oe1
         by_cases hq : o = p
         ·have hd := (ptB o p).trans (decide_eq_true hq)
          have HT : Hid (putSt p out (t + 1) = (m0, false)) := HS1.out.trans (by unfold putB; rw [if_pos hq])
          clear hq HS1
          go_wp2_with fail
          go_quiet (fail)
          have BR : Below W1.heap.size W1 (W1.drewN nq) := bq
          have HP2 := blk_below HP1 BR
          have HM2 := Lib.hid (Own1.below HM1.out BR)
          have HB2 := Lib.hid (show Below wo.heap.size wo (W1.drewN nq) from (by repeat (first | exact Below.refl _ _ | apply below_alloc | apply below_drewN | apply below_drew | (refine below_set2 ?_ ?_; (first | (simp; done) | (simp; omega))) | (refine below_step ?_ HB1.out))))
          clear BR HP1 HM1 HB1 pc0 pc1 oc0 oc1
          go_wp2
          go_roundw
          case rel => exact ⟨t + 1, by omega, by go_num, by rw [HT.out], HP2, HB2.out, by rw [HT.out]; exact HM2.out⟩
          case measure => simp [intOf]; omega
         ·have hd := (ptB o p).trans (decide_eq_false hq)
          have HT : Hid (putSt p out (t + 1) = (m0 ++ [o], false)) := HS1.out.trans (by unfold putB; rw [if_neg hq])
          clear hq HS1
          go_wp2_with fail
          go_quiet (fail)
          have BR : Below W1.heap.size W1 (W1.drewN nq) := bq
          obtain ⟨W2, hW2⟩ : ∃ W2, W2 = W1.drewN nq := ⟨_, rfl⟩
          rw [← hW2] at BR ⊢
          have HP2 := blk_below HP1 BR
          have HM2 := Lib.hid (Own1.below HM1.out BR)
          have HB2 := Lib.hid (below_step HB1.out BR)
          have od0 := cell_below BR oc0
          have od1 := cell_below BR oc1
          have zz2 := BR.size
          clear hW2 BR HP1 HM1 HB1 pc0 pc1 oc0 oc1
          go_wp2_with (at_builtin; refine app_one Ty.pt (W := W2) (wo.heap.size + 1) rfl _ _ 25 28 _ 16 rfl Tryz.underlying25 infoPt rfl (by decide) u8 _ o _ _ rfl rfl rfl rfl HM2.out (by omega) (by first | (simp; omega) | omega) ?_; intro v5 w5 HO5 hg5 hat5)
          have HM5 := Lib.hid (Own1.of HO5)
          have HP5 := (hg5.block _ (lt_of_block HP2) (fun e => by have := (OwnR.lt HM2.out _ e.symm).1; omega)).trans HP2
          have HB5 := Lib.hid (show Below wo.heap.size wo w5 from below_own HB2.out hg5 (fun b e => by have := (OwnR.lt HM2.out b e).1; omega))
          clear HO5 hg5 hat5 HP2 HM2 HB2 od0 od1
          go_wp2
          go_roundw
          case rel => exact ⟨t + 1, by omega, by go_num, by rw [HT.out], HP5, HB5.out, by rw [HT.out]; exact HM5.out⟩
          case measure => simp [intOf]; omega
       ·have HS1 : Hid (putSt p out (t + 1) = putB p (m0, true) o) := HS.out.trans (by unfold putA; rw [if_neg (by simp)])
        clear HS
        go_wp2_with fail
        go_quiet (fail)
        have BR : Below wr.heap.size wr (wr.drewN nq) := bq
        obtain ⟨W1, hW1⟩ : ∃ W1, W1 = wr.drewN nq := ⟨_, rfl⟩
        rw [← hW1] at BR ⊢
        have HP1 := blk_below HP BR
        have HM1 := Lib.hid (Own1.below HM.out BR)
        have HB1 := Lib.hid (below_step HBi.out BR)
        have oe0 := cell_below BR oc0
        have oe1 := cell_below BR oc1
        clear pc0 pc1 oc0 oc1
        have oc0 := oe0
        have oc1 := oe1
        have pc0 := blk_cell HP1 0 rfl
        have pc1 := blk_cell HP1 1 rfl
        have zz0 := BR.size
        clear hW1 BR HP HM HBi oe0 oe1
        by_cases hq : o = p
        ·have hd := (ptB o p).trans (decide_eq_true hq)
         have HT : Hid (putSt p out (t + 1) = (m0, true)) := HS1.out.trans (by unfold putB; rw [if_pos hq])
         clear hq HS1
         go_wp2_with fail
         go_quiet (fail)
         have BR : Below W1.heap.size W1 (W1.drewN nq) := bq
         have HP2 := blk_below HP1 BR
         have HM2 := Lib.hid (Own1.below HM1.out BR)
         have HB2 := Lib.hid (show Below wo.heap.size wo (W1.drewN nq) from (by repeat (first | exact Below.refl _ _ | apply below_alloc | apply below_drewN | apply below_drew | (refine below_set2 ?_ ?_; (first | (simp; done) | (simp; omega))) | (refine below_step ?_ HB1.out))))
         clear BR HP1 HM1 HB1 pc0 pc1 oc0 oc1
         go_wp2
         go_roundw
         case rel => exact ⟨t + 1, by omega, by go_num, by rw [HT.out], HP2, HB2.out, by rw [HT.out]; exact HM2.out⟩
         case measure => simp [intOf]; omega
        ·have hd := (ptB o p).trans (decide_eq_false hq)
         have HT : Hid (putSt p out (t + 1) = (m0 ++ [o], true)) := HS1.out.trans (by unfold putB; rw [if_neg hq])
         clear hq HS1
         go_wp2_with fail
         go_quiet (fail)
         have BR : Below W1.heap.size W1 (W1.drewN nq) := bq
         obtain ⟨W2, hW2⟩ : ∃ W2, W2 = W1.drewN nq := ⟨_, rfl⟩
         rw [← hW2] at BR ⊢
         have HP2 := blk_below HP1 BR
         have HM2 := Lib.hid (Own1.below HM1.out BR)
         have HB2 := Lib.hid (below_step HB1.out BR)
         have od0 := cell_below BR oc0
         have od1 := cell_below BR oc1
         have zz2 := BR.size
         clear hW2 BR HP1 HM1 HB1 pc0 pc1 oc0 oc1
         go_wp2_with (at_builtin; refine app_one Ty.pt (W := W2) (wo.heap.size + 1) rfl _ _ 25 28 _ 16 rfl Tryz.underlying25 infoPt rfl (by decide) u8 _ o _ _ rfl rfl rfl rfl HM2.out (by omega) (by first | (simp; omega) | omega) ?_; intro v5 w5 HO5 hg5 hat5)
         have HM5 := Lib.hid (Own1.of HO5)
         have HP5 := (hg5.block _ (lt_of_block HP2) (fun e => by have := (OwnR.lt HM2.out _ e.symm).1; omega)).trans HP2
         have HB5 := Lib.hid (show Below wo.heap.size wo w5 from below_own HB2.out hg5 (fun b e => by have := (OwnR.lt HM2.out b e).1; omega))
         clear HO5 hg5 hat5 HP2 HM2 HB2 od0 od1
         go_wp2
         go_roundw
         case rel => exact ⟨t + 1, by omega, by go_num, by rw [HT.out], HP5, HB5.out, by rw [HT.out]; exact HM5.out⟩
         case measure => simp [intOf]; omega
      ·obtain rfl : t = out.length := by omega
       have HZ := Lib.hid (putSt_end p out)
       generalize putSt p out out.length = st at *
       obtain ⟨m0, b0⟩ := st
       simp only at hml
       have HXi := Lib.hid (blk_below HXH.out HBi.out)
       have hkk : k < 2 * l.length := hkl.out
       have HBw := Lib.hid (below_step HB.out HBi.out)
       cases b0
       ·have HZ1 : Hid (putZ p out = m0 ++ [p]) := HZ.out.trans (if_neg (by simp))
        clear HZ
        go_wp2_with (at_builtin; refine app_one Ty.pt (W := wr) (wo.heap.size + 1) rfl _ _ 25 28 _ 16 rfl Tryz.underlying25 infoPt rfl (by decide) u8 _ p _ _ rfl rfl rfl rfl HM.out (by omega) (by first | (simp; omega) | omega) ?_; intro v5 w5 HO5 hg5 hat5)
        have HM5 := Lib.hid (Own1.base (Own1.of HO5) (show w.heap.size + 1 ≤ wo.heap.size + 1 by omega))
        have HX5 := (hg5.block _ (lt_of_block HXi.out) (fun e => by have := (OwnR.lt HM.out _ e.symm).1; omega)).trans HXi.out
        have HB5 := Lib.hid (show Below w.heap.size w w5 from below_own HBw.out hg5 (fun b e => by have := (OwnR.lt HM.out b e).1; omega))
        clear HO5 hg5 hat5 HP HM HBi pc0 pc1
        go_wp2
        go_roundw
        case rel => exact ⟨k + 1, by omega, by go_num, HX5, HB5.out, by rw [HT.out, HZ1.out]; exact HM5.out⟩
        case measure => simp [intOf]; omega
       ·have HZ1 : Hid (putZ p out = m0) := HZ.out.trans (if_pos rfl)
        have HM5 := Lib.hid (Own1.base HM.out (show w.heap.size + 1 ≤ wo.heap.size + 1 by omega))
        clear HZ HP HM HBi pc0 pc1
        go_wp2
        go_roundw
        case rel => exact ⟨k + 1, by omega, by go_num, HXi.out, HBw.out, by rw [HT.out, HZ1.out]; exact HM5.out⟩
        case measure => simp [intOf]; omega
   ·have e1 : (Int.tmod (k : Int) 2 == 1) = false := by
     rw [show (2 : Int) = ((2 : Nat) : Int) from rfl, ← Int.ofNat_tmod, beq_eq_false_iff_ne]; omega
    have e2 : ((k : Int) % 2 == 1) = false := by rw [beq_eq_false_iff_ne]; omega
    have HE1 : Hid (ptD (ends2 l) k = x.1) := HE.out.trans (if_neg hp)
    clear hp HE
    go_wp2_with fail
    generalize x.1 = p at *
    clear hx0 hx1 hx2 hx3 hx3' HRk sc0 sc1 sc2 sc3 hbl
    refine (ref09_Within p s.1 s.2 _).mono ?_
    rintro e w1 ⟨rfl, hb1⟩
    have BR1 : Below wo.heap.size wo w1 := (by repeat (first | exact Below.refl _ _ | apply below_alloc | apply below_drewN | apply below_drew | (refine below_set2 ?_ ?_; (first | (simp; done) | (simp; omega))) | (refine below_step ?_ hb1)))
    have HP0 : w1.heap[wo.heap.size]? = some (.cells #[.int .i64 p.1, .int .i64 p.2] 28 (0, 0)) := blk_below (heap_alloc_new _ _) hb1
    have HX1 := blk_below HX BR1
    have HB0 := Lib.hid (below_step HB.out BR1)
    have HO0 := Lib.hid (Own1.below HO.out BR1)
    have hzo := HB.out.size
    have HXH := Lib.hid HX
    clear hb1 HX
    cases hw : withinB p s.1 s.2
    ·have HT : Hid (cutTo l s (k + 1) = cutTo l s k) := HC.out.trans (by rw [HE1.out]; exact if_neg (by rw [hw]; decide))
     clear hw HC HE1
     go_wp2
     go_roundw
     case rel => exact ⟨k + 1, by omega, by go_num, HX1, HB0.out, by rw [HT.out]; exact HO0.out⟩
     case measure => simp [intOf]; omega
    ·have HT : Hid (cutTo l s (k + 1) = putZ p (cutTo l s k)) := HC.out.trans (by rw [HE1.out]; exact if_pos hw)
     clear hw HC HE1
     obtain ⟨A5, c5, hv5, hl5, hr5⟩ := HO.out.reads
     subst hv5
     have HOUT := Lib.hid hr5
     clear hr5
     obtain ⟨out, hout⟩ : ∃ out, out = cutTo l s k := ⟨_, rfl⟩
     rw [← hout] at HT HO HO0 HOUT hco hl5
     rw [← hout]
     clear hout
     have hol : out.length ≤ 200000 := by omega
     have HX1' := Lib.hid HX1
     clear hlt HX1 q0 qd qd2
     go_wp2
     go_loopw [8, 9, 10] (fun m b i wr => ∃ t : Nat, t ≤ out.length ∧ i = .int .i64 t ∧ b = .bool (putSt p out t).2 ∧ wr.heap[wo.heap.size]? = some (.cells #[.int .i64 p.1, .int .i64 p.2] 28 (0, 0)) ∧ Hid (Below wo.heap.size wo wr) ∧ Hid (Own1 Ty.pt 28 (wo.heap.size + 1) wr m (putSt p out t).1)) (fun _ _ i _ => out.length - (intOf i).toNat)
     case atStart => exact ⟨0, Nat.zero_le _, rfl, rfl, HP0, BR1, OwnR.nil _ _ _ _ _⟩
     case round =>
      obtain ⟨t, ht, rfl, rfl, HP, HBi, HM⟩ := hrel
      have hml := putSt_len p out t ht
      have zi := HBi.out.size
      have hpi := lt_of_block HP
      have pc0 := blk_cell HP 0 rfl
      have pc1 := blk_cell HP 1 rfl
      by_cases htl : t < out.length
      ·obtain ⟨ao, hao, oc0, oc1⟩ := (HOUT.out.below HBi.out).pt_at t htl
       subst hao
       have HS := Lib.hid (putSt_snoc p out t htl)
       obtain ⟨o, ho⟩ : ∃ o, o = ptD out t := ⟨_, rfl⟩
       rw [← ho] at oc0 oc1 HS
       have HOo := Lib.hid ho
       clear ho
       generalize putSt p out t = st at *
       obtain ⟨m0, b0⟩ := st
       simp only at hml
       cases b0
       ·cases hle : lessB o p
        ·have HS1 : Hid (putSt p out (t + 1) = putB p (m0 ++ [p], true) o) := HS.out.trans (by unfold putA; rw [if_pos ⟨rfl, hle⟩])
         have HLE : Hid (lessB (o.1, o.2) (p.1, p.2) = false) := hle
         clear hle HS
         go_wp2_with fail
         go_still_tail 8, (by kernel_rfl)
         change wpList _ _ _ _ _ wr.drew
         go_wp2_with fail
         (refine (ref08_Less o.1 o.2 p.1 p.2 _).mono ?_; rintro e W0 ⟨rfl, hb3⟩)
         rw [HLE.out]
         have BR : Below wr.heap.size wr W0 := (by repeat (first | exact Below.refl _ _ | apply below_alloc | apply below_drewN | apply below_drew | (refine below_set2 ?_ ?_; (first | (simp; done) | (simp; omega))) | (refine below_step ?_ hb3)))
         have HP0' := blk_below HP BR
         have HM0 := Lib.hid (Own1.below HM.out BR)
         have HB0' := Lib.hid (below_step HBi.out BR)
         have qc0 := blk_cell HP0' 0 rfl
         have qc1 := blk_cell HP0' 1 rfl
         have zz0 := BR.size
         clear hb3 BR HP HM HBi pc0 pc1 oc0 oc1
         go_wp2_with (at_builtin; refine app_one Ty.pt (W := W0) (wo.heap.size + 1) rfl _ _ 25 28 _ 16 rfl Tryz.underlying25 infoPt rfl (by decide) u8 _ p _ _ rfl rfl rfl rfl HM0.out (by omega) (by first | (simp; omega) | omega) ?_; intro v4 W1 HO4 hg4 hat4)
         have HM1 := Lib.hid (Own1.of HO4)
         have HP1 := (hg4.block _ (lt_of_block HP0') (fun e => by have := (OwnR.lt HM0.out _ e.symm).1; omega)).trans HP0'
         have HB1 := Lib.hid (show Below wo.heap.size wo W1 from below_own HB0'.out hg4 (fun b e => by have := (OwnR.lt HM0.out b e).1; omega))
         obtain ⟨ao', hao', oc0, oc1⟩ := (HOUT.out.below HB1.out).pt_at t htl
         cases hao'
         rw [← HOo.out] at oc0 oc1
         have pc0 := blk_cell HP1 0 rfl
         have pc1 := blk_cell HP1 1 rfl
         have zz1 := hg4.size
         clear HO4 hg4 hat4 HP0' HM0 HB0' qc0 qc1
         by_cases hq : o = p
         ·have hd := (ptB o p).trans (decide_eq_true hq)
          have HT : Hid (putSt p out (t + 1) = ((m0 ++ [p]), true)) := HS1.out.trans (by unfold putB; rw [if_pos hq])
          clear hq HS1
          go_wp2_with fail
          go_quiet (fail)
          have BR : Below W1.heap.size W1 (W1.drewN nq) := bq
          have HP2 := blk_below HP1 BR
          have HM2 := Lib.hid (Own1.below HM1.out BR)
          have HB2 := Lib.hid (show Below wo.heap.size wo (W1.drewN nq) from (by repeat (first | exact Below.refl _ _ | apply below_alloc | apply below_drewN | apply below_drew | (refine below_set2 ?_ ?_; (first | (simp; done) | (simp; omega))) | (refine below_step ?_ HB1.out))))
          clear BR HP1 HM1 HB1 pc0 pc1 oc0 oc1
          go_wp2
          go_roundw
          case rel => exact ⟨t + 1, by omega, by go_num, by rw [HT.out], HP2, HB2.out, by rw [HT.out]; exact HM2.out⟩
          case measure => simp [intOf]; omega
         ·have hd := (ptB o p).trans (decide_eq_false hq)
          have HT : Hid (putSt p out (t + 1) = ((m0 ++ [p]) ++ [o], true)) := HS1.out.trans (by unfold putB; rw [if_neg hq])
          clear hq HS1
          go_wp2_with fail
          go_quiet (fail)
          have BR : Below W1.heap.size W1 (W1.drewN nq) := bq
          obtain ⟨W2, hW2⟩ : ∃ W2, W2 = W1.drewN nq := ⟨_, rfl⟩
          rw [← hW2] at BR ⊢
          have HP2 := blk_below HP1 BR
          have HM2 := Lib.hid (Own1.below HM1.out BR)
          have HB2 := Lib.hid (below_step HB1.out BR)
          have od0 := cell_below BR oc0
          have od1 := cell_below BR oc1
          have zz2 := BR.size
          clear hW2 BR HP1 HM1 HB1 pc0 pc1 oc0 oc1
          go_wp2_with (at_builtin; refine app_one Ty.pt (W := W2) (wo.heap.size + 1) rfl _ _ 25 28 _ 16 rfl Tryz.underlying25 infoPt rfl (by decide) v4 _ o _ _ rfl rfl rfl rfl HM2.out (by omega) (by first | (simp; omega) | omega) ?_; intro v5 w5 HO5 hg5 hat5)
          have HM5 := Lib.hid (Own1.of HO5)
          have HP5 := (hg5.block _ (lt_of_block HP2) (fun e => by have := (OwnR.lt HM2.out _ e.symm).1; omega)).trans HP2
          have HB5 := Lib.hid (show Below wo.heap.size wo w5 from below_own HB2.out hg5 (fun b e => by have := (OwnR.lt HM2.out b e).1; omega))
          clear HO5 hg5 hat5 HP2 HM2 HB2 od0 od1
          go_wp2
          go_roundw
          case rel => exact ⟨t + 1, by omega, by go_num, by rw [HT.out], HP5, HB5.out, by rw [HT.out]; exact HM5.out⟩
          case measure => simp [intOf]; omega
        ·have HS1 : Hid (putSt p out (t + 1) = putB p (m0, false) o) := HS.out.trans (by unfold putA; rw [if_neg (by rw [hle]; simp)])
         have HLE : Hid (lessB (o.1, o.2) (p.1, p.2) = true) := hle
         clear hle HS
         go_wp2_with fail
         go_still_tail 8, (by kernel_rfl)
         change wpList _ _ _ _ _ wr.drew
         go_wp2_with fail
         (refine (ref08_Less o.1 o.2 p.1 p.2 _).mono ?_; rintro e W1 ⟨rfl, hb3⟩)
         rw [HLE.out]
         have BR : Below wr.heap.size wr W1 := (by repeat (first | exact Below.refl _ _ | apply below_alloc | apply below_drewN | apply below_drew | (refine below_set2 ?_ ?_; (first | (simp; done) | (simp; omega))) | (refine below_step ?_ hb3)))
         have HP1 := blk_below HP BR
         have HM1 := Lib.hid (Own1.below HM.out BR)
         have HB1 := Lib.hid (below_step HBi.out BR)
         have oe0 := cell_below BR oc0
         have oe1 := cell_below BR oc1
         clear pc0 pc1 oc0 oc1
         have oc0 := oe0
         have oc1 := oe1
         have pc0 := blk_cell HP1 0 rfl
         have pc1 := blk_cell HP1 1 rfl
         have zz0 := BR.size
         clear hb3 BR HP HM HBi oe0 oe1
         by_cases hq : o = p
         ·have hd := (ptB o p).trans (decide_eq_true hq)
          have HT : Hid (putSt p out (t + 1) = (m0, false)) := HS1.out.trans (by unfold putB; rw [if_pos hq])
          clear hq HS1
          go_wp2_with fail
          go_quiet (fail)
          have BR : Below W1.heap.size W1 (W1.drewN nq) := bq
          have HP2 := blk_below HP1 BR
          have HM2 := Lib.hid (Own1.below HM1.out BR)
          have HB2 := Lib.hid (show Below wo.heap.size wo (W1.drewN nq) from (by repeat (first | exact Below.refl _ _ | apply below_alloc | apply below_drewN | apply below_drew | (refine below_set2 ?_ ?_; (first | (simp; done) | (simp; omega))) | (refine below_step ?_ HB1.out))))
          clear BR HP1 HM1 HB1 pc0 pc1 oc0 oc1
          go_wp2
          go_roundw
          case rel => exact ⟨t + 1, by omega, by go_num, by rw [HT.out], HP2, HB2.out, by rw [HT.out]; exact HM2.out⟩
          case measure => simp [intOf]; omega
         ·have hd := (ptB o p).trans (decide_eq_false hq)
          have HT : Hid (putSt p out (t + 1) = (m0 ++ [o], false)) := HS1.out.trans (by unfold putB; rw [if_neg hq])
          clear hq HS1
          go_wp2_with fail
          go_quiet (fail)
          have BR : Below W1.heap.size W1 (W1.drewN nq) := bq
          obtain ⟨W2, hW2⟩ : ∃ W2, W2 = W1.drewN nq := ⟨_, rfl⟩
          rw [← hW2] at BR ⊢
          have HP2 := blk_below HP1 BR
          have HM2 := Lib.hid (Own1.below HM1.out BR)
          have HB2 := Lib.hid (below_step HB1.out BR)
          have od0 := cell_below BR oc0
          have od1 := cell_below BR oc1
          have zz2 := BR.size
          clear hW2 BR HP1 HM1 HB1 pc0 pc1 oc0 oc1
          go_wp2_with (at_builtin; refine app_one Ty.pt (W := W2) (wo.heap.size + 1) rfl _ _ 25 28 _ 16 rfl Tryz.underlying25 infoPt rfl (by decide) u8 _ o _ _ rfl rfl rfl rfl HM2.out (by omega) (by first | (simp; omega) | omega) ?_; intro v5 w5 HO5 hg5 hat5)
          have HM5 := Lib.hid (Own1.of HO5)
          have HP5 := (hg5.block _ (lt_of_block HP2) (fun e => by have := (OwnR.lt HM2.out _ e.symm).1; omega)).trans HP2
          have HB5 := Lib.hid (show Below wo.heap.size wo w5 from below_own HB2.out hg5 (fun b e => by have := (OwnR.lt HM2.out b e).1; omega))
          clear HO5 hg5 hat5 HP2 HM2 HB2 od0 od1
          go_wp2
          go_roundw
          case rel => exact ⟨t + 1, by omega, by go_num, by rw [HT.out], HP5, HB5.out, by rw [HT.out]; exact HM5.out⟩
          case measure => simp [intOf]; omega
       ·have HS1 : Hid (putSt p out (t + 1) = putB p (m0, true) o) := HS.out.trans (by unfold putA; rw [if_neg (by simp)])
        clear HS
        go_wp2_with fail
        go_quiet (fail)
        have BR : Below wr.heap.size wr (wr.drewN nq) := bq
        obtain ⟨W1, hW1⟩ : ∃ W1, W1 = wr.drewN nq := ⟨_, rfl⟩
        rw [← hW1] at BR ⊢
        have HP1 := blk_below HP BR
        have HM1 := Lib.hid (Own1.below HM.out BR)
        have HB1 := Lib.hid (below_step HBi.out BR)
        have oe0 := cell_below BR oc0
        have oe1 := cell_below BR oc1
        clear pc0 pc1 oc0 oc1
        have oc0 := oe0
        have oc1 := oe1
        have pc0 := blk_cell HP1 0 rfl
        have pc1 := blk_cell HP1 1 rfl
        have zz0 := BR.size
        clear hW1 BR HP HM HBi oe0 oe1
        by_cases hq : o = p
        ·have hd := (ptB o p).trans (decide_eq_true hq)
         have HT : Hid (putSt p out (t + 1) = (m0, true)) := HS1.out.trans (by unfold putB; rw [if_pos hq])
         clear hq HS1
         go_wp2_with fail
         go_quiet (fail)
         have BR : Below W1.heap.size W1 (W1.drewN nq) := bq
         have HP2 := blk_below HP1 BR
         have HM2 := Lib.hid (Own1.below HM1.out BR)
         have HB2 := Lib.hid (show Below wo.heap.size wo (W1.drewN nq) from (by repeat (first | exact Below.refl _ _ | apply below_alloc | apply below_drewN | apply below_drew | (refine below_set2 ?_ ?_; (first | (simp; done) | (simp; omega))) | (refine below_step ?_ HB1.out))))
         clear BR HP1 HM1 HB1 pc0 pc1 oc0 oc1
         go_wp2
         go_roundw
         case rel => exact ⟨t + 1, by omega, by go_num, by rw [HT.out], HP2, HB2.out, by rw [HT.out]; exact HM2.out⟩
         case measure => simp [intOf]; omega
        ·have hd := (ptB o p).trans (decide_eq_false hq)
         have HT : Hid (putSt p out (t + 1) = (m0 ++ [o], true)) := HS1.out.trans (by unfold putB; rw [if_neg hq])
         clear hq HS1
         go_wp2_with fail
         go_quiet (fail)
         have BR : Below W1.heap.size W1 (W1.drewN nq) := bq
         obtain ⟨W2, hW2⟩ : ∃ W2, W2 = W1.drewN nq := ⟨_, rfl⟩
         rw [← hW2] at BR ⊢
         have HP2 := blk_below HP1 BR
         have HM2 := Lib.hid (Own1.below HM1.out BR)
         have HB2 := Lib.hid (below_step HB1.out BR)
         have od0 := cell_below BR oc0
         have od1 := cell_below BR oc1
         have zz2 := BR.size
         clear hW2 BR HP1 HM1 HB1 pc0 pc1 oc0 oc1
         go_wp2_with (at_builtin; refine app_one Ty.pt (W := W2) (wo.heap.size + 1) rfl _ _ 25 28 _ 16 rfl Tryz.underlying25 infoPt rfl (by decide) u8 _ o _ _ rfl rfl rfl rfl HM2.out (by omega) (by first | (simp; omega) | omega) ?_; intro v5 w5 HO5 hg5 hat5)
         have HM5 := Lib.hid (Own1.of HO5)
         have HP5 := (hg5.block _ (lt_of_block HP2) (fun e => by have := (OwnR.lt HM2.out _ e.symm).1; omega)).trans HP2
         have HB5 := Lib.hid (show Below wo.heap.size wo w5 from below_own HB2.out hg5 (fun b e => by have := (OwnR.lt HM2.out b e).1; omega))
         clear HO5 hg5 hat5 HP2 HM2 HB2 od0 od1
         go_wp2
         go_roundw
         case rel => exact ⟨t + 1, by omega, by go_num, by rw [HT.out], HP5, HB5.out, by rw [HT.out]; exact HM5.out⟩
         case measure => simp [intOf]; omega
      ·obtain rfl : t = out.length := by omega
       have HZ := Lib.hid (putSt_end p out)
       generalize putSt p out out.length = st at *
       obtain ⟨m0, b0⟩ := st
       simp only at hml
       have HXi := Lib.hid (blk_below HXH.out HBi.out)
       have hkk : k < 2 * l.length := hkl.out
       have HBw := Lib.hid (below_step HB.out HBi.out)
       cases b0
       ·have HZ1 : Hid (putZ p out = m0 ++ [p]) := HZ.out.trans (if_neg (by simp))
        clear HZ
        go_wp2_with (at_builtin; refine app_one Ty.pt (W := wr) (wo.heap.size + 1) rfl _ _ 25 28 _ 16 rfl Tryz.underlying25 infoPt rfl (by decide) u8 _ p _ _ rfl rfl rfl rfl HM.out (by omega) (by first | (simp; omega) | omega) ?_; intro v5 w5 HO5 hg5 hat5)
        have HM5 := Lib.hid (Own1.base (Own1.of HO5) (show w.heap.size + 1 ≤ wo.heap.size + 1 by omega))
        have HX5 := (hg5.block _ (lt_of_block HXi.out) (fun e => by have := (OwnR.lt HM.out _ e.symm).1; omega)).trans HXi.out
        have HB5 := Lib.hid (show Below w.heap.size w w5 from below_own HBw.out hg5 (fun b e => by have := (OwnR.lt HM.out b e).1; omega))
        clear HO5 hg5 hat5 HP HM HBi pc0 pc1
        go_wp2
        go_roundw
        case rel => exact ⟨k + 1, by omega, by go_num, HX5, HB5.out, by rw [HT.out, HZ1.out]; exact HM5.out⟩
        case measure => simp [intOf]; omega
       ·have HZ1 : Hid (putZ p out = m0) := HZ.out.trans (if_pos rfl)
        have HM5 := Lib.hid (Own1.base HM.out (show w.heap.size + 1 ≤ wo.heap.size + 1 by omega))
        clear HZ HP HM HBi pc0 pc1
        go_wp2
        go_roundw
        case rel => exact ⟨k + 1, by omega, by go_num, HXi.out, HBw.out, by rw [HT.out, HZ1.out]; exact HM5.out⟩
        case measure => simp [intOf]; omega
  ·obtain rfl : k = 2 * l.length := by omega
   have HF := Lib.hid (cutTo_end l s)
   go_wp2
   go_ret
   exact ⟨_, rfl, by rw [← HF.out]; exact Own1.base HO.out (Nat.le_succ _), HB.out⟩
end
section
open Go.RowKit Go.Proofs.YtaeflnbjeaoapaaGreatW.PrintLast

def chF (st : Sgs × Pt) (q : Pt) : Sgs × Pt := (insZ lessS (st.2, q) st.1, q)
def chSt (c : Pts) (a : Pt) (out : Sgs) (j : Nat) : Sgs × Pt := (c.take j).foldl chF (out, a)
def splF (s : Sgs) (out : Sgs) (t : Sg) : Sgs := ((cutR s t ++ [t.2]).foldl chF (out, t.1)).1
def splTo (s : Sgs) (k : Nat) : Sgs := (s.take k).foldl (splF s) []
def splR (s : Sgs) : Sgs := s.foldl (splF s) []
theorem insZ_len {α : Type} {less : α → α → Bool} (x : α) (l : List α) : (insZ less x l).length = l.length + 1 := by
 rw [(insZ_perm (less := less) x l).length_eq]; rfl
theorem chSt_snoc (c : Pts) (a : Pt) (out : Sgs) (j : Nat) (h : j < c.length) : chSt c a out (j + 1) = chF (chSt c a out j) (ptD c j) := by
 unfold chSt
 rw [take_snoc c j (0, 0) h, List.foldl_append]; rfl
theorem chSt_len (c : Pts) (a : Pt) (out : Sgs) : ∀ j, (chSt c a out j).1.length ≤ out.length + j
 | 0 => by simp [chSt]
 | j + 1 => by
  have ih := chSt_len c a out j
  by_cases h : j < c.length
  ·rw [chSt_snoc c a out j h]; unfold chF; rw [insZ_len]; omega
  ·have : chSt c a out (j + 1) = chSt c a out j := by unfold chSt; rw [List.take_of_length_le (by omega), List.take_of_length_le (by omega)]
   rw [this]; omega
theorem splF_eq (s : Sgs) (out : Sgs) (t : Sg) : splF s out t = (chSt (cutR s t ++ [t.2]) t.1 out (cutR s t ++ [t.2]).length).1 := by unfold splF chSt; rw [List.take_length]
theorem splTo_snoc (s : Sgs) (k : Nat) (h : k < s.length) : splTo s (k + 1) = splF s (splTo s k) (sgD s k) := by
 unfold splTo
 rw [take_snoc s k ((0, 0), (0, 0)) h, List.foldl_append]; rfl
theorem cutR_len (l : Sgs) (s : Sg) : (cutR l s).length ≤ 2 * l.length := by
 have := cutTo_len l s (2 * l.length) (Nat.le_refl _)
 rwa [cutTo_end] at this
theorem splTo_len (s : Sgs) : ∀ k, (splTo s k).length ≤ k * (2 * s.length + 1)
 | 0 => by simp [splTo]
 | k + 1 => by
  have ih := splTo_len s k
  rw [Nat.add_mul, Nat.one_mul]
  by_cases h : k < s.length
  ·rw [splTo_snoc s k h, splF_eq]
   have h1 := chSt_len (cutR s (sgD s k) ++ [(sgD s k).2]) (sgD s k).1 (splTo s k) (cutR s (sgD s k) ++ [(sgD s k).2]).length
   have h2 := cutR_len s (sgD s k)
   simp only [List.length_append, List.length_singleton] at h1
   simp only [List.length_append, List.length_singleton]
   omega
  ·have : splTo s (k + 1) = splTo s k := by unfold splTo; rw [List.take_of_length_le (by omega), List.take_of_length_le (by omega)]
   rw [this]; omega
theorem spl_le {k n : Nat} (h1 : k ≤ 900) (h2 : n ≤ 900) : k * (2 * n + 1) ≤ 1620900 := Nat.mul_le_mul h1 (show 2 * n + 1 ≤ 1801 by omega)
theorem splTo_end (s : Sgs) : splTo s s.length = splR s := by unfold splTo splR; rw [List.take_length]
set_option maxRecDepth 100000 in
set_option maxHeartbeats 4000000 in
theorem ref20_Split {ok : Nat → Prop} (l : Sgs) (A : Option Addr) (n c : Nat) (w : World) (hr : Row Ty.sg ok w A l) (hn : n = l.length) (hlen : l.length ≤ 900) :
  Calls Tryz.prog 57 #[.slice A n c] w fun e w' => ∃ v, e = .returned v ∧ Own1 Ty.sg 48 w.heap.size w' v (splR (sortZ l)) ∧ Below w.heap.size w w' := by
 subst hn
 go_enter Tryz.func57, Tryz.ntmps57
 go_wp2_with fail
 refine (ref20_Sort l A _ c w hr rfl (by omega)).mono ?_
 rintro e w1 ⟨v, rfl, ho, hb⟩
 obtain ⟨A1, c1, rfl, hl1, hr1⟩ := ho.reads
 have HS := Lib.hid hr1
 have HB1 := Lib.hid hb
 have hsl : (sortZ l).length ≤ 900 := by
  refine Nat.le_trans ?_ hlen
  have := sortTo_len l l.length (Nat.le_refl _)
  rwa [sortTo_end] at this
 have hsz := hb.size
 clear ho hr1 hb hr
 obtain ⟨s, hs⟩ : ∃ s, s = sortZ l := ⟨_, rfl⟩
 have HSE := Lib.hid hs
 rw [← hs] at hl1 HS hsl
 rw [← hs]
 clear hs
 go_wp2
 go_loopw [4, 5] (fun v i wr => ∃ k : Nat, k ≤ s.length ∧ i = .int .i64 k ∧ Hid (Below w1.heap.size w1 wr) ∧ Hid (Own1 Ty.sg 48 w1.heap.size wr v (splTo s k))) (fun _ i _ => s.length - (intOf i).toNat)
 case atStart => exact ⟨0, Nat.zero_le _, rfl, Below.refl _ _, OwnR.nil _ _ _ _ _⟩
 case round =>
  obtain ⟨k, hk, rfl, HB, HO⟩ := hrel
  obtain ⟨wo, rfl⟩ : ∃ wo : World, wo = wr := ⟨_, rfl⟩
  by_cases hlt : k < s.length
  ·have HSr := Lib.hid (HS.out.below HB.out)
   obtain ⟨ad, rfl, hx0, hx1, hx2, hx3⟩ := HSr.out.sg_at k hlt
   have hpl := Nat.le_trans (splTo_len s k) (spl_le (k := k) (n := s.length) (by omega) hsl)
   have HT := Lib.hid ((splTo_snoc s k hlt).trans (splF_eq _ _ _))
   have hzo := HB.out.size
   obtain ⟨t, ht⟩ : ∃ t, t = sgD s k := ⟨_, rfl⟩
   rw [← ht] at hx0 hx1 hx2 hx3 HT
   have hcl := cutR_len s t
   generalize splTo s k = acc at *
   clear ht
   go_wp2_with fail
   refine (ref20_cuts s (some ad) _ c1 t wo HSr.out rfl (by omega)).mono ?_
   rintro e w2 ⟨v2, rfl, ho2, hb2⟩
   have HO2 := Lib.hid ho2
   have hy0 := cell_below hb2 hx0
   have hy1 := cell_below hb2 hx1
   have hy2 := cell_below hb2 hx2
   have hy3 := cell_below hb2 hx3
   have hy3' : w2.cell? ⟨(ad.add (k * 4)).block, (ad.add (k * 4)).off + 2 + 1, none⟩ = some (.int .i64 t.2.2) := hy3
   have hz2 := hb2.size
   have HB2 := Lib.hid hb2
   have hL : ((cutR s t).length + 1) * 16 ≤ 140737488355328 := by omega
   have HL := Lib.hid hL
   clear ho2 hb2 hL
   obtain ⟨cc, hcc⟩ : ∃ cc, cc = cutR s t ++ [t.2] := ⟨_, rfl⟩
   have hccl : cc.length ≤ 1801 := by rw [hcc, List.length_append]; simp; omega
   have HCC := Lib.hid hcc
   rw [← hcc] at HT
   clear hcc
   go_wp2_with (at_builtin; refine app_one Ty.pt (W := w2) wo.heap.size rfl _ _ 25 28 _ 16 rfl Tryz.underlying25 infoPt rfl (by decide) v2 _ t.2 _ _ rfl rfl rfl rfl HO2.out (by omega) HL.out ?_; intro v3 w3 HO3 hg3 hat3; have B3 := Lib.hid (show Below wo.heap.size wo w3 from below_own HB2.out hg3 (fun b e => (OwnR.lt HO2.out b e).1)); have hq0 := cell_below B3.out hx0; have hq1 := cell_below B3.out hx1; clear hx0 hx1 hx2 hx3 hy0 hy1 hy2 hy3 hy3')
   have HO4 : Hid (Own1 Ty.pt 28 wo.heap.size w3 v3 cc) := by rw [HCC.out]; exact Own1.of HO3
   obtain ⟨A4, c4, hv4, hl4, hr4⟩ := HO4.out.reads
   subst hv4
   have HC4 := Lib.hid hr4
   have hz3 := B3.out.size
   have HOo := Lib.hid (Own1.below HO.out B3.out)
   have hvb : ∀ b, u4.ownBlock = some b → b ≠ w3.heap.size := fun b e => by have := (OwnR.lt HO.out b e).2; omega
   have HF0 : (w3.alloc (.cells #[.int .i64 t.1.1, .int .i64 t.1.2] 28)).heap[w3.heap.size]? = some (.cells #[.int .i64 t.1.1, .int .i64 t.1.2] 28 (0, 0)) := heap_alloc_new _ _
   clear HO3 hg3 hat3 hr4 hq0 hq1 HO HSr HO2 HO4 HL
   go_loopw [4, 8] (fun v i wr => ∃ j : Nat, j ≤ cc.length ∧ i = .int .i64 j ∧ wr.heap[w3.heap.size]? = some (.cells #[.int .i64 (chSt cc t.1 acc j).2.1, .int .i64 (chSt cc t.1 acc j).2.2] 28 (0, 0)) ∧ Hid (Below w3.heap.size w3 wr) ∧ Hid (Own1 Ty.sg 48 w1.heap.size wr v (chSt cc t.1 acc j).1) ∧ Hid (∀ b, v.ownBlock = some b → b ≠ w3.heap.size)) (fun _ i _ => cc.length - (intOf i).toNat)
   case atStart => exact ⟨0, Nat.zero_le _, rfl, HF0, bq, Own1.below HOo.out bq, hvb⟩
   case round =>
    obtain ⟨j, hj, rfl, HF, HBi, HOi, HVB⟩ := hrel
    clear HF0 hvb
    have hfz := lt_of_block HF
    have hzi := HBi.out.size
    have HBo := Lib.hid (show Below w1.heap.size w1 wr from (by repeat (first | exact Below.refl _ _ | apply below_alloc | apply below_drewN | apply below_drew | (refine below_set2 ?_ ?_; (first | (simp; done) | (simp; omega))) | (refine below_step ?_ HBi.out) | (refine below_step ?_ B3.out) | (refine below_step ?_ HB.out))))
    by_cases hjt : j < cc.length
    ·obtain ⟨bd, hbd, hp0, hp1⟩ := (HC4.out.below HBi.out).pt_at j hjt
     subst hbd
     have hcl2 := chSt_len cc t.1 acc j
     have HN := Lib.hid (chSt_snoc cc t.1 acc j hjt)
     generalize chSt cc t.1 acc j = st at *
     generalize ptD cc j = q at *
     have hf0 := blk_cell HF 0 rfl
     have hf1 := blk_cell HF 1 rfl
     obtain ⟨A6, c6, hv6, hl6, hr6⟩ := HOi.out.reads
     subst hv6
     have HR6 := Lib.hid hr6
     clear hr6
     go_wp2_with fail
     go_still_tail 7, (by kernel_rfl)
     change wpList _ _ _ _ _ wr.drew
     go_wp2_with fail
     refine (ref20_insert st.1 A6 _ c6 (st.2, q) wr.drew (HR6.out.below (below_drew (Below.refl _ _))) rfl (by omega)).mono ?_
     rintro e w5 ⟨v5, rfl, ho5, hb5⟩
     have B5 : Below wr.heap.size wr w5 := (by repeat (first | exact Below.refl _ _ | apply below_alloc | apply below_drewN | apply below_drew | (refine below_set2 ?_ ?_; (first | (simp; done) | (simp; omega))) | (refine below_step ?_ hb5)))
     have HF5 := blk_below HF B5
     have hr0 := cell_below B5 hp0
     have hr1 := cell_below B5 hp1
     have hg50 := blk_cell HF5 0 rfl
     have hg51 := blk_cell HF5 1 rfl
     have hf50 := blk_free HF5 0
     have hf51 := blk_free HF5 1
     have HO5 := Lib.hid (Own1.base ho5 (show w1.heap.size ≤ wr.drew.heap.size from HBo.out.size))
     have HVB5 : Hid (∀ b, v5.ownBlock = some b → b ≠ w3.heap.size) := fun b e => by
      have := (OwnR.lt ho5 b e).1
      have h2 : wr.heap.size ≤ b := this
      omega
     have HB5 := Lib.hid (below_step HBi.out B5)
     clear ho5 hb5 hp0 hp1 hf0 hf1 HOi HR6 HF
     go_wp2
     go_roundw
     case rel => exact ⟨j + 1, by omega, by go_num, by rw [HN.out]; exact blk_set (blk_set HF5 _) _, below_set2 (Nat.le_refl _) (below_set2 (Nat.le_refl _) HB5.out), by rw [HN.out]; exact HO5.out.flat_kept (S := fun b => b = w3.heap.size) sg_flat (kept_set rfl (kept_set rfl (kept_refl _ _))) (fun b e => HVB5.out b e), HVB5⟩
     case measure => simp [intOf]; omega
    ·obtain rfl : j = cc.length := by omega
     go_wp2
     go_roundw
     case rel => exact ⟨k + 1, by omega, by go_num, HBo, by rw [HT.out]; exact HOi.out⟩
     case measure => simp [intOf]; omega
  ·obtain rfl : k = s.length := by omega
   have HF := Lib.hid (splTo_end s)
   go_wp2
   go_ret
   exact ⟨_, rfl, by rw [← HSE.out, ← HF.out]; exact Own1.base HO.out hsz, below_step HB1.out HB.out⟩
end
end Go.Proofs.YtaeflnbjeaoapaaGreat
