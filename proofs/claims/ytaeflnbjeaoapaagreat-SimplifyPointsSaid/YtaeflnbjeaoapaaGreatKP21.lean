/- Contract of ref24.Areas. Contract of ref24.Build. Plain law of SimplifyPoints: the reference's points are the code's. -/
import Derived.Test.YtaeflnbjeaoapaaGreatKPW
import Derived.Test.YtaeflnbjeaoapaaGreatKP20
import Derived.Test.YtaeflnbjeaoapaaGreatKP9
import Derived.Test.YtaeflnbjeaoapaaGreatKP18
import Derived.Test.YtaeflnbjeaoapaaGreatKP19
import Derived.Test.YtaeflnbjeaoapaaGreatKP11
namespace Go.Proofs.YtaeflnbjeaoapaaGreat
set_option linter.unusedVariables false
set_option linter.unusedSimpArgs false
section
open Go.RowKit Go.Proofs.YtaeflnbjeaoapaaGreatW.PrintLast

theorem Row.dropA {α : Type} {T : Ty α} {ok : Nat → Prop} {w : World} {ad : Addr} {xs : List α} (h : Row T ok w (some ad) xs) (m : Nat) : Row T ok w (some (ad.add (m * T.sz))) (xs.drop m) := by
 refine ⟨by rw [List.length_drop]; have := h.1; omega, fun hn => ?_⟩
 rw [List.length_drop] at hn
 obtain ⟨ad', e, hok, hc⟩ := h.2 (by omega)
 injection e with e
 subst e
 refine ⟨_, rfl, by rw [add_block]; exact hok, fun i x hx => ?_⟩
 rw [List.getElem?_drop] at hx
 obtain ⟨cs, hR, hcs⟩ := hc (m + i) x hx
 refine ⟨cs, hR, fun j u hu => ?_⟩
 have := hcs j u hu
 rw [add_add]
 rwa [show m * T.sz + (i * T.sz + j) = (m + i) * T.sz + j by rw [Nat.add_mul]; omega]
theorem Row.takeA {α : Type} {T : Ty α} {ok : Nat → Prop} {w : World} {A : Option Addr} {xs : List α} (h : Row T ok w A xs) (m : Nat) : Row T ok w A (xs.take m) := by
 refine ⟨by rw [List.length_take]; have := h.1; omega, fun hn => ?_⟩
 rw [List.length_take] at hn
 obtain ⟨ad, e, hok, hc⟩ := h.2 (by omega)
 refine ⟨ad, e, hok, fun i x hx => ?_⟩
 rw [List.getElem?_take] at hx
 split at hx
 ·exact hc i x hx
 ·cases hx
/-- An own row is nil, or its block begins at its first cell. -/
theorem OwnR.forms {α : Type} {T : Ty α} {e : TypeId} {base : Nat} {M : Nat → Prop} {w : World} {v : Value} {xs : List α} (h : OwnR T e base M w v xs) :
  (v = .slice none 0 0 ∧ xs = []) ∨ ∃ g c, v = .slice (some ⟨g, 0, none⟩) xs.length c ∧ base ≤ g ∧ g < w.heap.size ∧ xs.length ≤ c ∧ c ≤ maxLen := by
 have hl := OwnR.lt h
 obtain ⟨h0, inner, ho, hr⟩ := h
 rcases ho.2 with ⟨h1, h2⟩ | ⟨g, cap, cur, hv, hb, hh, h1, h2, h3, h4⟩
 ·exact .inl ⟨h1, List.eq_nil_of_length_eq_zero h2⟩
 ·exact .inr ⟨g, cap, hv, (hl g (by rw [hv]; rfl)).1, (hl g (by rw [hv]; rfl)).2, h1, h2⟩
theorem insI_at {n : Int} : ∀ {l : List Int} {k : Nat}, k ≤ l.length → (∀ j, j < k → inD l j < n) → (k < l.length → ¬ inD l k < n) → insI n l = l.take k ++ [n] ++ l.drop k
 | [], k, h, _, _ => by simp [insI]
 | y :: l, 0, h, _, h2 => by
  have h2 : ¬ y < n := h2 (by simp)
  unfold insI; rw [if_neg h2]; rfl
 | y :: l, k + 1, h, h1, h2 => by
  have h0 : y < n := h1 0 (by omega)
  have ih := insI_at (n := n) (l := l) (k := k) (by simp at h; omega) (fun j hj => h1 (j + 1) (by omega)) (fun hk => h2 (by simp; omega))
  unfold insI
  rw [if_pos h0, ih]; rfl
def arTo (acc : List Int) (l : List Int) (j : Nat) : List Int := (l.take j).foldl addI acc
theorem arTo_snoc (acc l : List Int) (j : Nat) (h : j < l.length) : arTo acc l (j + 1) = addI (arTo acc l j) (inD l j) := by
 unfold arTo; rw [take_snoc l j 0 h, List.foldl_append]; rfl
def arM (m : Msh) (k : Nat) : List Int := areasR (m.take k)
theorem arM_snoc (m : Msh) (k : Nat) (h : k < m.length) : arM m (k + 1) = arTo (arM m k) ((egD m k).2.1 ++ (egD m k).2.2) ((egD m k).2.1 ++ (egD m k).2.2).length := by
 unfold arM arTo areasR allI
 rw [take_snoc m k (((0, 0), (0, 0)), ([], [])) h, List.flatMap_append, List.foldl_append, List.take_length]
 simp [egD]
theorem insI_len (n : Int) : ∀ l : List Int, (insI n l).length = l.length + 1
 | [] => rfl
 | y :: l => by unfold insI; split <;> simp [insI_len n l]
theorem arTo_len (acc l : List Int) : ∀ j, (arTo acc l j).length ≤ acc.length + j
 | 0 => Nat.le_refl _
 | j + 1 => by
  have ih := arTo_len acc l j
  by_cases h : j < l.length
  ·rw [arTo_snoc acc l j h]
   unfold addI
   split
   ·omega
   ·rw [insI_len]; omega
  ·have : arTo acc l (j + 1) = arTo acc l j := by unfold arTo; rw [List.take_of_length_le (by omega), List.take_of_length_le (by omega)]
   rw [this]; omega
theorem arM_len {m : Msh} (hf : ∀ e ∈ m, e.2.1.length ≤ 1000 ∧ e.2.2.length ≤ 1000) : ∀ k, k ≤ m.length → (arM m k).length ≤ k * 2000
 | 0, _ => by simp [arM, areasR, allI]
 | k + 1, h => by
  have ih := arM_len hf k (by omega)
  have h1 := arTo_len (arM m k) ((egD m k).2.1 ++ (egD m k).2.2) ((egD m k).2.1 ++ (egD m k).2.2).length
  have h2 := hf _ (egD_mem (show k < m.length by omega))
  rw [arM_snoc m k (by omega)]
  have h3 : ((egD m k).2.1 ++ (egD m k).2.2).length = (egD m k).2.1.length + (egD m k).2.2.length := List.length_append
  omega
theorem app_left {L R : List Int} {j : Nat} (h : j < L.length) : inD (L ++ R) j = inD L j := by simp [inD, List.getD_eq_getElem?_getD, List.getElem?_append_left h]
theorem app_right {L R : List Int} {j : Nat} (h : L.length ≤ j) : inD (L ++ R) j = inD R (j - L.length) := by simp [inD, List.getD_eq_getElem?_getD, List.getElem?_append_right h]
set_option maxRecDepth 100000 in
set_option maxHeartbeats 8000000 in
theorem ref24_Areas {ok : Nat → Prop} (m : Msh) (A : Option Addr) (n c : Nat) (w : World) (hr : Row Ty.edge ok w A m) (hn : n = m.length) (hlen : m.length ≤ 1000) (hf : ∀ e ∈ m, e.2.1.length ≤ 1000 ∧ e.2.2.length ≤ 1000) :
  Calls Tryz.prog 34 #[.slice A n c] w fun e w' => ∃ v, e = .returned v ∧ Own1 Ty.i64 3 w.heap.size w' v (areasR m) ∧ Below w.heap.size w w' := by
 subst hn
 have HR := Lib.hid hr
 have HF := Lib.hid hf
 have hmx := hr.len
 clear hr hf
 go_enter Tryz.func34, Tryz.ntmps34
 go_wp2
 go_loopw [3, 4] (fun v i wr => ∃ k : Nat, k ≤ m.length ∧ i = .int .i64 k ∧ Hid (Below w.heap.size w wr) ∧ Hid (Own1 Ty.i64 3 w.heap.size wr v (arM m k))) (fun _ i _ => m.length - (intOf i).toNat)
 case atStart => exact ⟨0, Nat.zero_le _, rfl, Below.refl _ _, OwnR.nil _ _ _ _ _⟩
 case round =>
  obtain ⟨k, hk, rfl, HB, HO⟩ := hrel
  have hszw := HB.out.size
  by_cases hlt : k < m.length
  ·have HAL := arM_len HF.out k hk
   have HFE := HF.out _ (egD_mem hlt)
   have HSN := Lib.hid (arM_snoc m k hlt)
   obtain ⟨wo, hwo⟩ : ∃ wo, wo = wr := ⟨wr, rfl⟩
   subst hwo
   obtain ⟨ad, A1, c1, A2, c2, rfl, hx0, hx1, hx2, hx3, hx4, hx5, hc1, hr1, hc2, hr2⟩ := (HR.out.below HB.out).edge_at k hlt
   have HX4 := Lib.hid hx4
   have HX5 := Lib.hid hx5
   have HL := Lib.hid hr1
   have HRR := Lib.hid hr2
   clear hx0 hx1 hx2 hx3 hx4 hx5 hr1 hr2
   generalize (egD m k).2.1 = L at *
   generalize (egD m k).2.2 = R at *
   generalize arM m k = acc0 at *
   go_wp2
   go_loopw [3, 5] (fun v i wr => ∃ j : Nat, j ≤ (L ++ R).length ∧ i = .int .i64 j ∧ Hid (Below wo.heap.size wo wr) ∧ Hid (Own1 Ty.i64 3 w.heap.size wr v (arTo acc0 (L ++ R) j))) (fun _ i _ => (L ++ R).length - (intOf i).toNat)
   case atStart => exact ⟨0, Nat.zero_le _, rfl, Below.refl _ _, HO.out⟩
   case round =>
    obtain ⟨j, hj, rfl, HBi, HOi⟩ := hrel
    have hx4 := cell_below HBi.out HX4.out
    have hx5 := cell_below HBi.out HX5.out
    have hll : (L ++ R).length = L.length + R.length := List.length_append
    have hw : IntKind.i64.wrap ((L.length : Int) + (R.length : Int)) = (L.length : Int) + (R.length : Int) := IntWalk.i64_in _ (by omega)
    by_cases hjl : j < (L ++ R).length
    ·have q1 : decide ((j : Int) < (L.length : Int) + (R.length : Int)) = true := decide_eq_true (by omega)
     have hal := arTo_len acc0 (L ++ R) j
     have HSJ := Lib.hid (arTo_snoc acc0 (L ++ R) j hjl)
     have HINC : Hid (areasR m = areasR m) := rfl
     generalize arTo acc0 (L ++ R) j = acc at *
     obtain ⟨A3, c3, rfl, hl3, hr3⟩ := HOi.out.reads
     have HR3 := Lib.hid hr3
     clear hr3
     by_cases hlL : j < L.length
     ·obtain ⟨ax, rfl, hv⟩ := (HL.out.below HBi.out).int_at j hlL
      rw [app_left hlL] at HSJ
      generalize inD L j = x at *
      have q2 : decide ((j : Int) < (L.length : Int)) = true := decide_eq_true (by omega)
      go_wp2_with fail
      go_quiet (fail)
      go_wp2_with fail
      refine (ref24_Has acc A3 _ c3 x _ (HR3.out.below bq) rfl).mono ?_
      rintro e w1 ⟨rfl, hb1⟩
      have B1 : Below wr.heap.size wr w1 := (by repeat (first | exact Below.refl _ _ | apply below_alloc | apply below_drewN | apply below_drew | (refine below_set2 ?_ ?_; (first | (simp; done) | (simp; omega))) | (refine below_step ?_ hb1)))
      have HO1 := Lib.hid (Own1.below HOi.out B1)
      have HB1 := Lib.hid (below_step HBi.out B1)
      have HR31 := Lib.hid (HR3.out.below B1)
      clear hb1 hx4 hx5 B1 HOi HBi HR3
      by_cases hm : x ∈ acc
      ·have hh : hasI acc x = true := decide_eq_true hm
       have HS2 : Hid (arTo acc0 (L ++ R) (j + 1) = acc) := HSJ.out.trans (if_pos hm)
       rw [hh]
       clear hm hh
       go_wp2
       go_roundw
       case rel => exact ⟨j + 1, by omega, by go_num, HB1.out, by rw [HS2.out]; exact HO1.out⟩
       case measure => simp [intOf]; omega
      ·have hh : hasI acc x = false := decide_eq_false hm
       have HS2 : Hid (arTo acc0 (L ++ R) (j + 1) = insI x acc) := HSJ.out.trans (if_neg hm)
       rw [hh]
       clear hm hh HSJ
       go_wp2
       go_loopw [7] (fun i wr => ∃ p : Nat, p ≤ acc.length ∧ i = .int .i64 p ∧ Hid (Below w1.heap.size w1 wr) ∧ Hid (∀ q, q < p → inD acc q < x)) (fun i _ => acc.length - (intOf i).toNat)
       case atStart => exact ⟨0, Nat.zero_le _, rfl, Below.refl _ _, Lib.hid (fun q h => by omega)⟩
       case round =>
        obtain ⟨p, hp, rfl, HBp, HLp⟩ := hrel
        by_cases hpl : p < acc.length
        ·obtain ⟨az, e, hv⟩ := (HR31.out.below HBp.out).int_at p hpl
         cases e
         by_cases hlt2 : inD acc p < x
         ·have q3 : decide (inD acc p < x) = true := decide_eq_true hlt2
          have HL2 : Hid (∀ q, q < p + 1 → inD acc q < x) := Lib.hid (fun q hq => if e : q = p then by rw [e]; exact hlt2 else HLp.out q (by omega))
          clear hlt2 HLp
          generalize inD acc p = y at *
          go_wp2
          go_roundw
          case rel => exact ⟨p + 1, by omega, by go_num, HBp.out, HL2.out⟩
          case measure => simp [intOf]; omega
         ·have HO2 := Lib.hid (Own1.below HO1.out HBp.out)
          have HW2 := Lib.hid (below_step HB1.out HBp.out)
          have hz2 := HW2.out.size
          have HI : Hid (insI x acc = acc.take p ++ [x] ++ acc.drop p) := Lib.hid (insI_at hp HLp.out (fun h => hlt2))
          clear HLp HO1
          have HF9 := OwnR.forms HO2.out
          rcases HF9 with ⟨hv9, hn9⟩ | ⟨g, cc, hv9, hg91, hg92, hg93, hg94⟩
          ·cases hv9
          ·have hA9 : some az = some ⟨g, 0, none⟩ := by injection hv9
           cases hA9
           clear hv9
           rw [add_at, Nat.zero_add] at hv
           have q3 : decide (inD acc p < x) = false := decide_eq_false hlt2
           clear hlt2
           generalize inD acc p = y at *
           have HRT : Hid (∀ W, Below wr.heap.size wr W → Row Ty.i64 (fun k => k < wr.heap.size) W (some ⟨g, 0, none⟩) acc) := Lib.hid (fun W hW => by obtain ⟨A9, c9, e9, _, hr9⟩ := OwnR.rowB int_flat HO2.out (fun k => k < wr.heap.size) (fun b hb => (OwnR.lt HO2.out b hb).2); injection e9 with e9; rw [e9]; exact hr9.below hW)
           have HN0 := Lib.hid (OwnR.nil Ty.i64 3 wr.heap.size (fun _ => False) wr)
           have hl1 : (([] : List Int).length + p) * 8 ≤ 140737488355328 := by simp; omega
           have hl2 : (([] ++ acc.take p).length + 1) * 8 ≤ 140737488355328 := by simp; omega
           have hlb : (([] ++ acc.take p ++ [x]).length + (acc.length - p)) * 8 ≤ 140737488355328 := by simp; omega
           have hpt : p = (acc.take p).length := by rw [List.length_take]; omega
           have hpd : acc.length - p = (acc.drop p).length := by rw [List.length_drop]
           have HPT := Lib.hid hpt
           have HPD := Lib.hid hpd
           clear hpt hpd
           have HRD : Hid (∀ W, Below wr.heap.size wr W → ∀ {M : Nat → Prop}, (∀ k, k < wr.heap.size → ¬ M k) → Row Ty.i64 (fun k => ¬ M k) W (some ⟨g, p, none⟩) (acc.drop p)) := Lib.hid (fun W hW M hM => by have h9 := ((HRT.out W hW).dropA p).mono hM; rwa [show Ty.i64.sz = 1 from rfl, Nat.mul_one, add_at, Nat.zero_add] at h9)
           have HRE : Hid (∀ W, Below wr.heap.size wr W → ∀ {M : Nat → Prop}, (∀ k, k < wr.heap.size → ¬ M k) → Row Ty.i64 (fun k => ¬ M k) W (if c3 = p then some ⟨g, 0, none⟩ else some ⟨g, p, none⟩) (acc.drop p)) := Lib.hid (fun W hW M hM => by by_cases h9 : c3 = p; rw [List.drop_of_length_le (by omega)]; exact Row.nil _ _ _ _; rw [if_neg h9]; exact HRD.out W hW hM)
           go_wp2_with (first | (at_builtin; refine app_row Ty.i64 (W := wr) wr.heap.size rfl _ _ 29 3 _ 8 rfl Tryz.underlying29 infoInt rfl (by decide) (.slice none 0 0) [] (acc.take p) (some ⟨g, 0, none⟩) p c3 _ rfl rfl HPT.out (((HRT.out _ (Below.refl _ _)).takeA p).mono (fun _ _ h => h)) HN0.out (Nat.le_refl _) hl1 ?_; intro v4 w4 HO4 hg4 hat4; have hz4 := hg4.size; have B4 := Lib.hid (show Below wr.heap.size wr w4 from below_own (Below.refl _ _) hg4 (fun b e => by cases e)); have HO4 := Lib.hid HO4; clear hg4 hat4) | (at_builtin; refine app_one Ty.i64 (W := w4) wr.heap.size rfl _ _ 29 3 _ 8 rfl Tryz.underlying29 infoInt rfl (by decide) v4 ([] ++ acc.take p) x [.int .i64 x] _ rfl rfl rfl rfl HO4.out hz4 hl2 ?_; intro v5 w5 HO5 hg5 hat5; have hz5 := hg5.size; have B5 := Lib.hid (show Below wr.heap.size wr w5 from below_own B4.out hg5 (fun b e => (OwnR.lt HO4.out b e).1)); have HM5 : Hid (∀ k, k < wr.heap.size → ¬ ((False ∨ v4.ownBlock = some k) ∨ v5.ownBlock = some k)) := Lib.hid (fun k hk h => by rcases h with (h | h) | h; exact h; (have := (OwnR.lt HO4.out k h).1; omega); (have := (OwnR.lt HO5 k h).1; omega)); have HO5 := Lib.hid HO5; clear hg5 hat5 HO4 B4) | (at_builtin; refine app_row Ty.i64 (W := w5) wr.heap.size rfl _ _ 29 3 _ 8 rfl Tryz.underlying29 infoInt rfl (by decide) v5 ([] ++ acc.take p ++ [x]) (acc.drop p) (some ⟨g, p, none⟩) (acc.length - p) (c3 - p) _ rfl rfl HPD.out (HRD.out _ B5.out HM5.out) HO5.out (by omega) hlb ?_; intro v6 w6 HO6 hg6 hat6; have B6 := Lib.hid (show Below wr.heap.size wr w6 from below_own B5.out hg6 (fun b e => (OwnR.lt HO5.out b e).1)); have HO7 := Lib.hid (Own1.of HO6); clear HO6 hg6 hat6 HO5 HM5 B5) | (at_builtin; refine app_row Ty.i64 (W := w5) wr.heap.size rfl _ _ 29 3 _ 8 rfl Tryz.underlying29 infoInt rfl (by decide) v5 ([] ++ acc.take p ++ [x]) (acc.drop p) (if c3 = p then some ⟨g, 0, none⟩ else some ⟨g, p, none⟩) (acc.length - p) (c3 - p) _ rfl rfl HPD.out (HRE.out _ B5.out HM5.out) HO5.out (by omega) hlb ?_; intro v6 w6 HO6 hg6 hat6; have B6 := Lib.hid (show Below wr.heap.size wr w6 from below_own B5.out hg6 (fun b e => (OwnR.lt HO5.out b e).1)); have HO7 := Lib.hid (Own1.of HO6); clear HO6 hg6 hat6 HO5 HM5 B5))
           have HB9 := Lib.hid (below_step HW2.out B6.out)
           have HO9 : Hid (Own1 Ty.i64 3 w.heap.size w6 v6 (arTo acc0 (L ++ R) (j + 1))) := Lib.hid (by rw [HS2.out, HI.out]; exact Own1.base HO7.out (by omega))
           clear HO7 B6 HRT HRD HRE HN0
           go_wp2
           go_roundw
           case rel => exact ⟨j + 1, by omega, by go_num, HB9.out, HO9.out⟩
           case measure => simp [intOf]; omega
        ·have HO2 := Lib.hid (Own1.below HO1.out HBp.out)
         have HW2 := Lib.hid (below_step HB1.out HBp.out)
         have hz2 := HW2.out.size
         have HI : Hid (insI x acc = acc.take p ++ [x] ++ acc.drop p) := Lib.hid (insI_at hp HLp.out (fun h => absurd h hpl))
         clear HLp HO1
         have HF9 := OwnR.forms HO2.out
         rcases HF9 with ⟨hv9, hn9⟩ | ⟨g, cc, hv9, hg91, hg92, hg93, hg94⟩
         ·have hA9 : A3 = none := by injection hv9
          have hC9 : c3 = 0 := by injection hv9
          cases hA9
          cases hC9
          clear hv9
          cases hn9
          obtain rfl : p = 0 := by simpa using hp
          have HN0 := Lib.hid (OwnR.nil Ty.i64 3 wr.heap.size (fun _ => False) wr)
          go_wp2_with (first | (at_builtin; refine app_row Ty.i64 (W := wr) wr.heap.size rfl _ _ 29 3 _ 8 rfl Tryz.underlying29 infoInt rfl (by decide) (.slice none 0 0) [] [] _ _ _ (fun _ => False) rfl rfl (show (0 : Nat) = ([] : List Int).length from rfl) (Row.nil _ _ _ _) HN0.out (Nat.le_refl _) (by simp) ?_; intro v4 w4 HO4 hg4 hat4; have hz4 := hg4.size; have B4 := Lib.hid (show Below wr.heap.size wr w4 from below_own (Below.refl _ _) hg4 (fun b e => by cases e)); have HP4 : OwnR Ty.i64 3 wr.heap.size (fun k => False ∨ v4.ownBlock = some k) w4 v4 ([] : List Int) := HO4; clear hg4 hat4) | (at_builtin; refine app_one Ty.i64 (W := w4) wr.heap.size rfl _ _ 29 3 _ 8 rfl Tryz.underlying29 infoInt rfl (by decide) v4 ([] : List Int) x [.int .i64 x] _ rfl rfl rfl rfl HP4 hz4 (by simp) ?_; intro v5 w5 HO5 hg5 hat5; have hz5 := hg5.size; have B5 := Lib.hid (show Below wr.heap.size wr w5 from below_own B4.out hg5 (fun b e => (OwnR.lt HP4 b e).1)); have HP5 : OwnR Ty.i64 3 wr.heap.size (fun k => (False ∨ v4.ownBlock = some k) ∨ v5.ownBlock = some k) w5 v5 [x] := HO5; clear hg5 hat5 HO4 HP4 B4) | (at_builtin; refine app_row Ty.i64 (W := w5) wr.heap.size rfl _ _ 29 3 _ 8 rfl Tryz.underlying29 infoInt rfl (by decide) v5 [x] [] _ _ _ _ rfl rfl (show (0 : Nat) = ([] : List Int).length from rfl) (Row.nil _ _ _ _) HP5 (by omega) (by simp) ?_; intro v6 w6 HO6 hg6 hat6; have B6 := Lib.hid (show Below wr.heap.size wr w6 from below_own B5.out hg6 (fun b e => (OwnR.lt HP5 b e).1)); have HO7 := Lib.hid (Own1.of HO6); clear HO6 hg6 hat6 HO5 HP5 B5))
          have HB9 := Lib.hid (below_step HW2.out B6.out)
          have HO9 : Hid (Own1 Ty.i64 3 w.heap.size w6 v6 (arTo acc0 (L ++ R) (j + 1))) := Lib.hid (by rw [HS2.out, HI.out]; exact Own1.base HO7.out (by omega))
          clear HO7 B6 HN0
          go_wp2
          go_roundw
          case rel => exact ⟨j + 1, by omega, by go_num, HB9.out, HO9.out⟩
          case measure => simp [intOf]; omega
         ·have hA9 : A3 = some ⟨g, 0, none⟩ := by injection hv9
          cases hA9
          clear hv9
          have HRT : Hid (∀ W, Below wr.heap.size wr W → Row Ty.i64 (fun k => k < wr.heap.size) W (some ⟨g, 0, none⟩) acc) := Lib.hid (fun W hW => by obtain ⟨A9, c9, e9, _, hr9⟩ := OwnR.rowB int_flat HO2.out (fun k => k < wr.heap.size) (fun b hb => (OwnR.lt HO2.out b hb).2); injection e9 with e9; rw [e9]; exact hr9.below hW)
          have HN0 := Lib.hid (OwnR.nil Ty.i64 3 wr.heap.size (fun _ => False) wr)
          have hl1 : (([] : List Int).length + p) * 8 ≤ 140737488355328 := by simp; omega
          have hl2 : (([] ++ acc.take p).length + 1) * 8 ≤ 140737488355328 := by simp; omega
          have hlb : (([] ++ acc.take p ++ [x]).length + (acc.length - p)) * 8 ≤ 140737488355328 := by simp; omega
          have hpt : p = (acc.take p).length := by rw [List.length_take]; omega
          have hpd : acc.length - p = (acc.drop p).length := by rw [List.length_drop]
          have HPT := Lib.hid hpt
          have HPD := Lib.hid hpd
          clear hpt hpd
          have HRD : Hid (∀ W, Below wr.heap.size wr W → ∀ {M : Nat → Prop}, (∀ k, k < wr.heap.size → ¬ M k) → Row Ty.i64 (fun k => ¬ M k) W (some ⟨g, p, none⟩) (acc.drop p)) := Lib.hid (fun W hW M hM => by have h9 := ((HRT.out W hW).dropA p).mono hM; rwa [show Ty.i64.sz = 1 from rfl, Nat.mul_one, add_at, Nat.zero_add] at h9)
          have HRE : Hid (∀ W, Below wr.heap.size wr W → ∀ {M : Nat → Prop}, (∀ k, k < wr.heap.size → ¬ M k) → Row Ty.i64 (fun k => ¬ M k) W (if c3 = p then some ⟨g, 0, none⟩ else some ⟨g, p, none⟩) (acc.drop p)) := Lib.hid (fun W hW M hM => by by_cases h9 : c3 = p; rw [List.drop_of_length_le (by omega)]; exact Row.nil _ _ _ _; rw [if_neg h9]; exact HRD.out W hW hM)
          go_wp2_with (first | (at_builtin; refine app_row Ty.i64 (W := wr) wr.heap.size rfl _ _ 29 3 _ 8 rfl Tryz.underlying29 infoInt rfl (by decide) (.slice none 0 0) [] (acc.take p) (some ⟨g, 0, none⟩) p c3 _ rfl rfl HPT.out (((HRT.out _ (Below.refl _ _)).takeA p).mono (fun _ _ h => h)) HN0.out (Nat.le_refl _) hl1 ?_; intro v4 w4 HO4 hg4 hat4; have hz4 := hg4.size; have B4 := Lib.hid (show Below wr.heap.size wr w4 from below_own (Below.refl _ _) hg4 (fun b e => by cases e)); have HO4 := Lib.hid HO4; clear hg4 hat4) | (at_builtin; refine app_one Ty.i64 (W := w4) wr.heap.size rfl _ _ 29 3 _ 8 rfl Tryz.underlying29 infoInt rfl (by decide) v4 ([] ++ acc.take p) x [.int .i64 x] _ rfl rfl rfl rfl HO4.out hz4 hl2 ?_; intro v5 w5 HO5 hg5 hat5; have hz5 := hg5.size; have B5 := Lib.hid (show Below wr.heap.size wr w5 from below_own B4.out hg5 (fun b e => (OwnR.lt HO4.out b e).1)); have HM5 : Hid (∀ k, k < wr.heap.size → ¬ ((False ∨ v4.ownBlock = some k) ∨ v5.ownBlock = some k)) := Lib.hid (fun k hk h => by rcases h with (h | h) | h; exact h; (have := (OwnR.lt HO4.out k h).1; omega); (have := (OwnR.lt HO5 k h).1; omega)); have HO5 := Lib.hid HO5; clear hg5 hat5 HO4 B4) | (at_builtin; refine app_row Ty.i64 (W := w5) wr.heap.size rfl _ _ 29 3 _ 8 rfl Tryz.underlying29 infoInt rfl (by decide) v5 ([] ++ acc.take p ++ [x]) (acc.drop p) (some ⟨g, p, none⟩) (acc.length - p) (c3 - p) _ rfl rfl HPD.out (HRD.out _ B5.out HM5.out) HO5.out (by omega) hlb ?_; intro v6 w6 HO6 hg6 hat6; have B6 := Lib.hid (show Below wr.heap.size wr w6 from below_own B5.out hg6 (fun b e => (OwnR.lt HO5.out b e).1)); have HO7 := Lib.hid (Own1.of HO6); clear HO6 hg6 hat6 HO5 HM5 B5) | (at_builtin; refine app_row Ty.i64 (W := w5) wr.heap.size rfl _ _ 29 3 _ 8 rfl Tryz.underlying29 infoInt rfl (by decide) v5 ([] ++ acc.take p ++ [x]) (acc.drop p) (if c3 = p then some ⟨g, 0, none⟩ else some ⟨g, p, none⟩) (acc.length - p) (c3 - p) _ rfl rfl HPD.out (HRE.out _ B5.out HM5.out) HO5.out (by omega) hlb ?_; intro v6 w6 HO6 hg6 hat6; have B6 := Lib.hid (show Below wr.heap.size wr w6 from below_own B5.out hg6 (fun b e => (OwnR.lt HO5.out b e).1)); have HO7 := Lib.hid (Own1.of HO6); clear HO6 hg6 hat6 HO5 HM5 B5))
          have HB9 := Lib.hid (below_step HW2.out B6.out)
          have HO9 : Hid (Own1 Ty.i64 3 w.heap.size w6 v6 (arTo acc0 (L ++ R) (j + 1))) := Lib.hid (by rw [HS2.out, HI.out]; exact Own1.base HO7.out (by omega))
          clear HO7 B6 HRT HRD HRE HN0
          go_wp2
          go_roundw
          case rel => exact ⟨j + 1, by omega, by go_num, HB9.out, HO9.out⟩
          case measure => simp [intOf]; omega
     ·have hjR : j - L.length < R.length := by omega
      obtain ⟨ay, rfl, hv0⟩ := (HRR.out.below HBi.out).int_at (j - L.length) hjR
      rw [app_right (by omega)] at HSJ
      generalize inD R (j - L.length) = x at *
      have q2 : decide ((j : Int) < (L.length : Int)) = false := decide_eq_false (by omega)
      have hw2 : IntKind.i64.wrap ((j : Int) - (L.length : Int)) = (j : Int) - (L.length : Int) := IntWalk.i64_in _ (by omega)
      have hw3 : ((j : Int) - (L.length : Int)).toNat = j - L.length := by omega
      have hw4 : (0 : Int) ≤ (j : Int) - (L.length : Int) := by omega
      have hw5 : (j : Int) - (L.length : Int) < (R.length : Int) := by omega
      go_wp2_with fail
      go_quiet (fail)
      go_wp2_with fail
      go_quiet (fail)
      go_wp2_with fail
      refine (ref24_Has acc A3 _ c3 x _ (HR3.out.below bq) rfl).mono ?_
      rintro e w1 ⟨rfl, hb1⟩
      have B1 : Below wr.heap.size wr w1 := (by repeat (first | exact Below.refl _ _ | apply below_alloc | apply below_drewN | apply below_drew | (refine below_set2 ?_ ?_; (first | (simp; done) | (simp; omega))) | (refine below_step ?_ hb1)))
      have HO1 := Lib.hid (Own1.below HOi.out B1)
      have HB1 := Lib.hid (below_step HBi.out B1)
      have HR31 := Lib.hid (HR3.out.below B1)
      clear hb1 hx4 hx5 B1 HOi HBi HR3
      by_cases hm : x ∈ acc
      ·have hh : hasI acc x = true := decide_eq_true hm
       have HS2 : Hid (arTo acc0 (L ++ R) (j + 1) = acc) := HSJ.out.trans (if_pos hm)
       rw [hh]
       clear hm hh
       go_wp2
       go_roundw
       case rel => exact ⟨j + 1, by omega, by go_num, HB1.out, by rw [HS2.out]; exact HO1.out⟩
       case measure => simp [intOf]; omega
      ·have hh : hasI acc x = false := decide_eq_false hm
       have HS2 : Hid (arTo acc0 (L ++ R) (j + 1) = insI x acc) := HSJ.out.trans (if_neg hm)
       rw [hh]
       clear hm hh HSJ
       go_wp2
       go_loopw [7] (fun i wr => ∃ p : Nat, p ≤ acc.length ∧ i = .int .i64 p ∧ Hid (Below w1.heap.size w1 wr) ∧ Hid (∀ q, q < p → inD acc q < x)) (fun i _ => acc.length - (intOf i).toNat)
       case atStart => exact ⟨0, Nat.zero_le _, rfl, Below.refl _ _, Lib.hid (fun q h => by omega)⟩
       case round =>
        obtain ⟨p, hp, rfl, HBp, HLp⟩ := hrel
        by_cases hpl : p < acc.length
        ·obtain ⟨az, e, hv⟩ := (HR31.out.below HBp.out).int_at p hpl
         cases e
         by_cases hlt2 : inD acc p < x
         ·have q3 : decide (inD acc p < x) = true := decide_eq_true hlt2
          have HL2 : Hid (∀ q, q < p + 1 → inD acc q < x) := Lib.hid (fun q hq => if e : q = p then by rw [e]; exact hlt2 else HLp.out q (by omega))
          clear hlt2 HLp
          generalize inD acc p = y at *
          go_wp2
          go_roundw
          case rel => exact ⟨p + 1, by omega, by go_num, HBp.out, HL2.out⟩
          case measure => simp [intOf]; omega
         ·have HO2 := Lib.hid (Own1.below HO1.out HBp.out)
          have HW2 := Lib.hid (below_step HB1.out HBp.out)
          have hz2 := HW2.out.size
          have HI : Hid (insI x acc = acc.take p ++ [x] ++ acc.drop p) := Lib.hid (insI_at hp HLp.out (fun h => hlt2))
          clear HLp HO1
          have HF9 := OwnR.forms HO2.out
          rcases HF9 with ⟨hv9, hn9⟩ | ⟨g, cc, hv9, hg91, hg92, hg93, hg94⟩
          ·cases hv9
          ·have hA9 : some az = some ⟨g, 0, none⟩ := by injection hv9
           cases hA9
           clear hv9
           rw [add_at, Nat.zero_add] at hv
           have q3 : decide (inD acc p < x) = false := decide_eq_false hlt2
           clear hlt2
           generalize inD acc p = y at *
           have HRT : Hid (∀ W, Below wr.heap.size wr W → Row Ty.i64 (fun k => k < wr.heap.size) W (some ⟨g, 0, none⟩) acc) := Lib.hid (fun W hW => by obtain ⟨A9, c9, e9, _, hr9⟩ := OwnR.rowB int_flat HO2.out (fun k => k < wr.heap.size) (fun b hb => (OwnR.lt HO2.out b hb).2); injection e9 with e9; rw [e9]; exact hr9.below hW)
           have HN0 := Lib.hid (OwnR.nil Ty.i64 3 wr.heap.size (fun _ => False) wr)
           have hl1 : (([] : List Int).length + p) * 8 ≤ 140737488355328 := by simp; omega
           have hl2 : (([] ++ acc.take p).length + 1) * 8 ≤ 140737488355328 := by simp; omega
           have hlb : (([] ++ acc.take p ++ [x]).length + (acc.length - p)) * 8 ≤ 140737488355328 := by simp; omega
           have hpt : p = (acc.take p).length := by rw [List.length_take]; omega
           have hpd : acc.length - p = (acc.drop p).length := by rw [List.length_drop]
           have HPT := Lib.hid hpt
           have HPD := Lib.hid hpd
           clear hpt hpd
           have HRD : Hid (∀ W, Below wr.heap.size wr W → ∀ {M : Nat → Prop}, (∀ k, k < wr.heap.size → ¬ M k) → Row Ty.i64 (fun k => ¬ M k) W (some ⟨g, p, none⟩) (acc.drop p)) := Lib.hid (fun W hW M hM => by have h9 := ((HRT.out W hW).dropA p).mono hM; rwa [show Ty.i64.sz = 1 from rfl, Nat.mul_one, add_at, Nat.zero_add] at h9)
           have HRE : Hid (∀ W, Below wr.heap.size wr W → ∀ {M : Nat → Prop}, (∀ k, k < wr.heap.size → ¬ M k) → Row Ty.i64 (fun k => ¬ M k) W (if c3 = p then some ⟨g, 0, none⟩ else some ⟨g, p, none⟩) (acc.drop p)) := Lib.hid (fun W hW M hM => by by_cases h9 : c3 = p; rw [List.drop_of_length_le (by omega)]; exact Row.nil _ _ _ _; rw [if_neg h9]; exact HRD.out W hW hM)
           go_wp2_with (first | (at_builtin; refine app_row Ty.i64 (W := wr) wr.heap.size rfl _ _ 29 3 _ 8 rfl Tryz.underlying29 infoInt rfl (by decide) (.slice none 0 0) [] (acc.take p) (some ⟨g, 0, none⟩) p c3 _ rfl rfl HPT.out (((HRT.out _ (Below.refl _ _)).takeA p).mono (fun _ _ h => h)) HN0.out (Nat.le_refl _) hl1 ?_; intro v4 w4 HO4 hg4 hat4; have hz4 := hg4.size; have B4 := Lib.hid (show Below wr.heap.size wr w4 from below_own (Below.refl _ _) hg4 (fun b e => by cases e)); have HO4 := Lib.hid HO4; clear hg4 hat4) | (at_builtin; refine app_one Ty.i64 (W := w4) wr.heap.size rfl _ _ 29 3 _ 8 rfl Tryz.underlying29 infoInt rfl (by decide) v4 ([] ++ acc.take p) x [.int .i64 x] _ rfl rfl rfl rfl HO4.out hz4 hl2 ?_; intro v5 w5 HO5 hg5 hat5; have hz5 := hg5.size; have B5 := Lib.hid (show Below wr.heap.size wr w5 from below_own B4.out hg5 (fun b e => (OwnR.lt HO4.out b e).1)); have HM5 : Hid (∀ k, k < wr.heap.size → ¬ ((False ∨ v4.ownBlock = some k) ∨ v5.ownBlock = some k)) := Lib.hid (fun k hk h => by rcases h with (h | h) | h; exact h; (have := (OwnR.lt HO4.out k h).1; omega); (have := (OwnR.lt HO5 k h).1; omega)); have HO5 := Lib.hid HO5; clear hg5 hat5 HO4 B4) | (at_builtin; refine app_row Ty.i64 (W := w5) wr.heap.size rfl _ _ 29 3 _ 8 rfl Tryz.underlying29 infoInt rfl (by decide) v5 ([] ++ acc.take p ++ [x]) (acc.drop p) (some ⟨g, p, none⟩) (acc.length - p) (c3 - p) _ rfl rfl HPD.out (HRD.out _ B5.out HM5.out) HO5.out (by omega) hlb ?_; intro v6 w6 HO6 hg6 hat6; have B6 := Lib.hid (show Below wr.heap.size wr w6 from below_own B5.out hg6 (fun b e => (OwnR.lt HO5.out b e).1)); have HO7 := Lib.hid (Own1.of HO6); clear HO6 hg6 hat6 HO5 HM5 B5) | (at_builtin; refine app_row Ty.i64 (W := w5) wr.heap.size rfl _ _ 29 3 _ 8 rfl Tryz.underlying29 infoInt rfl (by decide) v5 ([] ++ acc.take p ++ [x]) (acc.drop p) (if c3 = p then some ⟨g, 0, none⟩ else some ⟨g, p, none⟩) (acc.length - p) (c3 - p) _ rfl rfl HPD.out (HRE.out _ B5.out HM5.out) HO5.out (by omega) hlb ?_; intro v6 w6 HO6 hg6 hat6; have B6 := Lib.hid (show Below wr.heap.size wr w6 from below_own B5.out hg6 (fun b e => (OwnR.lt HO5.out b e).1)); have HO7 := Lib.hid (Own1.of HO6); clear HO6 hg6 hat6 HO5 HM5 B5))
           have HB9 := Lib.hid (below_step HW2.out B6.out)
           have HO9 : Hid (Own1 Ty.i64 3 w.heap.size w6 v6 (arTo acc0 (L ++ R) (j + 1))) := Lib.hid (by rw [HS2.out, HI.out]; exact Own1.base HO7.out (by omega))
           clear HO7 B6 HRT HRD HRE HN0
           go_wp2
           go_roundw
           case rel => exact ⟨j + 1, by omega, by go_num, HB9.out, HO9.out⟩
           case measure => simp [intOf]; omega
        ·have HO2 := Lib.hid (Own1.below HO1.out HBp.out)
         have HW2 := Lib.hid (below_step HB1.out HBp.out)
         have hz2 := HW2.out.size
         have HI : Hid (insI x acc = acc.take p ++ [x] ++ acc.drop p) := Lib.hid (insI_at hp HLp.out (fun h => absurd h hpl))
         clear HLp HO1
         have HF9 := OwnR.forms HO2.out
         rcases HF9 with ⟨hv9, hn9⟩ | ⟨g, cc, hv9, hg91, hg92, hg93, hg94⟩
         ·have hA9 : A3 = none := by injection hv9
          have hC9 : c3 = 0 := by injection hv9
          cases hA9
          cases hC9
          clear hv9
          cases hn9
          obtain rfl : p = 0 := by simpa using hp
          have HN0 := Lib.hid (OwnR.nil Ty.i64 3 wr.heap.size (fun _ => False) wr)
          go_wp2_with (first | (at_builtin; refine app_row Ty.i64 (W := wr) wr.heap.size rfl _ _ 29 3 _ 8 rfl Tryz.underlying29 infoInt rfl (by decide) (.slice none 0 0) [] [] _ _ _ (fun _ => False) rfl rfl (show (0 : Nat) = ([] : List Int).length from rfl) (Row.nil _ _ _ _) HN0.out (Nat.le_refl _) (by simp) ?_; intro v4 w4 HO4 hg4 hat4; have hz4 := hg4.size; have B4 := Lib.hid (show Below wr.heap.size wr w4 from below_own (Below.refl _ _) hg4 (fun b e => by cases e)); have HP4 : OwnR Ty.i64 3 wr.heap.size (fun k => False ∨ v4.ownBlock = some k) w4 v4 ([] : List Int) := HO4; clear hg4 hat4) | (at_builtin; refine app_one Ty.i64 (W := w4) wr.heap.size rfl _ _ 29 3 _ 8 rfl Tryz.underlying29 infoInt rfl (by decide) v4 ([] : List Int) x [.int .i64 x] _ rfl rfl rfl rfl HP4 hz4 (by simp) ?_; intro v5 w5 HO5 hg5 hat5; have hz5 := hg5.size; have B5 := Lib.hid (show Below wr.heap.size wr w5 from below_own B4.out hg5 (fun b e => (OwnR.lt HP4 b e).1)); have HP5 : OwnR Ty.i64 3 wr.heap.size (fun k => (False ∨ v4.ownBlock = some k) ∨ v5.ownBlock = some k) w5 v5 [x] := HO5; clear hg5 hat5 HO4 HP4 B4) | (at_builtin; refine app_row Ty.i64 (W := w5) wr.heap.size rfl _ _ 29 3 _ 8 rfl Tryz.underlying29 infoInt rfl (by decide) v5 [x] [] _ _ _ _ rfl rfl (show (0 : Nat) = ([] : List Int).length from rfl) (Row.nil _ _ _ _) HP5 (by omega) (by simp) ?_; intro v6 w6 HO6 hg6 hat6; have B6 := Lib.hid (show Below wr.heap.size wr w6 from below_own B5.out hg6 (fun b e => (OwnR.lt HP5 b e).1)); have HO7 := Lib.hid (Own1.of HO6); clear HO6 hg6 hat6 HO5 HP5 B5))
          have HB9 := Lib.hid (below_step HW2.out B6.out)
          have HO9 : Hid (Own1 Ty.i64 3 w.heap.size w6 v6 (arTo acc0 (L ++ R) (j + 1))) := Lib.hid (by rw [HS2.out, HI.out]; exact Own1.base HO7.out (by omega))
          clear HO7 B6 HN0
          go_wp2
          go_roundw
          case rel => exact ⟨j + 1, by omega, by go_num, HB9.out, HO9.out⟩
          case measure => simp [intOf]; omega
         ·have hA9 : A3 = some ⟨g, 0, none⟩ := by injection hv9
          cases hA9
          clear hv9
          have HRT : Hid (∀ W, Below wr.heap.size wr W → Row Ty.i64 (fun k => k < wr.heap.size) W (some ⟨g, 0, none⟩) acc) := Lib.hid (fun W hW => by obtain ⟨A9, c9, e9, _, hr9⟩ := OwnR.rowB int_flat HO2.out (fun k => k < wr.heap.size) (fun b hb => (OwnR.lt HO2.out b hb).2); injection e9 with e9; rw [e9]; exact hr9.below hW)
          have HN0 := Lib.hid (OwnR.nil Ty.i64 3 wr.heap.size (fun _ => False) wr)
          have hl1 : (([] : List Int).length + p) * 8 ≤ 140737488355328 := by simp; omega
          have hl2 : (([] ++ acc.take p).length + 1) * 8 ≤ 140737488355328 := by simp; omega
          have hlb : (([] ++ acc.take p ++ [x]).length + (acc.length - p)) * 8 ≤ 140737488355328 := by simp; omega
          have hpt : p = (acc.take p).length := by rw [List.length_take]; omega
          have hpd : acc.length - p = (acc.drop p).length := by rw [List.length_drop]
          have HPT := Lib.hid hpt
          have HPD := Lib.hid hpd
          clear hpt hpd
          have HRD : Hid (∀ W, Below wr.heap.size wr W → ∀ {M : Nat → Prop}, (∀ k, k < wr.heap.size → ¬ M k) → Row Ty.i64 (fun k => ¬ M k) W (some ⟨g, p, none⟩) (acc.drop p)) := Lib.hid (fun W hW M hM => by have h9 := ((HRT.out W hW).dropA p).mono hM; rwa [show Ty.i64.sz = 1 from rfl, Nat.mul_one, add_at, Nat.zero_add] at h9)
          have HRE : Hid (∀ W, Below wr.heap.size wr W → ∀ {M : Nat → Prop}, (∀ k, k < wr.heap.size → ¬ M k) → Row Ty.i64 (fun k => ¬ M k) W (if c3 = p then some ⟨g, 0, none⟩ else some ⟨g, p, none⟩) (acc.drop p)) := Lib.hid (fun W hW M hM => by by_cases h9 : c3 = p; rw [List.drop_of_length_le (by omega)]; exact Row.nil _ _ _ _; rw [if_neg h9]; exact HRD.out W hW hM)
          go_wp2_with (first | (at_builtin; refine app_row Ty.i64 (W := wr) wr.heap.size rfl _ _ 29 3 _ 8 rfl Tryz.underlying29 infoInt rfl (by decide) (.slice none 0 0) [] (acc.take p) (some ⟨g, 0, none⟩) p c3 _ rfl rfl HPT.out (((HRT.out _ (Below.refl _ _)).takeA p).mono (fun _ _ h => h)) HN0.out (Nat.le_refl _) hl1 ?_; intro v4 w4 HO4 hg4 hat4; have hz4 := hg4.size; have B4 := Lib.hid (show Below wr.heap.size wr w4 from below_own (Below.refl _ _) hg4 (fun b e => by cases e)); have HO4 := Lib.hid HO4; clear hg4 hat4) | (at_builtin; refine app_one Ty.i64 (W := w4) wr.heap.size rfl _ _ 29 3 _ 8 rfl Tryz.underlying29 infoInt rfl (by decide) v4 ([] ++ acc.take p) x [.int .i64 x] _ rfl rfl rfl rfl HO4.out hz4 hl2 ?_; intro v5 w5 HO5 hg5 hat5; have hz5 := hg5.size; have B5 := Lib.hid (show Below wr.heap.size wr w5 from below_own B4.out hg5 (fun b e => (OwnR.lt HO4.out b e).1)); have HM5 : Hid (∀ k, k < wr.heap.size → ¬ ((False ∨ v4.ownBlock = some k) ∨ v5.ownBlock = some k)) := Lib.hid (fun k hk h => by rcases h with (h | h) | h; exact h; (have := (OwnR.lt HO4.out k h).1; omega); (have := (OwnR.lt HO5 k h).1; omega)); have HO5 := Lib.hid HO5; clear hg5 hat5 HO4 B4) | (at_builtin; refine app_row Ty.i64 (W := w5) wr.heap.size rfl _ _ 29 3 _ 8 rfl Tryz.underlying29 infoInt rfl (by decide) v5 ([] ++ acc.take p ++ [x]) (acc.drop p) (some ⟨g, p, none⟩) (acc.length - p) (c3 - p) _ rfl rfl HPD.out (HRD.out _ B5.out HM5.out) HO5.out (by omega) hlb ?_; intro v6 w6 HO6 hg6 hat6; have B6 := Lib.hid (show Below wr.heap.size wr w6 from below_own B5.out hg6 (fun b e => (OwnR.lt HO5.out b e).1)); have HO7 := Lib.hid (Own1.of HO6); clear HO6 hg6 hat6 HO5 HM5 B5) | (at_builtin; refine app_row Ty.i64 (W := w5) wr.heap.size rfl _ _ 29 3 _ 8 rfl Tryz.underlying29 infoInt rfl (by decide) v5 ([] ++ acc.take p ++ [x]) (acc.drop p) (if c3 = p then some ⟨g, 0, none⟩ else some ⟨g, p, none⟩) (acc.length - p) (c3 - p) _ rfl rfl HPD.out (HRE.out _ B5.out HM5.out) HO5.out (by omega) hlb ?_; intro v6 w6 HO6 hg6 hat6; have B6 := Lib.hid (show Below wr.heap.size wr w6 from below_own B5.out hg6 (fun b e => (OwnR.lt HO5.out b e).1)); have HO7 := Lib.hid (Own1.of HO6); clear HO6 hg6 hat6 HO5 HM5 B5))
          have HB9 := Lib.hid (below_step HW2.out B6.out)
          have HO9 : Hid (Own1 Ty.i64 3 w.heap.size w6 v6 (arTo acc0 (L ++ R) (j + 1))) := Lib.hid (by rw [HS2.out, HI.out]; exact Own1.base HO7.out (by omega))
          clear HO7 B6 HRT HRD HRE HN0
          go_wp2
          go_roundw
          case rel => exact ⟨j + 1, by omega, by go_num, HB9.out, HO9.out⟩
          case measure => simp [intOf]; omega
    ·have q1 : decide ((j : Int) < (L.length : Int) + (R.length : Int)) = false := decide_eq_false (by omega)
     have HOe : Hid (Own1 Ty.i64 3 w.heap.size wr u3 (arM m (k + 1))) := Lib.hid (by rw [HSN.out, show (L ++ R).length = j by omega]; exact HOi.out)
     have HBe := Lib.hid (below_step HB.out HBi.out)
     go_wp2_with fail
     go_quiet (fail)
     go_wp2
     go_roundw
     case rel => exact ⟨k + 1, by omega, by go_num, below_drewN HBe.out _, Own1.below HOe.out (below_drewN (Below.refl _ _) _)⟩
     case measure => simp [intOf]; omega
  ·obtain rfl : k = m.length := by omega
   have HF : Hid (arM m m.length = areasR m) := by unfold arM; rw [List.take_length]; rfl
   go_wp2
   go_ret
   exact ⟨_, rfl, by rw [← HF.out]; exact HO.out, HB.out⟩
end
section
open Go.RowKit Go.Proofs.YtaeflnbjeaoapaaGreatW.PrintLast

attribute [local go_sem high] eqPt eqSg
set_option maxRecDepth 100000 in
set_option maxHeartbeats 16000000 in
theorem ref24_Build {ok : Nat → Prop} (l : List Sgs) (A : Option Addr) (n c : Nat) (w : World) (hr : Row Ty.segs ok w A l) (hn : n = l.length) (hlen : l.length ≤ 1000) (hl6 : ∀ o ∈ l, o.length ≤ 600) (hall : (l.flatMap uniqZ).length ≤ 900) (hnode : (nodeZ l).length ≤ 600) :
  Calls Tryz.prog 36 #[.slice A n c] w fun e w' => BuildR w' e (build24 l) ∧ Below w.heap.size w w' := by
 subst hn
 have HR := Lib.hid hr
 have H6 := Lib.hid hl6
 have hmx := hr.len
 have HBE : Hid (buildE l ≠ 0 → build24 l = ([], buildE l)) := Lib.hid (fun h => by unfold build24; rw [if_neg (by omega), if_pos h])
 have HBX : Hid (buildE l = 0 → crossZs (nodeZ l) ≠ [] → build24 l = ([], 13)) := Lib.hid (fun h h2 => by unfold build24; rw [if_neg (by omega), if_neg (by simp [h]), if_pos h2])
 have HBO : Hid (buildE l = 0 → crossZs (nodeZ l) = [] → build24 l = ((nodeZ l).map fun s => (s, (side24 l s true, side24 l s false)), 0)) := Lib.hid (fun h h2 => by unfold build24; rw [if_neg (by omega), if_neg (by simp [h]), if_neg (by simp [h2])])
 clear hr hl6
 have hgt : decide ((l.length : Int) > 20000) = false := decide_eq_false (by omega)
 have hgt2 : decide (20000 < (l.length : Int)) = false := decide_eq_false (by omega)
 go_enter Tryz.func36, Tryz.ntmps36
 go_wp2
 go_loopw [4, 5] (fun v i wr => ∃ k : Nat, k ≤ l.length ∧ i = .int .i64 k ∧ Hid (Below w.heap.size w wr) ∧ Hid (Own1 Ty.sg 48 w.heap.size wr v ((l.take k).flatMap uniqZ)) ∧ Hid (buildE (l.take k) = 0)) (fun _ i _ => l.length - (intOf i).toNat)
 case atStart => exact ⟨0, Nat.zero_le _, rfl, Below.refl _ _, OwnR.nil _ _ _ _ _, rfl⟩
 case round =>
  obtain ⟨k, hk, rfl, HB, HAl, HE⟩ := hrel
  have hbw := HB.out.size
  by_cases hlt : k < l.length
  ·obtain ⟨ad, B, d, rfl, hx0, hdl, hrs⟩ := (HR.out.below HB.out).segs_at k hlt
   have HRS := Lib.hid hrs
   have hl6 : (ssD l k).length ≤ 600 := H6.out _ (by rw [ssD_eq hlt]; exact List.getElem_mem _)
   have HHIT := Lib.hid (buildE_hit l k hlt HE.out)
   have HPASS := Lib.hid (buildE_pass l k hlt HE.out)
   have HFS := Lib.hid (flat_step l k hlt)
   have CC := Lib.hid (ref21_Check (ssD l k) B _ d wr HRS.out rfl hl6)
   rw [check_same] at CC
   generalize hseg : ssD l k = sg at *
   have CU := Lib.hid (fun W (hb : Below wr.heap.size wr W) => ref20_Unique sg B sg.length d W (HRS.out.below hb) rfl (by omega))
   clear hrs HE
   generalize checkZ sg = ck at *
   generalize (l.take k).flatMap uniqZ = al at *
   generalize uniqZ sg = us at *
   by_cases hpass : ck = 0 ∨ ck = 15
   ·have HP := Lib.hid (HPASS.out hpass)
    clear HHIT HPASS
    go_wp2_with fail
    refine CC.out.mono ?_
    rintro e w2 ⟨rfl, hb2⟩
    have CU2 := Lib.hid (CU.out _ hb2)
    have hx0 := cell_below hb2 hx0
    clear CC CU
    have HAl2 := Lib.hid (Own1.below HAl.out hb2)
    have HB2 := Lib.hid (below_step HB.out hb2)
    clear HB HAl hb2
    rcases hpass with rfl | rfl
    ·go_wp2_with fail
     refine CU2.out.mono ?_
     rintro e w3 ⟨u, rfl, HU, hb3⟩
     have HAl3 := Own1.below HAl2.out hb3
     obtain ⟨Au, cu, rfl, hul, hur⟩ := OwnR.rowB sg_flat HU (fun j => ¬ u4.ownBlock = some j) (fun b hb e => by have h1 := (OwnR.lt HU b hb).1; have h2 := (OwnR.lt HAl2.out b e).2; omega)
     have HUR := Lib.hid hur
     have HAl3 := Lib.hid HAl3
     have hs3 := hb3.size
     have HB3 := Lib.hid (below_step HB2.out hb3)
     have hlen5 : (al.length + us.length) * 32 ≤ 140737488355328 := by have h1 := flat_take l (k + 1); rw [HFS.out, List.length_append] at h1; omega
     clear hb3 HU hur HAl2 HB2 CU2
     go_wp2_with (at_builtin; refine app_row Ty.sg (W := w3) w.heap.size rfl _ _ 46 48 _ 32 rfl Tryz.underlying46 infoSg rfl (by decide) u4 al us Au _ cu _ rfl rfl rfl HUR.out HAl3.out HB3.out.size hlen5 ?_; intro v1 w5 HO1 hg1 hat1)
     have HB5 := Lib.hid (show Below w.heap.size w w5 from below_own HB3.out hg1 (fun b e => (OwnR.lt HAl3.out b e).1))
     have HO1 := Lib.hid (Own1.of HO1)
     clear hg1 hat1 HAl3 HUR HB3
     go_wp2
     go_roundw
     case rel => exact ⟨k + 1, by omega, by go_num, HB5.out, Lib.hid (by rw [HFS.out]; exact HO1.out), HP⟩
     case measure => simp [intOf]; omega
    ·go_wp2_with fail
     refine CU2.out.mono ?_
     rintro e w3 ⟨u, rfl, HU, hb3⟩
     have HAl3 := Own1.below HAl2.out hb3
     obtain ⟨Au, cu, rfl, hul, hur⟩ := OwnR.rowB sg_flat HU (fun j => ¬ u4.ownBlock = some j) (fun b hb e => by have h1 := (OwnR.lt HU b hb).1; have h2 := (OwnR.lt HAl2.out b e).2; omega)
     have HUR := Lib.hid hur
     have HAl3 := Lib.hid HAl3
     have hs3 := hb3.size
     have HB3 := Lib.hid (below_step HB2.out hb3)
     have hlen5 : (al.length + us.length) * 32 ≤ 140737488355328 := by have h1 := flat_take l (k + 1); rw [HFS.out, List.length_append] at h1; omega
     clear hb3 HU hur HAl2 HB2 CU2
     go_wp2_with (at_builtin; refine app_row Ty.sg (W := w3) w.heap.size rfl _ _ 46 48 _ 32 rfl Tryz.underlying46 infoSg rfl (by decide) u4 al us Au _ cu _ rfl rfl rfl HUR.out HAl3.out HB3.out.size hlen5 ?_; intro v1 w5 HO1 hg1 hat1)
     have HB5 := Lib.hid (show Below w.heap.size w w5 from below_own HB3.out hg1 (fun b e => (OwnR.lt HAl3.out b e).1))
     have HO1 := Lib.hid (Own1.of HO1)
     clear hg1 hat1 HAl3 HUR HB3
     go_wp2
     go_roundw
     case rel => exact ⟨k + 1, by omega, by go_num, HB5.out, Lib.hid (by rw [HFS.out]; exact HO1.out), HP⟩
     case measure => simp [intOf]; omega
   ·have HH := Lib.hid (HHIT.out (fun h => hpass (.inl h)) (fun h => hpass (.inr h)))
    have q1 : (ck != 0) = true := by simp; exact fun h => hpass (.inl h)
    have q2 : (ck != 15) = true := by simp; exact fun h => hpass (.inr h)
    have HBE2 : Hid (build24 l = ([], ck)) := Lib.hid ((HBE.out (by rw [HH.out]; exact fun h => hpass (.inl h))).trans (by rw [HH.out]))
    clear HHIT HPASS hpass HH HBE HBX HBO
    go_wp2_with fail
    refine CC.out.mono ?_
    rintro e w2 ⟨rfl, hb2⟩
    have HB2 := Lib.hid (below_step HB.out hb2)
    clear CC CU hx0 HB hb2
    go_wp2
    go_ret2
    exact ⟨by rw [HBE2.out]; exact ⟨none, 0, rfl, Row.nil _ _ _ _⟩, HB2.out⟩
  ·obtain rfl : k = l.length := by omega
   have HE2 : Hid (buildE l = 0) := Lib.hid (by have := HE.out; rwa [List.take_length] at this)
   have HAl : Hid (Own1 Ty.sg 48 w.heap.size wr _ (l.flatMap uniqZ)) := Lib.hid (by have := HAl.out; rwa [List.take_length] at this)
   have HBX2 := Lib.hid (HBX.out HE2.out)
   have HBO2 := Lib.hid (HBO.out HE2.out)
   have HND : Hid (nodeZ l = uniqZ (splitZ (l.flatMap uniqZ))) := rfl
   have HNI : Hid (uniqZ (nodeZ l) = nodeZ l) := Lib.hid (by rw [HND.out]; exact uniq_idemC _)
   have HNX : Hid (crossR (uniqZ (nodeZ l)) = crossZs (nodeZ l)) := Lib.hid (by rw [cross_same, HNI.out])
   have hsl := split_lenB (l.flatMap uniqZ) hall
   have HNV : Hid (∀ s ∈ nodeZ l, (validB s.1 && validB s.2) = true) := Lib.hid (fun s hs => by rw [HND.out] at hs; have := canon_valid (mem_uniqC.1 hs); rw [this.1, this.2]; rfl)
   obtain ⟨Aa, ca, rfl, hca, har⟩ := Own1.reads HAl.out
   have HAR := Lib.hid har
   have HRL := Lib.hid (HR.out.below HB.out)
   clear har HE HBE HBX HBO HAl hk hlt
   have CSP := Lib.hid (ref20_Split (l.flatMap uniqZ) Aa _ ca wr HAR.out rfl hall)
   rw [split_same] at CSP
   generalize l.flatMap uniqZ = al at *
   go_wp2_with fail
   refine CSP.out.mono ?_
   rintro e w2 ⟨v2, rfl, HS2, hb2⟩
   obtain ⟨As, cs, rfl, _, hsr⟩ := Own1.reads HS2
   have HSR := Lib.hid hsr
   have HB2 := Lib.hid (below_step HB.out hb2)
   have HRL2 := Lib.hid (HRL.out.below hb2)
   clear hsr HS2 hb2 HB HAR CSP HRL
   go_wp2_with fail
   refine (ref20_Unique (splitZ al) As _ cs w2 HSR.out rfl (by omega)).mono ?_
   rintro e w3 ⟨v3, rfl, HU3, hb3⟩
   rw [← HND.out] at HU3
   obtain ⟨An, cn, rfl, _, hnr⟩ := Own1.reads HU3
   have HNR := Lib.hid hnr
   have HB3 := Lib.hid (below_step HB2.out hb3)
   have HRL3 := Lib.hid (HRL2.out.below hb3)
   clear hnr HU3 hb3 HB2 HSR HRL2
   have CX := Lib.hid (ref20_Crossings (nodeZ l) An _ cn w3 HNR.out rfl hnode)
   rw [HNX.out] at CX
   clear HND HNI HNX
   generalize nodeZ l = nd at *
   go_wp2_with fail
   refine CX.out.mono ?_
   rintro e w4 ⟨Bx, dx, rfl, hb4⟩
   have HB4 := Lib.hid (below_step HB3.out hb4)
   have HNR4 := Lib.hid (HNR.out.below hb4)
   have HRL4 := Lib.hid (HRL3.out.below hb4)
   have hs4 := HB4.out.size
   clear hb4 HB3 HNR CX HRL3
   by_cases hx : crossZs nd = []
   ·have hx0 : (crossZs nd).length = 0 := by rw [hx]; rfl
    have HBB := Lib.hid (HBO2.out hx)
    have hxx : decide ((((crossZs nd).length : Nat) : Int) > 0) = false := decide_eq_false (by omega)
    have hxy : decide (0 < (((crossZs nd).length : Nat) : Int)) = false := decide_eq_false (by omega)
    clear HBX2 HBO2 hx
    go_wp2
    go_loopw [8, 9] (fun v i wr => ∃ k : Nat, k ≤ nd.length ∧ i = .int .i64 k ∧ Hid (Below w4.heap.size w4 wr) ∧ Hid (Own1 Ty.edge 31 w4.heap.size wr v ((nd.take k).map fun s => (s, (([] : List Int), ([] : List Int)))))) (fun _ i _ => nd.length - (intOf i).toNat)
    case atStart => exact ⟨0, Nat.zero_le _, rfl, Below.refl _ _, OwnR.nil _ _ _ _ _⟩
    case round =>
     obtain ⟨k, hk, rfl, HB, HOu⟩ := hrel
     have hs4r := HB.out.size
     by_cases hlt : k < nd.length
     ·obtain ⟨an, rfl, hx0, hx1, hx2, hx3⟩ := (HNR4.out.below HB.out).sg_at k hlt
      have HMS : Hid ((nd.take (k + 1)).map (fun s => (s, (([] : List Int), ([] : List Int)))) = (nd.take k).map (fun s => (s, (([] : List Int), ([] : List Int)))) ++ [(sgD nd k, ([], []))]) := Lib.hid (by rw [take_snoc nd k ((0, 0), (0, 0)) hlt, List.map_append]; rfl)
      have hml : ((nd.take k).map (fun s => (s, (([] : List Int), ([] : List Int))))).length ≤ 600 := by rw [List.length_map, List.length_take]; omega
      generalize (nd.take k).map (fun s => (s, (([] : List Int), ([] : List Int)))) = ms at *
      generalize sgD nd k = sk at *
      obtain ⟨⟨a1, a2⟩, a3, a4⟩ := sk
      simp only at hx0 hx1 hx2 hx3
      have hx3' : wr.cell? ⟨(an.add (k * 4)).block, (an.add (k * 4)).off + 2 + 1, none⟩ = some (.int .i64 a4) := hx3
      have HOd := Lib.hid (OwnR.drew HOu.out)
      have hzd : w4.heap.size ≤ wr.drew.heap.size := hs4r
      have hlen5 : (ms.length + 1) * 80 ≤ 140737488355328 := by omega
      have RY : Hid (∀ ok W, Ty.edge.R ok W (((a1, a2), (a3, a4)), (([] : List Int), ([] : List Int))) [.int .i64 a1, .int .i64 a2, .int .i64 a3, .int .i64 a4, .slice none 0 0, .slice none 0 0]) := Lib.hid (fun ok W => edgeR (Nat.le_refl _) (Row.nil _ _ _ _) (Nat.le_refl _) (Row.nil _ _ _ _))
      go_wp2_with fail
      refine start_ (n := 15) (S := fun w' => w'.cell? (an.add (k * 4)) = some (.int .i64 a1) ∧ w'.cell? ⟨(an.add (k * 4)).block, (an.add (k * 4)).off + 1, none⟩ = some (.int .i64 a2) ∧ w'.cell? ⟨(an.add (k * 4)).block, (an.add (k * 4)).off + 2, none⟩ = some (.int .i64 a3) ∧ w'.cell? ⟨(an.add (k * 4)).block, (an.add (k * 4)).off + 3, none⟩ = some (.int .i64 a4) ∧ w'.cell? ⟨(an.add (k * 4)).block, (an.add (k * 4)).off + 2 + 1, none⟩ = some (.int .i64 a4)) (ds := [12, 13]) #[Z,Z,Z,Z,Z,Z,Z,Z,Z,Z,Z,Z,Z,Z,Z] (by kernel_rfl) rfl rfl ⟨hx0, hx1, hx2, hx3, hx3'⟩ (fun hHeld => ?_)
      refine pu 0 56 ?_
      refine pu 1 57 ?_
      refine pu 2 58 ?_
      refine pu 3 59 ?_
      refine pu 4 60 ?_
      refine pu 6 62 ?_
      refine pu 7 63 ?_
      refine pu 8 64 ?_
      refine pu 9 65 ?_
      refine ta 5 61 hHeld ?_
      refine ta 10 66 hHeld ?_
      refine pu 11 67 ?_
      refine last_ (i := 12) (N := some 68) #[J,J,J,J,J,J,J,J,J,J,J,J,J,Z,Z] rfl rfl (by kernel_rfl) (by decide) (fun K hK => ?_)
      refine value_ (w1 := ?_) (v := ?_) (by rfl) rfl ?_ ?_
      rotate_left 2
      ·go_simp
       constructor
       ·rfl
       ·rfl
      refine hK.out _ _ ?_
      clear hK K
      refine nm 68 ?_
      refine last_ (i := 13) (N := some 69) #[J,J,J,J,J,J,J,J,J,J,J,J,J,J,Z] rfl rfl (by kernel_rfl) (by decide) (fun K hK => ?_)
      refine step_one Ty.edge (W := wr.drew) w4.heap.size rfl (.tmp 56) (.tmp 68) 22 31 _ 80 rfl Tryz.underlying22 infoEg rfl (by decide) u8 ms (((a1, a2), (a3, a4)), ([], [])) [.int .i64 a1, .int .i64 a2, .int .i64 a3, .int .i64 a4, .slice none 0 0, .slice none 0 0] _ rfl rfl (by simp) (RY.out _ _) HOd.out hzd hlen5 ?_
      intro v7 w7 HO7 hg7 hat7
      refine hK.out _ _ ?_
      clear hK K
      refine nm 69 ?_
      refine pu 14 8 ?_
      refine done_ (by kernel_rfl) ?_
      have HB7 := Lib.hid (show Below w4.heap.size w4 w7 from below_own (below_drew HB.out) hg7 (fun b e => (OwnR.lt HOd.out b e).1))
      have HO8 := Lib.hid (Own1.of HO7)
      clear HO7 hg7 hat7
      go_wp2
      go_roundw
      case rel => exact ⟨k + 1, by omega, by go_num, HB7.out, by rw [HMS.out]; exact HO8.out⟩
      case measure => simp [intOf]; omega
     ·obtain rfl : k = nd.length := by omega
      have HO0 : Hid (Own1 Ty.edge 31 w4.heap.size wr u8 (rowK l nd 0 0)) := Lib.hid (by rw [rowK_zero]; have := HOu.out; rwa [List.take_length] at this)
      obtain ⟨A8, c8, hv8, hc8, _⟩ := Own1.reads HO0.out
      rw [rowK_len] at hv8
      subst hv8
      have HEND := Lib.hid (rowK_end l nd)
      rw [← HEND.out] at HBB
      clear HOu HEND
      go_wp2
      go_loopw [10] (fun i wr => ∃ k : Nat, k ≤ l.length ∧ i = .int .i64 k ∧ Hid (Below w4.heap.size w4 wr) ∧ Hid (Own1 Ty.edge 31 w4.heap.size wr (.slice A8 nd.length c8) (rowK l nd k 0))) (fun i _ => l.length - (intOf i).toNat)
      case atStart => exact ⟨0, Nat.zero_le _, rfl, HB.out, HO0.out⟩
      case round =>
       obtain ⟨k, hk, rfl, HBk, HOk⟩ := hrel
       clear HO0 HB
       by_cases hlt : k < l.length
       ·obtain ⟨ad, B, d, rfl, hx0, hdl, hrs⟩ := (HRL4.out.below HBk.out).segs_at k hlt
        have hl6 : (ssD l k).length ≤ 600 := H6.out _ (by rw [ssD_eq hlt]; exact List.getElem_mem _)
        have CU := Lib.hid (ref20_Unique (ssD l k) B _ d wr hrs rfl (by omega))
        have HUV : Hid (segsV (uniqZ (ssD l k))) := Lib.hid (fun s hs => by have := canon_valid (mem_uniqC.1 hs); rw [this.1, this.2]; rfl)
        have hul6 : (uniqZ (ssD l k)).length ≤ 600 := Nat.le_trans (uniq_len _) hl6
        have HS1 := Lib.hid (fun s h => sd24_snoc l s k h)
        have HNE := Lib.hid (rowK_nil l nd k)
        have HNX := Lib.hid (rowK_next l nd k nd.length (Nat.le_refl _))
        generalize uniqZ (ssD l k) = us at *
        clear hrs
        go_wp2_with fail
        refine CU.out.mono ?_
        rintro e w5 ⟨u, rfl, HU, hb5⟩
        have HO5 := Lib.hid (Own1.below HOk.out hb5)
        have HB5 := Lib.hid (below_step HBk.out hb5)
        obtain ⟨Au, cu, rfl, hul, hur⟩ := OwnR.rowB sg_flat HU (fun j => ¬ (Value.slice A8 nd.length c8).ownBlock = some j) (fun b hb e => by have h1 := (OwnR.lt HU b hb).1; have h2 := (OwnR.lt HOk.out b e).2; omega)
        have HUR := Lib.hid hur
        clear CU HU hur hb5 HBk HOk hx0
        by_cases hu : us = []
        ·have hN := Lib.hid (HNE.out hu)
         have hu0 : us.length ≤ 0 := by rw [hu]; exact Nat.le_refl _
         have q5 : decide (0 < (us.length : Int)) = false := decide_eq_false (by omega)
         have q5' : decide ((us.length : Int) > 0) = false := decide_eq_false (by omega)
         clear hu HNE HS1
         go_wp2_with fail
         go_loopw [12] (fun i wr => i = .int .i64 0 ∧ Hid (Below w4.heap.size w4 wr) ∧ Hid (Own1 Ty.edge 31 w4.heap.size wr (.slice A8 nd.length c8) (rowK l nd k 0))) (fun i _ => 0)
         case atStart => exact ⟨rfl, HB5.out, HO5.out⟩
         case round =>
          obtain ⟨rfl, HBi, HOi⟩ := hrel
          rcases Nat.eq_zero_or_pos nd.length with hn0 | hn0
          ·have q6 : decide ((0 : Int) < (nd.length : Int)) = false := decide_eq_false (by omega)
           go_wp2
           go_roundw
           case rel => exact ⟨k + 1, by omega, by go_num, HBi.out, by rw [← hN.out]; exact HOi.out⟩
           case measure => simp [intOf]; omega
          ·have q6 : decide ((0 : Int) < (nd.length : Int)) = true := decide_eq_true (by omega)
           go_wp2
           go_roundw
           case rel => exact ⟨k + 1, by omega, by go_num, HBi.out, by rw [← hN.out]; exact HOi.out⟩
           case measure => simp [intOf]; omega
        ·have hu0 : 0 < us.length := List.length_pos_iff.2 hu
         have q5 : decide (0 < (us.length : Int)) = true := decide_eq_true (by omega)
         have q5' : decide ((us.length : Int) > 0) = true := decide_eq_true (by omega)
         have HS2 := Lib.hid (fun s => HS1.out s hu)
         clear hu HNE HS1
         go_wp2_with fail
         go_loopw [12] (fun i wr => ∃ j : Nat, j ≤ nd.length ∧ i = .int .i64 j ∧ Hid (Below w4.heap.size w4 wr) ∧ Hid (Row Ty.sg (fun b => ¬ (Value.slice A8 nd.length c8).ownBlock = some b) wr Au us) ∧ Hid (Own1 Ty.edge 31 w4.heap.size wr (.slice A8 nd.length c8) (rowK l nd k j))) (fun i _ => nd.length - (intOf i).toNat)
         case atStart => exact ⟨0, Nat.zero_le _, rfl, HB5.out, HUR.out, HO5.out⟩
         case round =>
          obtain ⟨j, hj, rfl, HBj, HUj, HOj⟩ := hrel
          clear HB5 HUR HO5
          by_cases hjn : j < nd.length
          ·obtain ⟨an, rfl, hx0, hx1, hx2, hx3⟩ := (HNR4.out.below HBj.out).sg_at j hjn
           have HSV : Hid ((validB (sgD nd j).1 && validB (sgD nd j).2) = true) := Lib.hid (HNV.out (sgD nd j) (by rw [sgD_eq hjn]; exact List.getElem_mem hjn))
           have HAT : Hid ((rowK l nd k j)[j]? = some (sgD nd j, (sd24 l (sgD nd j) true k, sd24 l (sgD nd j) false k))) := Lib.hid (rowK_at l nd k j hjn)
           have HST : Hid ((rowK l nd k j).set j (sgD nd j, (sd24 l (sgD nd j) true (k + 1), sd24 l (sgD nd j) false (k + 1))) = rowK l nd k (j + 1)) := Lib.hid (rowK_set l nd k j hjn)
           obtain ⟨s1, s2⟩ := HS2.out (sgD nd j)
           rw [s1, s2] at HST
           clear s1 s2
           have hs1 := sd24_len l (sgD nd j) true k
           have hs2 := sd24_len l (sgD nd j) false k
           have hrl := rowK_len l nd k j
           have CS := Lib.hid (ref21_Sides us Au us.length cu (sgD nd j) wr HUj.out rfl HUV.out HSV.out (by omega))
           generalize sd24 l (sgD nd j) true k = L at *
           generalize sd24 l (sgD nd j) false k = R at *
           generalize rowK l nd k j = rk at *
           generalize sidesZ us (sgD nd j) = sd at *
           generalize sgD nd j = sk at *
           obtain ⟨⟨a1, a2⟩, a3, a4⟩ := sk
           obtain ⟨x, y⟩ := sd
           simp only [sgA] at CS
           simp only at hx0 hx1 hx2 hx3 HST
           rcases OwnR.forms HOj.out with ⟨hv, hn⟩ | ⟨g, cc, hv, hg1, hg2, hg3, _⟩
           ·exfalso
            rw [hn] at hrl
            simp at hrl
            omega
           ·have hA : A8 = some ⟨g, 0, none⟩ := by injection hv
            subst hA
            clear hv
            go_wp2_with fail
            refine CS.out.mono ?_
            rintro e w6 ⟨rfl, hb6⟩
            have HO6 := Lib.hid (Own1.below HOj.out hb6)
            have HU6 := Lib.hid (HUj.out.below hb6)
            have HB6 := Lib.hid (below_step HBj.out hb6)
            clear hb6 CS HOj HUj HBj hx0 hx1 hx2 hx3 HSV
            cases x <;> cases y
            ·have HF : Hid (rk = rowK l nd k (j + 1)) := Lib.hid (by rw [← HST.out]; exact (set_same (by simpa using HAT.out)).symm)
             go_wp2
             go_roundw
             case rel => exact ⟨j + 1, by omega, by go_num, HB6.out, HU6.out, by rw [← HF.out]; exact HO6.out⟩
             case measure => simp [intOf]; omega
            ·skip
             obtain ⟨A1, c1, A2, c2, hl4, hl5, hrL, hrR, hf4, hf5⟩ := own_edge HO6.out HAT.out
             clear hl4 hrL hf4
             go_wp2_with fail
             refine (ref24_put R A2 R.length c2 (k : Int) _ hrR rfl (by omega)).mono ?_
             rintro e w9 ⟨vp, rfl, HP, hb7⟩
             have HO7 := OwnR.below HO6.out hb7
             obtain ⟨_, _, _, _, _, hl5, _, _, _, hf5⟩ := own_edge HO7 HAT.out
             obtain ⟨Aq, cq, rfl, hpl, hpr⟩ := OwnR.rowB int_flat HP (fun b => ¬ (Value.slice (some ⟨g, 0, none⟩) nd.length c8).ownBlock = some b) (fun b hb e => by have h1 := (OwnR.lt HP b hb).1; have h2 := (OwnR.lt HO6.out b e).2; omega)
             obtain ⟨HO9, hk8⟩ := own_setR HO7 (by first | omega | (rw [List.length_set]; omega)) HAT.out hpl hpr rfl
             rw [show (R ++ [(k : Int)]).length = R.length + 1 from by simp] at HO9 hk8
             have HB9 := Lib.hid (below_kept (below_step HB6.out hb7) hk8 (fun b e => by rw [e]; exact hg1))
             have HU9 := Lib.hid ((HU6.out.below hb7).step (fun b hb hl => hk8.block b hl (fun e => hb (by rw [e]; rfl))))
             have HO9 := Lib.hid HO9
             clear HP hpr hk8 HO7 hrR hb7
             have HST2 : Hid (rk.set j (((a1, a2), (a3, a4)), (L, R ++ [(k : Int)])) = rowK l nd k (j + 1)) := Lib.hid (by have := HST.out; simpa using this)
             have HF := HO9.out
             rw [HST2.out] at HF
             have HF := Lib.hid HF
             clear HO9 HST HST2
             go_wp2
             go_roundw
             case rel => exact ⟨j + 1, by omega, by go_num, HB9.out, HU9.out, HF.out⟩
             case measure => simp [intOf]; omega
            ·skip
             obtain ⟨A1, c1, A2, c2, hl4, hl5, hrL, hrR, hf4, hf5⟩ := own_edge HO6.out HAT.out
             clear hl5 hrR hf5
             go_wp2_with fail
             refine (ref24_put L A1 L.length c1 (k : Int) _ hrL rfl (by omega)).mono ?_
             rintro e w7 ⟨vp, rfl, HP, hb7⟩
             have HO7 := Own1.below HO6.out hb7
             obtain ⟨_, _, _, _, hl4, _, _, _, hf4, _⟩ := own_edge HO7 HAT.out
             obtain ⟨Ap, cp, rfl, hpl, hpr⟩ := OwnR.rowB int_flat HP (fun b => ¬ (Value.slice (some ⟨g, 0, none⟩) nd.length c8).ownBlock = some b) (fun b hb e => by have h1 := (OwnR.lt HP b hb).1; have h2 := (OwnR.lt HO6.out b e).2; omega)
             obtain ⟨HO8, hk8⟩ := own_setL HO7 hrl.symm HAT.out hpl hpr rfl
             rw [show (L ++ [(k : Int)]).length = L.length + 1 from by simp] at HO8 hk8
             have HB8 := Lib.hid (below_kept (below_step HB6.out hb7) hk8 (fun b e => by rw [e]; exact hg1))
             have HU8 := Lib.hid ((HU6.out.below hb7).step (fun b hb hl => hk8.block b hl (fun e => hb (by rw [e]; rfl))))
             have HO8 := Lib.hid HO8
             clear HP hpr hk8 HO7 hrL hb7
             have HST2 : Hid (rk.set j (((a1, a2), (a3, a4)), (L ++ [(k : Int)], R)) = rowK l nd k (j + 1)) := Lib.hid (by have := HST.out; simpa using this)
             have HF := HO8.out
             rw [HST2.out] at HF
             have HF := Lib.hid HF
             clear HO8 HST HST2
             go_wp2
             go_roundw
             case rel => exact ⟨j + 1, by omega, by go_num, HB8.out, HU8.out, HF.out⟩
             case measure => simp [intOf]; omega
            ·skip
             obtain ⟨A1, c1, A2, c2, hl4, hl5, hrL, hrR, hf4, hf5⟩ := own_edge HO6.out HAT.out
             clear hl5 hrR hf5
             go_wp2_with fail
             refine (ref24_put L A1 L.length c1 (k : Int) _ hrL rfl (by omega)).mono ?_
             rintro e w7 ⟨vp, rfl, HP, hb7⟩
             have HO7 := Own1.below HO6.out hb7
             obtain ⟨_, _, _, _, hl4, _, _, _, hf4, _⟩ := own_edge HO7 HAT.out
             obtain ⟨Ap, cp, rfl, hpl, hpr⟩ := OwnR.rowB int_flat HP (fun b => ¬ (Value.slice (some ⟨g, 0, none⟩) nd.length c8).ownBlock = some b) (fun b hb e => by have h1 := (OwnR.lt HP b hb).1; have h2 := (OwnR.lt HO6.out b e).2; omega)
             obtain ⟨HO8, hk8⟩ := own_setL HO7 hrl.symm HAT.out hpl hpr rfl
             rw [show (L ++ [(k : Int)]).length = L.length + 1 from by simp] at HO8 hk8
             have HB8 := Lib.hid (below_kept (below_step HB6.out hb7) hk8 (fun b e => by rw [e]; exact hg1))
             have HU8 := Lib.hid ((HU6.out.below hb7).step (fun b hb hl => hk8.block b hl (fun e => hb (by rw [e]; rfl))))
             have HO8 := Lib.hid HO8
             clear HP hpr hk8 HO7 hrL hb7
             have HAT8 := Lib.hid (show (rk.set j (((a1, a2), (a3, a4)), (L ++ [(k : Int)], R)))[j]? = some (((a1, a2), (a3, a4)), (L ++ [(k : Int)], R)) from by rw [List.getElem?_set_self (by omega)])
             obtain ⟨A1, c1, A2, c2, hl4, hl5, hrL, hrR, hf4, hf5⟩ := own_edge HO8.out HAT8.out
             clear hl4 hrL hf4
             go_wp2_with fail
             refine (ref24_put R A2 R.length c2 (k : Int) _ hrR rfl (by omega)).mono ?_
             rintro e w9 ⟨vp, rfl, HP, hb7⟩
             have HO7 := OwnR.below HO8.out hb7
             obtain ⟨_, _, _, _, _, hl5, _, _, _, hf5⟩ := own_edge HO7 HAT8.out
             obtain ⟨Aq, cq, rfl, hpl, hpr⟩ := OwnR.rowB int_flat HP (fun b => ¬ (Value.slice (some ⟨g, 0, none⟩) nd.length c8).ownBlock = some b) (fun b hb e => by have h1 := (OwnR.lt HP b hb).1; have h2 := (OwnR.lt HO8.out b e).2; omega)
             obtain ⟨HO9, hk8⟩ := own_setR HO7 (by first | omega | (rw [List.length_set]; omega)) HAT8.out hpl hpr rfl
             rw [show (R ++ [(k : Int)]).length = R.length + 1 from by simp] at HO9 hk8
             have HB9 := Lib.hid (below_kept (below_step HB8.out hb7) hk8 (fun b e => by rw [e]; exact hg1))
             have HU9 := Lib.hid ((HU8.out.below hb7).step (fun b hb hl => hk8.block b hl (fun e => hb (by rw [e]; rfl))))
             have HO9 := Lib.hid HO9
             clear HP hpr hk8 HO7 hrR hb7
             have HST2 : Hid (rk.set j (((a1, a2), (a3, a4)), (L ++ [(k : Int)], R ++ [(k : Int)])) = rowK l nd k (j + 1)) := Lib.hid (by have := HST.out; simpa using this)
             have HF := HO9.out
             rw [List.set_set, HST2.out] at HF
             have HF := Lib.hid HF
             clear HO9 HST HST2
             go_wp2
             go_roundw
             case rel => exact ⟨j + 1, by omega, by go_num, HB9.out, HU9.out, HF.out⟩
             case measure => simp [intOf]; omega
          ·have q7 : decide ((j : Int) < (nd.length : Int)) = false := decide_eq_false (by omega)
           obtain rfl : j = nd.length := by omega
           rw [HNX.out] at HOj
           go_wp2
           go_roundw
           case rel => exact ⟨k + 1, by omega, by go_num, HBj.out, HOj.out⟩
           case measure => simp [intOf]; omega
       ·obtain rfl : k = l.length := by omega
        obtain ⟨Ao, cz, e9, _, hor⟩ := Own1.reads HOk.out
        rw [rowK_len] at e9
        have HOR := Lib.hid hor
        have HBW := Lib.hid (below_step HB4.out HBk.out)
        injection e9 with e9 _ e9'
        subst e9
        have hlw := rowK_len l nd l.length 0
        go_wp2
        go_ret2
        exact ⟨by rw [HBB.out]; exact ⟨A8, cz, (by rw [show (rowK l nd l.length 0, (0 : Int)).1.length = nd.length from hlw]; rfl), HOR.out⟩, HBW.out⟩
   ·have hx0 : 0 < (crossZs nd).length := List.length_pos_iff.2 hx
    have HBB := Lib.hid (HBX2.out hx)
    have hxx : decide ((((crossZs nd).length : Nat) : Int) > 0) = true := decide_eq_true (by omega)
    have hxy : decide (0 < (((crossZs nd).length : Nat) : Int)) = true := decide_eq_true (by omega)
    clear HBX2 HBO2 hx
    go_wp2
    go_ret2
    exact ⟨by rw [HBB.out]; exact ⟨none, 0, rfl, Row.nil _ _ _ _⟩, HB4.out⟩
end
section
def addP (acc : Pts) (p : Pt) : Pts := if p ∈ acc then acc else insZ lessB p acc
def pts25 (m : Msh) : Pts := (ptsOf m).foldl addP []
theorem insZ_inc {p : Pt} : ∀ {l : Pts}, Inc lessB l → p ∉ l → Inc lessB (insZ lessB p l)
 | [], _, _ => List.pairwise_singleton _ _
 | y :: ys, h, hn => by
  have h1 := List.pairwise_cons.1 h
  have hy : p ≠ y := fun e => hn (e ▸ List.mem_cons_self ..)
  unfold insZ
  split
  ·rename_i hl
   refine List.pairwise_cons.2 ⟨fun x hx => ?_, h⟩
   rcases List.mem_cons.1 hx with rfl | hx
   ·exact hl
   ·exact totB.trans hl (h1.1 x hx)
  ·rename_i hl
   have hlt : lessB y p = true := by
    have := totB.total hy
    have hf : lessB p y = false := by simpa using hl
    rw [hf] at this
    simpa using this
   refine List.pairwise_cons.2 ⟨fun x hx => ?_, insZ_inc h1.2 (fun e => hn (List.mem_cons_of_mem _ e))⟩
   rcases List.mem_cons.1 ((insZ_perm p ys).subset hx) with rfl | hx
   ·exact hlt
   ·exact h1.1 x hx
theorem fold_addP : ∀ (l acc : Pts), Inc lessB acc → Inc lessB (l.foldl addP acc) ∧ ∀ x, x ∈ l.foldl addP acc ↔ x ∈ l ∨ x ∈ acc
 | [], acc, h => ⟨h, fun x => by simp⟩
 | p :: l, acc, h => by
  have hi : Inc lessB (addP acc p) := by
   unfold addP
   split
   ·exact h
   ·rename_i hn; exact insZ_inc h hn
  have hm : ∀ x, x ∈ addP acc p ↔ x = p ∨ x ∈ acc := fun x => by
   unfold addP
   split
   ·rename_i hp
    exact ⟨.inr, fun k => k.elim (fun e => e ▸ hp) id⟩
   ·rw [(insZ_perm p acc).mem_iff, List.mem_cons]
  have ih := fold_addP l (addP acc p) hi
  refine ⟨ih.1, fun x => ?_⟩
  show x ∈ l.foldl addP (addP acc p) ↔ _
  rw [ih.2, hm, List.mem_cons]
  constructor
  ·rintro (h | h | h) <;> simp [h]
  ·rintro ((h | h) | h) <;> simp [h]
theorem pts25_same (m : Msh) : pts25 m = pointsZ m := by
 have hf := fold_addP (ptsOf m) [] List.Pairwise.nil
 refine inc_unique totB (fun x => ?_) hf.1 (compact_inc totB (sortG_srt totB _))
 show x ∈ (ptsOf m).foldl addP [] ↔ x ∈ pointsZ m
 rw [hf.2, mem_points]
 simp
end
end Go.Proofs.YtaeflnbjeaoapaaGreat
