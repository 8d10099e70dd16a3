/- Contract of ref21.divide. Contract of ref21.Rings. -/
import Derived.Test.YtlmjciajpjdilaaGreatKR17
import Derived.Laws.MakeOwn
namespace Go.Proofs.YtlmjciajpjdilaaGreat
set_option linter.unusedVariables false
set_option linter.unusedSimpArgs false
section
open Go.RowKit Go.Proofs.YtlmjciajpjdilaaGreatW.PrintLast

attribute [local go_sem high] eqPt
/-- a list of rings as divide takes and returns it -/
def SlR (ok : Nat → Prop) (w : World) (v : Value) (l : Rgs) : Prop := (v = .slice none 0 0 ∧ l = []) ∨ ∃ ad c, v = .slice (some ad) l.length c ∧ 0 < l.length ∧ l.length ≤ c ∧ Row Ty.ring ok w (some ad) l
theorem SlR.below {ok : Nat → Prop} {w w' : World} {v : Value} {l : Rgs} (h : SlR ok w v l) (hb : Below w.heap.size w w') : SlR ok w' v l := by
 rcases h with h | ⟨ad, c, e, h0, h1, hr⟩
 ·exact .inl h
 ·exact .inr ⟨ad, c, e, h0, h1, hr.below hb⟩
theorem SlR.mono {ok ok' : Nat → Prop} {w : World} {v : Value} {l : Rgs} (h : SlR ok w v l) (hk : ∀ k, ok k → ok' k) : SlR ok' w v l := by
 rcases h with h | ⟨ad, c, e, h0, h1, hr⟩
 ·exact .inl h
 ·exact .inr ⟨ad, c, e, h0, h1, hr.mono hk⟩
theorem SlR.own {ok : Nat → Prop} {base : Nat} {M : Nat → Prop} {w : World} {v : Value} {l : Rgs} (h : OwnR Ty.ring 41 base M w v l) (hp : 0 < l.length) (h1 : ∀ k, ¬ M k → ok k) (h2 : ∀ k, base ≤ k → ok k) : SlR ok w v l := by
 obtain ⟨A, c, e, hl, hr, _⟩ := OwnR.reads h
 obtain ⟨ad, e2, _⟩ := hr.2 hp
 subst e2
 exact .inr ⟨ad, c, e, hp, hl, hr.mono (fun k hk => hk.elim (h1 k) (fun e => h2 k (OwnR.lt h k e).1))⟩
theorem srt_nil : Srt lessR ([] : Rgs) := List.Pairwise.nil
def DivOk (N : Nat) : Prop := ∀ (ok : Nat → Prop) (l : Rgs) (r : Pts) (lv : Value) (B : Option Addr) (n d : Nat) (w : World), SlR ok w lv l → Row Ty.pt (fun _ => True) w B r → n = r.length → r.length ≤ N → 0 < r.length → r.length ≤ d → r.length ≤ 1000000 → l.length + 2 * r.length ≤ 1000000000 → Srt lessR l →
  Calls Tryz.prog 52 #[lv, .slice B n d] w fun e w' => ∃ v, e = .returned v ∧ SlR (fun k => ok k ∨ w.heap.size ≤ k) w' v (divIns l r) ∧ Below w.heap.size w w'
set_option maxRecDepth 100000 in
set_option maxHeartbeats 4000000 in
theorem ref21_divide (N : Nat) : DivOk N := by
 induction N with
 | zero => intro ok l r lv B n d w hl hr hn hN hpos hd hlen hll hs; omega
 | succ N ih =>
  intro ok l r lv B n d w hl hr hn hN hpos hd hlen hll hs
  subst hn
  obtain ⟨bd, rfl, _⟩ := hr.2 hpos
  have HR : Hid (Row Ty.pt (fun k => k < w.heap.size) w (some bd) r) := hr.bnd.mono (fun k hk => hk.2)
  have HL := Lib.hid hl
  have HS := Lib.hid hs
  obtain ⟨zl, hz⟩ : ∃ zl, zl = divIns l r := ⟨_, rfl⟩
  have HZ : Hid (zl = divIns l r) := hz
  rw [← hz]
  clear hl hr hs hz
  go_enter Tryz.func52, Tryz.ntmps52
  go_wp2
  go_loopw [5] (fun iv wr => ∃ i : Nat, i ≤ r.length ∧ iv = .int .i64 i ∧ Hid (Below w.heap.size w wr) ∧ Hid (∀ a b, a < i → a < b → b < r.length → ptD r a ≠ ptD r b)) (fun i _ => r.length - (intOf i).toNat)
  case atStart => exact ⟨0, Nat.zero_le _, rfl, Below.refl _ _, fun a b h => by omega⟩
  case round =>
   obtain ⟨i, hi, rfl, HB, HN⟩ := hrel
   by_cases hlt : i < r.length
   ·obtain ⟨wo, rfl⟩ : ∃ wo : World, wo = wr := ⟨_, rfl⟩
    have wq := wr_in (x := (i : Int) + 1) (by omega) (by omega)
    go_wp2
    go_loopw [6] (fun kv wi => ∃ j : Nat, i < j ∧ j ≤ r.length ∧ kv = .int .i64 j ∧ Hid (Below w.heap.size w wi) ∧ Hid (∀ b, i < b → b < j → ptD r i ≠ ptD r b)) (fun kv _ => r.length - (intOf kv).toNat)
    case atStart => exact ⟨i + 1, by omega, by omega, by go_num, HB.out, fun b h1 h2 => by omega⟩
    case round =>
     obtain ⟨j, hij, hj, rfl, HBi, HM⟩ := hrel
     clear HB wq
     by_cases hjt : j < r.length
     ·obtain ⟨ad', e, hx0, hx1⟩ := (HR.out.below HBi.out).pt_at i hlt
      cases e
      obtain ⟨ad', e, hy0, hy1⟩ := (HR.out.below HBi.out).pt_at j hjt
      cases e
      by_cases hq : ptD r i = ptD r j
      ·have hdq := (ptB (ptD r i) (ptD r j)).trans (decide_eq_true hq)
       have HD : Hid (divIns l r = divIns (divIns l ((r.take j).drop i)) (r.take i ++ r.drop j)) := div_at hij hjt hq HN.out HM.out
       clear hq HN HM
       generalize ptD r i = x at *
       generalize ptD r j = y at *
       go_wp2_with fail
       go_quiet (fail)
       obtain ⟨W1, hW1⟩ : ∃ W1, W1 = wr.drewN nq := ⟨_, rfl⟩
       have B1 : Hid (Below w.heap.size w W1) := by show Below _ _ _; rw [hW1]; exact (by repeat (first | exact Below.refl _ _ | apply below_alloc | apply below_drewN | apply below_drew | (refine below_set2 ?_ ?_; (first | (simp; done) | (simp; omega))) | (refine below_step ?_ HBi.out)))
       rw [← hW1]
       clear hW1 HBi hx0 hx1 hy0 hy1 hdq
       have hz1 := B1.out.size
       have hgi : (0 : Int) ≤ (i : Int) := by omega
       have hgj : (0 : Int) ≤ (j : Int) := by omega
       have hjd : j ≤ d := by omega
       have hij2 : i ≤ j := by omega
       have hid2 : i ≤ d := by omega
       have hdi : ¬ d = i := by omega
       have hd0 : ¬ d = 0 := by omega
       have hdj : ¬ d = j := by omega
       have hjl : j ≤ r.length := by omega
       have hal : ((r.take j).drop i).length = j - i := by rw [List.length_drop, List.length_take]; omega
       have hbl : (r.take i).length = i := by rw [List.length_take]; omega
       have hcl : (r.drop j).length = r.length - j := List.length_drop ..
       have HR1 := Lib.hid (HR.out.below B1.out)
       have HAL := Lib.hid hal
       have HBL := Lib.hid hbl
       have HCL := Lib.hid hcl
       clear hal hbl hcl
       go_wp2_with (first | (at_builtin; refine app_row Ty.pt (W := W1) w.heap.size rfl _ _ 41 24 _ 16 rfl Tryz.underlying41 infoPt rfl (by decide) (.slice none 0 0) [] ((r.take j).drop i) (some (bd.add (i * 2))) (j - i) (d - i) (fun _ => False) rfl rfl HAL.out.symm (((HR1.out.take' j).drop i).mono (fun _ _ h => h)) (OwnR.nil _ _ _ _ _) hz1 (by first | (simp; done) | (simp; omega) | omega) ?_; intro v1 w2 HO1 hg1 hat1; have HA : Hid (Own1 Ty.pt 24 w.heap.size w2 v1 ((r.take j).drop i)) := Own1.of HO1; have B2 : Hid (Below w.heap.size w w2) := below_own B1.out hg1 (fun b e => by cases e); have hz2 := B2.out.size; have HR2 := Lib.hid (HR.out.below B2.out); clear HO1 hg1 hat1 HR1 B1 hz1) | (at_builtin; refine app_row Ty.pt (W := w2) w2.heap.size rfl _ _ 41 24 _ 16 rfl Tryz.underlying41 infoPt rfl (by decide) (.slice none 0 0) [] (r.take i) (some bd) i d (fun _ => False) rfl rfl HBL.out.symm ((HR2.out.take' i).mono (fun _ _ h => h)) (OwnR.nil _ _ _ _ _) (Nat.le_refl _) (by first | (simp; done) | (simp; omega) | omega) ?_; intro v2 w3 HO2 hg2 hat2; have B3 : Hid (Below w2.heap.size w2 w3) := below_own (Below.refl _ _) hg2 (fun b e => by cases e); have hz3 := B3.out.size; have HR3 : Hid (Row Ty.pt (fun k => ¬ (False ∨ v2.ownBlock = some k)) w3 (some (bd.add (j * 2))) (r.drop j)) := ((HR2.out.below B3.out).drop j).mono (fun k hk h => h.elim id (fun h => by have := (OwnR.lt HO2 k h).1; omega)); have HO2' := Lib.hid HO2; clear HO2 hg2 hat2) | (at_builtin; refine app_row Ty.pt (W := w3) w2.heap.size rfl _ _ 41 24 _ 16 rfl Tryz.underlying41 infoPt rfl (by decide) v2 _ (r.drop j) (some (bd.add (j * 2))) (r.length - j) (d - j) _ rfl rfl HCL.out.symm HR3.out HO2'.out hz3 (by first | (simp; done) | (simp; omega) | omega) ?_; intro v3 w4 HO3 hg3 hat3; have HBo : Hid (Own1 Ty.pt 24 w2.heap.size w4 v3 (r.take i ++ r.drop j)) := Own1.of HO3; have B4 : Hid (Below w2.heap.size w2 w4) := below_own B3.out hg3 (fun b e => (OwnR.lt HO2'.out b e).1); have HL4 := Lib.hid ((HL.out.below B2.out).below B4.out); have HA4 := Lib.hid (HA.out.below B4.out)))
       clear HO3 hg3 hat3 HR3 HO2' HA HR2
       obtain ⟨A1, c1, rfl, hl1, hr1⟩ := HA4.out.reads
       obtain ⟨A3, c3, rfl, hl3, hr3⟩ := HBo.out.reads
       have HR1 := Lib.hid hr1
       have HR3 := Lib.hid hr3
       have hl1' := Lib.hid hl1
       have hl3' := Lib.hid hl3
       have hal := HAL.out
       have hbcl : (r.take i ++ r.drop j).length = i + (r.length - j) := by rw [List.length_append, HBL.out, HCL.out]
       have HP := partsR_len ((r.take j).drop i)
       have HLL : (divIns l ((r.take j).drop i)).length = l.length + (partsR ((r.take j).drop i)).length := ins_len _ _
       clear hr1 hr3 hl1 hl3
       have HBCL := Lib.hid hbcl
       have HLL2 := Lib.hid HLL
       have HP2 := Lib.hid HP
       clear hbcl HLL HP hal
       go_wp2_with fail
       refine Calls.mono (ih _ _ _ _ _ _ _ _ HL4.out HR1.out rfl (by have := HAL.out; omega) (by have := HAL.out; omega) hl1'.out (by have := HAL.out; omega) (by have := HAL.out; omega) HS.out) ?_
       rintro e w5 ⟨v5, rfl, hs5, hb5⟩
       have HS5 := Lib.hid hs5
       have HR5 := Lib.hid (HR3.out.below hb5)
       have B5 : Hid (Below w.heap.size w w5) := below_step (below_step B2.out B4.out) hb5
       clear hs5 hb5
       go_wp2_with fail
       refine Calls.mono (ih _ _ _ _ _ _ _ _ HS5.out HR5.out (by first | rfl | exact HBCL.out.symm) (by have := HBCL.out; omega) (by have := HBCL.out; omega) hl3'.out (by have := HBCL.out; omega) (by have := HBCL.out; have := HAL.out; have := HLL2.out; have := HP2.out; omega) (divIns_srt HS.out _)) ?_
       rintro e w6 ⟨v6, rfl, hs6, hb6⟩
       have HS6 := Lib.hid hs6
       have B6 : Hid (Below w.heap.size w w6) := below_step B5.out hb6
       clear hs6 hb6
       go_wp2
       go_ret
       have z4 : w.heap.size ≤ w4.heap.size := Nat.le_trans B2.out.size B4.out.size
       have z5 := B5.out.size
       exact ⟨_, rfl, by rw [HZ.out, HD.out]; exact HS6.out.mono (fun k hk => by rcases hk with (hk | hk) | hk; (· exact .inl hk); (· right; omega); (· right; omega)), B6.out⟩
      ·have hdq := (ptB (ptD r i) (ptD r j)).trans (decide_eq_false hq)
       have HQ := Lib.hid hq
       clear hq
       go_wp2_with fail
       go_quiet (fail)
       go_wp2
       go_roundw
       case rel => exact ⟨j + 1, by omega, by omega, by go_num, (by repeat (first | exact Below.refl _ _ | apply below_alloc | apply below_drewN | apply below_drew | (refine below_set2 ?_ ?_; (first | (simp; done) | (simp; omega))) | (refine below_step ?_ HBi.out))), fun b h1 h2 => if e : b = j then by rw [e]; exact HQ.out else HM.out b h1 (by omega)⟩
       case measure => simp [intOf]; omega
     ·obtain rfl : j = r.length := by omega
      go_wp2
      go_roundw
      case rel => exact ⟨i + 1, by omega, by go_num, HBi.out, fun a b h1 h2 h3 => if e : a = i then by rw [e]; exact HM.out b (by omega) h3 else HN.out a b (by omega) h2 h3⟩
      case measure => simp [intOf]; omega
   ·obtain rfl : i = r.length := by omega
    have HZ1 : Hid (zl = insZ lessR (canonR r) l) := HZ.out.trans (div_simple (fun a b h1 h2 => HN.out a b (by omega) h1 h2))
    have HRw := Lib.hid (HR.out.below HB.out)
    have HLw := Lib.hid (HL.out.below HB.out)
    clear HZ HN HL
    go_wp2_with fail
    refine Calls.mono (ref11_Canon r (some bd) _ d _ HRw.out rfl hpos hlen) ?_
    rintro e w2 ⟨v2, rfl, ho2, hb2⟩
    obtain ⟨A2, c2, rfl, hl2, hr2⟩ := ho2.reads
    have zb := HB.out.size
    have HC2 : Hid (Row Ty.pt (fun k => w.heap.size ≤ k ∧ k < w2.heap.size) w2 A2 (canonR r)) := by
     obtain ⟨A9, c9, e9, _, h9⟩ := Own1.row_ok pt_flat ho2 (fun k => w.heap.size ≤ k ∧ k < w2.heap.size) (fun b e => ⟨Nat.le_trans zb (OwnR.lt ho2 b e).1, (OwnR.lt ho2 b e).2⟩)
     injection e9 with e1 e2 e3
     subst e1
     exact h9
    have HL2 := Lib.hid (HLw.out.below hb2)
    have B2 : Hid (Below w.heap.size w w2) := below_step HB.out hb2
    clear ho2 hr2 hb2 HLw HRw HB
    generalize canonR r = cr at *
    rcases HL2.out with ⟨rfl, rfl⟩ | ⟨ad, c, rfl, h0, hlc, hrl⟩
    ·have HZ2 : Hid (zl = ([] : Rgs).take 0 ++ cr :: ([] : Rgs).drop 0) := HZ1.out
     obtain ⟨l, hle⟩ : ∃ l : Rgs, l = [] := ⟨_, rfl⟩
     rw [← hle] at HZ2
     have hl0 : l.length = 0 := by rw [hle]; rfl
     have HTK : Hid (0 = (l.take 0).length) := by show _ = _; rw [hle]; rfl
     have HDK : Hid (0 = (l.drop 0).length) := by show _ = _; rw [hle]; rfl
     have HNT : ∀ (W : World) (ok : Nat → Prop), Row Ty.ring ok W none (l.take 0) := fun W ok => by rw [hle]; exact Row.nil _ _ _ _
     have HND : ∀ (W : World) (ok : Nat → Prop), Row Ty.ring ok W none (l.drop 0) := fun W ok => by rw [hle]; exact Row.nil _ _ _ _
     have HNT' := Lib.hid HNT
     have HND' := Lib.hid HND
     clear hle HZ1 HL2 HNT HND
     go_wp2
     go_loopw [10] (fun kv wr => kv = .int .i64 0 ∧ Hid (Below w2.heap.size w2 wr)) (fun _ _ => 0)
     case atStart => exact ⟨rfl, Below.refl _ _⟩
     case round =>
      obtain ⟨rfl, HBr⟩ := hrel
      have BW : Hid (Below w.heap.size w wr) := below_step B2.out HBr.out
      have HRC : Hid (Row Ty.pt (fun k => w.heap.size ≤ k ∧ k < wr.heap.size) wr A2 cr) := (HC2.out.below HBr.out).mono (fun k hk => ⟨hk.1, Nat.lt_of_lt_of_le hk.2 HBr.out.size⟩)
      have HLT : Hid (Row Ty.ring (fun k => ok k ∧ k < wr.heap.size) wr none (l.take 0)) := HNT'.out _ _
      have HLD : Hid (Row Ty.ring (fun k => ok k ∧ k < wr.heap.size) wr none (l.drop 0)) := HND'.out _ _
      go_wp2_with (first | (at_builtin; refine app_row Ty.ring (W := wr) (wr).heap.size rfl _ _ 33 41 _ 24 rfl Tryz.underlying33 infoRing rfl (by decide) (.slice none 0 0) [] (l.take 0) none 0 0 (fun k => ¬ (ok k ∨ w.heap.size ≤ k)) rfl rfl HTK.out (HLT.out.mono (fun _ hk h => h (.inl hk.1))) (OwnR.nil _ _ _ _ _) (Nat.le_refl _) (by first | (simp; done) | (simp; omega) | omega) ?_; intro v3 w3 HO3 hg3 hat3; have B3 : Hid (Below (wr).heap.size wr w3) := below_own (Below.refl _ _) hg3 (fun b e => by cases e); have hz3 := B3.out.size; have HR3 : Hid (Row Ty.pt (fun k => ¬ (¬ (ok k ∨ w.heap.size ≤ k) ∨ v3.ownBlock = some k)) w3 A2 cr) := (HRC.out.below B3.out).mono (fun k hk h => h.elim (fun h => h (.inr hk.1)) (fun h => by have := (OwnR.lt HO3 k h).1; omega)); have HO3' := Lib.hid HO3; clear HO3 hg3 hat3) | (at_builtin; refine app_one Ty.ring (W := w3) (wr).heap.size rfl _ _ 33 41 _ 24 rfl Tryz.underlying33 infoRing rfl (by decide) v3 _ cr [.slice A2 cr.length c2] _ rfl rfl rfl ⟨A2, c2, rfl, hl2, HR3.out⟩ HO3'.out hz3 (by first | (simp; done) | (simp; omega) | omega) ?_; intro v4 w4 HO4 hg4 hat4; have B4 : Hid (Below (wr).heap.size wr w4) := below_own B3.out hg4 (fun b e => (OwnR.lt HO3'.out b e).1); have hz4 := B4.out.size; have HL4 : Hid (Row Ty.ring (fun k => ¬ ((¬ (ok k ∨ w.heap.size ≤ k) ∨ v3.ownBlock = some k) ∨ v4.ownBlock = some k)) w4 none (l.drop 0)) := (HLD.out.below B4.out).mono (fun k hk h => h.elim (fun h => h.elim (fun h => h (.inl hk.1)) (fun h => by have := (OwnR.lt HO3'.out k h).1; omega)) (fun h => by have := (OwnR.lt HO4 k h).1; omega)); have HO4' := Lib.hid HO4; clear HO4 hg4 hat4) | (at_builtin; refine app_row Ty.ring (W := w4) (wr).heap.size rfl _ _ 33 41 _ 24 rfl Tryz.underlying33 infoRing rfl (by decide) v4 _ (l.drop 0) none 0 0 _ rfl rfl HDK.out HL4.out HO4'.out hz4 (by first | (simp; done) | (simp; omega) | omega) ?_; intro v5 w5 HO5 hg5 hat5; have HO6 : Hid (SlR (fun k => ok k ∨ w.heap.size ≤ k) w5 v5 (l.take 0 ++ cr :: l.drop 0)) := (by have hq := HO5; rw [List.nil_append, List.append_assoc] at hq; exact SlR.own hq (by simp only [List.length_append, List.length_cons, List.length_nil]; omega) (fun k hk => Classical.byContradiction (fun hn => hk (.inl (.inl (.inl hn))))) (fun k hk => .inr (Nat.le_trans BW.out.size hk))); have B5 : Hid (Below (wr).heap.size wr w5) := below_own B4.out hg5 (fun b e => (OwnR.lt HO4'.out b e).1); clear HO5 hg5 hat5))
      go_wp2
      go_ret
      exact ⟨_, rfl, by rw [HZ2.out]; exact HO6.out, below_step BW.out B5.out⟩
    ·have HRL : Hid (Row Ty.ring (fun k => ok k ∧ k < w2.heap.size) w2 (some ad) l) := hrl.bnd
     have hc0 : ¬ c = 0 := by omega
     have hlc2 : l.length ≤ c := hlc
     clear HL2 hrl hlc
     go_wp2
     go_loopw [10] (fun kv wr => ∃ k : Nat, k ≤ l.length ∧ kv = .int .i64 k ∧ Hid (Below w2.heap.size w2 wr) ∧ Hid (∀ j, j < k → lessR (rgD l j) cr = true)) (fun kv _ => l.length - (intOf kv).toNat)
     case atStart => exact ⟨0, Nat.zero_le _, rfl, Below.refl _ _, fun j h => by omega⟩
     case round =>
      obtain ⟨k, hk, rfl, HBr, HK⟩ := hrel
      have hgk : (0 : Int) ≤ (k : Int) := by omega
      have hkc : k ≤ c := by omega
      by_cases hlt : k < l.length
      ·obtain ⟨ad', A0, c0, e, hx0, hl0, hrow⟩ := (HRL.out.below HBr.out).ring_at k hlt
       cases e
       have HRW := Lib.hid hrow
       have HRC0 := Lib.hid (HC2.out.below HBr.out)
       have CL := Lib.hid (ref11_Less (rgD l k) cr A0 A2 _ _ c0 c2 _ HRW.out HRC0.out rfl rfl)
       clear hrow
       cases hls : lessR (rgD l k) cr
       ·have HZ2 : Hid (zl = l.take k ++ cr :: l.drop k) := HZ1.out.trans (insR_at HS.out hk HK.out (fun _ => hls)).symm
        have HLS := Lib.hid hls
        have hck : ¬ c = k := by omega
        have HTK : Hid (k = (l.take k).length) := by show _ = _; rw [List.length_take]; omega
        have HDK : Hid (l.length - k = (l.drop k).length) := (List.length_drop ..).symm
        clear hls HK HZ1
        go_wp2_with fail
        refine CL.out.mono ?_
        rintro e w9 ⟨rfl, hb9⟩
        rw [HLS.out]
        have BW : Hid (Below w.heap.size w w9) := below_step (below_step B2.out HBr.out) hb9
        have hz9 : w2.heap.size ≤ w9.heap.size := Nat.le_trans HBr.out.size hb9.size
        have HRC : Hid (Row Ty.pt (fun k => w.heap.size ≤ k ∧ k < w9.heap.size) w9 A2 cr) := (HRC0.out.below hb9).mono (fun k hk => ⟨hk.1, Nat.lt_of_lt_of_le hk.2 hz9⟩)
        have HRL9 : Hid (Row Ty.ring (fun k => ok k ∧ k < w9.heap.size) w9 (some ad) l) := ((HRL.out.below HBr.out).below hb9).mono (fun k hk => ⟨hk.1, Nat.lt_of_lt_of_le hk.2 hz9⟩)
        have HLT := Lib.hid (HRL9.out.take' k)
        have HLD : Hid (Row Ty.ring (fun k => ok k ∧ k < w9.heap.size) w9 (some (ad.add k)) (l.drop k)) := by have := HRL9.out.drop k; rwa [show Ty.ring.sz = 1 from rfl, Nat.mul_one] at this
        clear hb9 HRL9 HRC0 HRW
        go_wp2_with (first | (at_builtin; refine app_row Ty.ring (W := w9) (w9).heap.size rfl _ _ 33 41 _ 24 rfl Tryz.underlying33 infoRing rfl (by decide) (.slice none 0 0) [] (l.take k) (some ad) k c (fun k => ¬ (ok k ∨ w.heap.size ≤ k)) rfl rfl HTK.out (HLT.out.mono (fun _ hk h => h (.inl hk.1))) (OwnR.nil _ _ _ _ _) (Nat.le_refl _) (by first | (simp; done) | (simp; omega) | omega) ?_; intro v3 w3 HO3 hg3 hat3; have B3 : Hid (Below (w9).heap.size w9 w3) := below_own (Below.refl _ _) hg3 (fun b e => by cases e); have hz3 := B3.out.size; have HR3 : Hid (Row Ty.pt (fun k => ¬ (¬ (ok k ∨ w.heap.size ≤ k) ∨ v3.ownBlock = some k)) w3 A2 cr) := (HRC.out.below B3.out).mono (fun k hk h => h.elim (fun h => h (.inr hk.1)) (fun h => by have := (OwnR.lt HO3 k h).1; omega)); have HO3' := Lib.hid HO3; clear HO3 hg3 hat3) | (at_builtin; refine app_one Ty.ring (W := w3) (w9).heap.size rfl _ _ 33 41 _ 24 rfl Tryz.underlying33 infoRing rfl (by decide) v3 _ cr [.slice A2 cr.length c2] _ rfl rfl rfl ⟨A2, c2, rfl, hl2, HR3.out⟩ HO3'.out hz3 (by first | (simp; done) | (simp; omega) | omega) ?_; intro v4 w4 HO4 hg4 hat4; have B4 : Hid (Below (w9).heap.size w9 w4) := below_own B3.out hg4 (fun b e => (OwnR.lt HO3'.out b e).1); have hz4 := B4.out.size; have HL4 : Hid (Row Ty.ring (fun k => ¬ ((¬ (ok k ∨ w.heap.size ≤ k) ∨ v3.ownBlock = some k) ∨ v4.ownBlock = some k)) w4 (some (ad.add k)) (l.drop k)) := (HLD.out.below B4.out).mono (fun k hk h => h.elim (fun h => h.elim (fun h => h (.inl hk.1)) (fun h => by have := (OwnR.lt HO3'.out k h).1; omega)) (fun h => by have := (OwnR.lt HO4 k h).1; omega)); have HO4' := Lib.hid HO4; clear HO4 hg4 hat4) | (at_builtin; refine app_row Ty.ring (W := w4) (w9).heap.size rfl _ _ 33 41 _ 24 rfl Tryz.underlying33 infoRing rfl (by decide) v4 _ (l.drop k) (some (ad.add k)) (l.length - k) (c - k) _ rfl rfl HDK.out HL4.out HO4'.out hz4 (by first | (simp; done) | (simp; omega) | omega) ?_; intro v5 w5 HO5 hg5 hat5; have HO6 : Hid (SlR (fun k => ok k ∨ w.heap.size ≤ k) w5 v5 (l.take k ++ cr :: l.drop k)) := (by have hq := HO5; rw [List.nil_append, List.append_assoc] at hq; exact SlR.own hq (by simp only [List.length_append, List.length_cons, List.length_nil]; omega) (fun k hk => Classical.byContradiction (fun hn => hk (.inl (.inl (.inl hn))))) (fun k hk => .inr (Nat.le_trans BW.out.size hk))); have B5 : Hid (Below (w9).heap.size w9 w5) := below_own B4.out hg5 (fun b e => (OwnR.lt HO4'.out b e).1); clear HO5 hg5 hat5))
        go_wp2
        go_ret
        exact ⟨_, rfl, by rw [HZ2.out]; exact HO6.out, below_step BW.out B5.out⟩
       ·have HK2 : Hid (∀ j, j < k + 1 → lessR (rgD l j) cr = true) := fun j hj => if e : j = k then by rw [e]; exact hls else HK.out j (by omega)
        have HLS := Lib.hid hls
        clear hls HK
        go_wp2_with fail
        refine CL.out.mono ?_
        rintro e w9 ⟨rfl, hb9⟩
        rw [HLS.out]
        have HB9 : Hid (Below w2.heap.size w2 w9) := below_step HBr.out hb9
        clear hb9
        go_wp2
        go_roundw
        case rel => exact ⟨k + 1, by omega, by go_num, HB9.out, HK2.out⟩
        case measure => simp [intOf]; omega
      ·have HZ2 : Hid (zl = l.take k ++ cr :: l.drop k) := HZ1.out.trans (insR_at HS.out hk HK.out (fun h => absurd h hlt)).symm
       have BW : Hid (Below w.heap.size w wr) := below_step B2.out HBr.out
       have hz9 : w2.heap.size ≤ wr.heap.size := HBr.out.size
       have HRC : Hid (Row Ty.pt (fun k => w.heap.size ≤ k ∧ k < wr.heap.size) wr A2 cr) := (HC2.out.below HBr.out).mono (fun k hk => ⟨hk.1, Nat.lt_of_lt_of_le hk.2 hz9⟩)
       have HRL9 : Hid (Row Ty.ring (fun k => ok k ∧ k < wr.heap.size) wr (some ad) l) := (HRL.out.below HBr.out).mono (fun k hk => ⟨hk.1, Nat.lt_of_lt_of_le hk.2 hz9⟩)
       have HLT := Lib.hid (HRL9.out.take' k)
       have HTK : Hid (k = (l.take k).length) := by show _ = _; rw [List.length_take]; omega
       have HDK : Hid (l.length - k = (l.drop k).length) := (List.length_drop ..).symm
       clear HZ1 HK
       by_cases hck : c = k
       ·subst hck
        have HLD : Hid (Row Ty.ring (fun k => ok k ∧ k < wr.heap.size) wr (some ad) (l.drop c)) := by rw [List.drop_eq_nil_of_le (by omega)]; exact Row.nil _ _ _ _
        have HDK : Hid (0 = (l.drop c).length) := by show _ = _; rw [List.drop_eq_nil_of_le (by omega)]; rfl
        go_wp2_with (first | (at_builtin; refine app_row Ty.ring (W := wr) (wr).heap.size rfl _ _ 33 41 _ 24 rfl Tryz.underlying33 infoRing rfl (by decide) (.slice none 0 0) [] (l.take c) (some ad) c c (fun k => ¬ (ok k ∨ w.heap.size ≤ k)) rfl rfl HTK.out (HLT.out.mono (fun _ hk h => h (.inl hk.1))) (OwnR.nil _ _ _ _ _) (Nat.le_refl _) (by first | (simp; done) | (simp; omega) | omega) ?_; intro v3 w3 HO3 hg3 hat3; have B3 : Hid (Below (wr).heap.size wr w3) := below_own (Below.refl _ _) hg3 (fun b e => by cases e); have hz3 := B3.out.size; have HR3 : Hid (Row Ty.pt (fun k => ¬ (¬ (ok k ∨ w.heap.size ≤ k) ∨ v3.ownBlock = some k)) w3 A2 cr) := (HRC.out.below B3.out).mono (fun k hk h => h.elim (fun h => h (.inr hk.1)) (fun h => by have := (OwnR.lt HO3 k h).1; omega)); have HO3' := Lib.hid HO3; clear HO3 hg3 hat3) | (at_builtin; refine app_one Ty.ring (W := w3) (wr).heap.size rfl _ _ 33 41 _ 24 rfl Tryz.underlying33 infoRing rfl (by decide) v3 _ cr [.slice A2 cr.length c2] _ rfl rfl rfl ⟨A2, c2, rfl, hl2, HR3.out⟩ HO3'.out hz3 (by first | (simp; done) | (simp; omega) | omega) ?_; intro v4 w4 HO4 hg4 hat4; have B4 : Hid (Below (wr).heap.size wr w4) := below_own B3.out hg4 (fun b e => (OwnR.lt HO3'.out b e).1); have hz4 := B4.out.size; have HL4 : Hid (Row Ty.ring (fun k => ¬ ((¬ (ok k ∨ w.heap.size ≤ k) ∨ v3.ownBlock = some k) ∨ v4.ownBlock = some k)) w4 (some ad) (l.drop c)) := (HLD.out.below B4.out).mono (fun k hk h => h.elim (fun h => h.elim (fun h => h (.inl hk.1)) (fun h => by have := (OwnR.lt HO3'.out k h).1; omega)) (fun h => by have := (OwnR.lt HO4 k h).1; omega)); have HO4' := Lib.hid HO4; clear HO4 hg4 hat4) | (at_builtin; refine app_row Ty.ring (W := w4) (wr).heap.size rfl _ _ 33 41 _ 24 rfl Tryz.underlying33 infoRing rfl (by decide) v4 _ (l.drop c) (some ad) 0 0 _ rfl rfl HDK.out HL4.out HO4'.out hz4 (by first | (simp; done) | (simp; omega) | omega) ?_; intro v5 w5 HO5 hg5 hat5; have HO6 : Hid (SlR (fun k => ok k ∨ w.heap.size ≤ k) w5 v5 (l.take c ++ cr :: l.drop c)) := (by have hq := HO5; rw [List.nil_append, List.append_assoc] at hq; exact SlR.own hq (by simp only [List.length_append, List.length_cons, List.length_nil]; omega) (fun k hk => Classical.byContradiction (fun hn => hk (.inl (.inl (.inl hn))))) (fun k hk => .inr (Nat.le_trans BW.out.size hk))); have B5 : Hid (Below (wr).heap.size wr w5) := below_own B4.out hg5 (fun b e => (OwnR.lt HO4'.out b e).1); clear HO5 hg5 hat5))
        go_wp2
        go_ret
        exact ⟨_, rfl, by rw [HZ2.out]; exact HO6.out, below_step BW.out B5.out⟩
       ·have HLD : Hid (Row Ty.ring (fun k => ok k ∧ k < wr.heap.size) wr (some (ad.add k)) (l.drop k)) := by have := HRL9.out.drop k; rwa [show Ty.ring.sz = 1 from rfl, Nat.mul_one] at this
        go_wp2_with (first | (at_builtin; refine app_row Ty.ring (W := wr) (wr).heap.size rfl _ _ 33 41 _ 24 rfl Tryz.underlying33 infoRing rfl (by decide) (.slice none 0 0) [] (l.take k) (some ad) k c (fun k => ¬ (ok k ∨ w.heap.size ≤ k)) rfl rfl HTK.out (HLT.out.mono (fun _ hk h => h (.inl hk.1))) (OwnR.nil _ _ _ _ _) (Nat.le_refl _) (by first | (simp; done) | (simp; omega) | omega) ?_; intro v3 w3 HO3 hg3 hat3; have B3 : Hid (Below (wr).heap.size wr w3) := below_own (Below.refl _ _) hg3 (fun b e => by cases e); have hz3 := B3.out.size; have HR3 : Hid (Row Ty.pt (fun k => ¬ (¬ (ok k ∨ w.heap.size ≤ k) ∨ v3.ownBlock = some k)) w3 A2 cr) := (HRC.out.below B3.out).mono (fun k hk h => h.elim (fun h => h (.inr hk.1)) (fun h => by have := (OwnR.lt HO3 k h).1; omega)); have HO3' := Lib.hid HO3; clear HO3 hg3 hat3) | (at_builtin; refine app_one Ty.ring (W := w3) (wr).heap.size rfl _ _ 33 41 _ 24 rfl Tryz.underlying33 infoRing rfl (by decide) v3 _ cr [.slice A2 cr.length c2] _ rfl rfl rfl ⟨A2, c2, rfl, hl2, HR3.out⟩ HO3'.out hz3 (by first | (simp; done) | (simp; omega) | omega) ?_; intro v4 w4 HO4 hg4 hat4; have B4 : Hid (Below (wr).heap.size wr w4) := below_own B3.out hg4 (fun b e => (OwnR.lt HO3'.out b e).1); have hz4 := B4.out.size; have HL4 : Hid (Row Ty.ring (fun k => ¬ ((¬ (ok k ∨ w.heap.size ≤ k) ∨ v3.ownBlock = some k) ∨ v4.ownBlock = some k)) w4 (some (ad.add k)) (l.drop k)) := (HLD.out.below B4.out).mono (fun k hk h => h.elim (fun h => h.elim (fun h => h (.inl hk.1)) (fun h => by have := (OwnR.lt HO3'.out k h).1; omega)) (fun h => by have := (OwnR.lt HO4 k h).1; omega)); have HO4' := Lib.hid HO4; clear HO4 hg4 hat4) | (at_builtin; refine app_row Ty.ring (W := w4) (wr).heap.size rfl _ _ 33 41 _ 24 rfl Tryz.underlying33 infoRing rfl (by decide) v4 _ (l.drop k) (some (ad.add k)) (l.length - k) (c - k) _ rfl rfl HDK.out HL4.out HO4'.out hz4 (by first | (simp; done) | (simp; omega) | omega) ?_; intro v5 w5 HO5 hg5 hat5; have HO6 : Hid (SlR (fun k => ok k ∨ w.heap.size ≤ k) w5 v5 (l.take k ++ cr :: l.drop k)) := (by have hq := HO5; rw [List.nil_append, List.append_assoc] at hq; exact SlR.own hq (by simp only [List.length_append, List.length_cons, List.length_nil]; omega) (fun k hk => Classical.byContradiction (fun hn => hk (.inl (.inl (.inl hn))))) (fun k hk => .inr (Nat.le_trans BW.out.size hk))); have B5 : Hid (Below (wr).heap.size wr w5) := below_own B4.out hg5 (fun b e => (OwnR.lt HO4'.out b e).1); clear HO5 hg5 hat5))
        go_wp2
        go_ret
        exact ⟨_, rfl, by rw [HZ2.out]; exact HO6.out, below_step BW.out B5.out⟩
end
section
open Go.RowKit Go.Proofs.YtlmjciajpjdilaaGreatW.PrintLast

attribute [local go_sem high] eqPt eqSg
theorem infoBool : (Tryz.prog.info? 4).map (fun i => (i.zero, i.size, i.bytes)) = some (some (.bool false), 1, 1) := by kernel_rfl
def bools (xs : List Bool) : Array Value := (xs.map Value.bool).toArray
theorem bools_get {xs : List Bool} {j : Nat} {b : Bool} (h : xs[j]? = some b) : (bools xs)[j]? = some (.bool b) := by
 unfold bools
 rw [List.getElem?_toArray, List.getElem?_map, h]; rfl
theorem bools_set (xs : List Bool) (j : Nat) (b : Bool) : (bools xs).setIfInBounds j (.bool b) = bools (xs.set j b) := by
 unfold bools
 rw [List.setIfInBounds_toArray, List.map_set]
theorem made_bools (w : World) (n : Nat) (hn : n ≤ 1000000) : ∃ W, (Instr.makeSlice 66 (.int .i64 (n : Int)) (.int .i64 (n : Int))).run Tryz.prog w = .ok (.slice (some ⟨w.heap.size, 0, none⟩) n n) W ∧
  W.heap[w.heap.size]? = some (.cells (bools (List.replicate n false)) 4 (0, 0)) ∧ Below w.heap.size w W ∧ W.heap.size = w.heap.size + 1 := by
 obtain ⟨i, hi, hzz⟩ := Option.map_eq_some_iff.1 infoBool
 simp only [Prod.mk.injEq] at hzz
 obtain ⟨hz, hs, hb⟩ := hzz
 have hr := run_make (P := Tryz.prog) w 66 4 i (.bool false) (by kernel_rfl) hi hz .i64 .i64 n n (by omega) (by omega) (by rw [hb]; omega) (by omega)
 simp only [Int.toNat_natCast, hs, Nat.mul_one] at hr
 refine ⟨_, hr, ?_, bq, by simp⟩
 have hc : madeCells (Value.bool false).cells n = bools (List.replicate n false) := by
  unfold madeCells bools
  apply Array.ext
  ·simp
  ·intro j h1 h2
   simp [Value.cells, Nat.mod_one]
 rw [← hc]
 exact heap_alloc_new _ _
theorem SlR.kept {ok : Nat → Prop} {S : Nat → Prop} {w w' : World} {v : Value} {l : Rgs} (h : SlR ok w v l) (k : KeptS S w w') (hS : ∀ b, ok b → ¬ S b) : SlR ok w' v l := by
 rcases h with h | ⟨ad, c, e, h0, h1, hr⟩
 ·exact .inl h
 ·exact .inr ⟨ad, c, e, h0, h1, hr.step (fun b hb hlt => k.block b hlt (hS b hb))⟩
def lenV : Value → Nat
 | .slice _ n _ => n
 | _ => 0
set_option maxRecDepth 100000 in
set_option maxHeartbeats 4000000 in
theorem ref21_Rings {ok : Nat → Prop} (l : Sgs) (A : Option Addr) (n c : Nat) (w : World) (hr : Row Ty.sg ok w A l) (hn : n = l.length) (hlen : l.length ≤ 600) :
  Calls Tryz.prog 14 #[.slice A n c] w fun e w' => ∃ v, e = .returned (.tuple #[v, .int .i64 (checkZ l)]) ∧ SlR (fun _ => True) w' v (ringsZ l) ∧ Below w.heap.size w w' := by
 subst hn
 have HR := Lib.hid hr
 clear hr
 have CC := Lib.hid (fun W h => ref21_Check (ok := ok) l A l.length c W h rfl hlen)
 rw [check_same] at CC
 have CU := Lib.hid (fun W h => ref20_Unique (ok := ok) l A l.length c W h rfl (by omega))
 have HV := Lib.hid (uniq_V l)
 have hLu : (uniqZ l).length ≤ 600 := Nat.le_trans (uniq_len l) hlen
 have HLeft := Lib.hid (fun (h : checkZ l = 0) s hs => left_of (l := l) h (s := s) hs)
 have HNX := Lib.hid (fun h : checkZ l = 0 => next_ok h)
 have HND := Lib.hid (dir_nodup l)
 have HRZ : Hid (ringsZ l = if checkZ l = 0 then ringsU (uniqZ l) else []) := rfl
 clear hlen
 generalize checkZ l = cz at *
 generalize ringsZ l = z at *
 generalize uniqZ l = u at *
 by_cases h0 : cz = 0
 ·have HZ1 : Hid (z = ringsU u) := HRZ.out.trans (if_pos h0)
  have HLf := Lib.hid (HLeft.out h0)
  have HNx := Lib.hid (HNX.out h0)
  subst h0
  clear HRZ HLeft HNX
  go_enter Tryz.func14, Tryz.ntmps14
  go_wp2_with fail
  refine Calls.mono (CC.out _ HR.out) ?_
  rintro e w1 ⟨rfl, hb1⟩
  have HR1 := Lib.hid (HR.out.below hb1)
  have HB1 := Lib.hid hb1
  clear hb1 CC
  go_wp2_with fail
  refine Calls.mono (CU.out _ HR1.out) ?_
  rintro e w2 ⟨v2, rfl, ho2, hb2⟩
  obtain ⟨A2, c2, rfl, hl2, hr2⟩ := ho2.reads
  have HR2 := Lib.hid hr2
  have HB2 := Lib.hid (below_step HB1.out hb2)
  clear hb2 ho2 hr2 HR1 HB1 CU hl2
  go_wp2
  go_loopw [6, 7] (fun v i wr => ∃ k : Nat, k ≤ u.length ∧ i = .int .i64 k ∧ Hid (Below w2.heap.size w2 wr) ∧ Hid (Own1 Ty.sg 32 w2.heap.size wr v ((u.take k).map (dirF u)))) (fun _ i _ => u.length - (intOf i).toNat)
  case atStart => exact ⟨0, Nat.zero_le _, rfl, Below.refl _ _, OwnR.nil _ _ _ _ _⟩
  case round =>
   obtain ⟨k, hk, rfl, HBk, HO⟩ := hrel
   by_cases hlt : k < u.length
   ·have HRw := Lib.hid (HR2.out.below HBk.out)
    obtain ⟨ad, rfl, hx0, hx1, hx2, hx3⟩ := HRw.out.sg_at k hlt
    have hx3' : wr.cell? ⟨(ad.add (k * 4)).block, (ad.add (k * 4)).off + 2 + 1, none⟩ = some (.int .i64 (sgD u k).2.2) := hx3
    have HS := Lib.hid (dir_snoc u k hlt)
    have HL : Hid ((((u.take k).map (dirF u)).length + 1) * 32 ≤ 140737488355328) := by
     show _ ≤ _
     rw [List.length_map, List.length_take]; omega
    have hsz := HBk.out.size
    have HVS := Lib.hid (HV.out (sgD u k) (sgD_mem hlt))
    have HLs := Lib.hid (HLf.out (sgD u k) (sgD_mem hlt))
    generalize (u.take k).map (dirF u) = acc at *
    generalize sgD u k = s at *
    have CS := Lib.hid (fun W h => ref21_Sides (ok := fun _ => True) u (some ad) u.length c2 s W h rfl HV.out HVS.out (by omega))
    obtain ⟨l1, l2, hq⟩ : ∃ l1 l2, sidesZ u s = (l1, l2) := ⟨_, _, rfl⟩
    rw [hq] at CS HLs
    have HD : Hid (dirF u s = if l1 = true then s else (s.2, s.1)) := by show _ = _; unfold dirF; rw [← HLs.out]
    clear hq HLs HVS
    cases l1
    ·have HD2 : Hid (dirF u s = (s.2, s.1)) := HD.out.trans (if_neg (by decide))
     clear HD
     go_wp2_with fail
     refine Calls.mono (CS.out _ HRw.out) ?_
     rintro e w3 ⟨rfl, hb3⟩
     have hy0 := cell_below hb3 hx0
     have hy1 := cell_below hb3 hx1
     have hy2 := cell_below hb3 hx2
     have hy3 := cell_below hb3 hx3'
     have HO3 : Hid (Own1 Ty.sg 32 w2.heap.size w3.drew u6 acc) := Own1.below (Own1.below HO.out hb3) (below_drew (Below.refl _ _))
     have HB3 : Hid (Below w2.heap.size w2 w3) := below_step HBk.out hb3
     have hz3 : w2.heap.size ≤ w3.drew.heap.size := HB3.out.size
     clear hx0 hx1 hx2 hx3 hx3' hb3 HO HRw HBk
     go_wp2_with fail
     refine start_ (n := 15) (S := fun w' => w'.cell? (ad.add (k * 4)) = some (.int .i64 s.1.1) ∧ w'.cell? ⟨(ad.add (k * 4)).block, (ad.add (k * 4)).off + 1, none⟩ = some (.int .i64 s.1.2) ∧ w'.cell? ⟨(ad.add (k * 4)).block, (ad.add (k * 4)).off + 2, none⟩ = some (.int .i64 s.2.1) ∧ w'.cell? ⟨(ad.add (k * 4)).block, (ad.add (k * 4)).off + 2 + 1, none⟩ = some (.int .i64 s.2.2)) (ds := [13]) #[Z,Z,Z,Z,Z,Z,Z,Z,Z,Z,Z,Z,Z,Z,Z] (by kernel_rfl) rfl rfl ⟨hy0, hy1, hy2, hy3⟩ (fun hHeld => ?_)
     refine pure_ (i := 0) (N := some 45) (v := ?_) (a' := ?_) #[J,Z,Z,Z,Z,Z,Z,Z,Z,Z,Z,Z,Z,Z,Z] rfl rfl (by kernel_rfl) (fun _ _ _ h => h) (Or.inl ⟨by rfl, ?_⟩) ?_ ?_
     rotate_left
     ·intro w'; go_simp; with_reducible rfl
     rotate_left
     ·simp only [Act.put, sA, sB, sC, i64_w, i32_w]; rfl
     refine pure_ (i := 1) (N := some 46) (v := ?_) (a' := ?_) #[J,J,Z,Z,Z,Z,Z,Z,Z,Z,Z,Z,Z,Z,Z] rfl rfl (by kernel_rfl) (fun _ _ _ h => h) (Or.inl ⟨by rfl, ?_⟩) ?_ ?_
     rotate_left
     ·intro w'; go_simp; with_reducible rfl
     rotate_left
     ·simp only [Act.put, sA, sB, sC, i64_w, i32_w]; rfl
     refine pure_ (i := 2) (N := some 47) (v := ?_) (a' := ?_) #[J,J,J,Z,Z,Z,Z,Z,Z,Z,Z,Z,Z,Z,Z] rfl rfl (by kernel_rfl) (fun _ _ _ h => h) (Or.inl ⟨by rfl, ?_⟩) ?_ ?_
     rotate_left
     ·intro w'; go_simp; with_reducible rfl
     rotate_left
     ·simp only [Act.put, sA, sB, sC, i64_w, i32_w]; rfl
     refine pure_ (i := 3) (N := some 48) (v := ?_) (a' := ?_) #[J,J,J,J,Z,Z,Z,Z,Z,Z,Z,Z,Z,Z,Z] rfl rfl (by kernel_rfl) (fun _ _ _ h => h) (Or.inl ⟨by rfl, ?_⟩) ?_ ?_
     rotate_left
     ·intro w'; go_simp; with_reducible rfl
     rotate_left
     ·simp only [Act.put, sA, sB, sC, i64_w, i32_w]; rfl
     refine pure_ (i := 4) (N := some 49) (v := ?_) (a' := ?_) #[J,J,J,J,J,Z,Z,Z,Z,Z,Z,Z,Z,Z,Z] rfl rfl (by kernel_rfl) (fun _ _ _ h => h) (Or.inl ⟨by rfl, ?_⟩) ?_ ?_
     rotate_left
     ·intro w'; go_simp; with_reducible rfl
     rotate_left
     ·simp only [Act.put, sA, sB, sC, i64_w, i32_w]; rfl
     refine pure_ (i := 6) (N := some 51) (v := ?_) (a' := ?_) #[J,J,J,J,J,Z,J,Z,Z,Z,Z,Z,Z,Z,Z] rfl rfl (by kernel_rfl) (fun _ _ _ h => h) (Or.inl ⟨by rfl, ?_⟩) ?_ ?_
     rotate_left
     ·intro w'; go_simp; with_reducible rfl
     rotate_left
     ·simp only [Act.put, sA, sB, sC, i64_w, i32_w]; rfl
     refine pure_ (i := 7) (N := some 52) (v := ?_) (a' := ?_) #[J,J,J,J,J,Z,J,J,Z,Z,Z,Z,Z,Z,Z] rfl rfl (by kernel_rfl) (fun _ _ _ h => h) (Or.inl ⟨by rfl, ?_⟩) ?_ ?_
     rotate_left
     ·intro w'; go_simp; with_reducible rfl
     rotate_left
     ·simp only [Act.put, sA, sB, sC, i64_w, i32_w]; rfl
     refine pure_ (i := 8) (N := some 53) (v := ?_) (a' := ?_) #[J,J,J,J,J,Z,J,J,J,Z,Z,Z,Z,Z,Z] rfl rfl (by kernel_rfl) (fun _ _ _ h => h) (Or.inl ⟨by rfl, ?_⟩) ?_ ?_
     rotate_left
     ·intro w'; go_simp; with_reducible rfl
     rotate_left
     ·simp only [Act.put, sA, sB, sC, i64_w, i32_w]; rfl
     refine pure_ (i := 9) (N := some 54) (v := ?_) (a' := ?_) #[J,J,J,J,J,Z,J,J,J,J,Z,Z,Z,Z,Z] rfl rfl (by kernel_rfl) (fun _ _ _ h => h) (Or.inl ⟨by rfl, ?_⟩) ?_ ?_
     rotate_left
     ·intro w'; go_simp; with_reducible rfl
     rotate_left
     ·simp only [Act.put, sA, sB, sC, i64_w, i32_w]; rfl
     refine take_ (i := 5) (N := some 50) (v := ?_) (a' := ?_) #[J,J,J,J,J,J,J,J,J,J,Z,Z,Z,Z,Z] rfl rfl (by kernel_rfl) (fun _ _ _ h => h) (Or.inl ⟨by rfl, ?_⟩) hHeld ?_ ?_
     rotate_left
     ·rintro w' ⟨s0, s1, s2, s3⟩; go_simp; with_reducible rfl
     rotate_left
     ·simp only [Act.put, sA, sB, sC, i64_w, i32_w]; rfl
     refine take_ (i := 10) (N := some 55) (v := ?_) (a' := ?_) #[J,J,J,J,J,J,J,J,J,J,J,Z,Z,Z,Z] rfl rfl (by kernel_rfl) (fun _ _ _ h => h) (Or.inl ⟨by rfl, ?_⟩) hHeld ?_ ?_
     rotate_left
     ·rintro w' ⟨s0, s1, s2, s3⟩; go_simp; with_reducible rfl
     rotate_left
     ·simp only [Act.put, sA, sB, sC, i64_w, i32_w]; rfl
     refine pure_ (i := 11) (N := some 56) (v := ?_) (a' := ?_) #[J,J,J,J,J,J,J,J,J,J,J,J,Z,Z,Z] rfl rfl (by kernel_rfl) (fun _ _ _ h => h) (Or.inl ⟨by rfl, ?_⟩) ?_ ?_
     rotate_left
     ·intro w'; go_simp; with_reducible rfl
     rotate_left
     ·simp only [Act.put, sA, sB, sC, i64_w, i32_w]; rfl
     refine one_ (i := 12) (N := some 57) #[J,J,J,J,J,J,J,J,J,J,J,J,J,Z,Z] rfl rfl (by kernel_rfl) (by decide) (fun K hK => ?_)
     refine value_ (w1 := ?_) (v := ?_) (by rfl) rfl ?_ ?_
     rotate_left 2
     ·go_simp
      constructor
      ·rfl
      ·rfl
     refine hK.out _ _ ⟨cell_below (below_alloc (below_drew (Below.refl _ _)) _) hy0, cell_below (below_alloc (below_drew (Below.refl _ _)) _) hy1, cell_below (below_alloc (below_drew (Below.refl _ _)) _) hy2, cell_below (below_alloc (below_drew (Below.refl _ _)) _) hy3⟩ (fun hHeld => ?_)
     clear hK K
     refine norm_ (a' := ?_) ?_ ?_
     rotate_left
     ·show Act.put _ (some 57) _ = _
      simp only [Act.put, sA, sB, sC, i64_w, i32_w]; rfl
     refine last_ (i := 13) (N := some 58) #[J,J,J,J,J,J,J,J,J,J,J,J,J,J,Z] rfl rfl (by kernel_rfl) (by decide) (fun K hK => ?_)
     refine step_one Ty.sg (W := w3.drew) w2.heap.size rfl (.tmp 45) (.tmp 57) 22 32 _ 32 rfl Tryz.underlying22 infoSg rfl (by decide) u6 acc (s.2, s.1) [.int .i64 s.2.1, .int .i64 s.2.2, .int .i64 s.1.1, .int .i64 s.1.2] _ rfl rfl (by simp) rfl HO3.out hz3 HL.out ?_
     intro v1 w4 HO1 hg1 hat1
     refine hK.out _ _ ?_
     clear hK K
     refine norm_ (a' := ?_) ?_ ?_
     rotate_left
     ·show Act.put _ (some 58) _ = _
      simp only [Act.put, sA, sB, sC, i64_w, i32_w]; rfl
     refine pure_ (i := 14) (N := some 6) (v := ?_) (a' := ?_) #[J,J,J,J,J,J,J,J,J,J,J,J,J,J,J] rfl rfl (by kernel_rfl) (fun _ _ _ h => h) (Or.inl ⟨by rfl, ?_⟩) ?_ ?_
     rotate_left
     ·intro w'; go_simp; with_reducible rfl
     rotate_left
     ·simp only [Act.put, sA, sB, sC, i64_w, i32_w]; rfl
     refine done_ (by kernel_rfl) ?_
     have BZ : Hid (Below w2.heap.size w2 w4) := below_own (below_drew HB3.out) hg1 (fun b e => (OwnR.lt HO3.out b e).1)
     have HO4 := Lib.hid (Own1.of HO1)
     clear HO1 hg1 hat1
     go_wp2
     go_roundw
     case rel => exact ⟨k + 1, by omega, by go_num, BZ.out, by rw [HS.out, HD2.out]; exact HO4.out⟩
     case measure => simp [intOf]; omega
    ·have HD2 : Hid (dirF u s = s) := HD.out.trans (if_pos rfl)
     clear HD
     go_wp2_with fail
     refine Calls.mono (CS.out _ HRw.out) ?_
     rintro e w3 ⟨rfl, hb3⟩
     have hy0 := cell_below hb3 hx0
     have hy1 := cell_below hb3 hx1
     have hy2 := cell_below hb3 hx2
     have hy3 := cell_below hb3 hx3
     have hy3' := cell_below hb3 hx3'
     have HO3 : Hid (Own1 Ty.sg 32 w2.heap.size w3 u6 acc) := Own1.below HO.out hb3
     have HB3 : Hid (Below w2.heap.size w2 w3) := below_step HBk.out hb3
     have hz3 : w2.heap.size ≤ w3.heap.size := HB3.out.size
     clear hx0 hx1 hx2 hx3 hx3' hb3 HO HRw HBk
     go_wp2_with (at_builtin; refine app_one Ty.sg (W := w3) w2.heap.size rfl _ _ 22 32 _ 32 rfl Tryz.underlying22 infoSg rfl (by decide) u6 acc s _ _ rfl rfl rfl rfl HO3.out hz3 HL.out ?_; intro v1 w4 HO1 hg1 hat1)
     have BZ : Hid (Below w2.heap.size w2 w4) := below_own HB3.out hg1 (fun b e => (OwnR.lt HO3.out b e).1)
     have HO4 := Lib.hid (Own1.of HO1)
     clear HO1 hg1 hat1
     go_wp2
     go_roundw
     case rel => exact ⟨k + 1, by omega, by go_num, BZ.out, by rw [HS.out, HD2.out]; exact HO4.out⟩
     case measure => simp [intOf]; omega
   ·obtain rfl : k = u.length := by omega
    have HO' : Hid (Own1 Ty.sg 32 w2.heap.size wr u6 (dirZ u)) := by show Own1 _ _ _ _ _ _; rw [dir_eq]; have := HO.out; rwa [List.take_length] at this
    have hL : (dirZ u).length ≤ 600 := by rw [dir_len]; exact hLu
    have HVd := Lib.hid (dir_V HV.out)
    have HZ2 : Hid (z = outTo (dirZ u) (dirZ u).length) := HZ1.out.trans (outTo_all u).symm
    clear HO HLf HZ1 hLu
    generalize dirZ u = dl at *
    obtain ⟨AT, cT, rfl, hlT, hrT⟩ := HO'.out.reads
    have HT := Lib.hid hrT
    obtain ⟨wt, rfl⟩ : ∃ wt : World, wt = wr := ⟨_, rfl⟩
    obtain ⟨w3, hrun, hblk, hb3, hs3⟩ := made_bools wt dl.length (by omega)
    obtain ⟨gd, hgd⟩ : ∃ gd, gd = wt.heap.size := ⟨_, rfl⟩
    have HBt : Hid (Below w.heap.size w wt) := below_step HB2.out HBk.out
    have hgs : gd < w3.heap.size := by omega
    have hgt : wt.heap.size ≤ gd := by omega
    rw [← hgd] at hrun hblk
    have HU0 : Hid (w3.heap[gd]? = some (.cells (bools (usedL dl (loopSt dl 0).2)) 4 (0, 0))) := by show _ = _; rw [show (loopSt dl 0).2 = dl from rfl, used_all]; exact hblk
    have HB3 := Lib.hid hb3
    clear hrT hlT HO' HBk hb3 hs3 hgd hblk HB2 HR2
    go_wp2
    clear hrun
    go_loopw [11, 12] (fun ov iv wr => ∃ k : Nat, k ≤ dl.length ∧ iv = .int .i64 k ∧ Hid (Below wt.heap.size wt wr) ∧ Hid (wr.heap[gd]? = some (.cells (bools (usedL dl (loopSt dl k).2)) 4 (0, 0))) ∧ Hid (SlR (fun b => b ≠ gd) wr ov (outTo dl k))) (fun _ i _ => dl.length - (intOf i).toNat)
    case atStart => exact ⟨0, Nat.zero_le _, rfl, HB3.out, HU0.out, .inl ⟨rfl, rfl⟩⟩
    case round =>
     obtain ⟨k, hk, rfl, HB, HUo, HSl⟩ := hrel
     by_cases hlt : k < dl.length
     ·have HST := Lib.hid (in_start (dl := dl) (loopSt dl k) hlt)
      have HSI := Lib.hid (fun h => start_in (dl := dl) hlt h)
      have HSO := Lib.hid (fun h => start_out (dl := dl) hlt h)
      have HSLen := Lib.hid (start_len (dl := dl) hlt)
      have hgo : gd < wr.heap.size := lt_of_block HUo.out
      obtain ⟨wo, rfl⟩ : ∃ wo : World, wo = wr := ⟨_, rfl⟩
      go_wp2
      go_loopw [13, 14] (fun rv kv wi => ∃ (ring : Pts) (rest : Sgs) (q : Int), kv = .int .i64 q ∧ Hid (KeptS (fun i => i = gd) wo wi) ∧ Hid (wi.heap[gd]? = some (.cells (bools (usedL dl rest)) 4 (0, 0))) ∧ Hid (Own1 Ty.pt 24 wo.heap.size wi rv ring) ∧
        Hid (InA dl (sgD dl k) (startF dl (loopSt dl k) (sgD dl k)) ring rest q ∨ InB dl (startF dl (loopSt dl k) (sgD dl k)) ring rest q) ∧ Hid (∀ x ∈ rest, x ∈ dl) ∧ ring.length + rest.length ≤ dl.length) (fun rv _ _ => dl.length - lenV rv)
      case atStart => exact ⟨[], (loopSt dl k).2, k, rfl, kept_refl _ _, HUo.out, OwnR.nil _ _ _ _ _, HST.out, loopSt_sub dl k, by have := (loopSt_len dl k).2; simpa using this⟩
      case round =>
       obtain ⟨ring, rest, q, rfl, HK, HU, HO, HI, HSub, hrr0⟩ := hrel
       rcases HI.out with ⟨j, m, rfl, hj, hm, hlm, hwk, hss⟩ | ⟨hq, hF⟩
       ·obtain ⟨Ar, cr, rfl, hlr, _⟩ := HO.out.reads
        obtain ⟨ad, rfl, ht0, _, _, _⟩ := HT.out.sg_at j hj
        have hbt := World.block_lt_of_cell? wt _ ht0
        have hne : ¬ (ad.add (j * 4)).block = gd := by omega
        have HB1 : Hid (Below wt.heap.size wt wr) := below_kept HB.out HK.out (fun b hb => by omega)
        have HC := Lib.hid (fun (W : World) (hb : Below wt.heap.size wt W) => (HT.out.below hb).sg_at j hj)
        obtain ⟨ad', e, hx0, hx1, hx2, hx3⟩ := HC.out wr HB1.out
        cases e
        have hvx := HVd.out (sgD dl j) (sgD_mem hj)
        rw [Bool.and_eq_true] at hvx
        have CN := Lib.hid (fun W h => ref21_next (ok := fun _ => True) dl (some ad) dl.length cT (sgD dl j).1 (sgD dl j).2 W h rfl HVd.out hvx.1 hvx.2)
        have HSt := Lib.hid (in_step HNx.out HSub.out hm hlm hwk hss)
        have hdrop := dropS_lt hm
        have hus := used_set (rest := rest) HND.out hj
        have hu0 := blk_cell HU.out j (bools_get (used_get (rest := rest) hj))
        rw [decide_eq_false (fun h => h hm)] at hu0
        have huf := blk_free HU.out j
        have hge : (0 : Int) ≤ (j : Int) := by omega
        have HUw : Hid ((wr.setCell ⟨gd, j, none⟩ (.bool true)).heap[gd]? = some (.cells (bools (usedL dl (dropS rest (sgD dl j)))) 4 (0, 0))) := by
         show _ = _
         have := blk_set (i := j) HU.out (.bool true)
         rwa [bools_set, hus] at this
        have KS : KeptS (fun i => i = gd) wr (wr.setCell ⟨gd, j, none⟩ (.bool true)) := kept_set rfl (kept_refl _ _)
        have hs0 := KS.cell hx0 hne
        have hs1 := KS.cell hx1 hne
        have HOw : Hid (Own1 Ty.pt 24 wo.heap.size (wr.setCell ⟨gd, j, none⟩ (.bool true)) (.slice Ar ring.length cr) ring) := Own1.flat_kept pt_flat HO.out KS (fun b hb e => by have := (OwnR.lt HO.out b hb).1; omega)
        have K2 : Hid (KeptS (fun i => i = gd) wo (wr.setCell ⟨gd, j, none⟩ (.bool true))) := kept_step HK.out KS
        have hzw : wo.heap.size ≤ (wr.setCell ⟨gd, j, none⟩ (.bool true)).heap.size := K2.out.size
        have hrl : (ring.length + 1) * 16 ≤ 140737488355328 := by omega
        clear HI HST HSI HSO HSLen hm hlm hwk hss hus hvx HB1 KS HU HO HK hx2 hx3 ht0 hbt
        generalize sgD dl j = x at *
        obtain ⟨hge2, hgel⟩ : (0 : Int) ≤ (j : Int) ∧ (j : Int) < (dl.length : Int) := by omega
        go_wp2_with (at_builtin; refine app_one Ty.pt (W := wr.setCell ⟨gd, j, none⟩ (.bool true)) wo.heap.size rfl _ _ 41 24 _ 16 rfl Tryz.underlying41 infoPt rfl (by decide) (.slice Ar ring.length cr) ring x.1 [.int .i64 x.1.1, .int .i64 x.1.2] _ rfl rfl (by simp) rfl HOw.out hzw hrl ?_; intro v1 w4 HO1 hg1 hat1)
        have HO4 := Lib.hid (Own1.of HO1)
        have K4 : Hid (KeptS (fun i => i = gd) wo w4) := kept_own K2.out hg1 (fun b e => (OwnR.lt HOw.out b e).1)
        have HB4 : Hid (Below wt.heap.size wt w4) := below_kept HB.out K4.out (fun b hb => by omega)
        have HU4 : Hid (w4.heap[gd]? = some (.cells (bools (usedL dl (dropS rest x))) 4 (0, 0))) := (hg1.block gd (lt_of_block HUw.out) (fun e => by have := (OwnR.lt HOw.out gd e.symm).1; omega)).trans HUw.out
        clear HO1 hg1 hat1 HUw HOw K2 hs0 hs1 hx0 hx1 hu0 huf hzw
        obtain ⟨A1, c1, rfl, hl1, _⟩ := HO4.out.reads
        obtain ⟨ad', e, hy0, hy1, hy2, hy3⟩ := HC.out w4 HB4.out
        cases e
        have hy3' : w4.cell? ⟨(ad.add (j * 4)).block, (ad.add (j * 4)).off + 2 + 1, none⟩ = some (.int .i64 x.2.2) := hy3
        have HRn := Lib.hid ((HT.out.below HB4.out).below (below_drew (Below.refl _ _)))
        go_wp2_with fail
        go_still_tail 11, (by kernel_rfl)
        change wpList _ _ _ _ _ w4.drew
        go_wp2_with fail
        (refine (CN.out _ HRn.out).mono ?_; rintro e w5 ⟨rfl, hb5⟩)
        have B5 : Below w4.heap.size w4 w5 := (by repeat (first | exact Below.refl _ _ | apply below_alloc | apply below_drewN | apply below_drew | (refine below_set2 ?_ ?_; (first | (simp; done) | (simp; omega))) | (refine below_step ?_ hb5)))
        have K5 : Hid (KeptS (fun i => i = gd) wo w5) := kept_below K4.out B5
        have HU5 : Hid (w5.heap[gd]? = some (.cells (bools (usedL dl (dropS rest x))) 4 (0, 0))) := blk_below HU4.out B5
        have HO5 := Lib.hid (Own1.below HO4.out B5)
        clear B5 hb5 HO4 HU4 K4 hy0 hy1 hy2 hy3 hy3' HRn
        go_wp2
        go_roundw
        case rel => exact ⟨ring ++ [x.1], dropS rest x, nextZ dl x.1 x.2, rfl, K5.out, HU5.out, (by have h := HO5.out; rw [List.length_append] at h; exact h), HSt.out, fun y hy => HSub.out y (mem_dropS.1 hy).1, by rw [List.length_append, List.length_singleton]; omega⟩
        case measure => simp [lenV]; omega
       ·rcases hq with hq | ⟨j, rfl, hj, hnm⟩
        ·have q0 : decide ((0 : Int) ≤ q) = false := decide_eq_false (by omega)
         have q1 : decide (q ≥ (0 : Int)) = false := decide_eq_false (by omega)
         clear HI HST hrr0 HSub
         by_cases hin : sgD dl k ∈ (loopSt dl k).2
         ·obtain ⟨hp, ho, h2⟩ := HSI.out hin
          rw [← hF] at hp ho h2
          simp only at hp ho h2
          have HP := Lib.hid ho
          have H2 := Lib.hid h2
          have qp : decide ((0 : Int) < (ring.length : Int)) = true := decide_eq_true (by omega)
          have HSW : Hid (SlR (fun b => b ≠ gd) wr u11 (outTo dl k)) := HSl.out.kept HK.out (fun b hb => hb)
          have HOL := outTo_len (dl := dl) hL (Nat.le_of_lt hlt)
          have hrl : ring.length ≤ dl.length := by have := HSLen.out; rw [← hF] at this; exact this
          have HB6 : Hid (Below wt.heap.size wt wr) := below_kept HB.out HK.out (fun b hb => by omega)
          have hgw : gd < wr.heap.size := lt_of_block HU.out
          clear ho h2 hF hin HSI HSO HSLen HSl HK HB
          obtain ⟨Ar, cr, rfl, hlr, hrr⟩ := HO.out.reads
          have HRR := Lib.hid hrr
          have hcr := Lib.hid hlr
          clear hrr hlr HO
          go_wp2_with fail
          refine Calls.mono (ref21_divide ring.length _ _ _ _ _ _ _ _ HSW.out HRR.out rfl (Nat.le_refl _) hp hcr.out (by omega) (by omega) (outTo_srt dl k)) ?_
          rintro e w6 ⟨v6, rfl, hs6, hb6⟩
          have HS6 : Hid (SlR (fun b => b ≠ gd) w6 v6 (outTo dl (k + 1))) := by show SlR _ _ _ _; rw [HP.out]; exact hs6.mono (fun b hb => hb.elim id (fun h e => by omega))
          have HU6 : Hid (w6.heap[gd]? = some (.cells (bools (usedL dl (loopSt dl (k + 1)).2)) 4 (0, 0))) := by show _ = _; rw [H2.out]; exact blk_below HU.out hb6
          have HB7 : Hid (Below wt.heap.size wt w6) := below_step HB6.out hb6
          clear hs6 hb6 HU HB6
          go_wp2
          go_roundw
          case rel => exact ⟨k + 1, by omega, by go_num, HB7.out, HU6.out, HS6.out⟩
          case measure => simp [intOf]; omega
         ·obtain ⟨hp, ho, h2⟩ := HSO.out hin
          rw [← hF] at hp h2
          simp only at hp h2
          have HP := Lib.hid ho
          have H2 := Lib.hid h2
          have qp : decide ((0 : Int) < (ring.length : Int)) = false := by rw [hp]; rfl
          have HS6 : Hid (SlR (fun b => b ≠ gd) wr u11 (outTo dl (k + 1))) := by show SlR _ _ _ _; rw [HP.out]; exact HSl.out.kept HK.out (fun b hb => hb)
          have HB6 : Hid (Below wt.heap.size wt wr) := below_kept HB.out HK.out (fun b hb => by omega)
          have HU6 : Hid (wr.heap[gd]? = some (.cells (bools (usedL dl (loopSt dl (k + 1)).2)) 4 (0, 0))) := by show _ = _; rw [H2.out]; exact HU.out
          have hrl0 : ¬ 0 < ring.length := by rw [hp]; decide
          clear ho h2 hF hin hp HSI HSO HSLen HSl HK HB HU
          obtain ⟨Ar, cr, rfl, hlr, hrr⟩ := HO.out.reads
          clear hrr hlr HO
          go_wp2
          go_roundw
          case rel => exact ⟨k + 1, by omega, by go_num, HB6.out, HU6.out, HS6.out⟩
          case measure => simp [intOf]; omega
        ·have hge : (0 : Int) ≤ (j : Int) := by omega
         have hu0 := blk_cell HU.out j (bools_get (used_get (rest := rest) hj))
         rw [decide_eq_true hnm] at hu0
         clear HI HST hrr0 HSub
         by_cases hin : sgD dl k ∈ (loopSt dl k).2
         ·obtain ⟨hp, ho, h2⟩ := HSI.out hin
          rw [← hF] at hp ho h2
          simp only at hp ho h2
          have HP := Lib.hid ho
          have H2 := Lib.hid h2
          have qp : decide ((0 : Int) < (ring.length : Int)) = true := decide_eq_true (by omega)
          have HSW : Hid (SlR (fun b => b ≠ gd) wr u11 (outTo dl k)) := HSl.out.kept HK.out (fun b hb => hb)
          have HOL := outTo_len (dl := dl) hL (Nat.le_of_lt hlt)
          have hrl : ring.length ≤ dl.length := by have := HSLen.out; rw [← hF] at this; exact this
          have HB6 : Hid (Below wt.heap.size wt wr) := below_kept HB.out HK.out (fun b hb => by omega)
          have hgw : gd < wr.heap.size := lt_of_block HU.out
          clear ho h2 hF hin HSI HSO HSLen HSl HK HB
          obtain ⟨Ar, cr, rfl, hlr, hrr⟩ := HO.out.reads
          have HRR := Lib.hid hrr
          have hcr := Lib.hid hlr
          clear hrr hlr HO
          go_wp2_with fail
          refine Calls.mono (ref21_divide ring.length _ _ _ _ _ _ _ _ HSW.out HRR.out rfl (Nat.le_refl _) hp hcr.out (by omega) (by omega) (outTo_srt dl k)) ?_
          rintro e w6 ⟨v6, rfl, hs6, hb6⟩
          have HS6 : Hid (SlR (fun b => b ≠ gd) w6 v6 (outTo dl (k + 1))) := by show SlR _ _ _ _; rw [HP.out]; exact hs6.mono (fun b hb => hb.elim id (fun h e => by omega))
          have HU6 : Hid (w6.heap[gd]? = some (.cells (bools (usedL dl (loopSt dl (k + 1)).2)) 4 (0, 0))) := by show _ = _; rw [H2.out]; exact blk_below HU.out hb6
          have HB7 : Hid (Below wt.heap.size wt w6) := below_step HB6.out hb6
          clear hs6 hb6 HU HB6
          go_wp2
          go_roundw
          case rel => exact ⟨k + 1, by omega, by go_num, HB7.out, HU6.out, HS6.out⟩
          case measure => simp [intOf]; omega
         ·obtain ⟨hp, ho, h2⟩ := HSO.out hin
          rw [← hF] at hp h2
          simp only at hp h2
          have HP := Lib.hid ho
          have H2 := Lib.hid h2
          have qp : decide ((0 : Int) < (ring.length : Int)) = false := by rw [hp]; rfl
          have HS6 : Hid (SlR (fun b => b ≠ gd) wr u11 (outTo dl (k + 1))) := by show SlR _ _ _ _; rw [HP.out]; exact HSl.out.kept HK.out (fun b hb => hb)
          have HB6 : Hid (Below wt.heap.size wt wr) := below_kept HB.out HK.out (fun b hb => by omega)
          have HU6 : Hid (wr.heap[gd]? = some (.cells (bools (usedL dl (loopSt dl (k + 1)).2)) 4 (0, 0))) := by show _ = _; rw [H2.out]; exact HU.out
          have hrl0 : ¬ 0 < ring.length := by rw [hp]; decide
          clear ho h2 hF hin hp HSI HSO HSLen HSl HK HB HU
          obtain ⟨Ar, cr, rfl, hlr, hrr⟩ := HO.out.reads
          clear hrr hlr HO
          go_wp2
          go_roundw
          case rel => exact ⟨k + 1, by omega, by go_num, HB6.out, HU6.out, HS6.out⟩
          case measure => simp [intOf]; omega
     ·obtain rfl : k = dl.length := by omega
      have HS9 : Hid (SlR (fun _ => True) wr u11 z) := by show SlR _ _ _ _; rw [HZ2.out]; exact HSl.out.mono (fun _ _ => trivial)
      go_wp2
      go_ret2
      exact ⟨_, rfl, HS9.out, below_step HBt.out HB.out⟩
 ·have HZ1 : Hid (z = []) := HRZ.out.trans (if_neg h0)
  have q0 : (cz != 0) = true := by simp [h0]
  clear HRZ HLeft HNX
  go_enter Tryz.func14, Tryz.ntmps14
  go_wp2_with fail
  refine Calls.mono (CC.out _ HR.out) ?_
  rintro e w1 ⟨rfl, hb1⟩
  have HB1 := Lib.hid hb1
  clear hb1
  go_wp2
  go_ret2
  exact ⟨_, rfl, by rw [HZ1.out]; exact .inl ⟨rfl, rfl⟩, HB1.out⟩
end
end Go.Proofs.YtlmjciajpjdilaaGreat
