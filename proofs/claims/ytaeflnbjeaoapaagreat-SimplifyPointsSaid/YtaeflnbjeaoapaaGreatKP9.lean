/- Contracts of simplify.compare, slices.SortFunc over points by it, and simplify.points. Contract of simplify.step. Words of this session's own: rows of lists of segments that a call owns (made whole, a cell stored); two rows of which neither looks into the other. -/
import Derived.Test.YtaeflnbjeaoapaaGreatKPW
import Derived.Test.YtaeflnbjeaoapaaGreatKP4
import Derived.Test.YtaeflnbjeaoapaaGreatKP1
import Derived.Test.YtaeflnbjeaoapaaGreatKP8
import Derived.Laws.MakeOwn
namespace Go.Proofs.YtaeflnbjeaoapaaGreat
set_option linter.unusedVariables false
set_option linter.unusedSimpArgs false
section
open Go.RowKit Go.Proofs.YtaeflnbjeaoapaaGreatW.PrintLast

attribute [local go_sem high] eqPt eqSg
theorem simplify_compare (a b : Pt) (w : World) : Calls Tryz.prog 28 #[ptA a, ptA b] w fun e w' => e = .returned (.int .i64 (cmpP a b)) ∧ Gw w w' := by
 have NE := Lib.hid (fun W => grid_LessG a.1 a.2 b.1 b.2 W)
 have HC : Hid (cmpP a b = if a = b then 0 else if lessB (a.1, a.2) (b.1, b.2) then -1 else 1) := rfl
 have HI : Hid (a = b → lessB (a.1, a.2) (b.1, b.2) = false) := fun e => by subst e; exact totB.irr _
 generalize cmpP a b = r at *
 generalize lessB (a.1, a.2) (b.1, b.2) = l at *
 obtain ⟨a1, a2⟩ := a
 obtain ⟨b1, b2⟩ := b
 simp only [ptA] at *
 by_cases h1 : a1 = b1
 ·by_cases h2 : a2 = b2
  ·subst h1 h2
   have HR : Hid (r = 0) := by have := HC.out; rwa [if_pos rfl] at this
   have hl : l = false := HI.out rfl
   subst hl
   have SL := Lib.hid NE.out
   clear HC NE HI
   go_enter Tryz.func28, Tryz.ntmps28
   go_wp2_with fail
   refine (SL.out _).mono ?_
   rintro e w1 ⟨rfl, hb1⟩
   have hb2 := hb1.below
   obtain ⟨c_hb, f_hb⟩ := bcell hb2
   have z_hb := hb2.size
   (try simp at z_hb)
   have y0_hb : w.heap.size < w1.heap.size := by omega
   have y1_hb : w.heap.size + 1 < w1.heap.size := by omega
   clear hb2
   go_wp2
   go_ret
   exact ⟨ret_int HR.out.symm, by (repeat (first | exact gw_refl _ | refine gw_step ?_ hb1 | refine gw_alloc ?_ _ | refine gw_drewN ?_ _ | refine gw_drew ?_))⟩
  ·have HN : Hid (¬ ((a1, a2) : Pt) = (b1, b2)) := by show ¬ _; simp [h2]
   subst h1
   have hd : (a2 == b2) = false := by simp [h2]
   clear HI
   cases hl : l
   ·have SL := Lib.hid (fun W => by have := NE.out W; rw [hl] at this; exact this)
    have HR : Hid (r = 1) := Lib.hid (by have := HC.out; rw [if_neg HN.out, hl] at this; simpa using this)
    clear NE HC HN hl
    go_enter Tryz.func28, Tryz.ntmps28
    go_wp2_with fail
    refine (SL.out _).mono ?_
    rintro e w1 ⟨rfl, hb1⟩
    have hb2 := hb1.below
    obtain ⟨c_hb, f_hb⟩ := bcell hb2
    have z_hb := hb2.size
    (try simp at z_hb)
    have y0_hb : w.heap.size < w1.heap.size := by omega
    have y1_hb : w.heap.size + 1 < w1.heap.size := by omega
    clear hb2
    go_wp2
    go_ret
    exact ⟨ret_int HR.out.symm, by (repeat (first | exact gw_refl _ | refine gw_step ?_ hb1 | refine gw_alloc ?_ _ | refine gw_drewN ?_ _ | refine gw_drew ?_))⟩
   ·have SL := Lib.hid (fun W => by have := NE.out W; rw [hl] at this; exact this)
    have HR : Hid (r = -1) := Lib.hid (by have := HC.out; rw [if_neg HN.out, hl] at this; simpa using this)
    clear NE HC HN hl
    go_enter Tryz.func28, Tryz.ntmps28
    go_wp2_with fail
    refine (SL.out _).mono ?_
    rintro e w1 ⟨rfl, hb1⟩
    have hb2 := hb1.below
    obtain ⟨c_hb, f_hb⟩ := bcell hb2
    have z_hb := hb2.size
    (try simp at z_hb)
    have y0_hb : w.heap.size < w1.heap.size := by omega
    have y1_hb : w.heap.size + 1 < w1.heap.size := by omega
    clear hb2
    go_wp2
    go_ret
    exact ⟨ret_int HR.out.symm, by (repeat (first | exact gw_refl _ | refine gw_step ?_ hb1 | refine gw_alloc ?_ _ | refine gw_drewN ?_ _ | refine gw_drew ?_))⟩
 ·have HN : Hid (¬ ((a1, a2) : Pt) = (b1, b2)) := by show ¬ _; simp [h1]
  have hd : (a1 == b1) = false := by simp [h1]
  clear HI
  cases hl : l
  ·have SL := Lib.hid (fun W => by have := NE.out W; rw [hl] at this; exact this)
   have HR : Hid (r = 1) := Lib.hid (by have := HC.out; rw [if_neg HN.out, hl] at this; simpa using this)
   clear NE HC HN hl
   go_enter Tryz.func28, Tryz.ntmps28
   go_wp2_with fail
   refine (SL.out _).mono ?_
   rintro e w1 ⟨rfl, hb1⟩
   have hb2 := hb1.below
   obtain ⟨c_hb, f_hb⟩ := bcell hb2
   have z_hb := hb2.size
   (try simp at z_hb)
   have y0_hb : w.heap.size < w1.heap.size := by omega
   have y1_hb : w.heap.size + 1 < w1.heap.size := by omega
   clear hb2
   go_wp2
   go_ret
   exact ⟨ret_int HR.out.symm, by (repeat (first | exact gw_refl _ | refine gw_step ?_ hb1 | refine gw_alloc ?_ _ | refine gw_drewN ?_ _ | refine gw_drew ?_))⟩
  ·have SL := Lib.hid (fun W => by have := NE.out W; rw [hl] at this; exact this)
   have HR : Hid (r = -1) := Lib.hid (by have := HC.out; rw [if_neg HN.out, hl] at this; simpa using this)
   clear NE HC HN hl
   go_enter Tryz.func28, Tryz.ntmps28
   go_wp2_with fail
   refine (SL.out _).mono ?_
   rintro e w1 ⟨rfl, hb1⟩
   have hb2 := hb1.below
   obtain ⟨c_hb, f_hb⟩ := bcell hb2
   have z_hb := hb2.size
   (try simp at z_hb)
   have y0_hb : w.heap.size < w1.heap.size := by omega
   have y1_hb : w.heap.size + 1 < w1.heap.size := by omega
   clear hb2
   go_wp2
   go_ret
   exact ⟨ret_int HR.out.symm, by (repeat (first | exact gw_refl _ | refine gw_step ?_ hb1 | refine gw_alloc ?_ _ | refine gw_drewN ?_ _ | refine gw_drew ?_))⟩
theorem SortFunc_ptC {base : Nat} {M : Nat → Prop} {w : World} {xs : Pts} (A : Option Addr) (n c : Nat) (hsm : xs.length ≤ 1000000000) (HO : OwnR Ty.pt 28 base M w (.slice A n c) xs) :
  Calls Tryz.prog 27 #[.slice A n c, .func (.func 28) #[] #[]] w fun e' w' => e' = .returned (.tuple #[]) ∧ OwnR Ty.pt 28 base M w' (.slice A n c) (sortG lessB xs) ∧ KeptS (fun b => (Value.slice A n c).ownBlock = some b) w w' :=
 sortK_own (k := 2) Tryz.laysPt (fun _ => by kernel_rfl) (fun _ => by kernel_rfl) cmpP totB ltP 28 (enters_t Tryz.func28 (by kernel_rfl) rfl) (fun x y W => simplify_compare x y W) rfl hsm HO
theorem ptsOf_snoc (m : Msh) (k : Nat) (h : k < m.length) : ptsOf (m.take (k + 1)) = ptsOf (m.take k) ++ [(egD m k).1.1, (egD m k).1.2] := by
 unfold ptsOf
 rw [take_snoc m k (((0, 0), (0, 0)), ([], [])) h, List.flatMap_append]
 simp [egD]
theorem ptsOf_len : ∀ m : Msh, (ptsOf m).length = 2 * m.length
 | [] => rfl
 | e :: m => by have := ptsOf_len m; unfold ptsOf at this ⊢; rw [List.flatMap_cons, List.length_append, this, List.length_cons, List.length_cons, List.length_cons, List.length_nil]; omega
set_option maxRecDepth 100000 in
set_option maxHeartbeats 1000000 in
theorem simplify_points {ok : Nat → Prop} (m : Msh) (A : Option Addr) (n c : Nat) (w : World) (hr : Row Ty.edge ok w A m) (hn : n = m.length) (hlen : m.length ≤ 1000000) :
  Calls Tryz.prog 13 #[.slice A n c] w fun e w' => ∃ v, e = .returned v ∧ Own1 Ty.pt 28 w.heap.size w' v (pointsZ m) ∧ Below w.heap.size w w' := by
 subst hn
 have HR := Lib.hid hr
 clear hr
 have HP : Hid (pointsZ m = compactZ (sortG lessB (ptsOf m))) := rfl
 have hpl := Nat.le_of_eq (ptsOf_len m)
 go_enter Tryz.func13, Tryz.ntmps13
 go_wp2
 go_loopw [3, 8] (fun v i wr => ∃ k : Nat, k ≤ m.length ∧ i = .int .i64 k ∧ Hid (Below w.heap.size w wr) ∧ Hid (Own1 Ty.pt 28 w.heap.size wr v (ptsOf (m.take k)))) (fun _ i _ => m.length - (intOf i).toNat)
 case atStart => exact ⟨0, Nat.zero_le _, rfl, Below.refl _ _, OwnR.nil _ _ _ _ _⟩
 case round =>
  obtain ⟨k, hk, rfl, HB, HO⟩ := hrel
  by_cases hlt : k < m.length
  ·have HS := Lib.hid (ptsOf_snoc m k hlt)
   have HL : Hid (((ptsOf (m.take k)).length + 2) * 16 ≤ 140737488355328) := by
    show _ ≤ _
    rw [ptsOf_len, List.length_take]; omega
   have hsz := HB.out.size
   obtain ⟨ad, A1, c1, A2, c2, rfl, hx0, hx1, hx2, hx3, hx4, hx5, _, hr1, _, hr2⟩ := (HR.out.below HB.out).edge_at k hlt
   clear hr1 hr2
   obtain ⟨e, he⟩ : ∃ e, e = egD m k := ⟨_, rfl⟩
   rw [← he] at hx0 hx1 hx2 hx3 hx4 hx5 HS
   clear he
   obtain ⟨s, L, R⟩ := e
   simp only at hx0 hx1 hx2 hx3 hx4 hx5 HS
   have HRL : Hid (∀ (W : World) (M : Nat → Prop), ¬ M W.heap.size → Row Ty.pt (fun k => ¬ M k) (W.alloc (.cells #[.int .i64 s.1.1, .int .i64 s.1.2, .int .i64 s.2.1, .int .i64 s.2.2] 28)) (some ⟨W.heap.size, 0, none⟩) [s.1, s.2]) := fun W M hM => Row.pt_lit W [s.1, s.2] _ _ hM (by simp)
   go_wp2_with (at_builtin; refine app_row Ty.pt (W := (wr.alloc (.cells #[.int .i64 s.1.1, .int .i64 s.1.2, .int .i64 s.2.1, .int .i64 s.2.2, .slice A1 L.length c1, .slice A2 R.length c2] 31)).alloc (.cells #[.int .i64 s.1.1, .int .i64 s.1.2, .int .i64 s.2.1, .int .i64 s.2.2] 28)) w.heap.size rfl _ _ 25 28 _ 16 rfl Tryz.underlying25 infoPt rfl (by decide) _ (ptsOf (m.take k)) [s.1, s.2] _ 2 2 _ rfl (by simp; rfl) rfl (HRL.out _ _ (fun hm => absurd (OwnR.lt HO.out _ hm).2 (by first | (simp; done) | (simp; omega)))) (Own1.below HO.out bq) (by simp; omega) HL.out ?_; intro v1 w4 HO1 hg1 hat1)
   have BZ : Hid (Below w.heap.size w w4) := below_own (by repeat (first | exact Below.refl _ _ | apply below_alloc | apply below_drewN | apply below_drew | (refine below_set2 ?_ ?_; (first | (simp; done) | (simp; omega))) | (refine below_step ?_ HB.out))) (World.grownBy.trans (World.grownBy_alloc _ _ _) (World.grownBy.trans (World.grownBy_alloc _ _ _) hg1)) (fun b e => (OwnR.lt HO.out b e).1)
   have HO4 := Lib.hid (Own1.of HO1)
   clear HO1 hg1 hat1
   go_wp2
   go_roundw
   case rel => exact ⟨k + 1, by omega, by go_num, BZ, by rw [HS.out]; exact HO4.out⟩
   case measure => simp [intOf]; omega
  ·obtain rfl : k = m.length := by omega
   rw [List.take_length] at HO
   have HB1 := HB.out
   obtain ⟨ps, hps⟩ : ∃ ps, ps = ptsOf m := ⟨_, rfl⟩
   rw [← hps] at HO hpl HP
   clear hps
   obtain ⟨A1, c1, rfl, hl1, hr1⟩ := HO.out.reads
   have hw := HB.out.size
   clear hr1
   go_wp2_with fail
   refine (SortFunc_ptC A1 _ c1 (by omega) HO.out).mono ?_
   rintro e w2 ⟨rfl, ho2, hk2⟩
   have HO2 : Hid (Own1 Ty.pt 28 w.heap.size w2 (.slice A1 ps.length c1) (sortG lessB ps)) := ho2
   have HB2 : Hid (Below w.heap.size w w2) := below_kept HB.out hk2 (fun b e => (OwnR.lt HO.out b e).1)
   clear ho2 hk2
   go_wp2_with fail
   refine (Compact_pt (sortG lessB ps) _ _ w2 HO2.out).mono ?_
   rintro e w3 ⟨v3, rfl, ho3, hk3⟩
   have HO3 := Lib.hid ho3
   have HB3 : Hid (Below w.heap.size w w3) := below_kept HB2.out hk3 (fun b e => (OwnR.lt HO2.out b e).1)
   clear ho3 hk3
   go_wp2
   go_ret
   exact ⟨_, rfl, by rw [HP.out]; exact HO3.out, HB3.out⟩
end
section
open Go.RowKit Go.Proofs.YtaeflnbjeaoapaaGreatW.PrintLast

attribute [local go_sem high] eqPt eqSg
theorem at_some {m : Msh} {p : Pt} {d : Cor} (h : atZ m p = some d) : d.p = p ∧ (m.filter (endE p)).length = 2 := by
 unfold atZ at h
 split at h
 ·rename_i h2
  injection h with h
  exact ⟨by rw [← h]; rfl, h2⟩
 ·cases h
theorem remov_atC {m : Msh} {p : Pt} {d : Cor} (h : removZ m p = some d) : atZ m p = some d := by
 unfold removZ at h
 split at h
 ·cases h
 ·rename_i c hc
  split at h
  ·cases h
  ·split at h
   ·cases h
   ·injection h with h
    rw [← h]; exact hc
theorem rest_len (m : Msh) (p : Pt) : (m.filter (endE p)).length + (restZ m p).length = m.length := by
 unfold restZ
 induction m with
 | nil => rfl
 | cons e m ih => cases h : endE p e <;> simp [h] <;> omega
theorem remov_cut {m : Msh} {p : Pt} {d : Cor} (h : removZ m p = some d) : (restZ m d.p).length + 1 ≤ m.length := by
 obtain ⟨e, h2⟩ := at_some (remov_atC h)
 have := rest_len m p
 rw [e]; omega
theorem best_snoc (m : Msh) (limit : Int) (ps : Pts) (k : Nat) (hk : k < ps.length) : (ps.take (k + 1)).foldl (bestF m limit) none = bestF m limit ((ps.take k).foldl (bestF m limit) none) (ptD ps k) := by
 rw [take_snoc ps k (0, 0) hk, List.foldl_append]; rfl
theorem bestF_from {m : Msh} {limit : Int} {b : Option Cor} {p : Pt} (hb : ∀ d, b = some d → ∃ q, removZ m q = some d) : ∀ d, bestF m limit b p = some d → ∃ q, removZ m q = some d := by
 intro d h
 unfold bestF at h
 split at h
 ·exact hb d h
 ·rename_i c hc
  split at h
  ·split at h
   ·injection h with h; exact ⟨p, h ▸ hc⟩
   ·split at h
    ·injection h with h; exact ⟨p, h ▸ hc⟩
    ·exact hb d h
  ·exact hb d h
theorem Own1.row_at {α : Type} {T : Ty α} {e : TypeId} {base : Nat} {w : World} {v : Value} {xs : List α} (hf : ∀ (ok ok' : Nat → Prop) (w w' : World) (x : α) (cs : List Value), T.R ok w x cs → T.R ok' w' x cs) (h : Own1 T e base w v xs) (ok : Nat → Prop) (hok : ∀ b, v.ownBlock = some b → ok b) :
  ∃ A c, v = .slice A xs.length c ∧ xs.length ≤ c ∧ Row T ok w A xs := by
 obtain ⟨h0, inner, h1, hr⟩ := h
 have h' : OwnR T e base (fun _ => True) w v xs := ⟨fun _ _ => trivial, inner, h1, hr.imp (fun x c hc => hf _ _ _ _ _ _ hc)⟩
 obtain ⟨A, c, e, hl, hrow, _⟩ := OwnR.reads h'
 exact ⟨A, c, e, hl, hrow.mono (fun k hk => hk.elim (fun h => absurd trivial h) (fun h => hok k h))⟩
/-- The best corner so far, in its variable. -/
def BestR (g : Nat) (w : World) (d : Cor) : Prop := ∃ LA ln RA rn, w.heap[g]? = some (.cells #[.int .i64 d.u.1, .int .i64 d.u.2, .int .i64 d.p.1, .int .i64 d.p.2, .int .i64 d.w.1, .int .i64 d.w.2, .int .i64 d.size, .slice LA d.left.length ln, .slice RA d.right.length rn, .bool d.smooth] 41 (0, 0)) ∧ d.left.length ≤ ln ∧ Row Ty.i64 (fun k => ¬ k = g) w LA d.left ∧ d.right.length ≤ rn ∧ Row Ty.i64 (fun k => ¬ k = g) w RA d.right
theorem BestR.below {g : Nat} {w w' : World} {d : Cor} (h : BestR g w d) (hb : Below w.heap.size w w') : BestR g w' d := by
 obtain ⟨LA, ln, RA, rn, h1, h2, h3, h4, h5⟩ := h
 exact ⟨LA, ln, RA, rn, blk_below h1 hb, h2, h3.below hb, h4, h5.below hb⟩
def StepR (w : World) (e : Ending) (A : Option Addr) (n c : Nat) (m : Msh) : Option Cor → Prop
 | none => e = .returned (.tuple #[.slice A n c, .bool false])
 | some d => ∃ A' c', e = .returned (.tuple #[.slice A' (withoutZ m d).length c', .bool true]) ∧ Row Ty.edge (fun _ => True) w A' (withoutZ m d)
set_option maxRecDepth 100000 in
set_option maxHeartbeats 4000000 in
theorem simplify_step {ok : Nat → Prop} (m : Msh) (A : Option Addr) (n c : Nat) (limit : Int) (w : World) (hr : Row Ty.edge ok w A m) (hn : n = m.length) (hlen : m.length ≤ 1000000) :
  Calls Tryz.prog 17 #[.slice A n c, .int .i64 limit] w fun e w' => StepR w' e A n c m (bestZ m limit) ∧ Below w.heap.size w w' := by
 subst hn
 have HR := Lib.hid hr.bnd'
 have hmx := hr.len
 clear hr
 have HBZ : Hid (bestZ m limit = (pointsZ m).foldl (bestF m limit) none) := rfl
 obtain ⟨W0, hW0⟩ : ∃ W0, W0 = w.alloc (.cells #[.int .i64 0, .int .i64 0, .int .i64 0, .int .i64 0, .int .i64 0, .int .i64 0, .int .i64 0, .slice none 0 0, .slice none 0 0, .bool false] 41) := ⟨_, rfl⟩
 have hZ : W0.heap[w.heap.size]? = some (.cells #[.int .i64 0, .int .i64 0, .int .i64 0, .int .i64 0, .int .i64 0, .int .i64 0, .int .i64 0, .slice none 0 0, .slice none 0 0, .bool false] 41 (0, 0)) := by rw [hW0]; exact heap_alloc_new _ _
 have B0 : Below w.heap.size w W0 := by rw [hW0]; exact bq
 have HR0 := HR.out.below B0
 go_enter Tryz.func17, Tryz.ntmps17
 go_wp2_with fail
 rw [← hW0]
 clear hW0
 refine (simplify_points m A m.length c W0 HR0 rfl hlen).mono ?_
 rintro e w1 ⟨v, rfl, HO, hb1⟩
 have hz1 := lt_of_block hZ
 obtain ⟨Ap, cp, rfl, _, hrp⟩ := Own1.row_at pt_flat HO (fun k => ¬ k = w.heap.size) (fun b hb => by have := (OwnR.lt HO b hb).1; omega)
 have hszp := hrp.len
 have HPr : Hid (Row Ty.pt (fun k => ¬ k = w.heap.size) w1 Ap (pointsZ m)) := Lib.hid hrp
 have HR1 := Lib.hid (HR0.below hb1)
 have hs1 := hb1.size
 have B1 : Hid (Below w.heap.size w w1) := Lib.hid (below_step B0 hb1)
 have HB1 : Hid (BestR w.heap.size w1 cor0) := Lib.hid ⟨none, 0, none, 0, blk_below hZ hb1, Nat.le_refl _, Row.nil _ _ _ _, Nat.le_refl _, Row.nil _ _ _ _⟩
 clear HO hrp HR0 B0 hb1 hZ HR
 generalize pointsZ m = ps at *
 go_wp2
 go_loopw [7, 15] (fun f i wr => ∃ (k : Nat) (b : Bool) (d : Cor), k ≤ ps.length ∧ i = .int .i64 k ∧ f = .bool b ∧ Hid (KeptS (fun k => k = w.heap.size) w1 wr) ∧ Hid (BestR w.heap.size wr d) ∧ Hid ((ps.take k).foldl (bestF m limit) none = if b then some d else none) ∧ Hid (∀ q, (ps.take k).foldl (bestF m limit) none = some q → ∃ p, removZ m p = some q)) (fun _ i _ => ps.length - (intOf i).toNat)
 case atStart => exact ⟨0, false, cor0, Nat.zero_le _, rfl, rfl, kept_refl _ _, HB1, by simp [Hid], Lib.hid (fun q h => by simp at h)⟩
 case round =>
  obtain ⟨k, b, d, hk, rfl, rfl, HK, HB, HF, HM⟩ := hrel
  have hsr := HK.out.size
  obtain ⟨LA, ln, RA, rn, hbk, hll, hlr, hrl, hrr⟩ := HB.out
  have HLR := Lib.hid hlr
  have HRRr := Lib.hid hrr
  clear hlr hrr
  by_cases hlt : k < ps.length
  ·have HFS := Lib.hid (best_snoc m limit ps k hlt)
   obtain ⟨ad, rfl, hc1, hc2⟩ := ((HPr.out).step (fun j hj hl => HK.out.block j hl hj)).pt_at k hlt
   have HMS : Hid (∀ q, (ps.take (k + 1)).foldl (bestF m limit) none = some q → ∃ p, removZ m p = some q) := Lib.hid (fun q h => bestF_from HM.out q (HFS.out ▸ h))
   generalize ptD ps k = pk at *
   obtain ⟨x1, x2⟩ := pk
   simp only at hc1 hc2
   have HRr : Hid (Row Ty.edge (fun k => k < w.heap.size) wr A m) := Lib.hid ((HR1.out.mono (fun _ h => h)).step (fun j hj hl => HK.out.block j hl (fun e : j = w.heap.size => by omega)))
   have CR := Lib.hid (fun W (hb : Below wr.heap.size wr W) => simplify_removable m A m.length c x1 x2 W (HRr.out.below hb) rfl hlen)
   go_wp2_with fail
   refine (CR.out _ (below_alloc (Below.refl _ _) _)).mono ?_
   rintro e w2 ⟨hA, hb2⟩
   have hgr := lt_of_block hbk
   have hb2b : Below wr.heap.size wr w2 := (by repeat (first | exact Below.refl _ _ | apply below_alloc | apply below_drewN | apply below_drew | (refine below_set2 ?_ ?_; (first | (simp; done) | (simp; omega))) | (refine below_step ?_ hb2)))
   have hs2 := hb2b.size
   have hbk2 := blk_below hbk hb2b
   clear hc1 hc2
   cases ha : removZ m (x1, x2) with
   | none =>
    rw [ha] at hA
    obtain rfl : e = _ := hA
    have HFx : Hid ((ps.take (k + 1)).foldl (bestF m limit) none = if b then some d else none) := Lib.hid (HFS.out.trans (by rw [HF.out]; unfold bestF; rw [ha]))
    clear HM ha HFS HF hb2
    go_wp2
    go_roundw
    case rel => exact ⟨k + 1, b, d, by omega, by go_num, rfl, Lib.hid (kept_below HK.out (below_alloc hb2b _)), Lib.hid ⟨LA, ln, RA, rn, blk_alloc hbk2 _, hll, (HLR.out.below hb2b).alloc _, hrl, (HRRr.out.below hb2b).alloc _⟩, HFx, HMS⟩
    case measure => simp [intOf]; omega
   | some cr =>
    rw [ha] at hA
    obtain ⟨v, rfl, CA, cn, DA, dn, rfl, hcl, hcr, hdl, hdr⟩ := hA
    have HCR : Hid (Row Ty.i64 (fun k => ¬ k = w.heap.size) w2 CA cr.left) := Lib.hid (hcr.mono (fun j hj e => by simp at hj; omega))
    have HDR : Hid (Row Ty.i64 (fun k => ¬ k = w.heap.size) w2 DA cr.right) := Lib.hid (hdr.mono (fun j hj e => by simp at hj; omega))
    clear hcr hdr hb2
    have HBF : Hid ((ps.take (k + 1)).foldl (bestF m limit) none = if cr.size ≤ limit then (if b then (if cr.size < d.size then some cr else some d) else some cr) else (if b then some d else none)) := Lib.hid (HFS.out.trans (by rw [HF.out]; unfold bestF; rw [ha]; cases b <;> simp))
    clear HM ha HFS HF
    obtain ⟨W3, hW3⟩ : ∃ W3, W3 = w2.alloc (.cells #[.int .i64 cr.u.1, .int .i64 cr.u.2, .int .i64 cr.p.1, .int .i64 cr.p.2, .int .i64 cr.w.1, .int .i64 cr.w.2, .int .i64 cr.size, .slice CA cr.left.length cn, .slice DA cr.right.length dn, .bool cr.smooth] 41) := ⟨_, rfl⟩
    have hbW : Below w2.heap.size w2 W3 := by rw [hW3]; exact bq
    have hck : W3.heap[w2.heap.size]? = some (.cells #[.int .i64 cr.u.1, .int .i64 cr.u.2, .int .i64 cr.p.1, .int .i64 cr.p.2, .int .i64 cr.w.1, .int .i64 cr.w.2, .int .i64 cr.size, .slice CA cr.left.length cn, .slice DA cr.right.length dn, .bool cr.smooth] 41 (0, 0)) := by rw [hW3]; exact heap_alloc_new _ _
    have hbk3 := blk_below hbk2 hbW
    have B3 : Below wr.heap.size wr W3 := below_step hb2b hbW
    have HL3 := Lib.hid (HLR.out.below B3)
    have HR3 := Lib.hid (HRRr.out.below B3)
    have HC3 := Lib.hid (HCR.out.below hbW)
    have HD3 := Lib.hid (HDR.out.below hbW)
    have hl3 := lt_of_block hck
    have K3 := Lib.hid (kept_below HK.out B3)
    clear HLR HRRr HCR HDR hb2b hbk hbk2 hbW B3 CR HK HB
    subst hW3
    by_cases hle : cr.size ≤ limit
    ·have g1 : decide (cr.size ≤ limit) = true := decide_eq_true hle
     cases b
     ·have HFx : Hid ((ps.take (k + 1)).foldl (bestF m limit) none = some cr) := Lib.hid (HBF.out.trans (by rw [if_pos hle]; rfl))
      clear HBF hle
      have dk0 := blk_cell hbk3 0 rfl
      have dk1 := blk_cell hbk3 1 rfl
      have dk2 := blk_cell hbk3 2 rfl
      have dk3 := blk_cell hbk3 3 rfl
      have dk4 := blk_cell hbk3 4 rfl
      have dk5 := blk_cell hbk3 5 rfl
      have dk6 := blk_cell hbk3 6 rfl
      have dk7 := blk_cell hbk3 7 rfl
      have dk8 := blk_cell hbk3 8 rfl
      have dk9 := blk_cell hbk3 9 rfl
      have df0 := blk_free hbk3 0
      have df1 := blk_free hbk3 1
      have df2 := blk_free hbk3 2
      have df3 := blk_free hbk3 3
      have df4 := blk_free hbk3 4
      have df5 := blk_free hbk3 5
      have df6 := blk_free hbk3 6
      have df7 := blk_free hbk3 7
      have df8 := blk_free hbk3 8
      have df9 := blk_free hbk3 9
      have ck0 := blk_cell hck 0 rfl
      have ck1 := blk_cell hck 1 rfl
      have ck2 := blk_cell hck 2 rfl
      have ck3 := blk_cell hck 3 rfl
      have ck4 := blk_cell hck 4 rfl
      have ck5 := blk_cell hck 5 rfl
      have ck6 := blk_cell hck 6 rfl
      have ck7 := blk_cell hck 7 rfl
      have ck8 := blk_cell hck 8 rfl
      have ck9 := blk_cell hck 9 rfl
      go_wp2
      obtain ⟨WF, hWF⟩ : ∃ WF, WF = (((((((((((w2.alloc (.cells #[.int .i64 cr.u.1, .int .i64 cr.u.2, .int .i64 cr.p.1, .int .i64 cr.p.2, .int .i64 cr.w.1, .int .i64 cr.w.2, .int .i64 cr.size, .slice CA cr.left.length cn, .slice DA cr.right.length dn, .bool cr.smooth] 41)).setCell ⟨w.heap.size, 0, none⟩ (.int .i64 cr.u.1)).setCell ⟨w.heap.size, 1, none⟩ (.int .i64 cr.u.2)).setCell ⟨w.heap.size, 2, none⟩ (.int .i64 cr.p.1)).setCell ⟨w.heap.size, 3, none⟩ (.int .i64 cr.p.2)).setCell ⟨w.heap.size, 4, none⟩ (.int .i64 cr.w.1)).setCell ⟨w.heap.size, 5, none⟩ (.int .i64 cr.w.2)).setCell ⟨w.heap.size, 6, none⟩ (.int .i64 cr.size)).setCell ⟨w.heap.size, 7, none⟩ (.slice CA cr.left.length cn)).setCell ⟨w.heap.size, 8, none⟩ (.slice DA cr.right.length dn)).setCell ⟨w.heap.size, 9, none⟩ (.bool cr.smooth)) := ⟨_, rfl⟩
      have KF : KeptS (fun k => k = w.heap.size) (w2.alloc (.cells #[.int .i64 cr.u.1, .int .i64 cr.u.2, .int .i64 cr.p.1, .int .i64 cr.p.2, .int .i64 cr.w.1, .int .i64 cr.w.2, .int .i64 cr.size, .slice CA cr.left.length cn, .slice DA cr.right.length dn, .bool cr.smooth] 41)) WF := by rw [hWF]; exact (kept_set rfl (kept_set rfl (kept_set rfl (kept_set rfl (kept_set rfl (kept_set rfl (kept_set rfl (kept_set rfl (kept_set rfl (kept_set rfl (kept_refl _ _)))))))))))
      have hF := (blk_set (i := 9) (blk_set (i := 8) (blk_set (i := 7) (blk_set (i := 6) (blk_set (i := 5) (blk_set (i := 4) (blk_set (i := 3) (blk_set (i := 2) (blk_set (i := 1) (blk_set (i := 0) hbk3 (.int .i64 cr.u.1)) (.int .i64 cr.u.2)) (.int .i64 cr.p.1)) (.int .i64 cr.p.2)) (.int .i64 cr.w.1)) (.int .i64 cr.w.2)) (.int .i64 cr.size)) (.slice CA cr.left.length cn)) (.slice DA cr.right.length dn)) (.bool cr.smooth))
      simp only [List.setIfInBounds_toArray, List.set_cons_zero, List.set_cons_succ] at hF
      rw [← hWF] at hF ⊢
      have HCF := Lib.hid (HC3.out.step (fun j hj hl => KF.block j hl hj))
      have HDF := Lib.hid (HD3.out.step (fun j hj hl => KF.block j hl hj))
      have KFF := Lib.hid (kept_step K3.out KF)
      clear hWF KF hck hbk3 HL3 HR3 HC3 HD3 K3 dk0 df0 ck0 dk1 df1 ck1 dk2 df2 ck2 dk3 df3 ck3 dk4 df4 ck4 dk5 df5 ck5 dk6 df6 ck6 dk7 df7 ck7 dk8 df8 ck8 dk9 df9 ck9
      go_roundw
      case rel => exact ⟨k + 1, true, cr, by omega, by go_num, rfl, KFF, Lib.hid ⟨CA, cn, DA, dn, hF, hcl, HCF.out, hdl, HDF.out⟩, HFx, HMS⟩
      case measure => simp [intOf]; omega
     ·by_cases hls : cr.size < d.size
      ·have g2 : decide (cr.size < d.size) = true := decide_eq_true hls
       have HFx : Hid ((ps.take (k + 1)).foldl (bestF m limit) none = some cr) := Lib.hid (HBF.out.trans (by rw [if_pos hle, if_pos rfl, if_pos hls]))
       clear HBF hle hls
       have dk0 := blk_cell hbk3 0 rfl
       have dk1 := blk_cell hbk3 1 rfl
       have dk2 := blk_cell hbk3 2 rfl
       have dk3 := blk_cell hbk3 3 rfl
       have dk4 := blk_cell hbk3 4 rfl
       have dk5 := blk_cell hbk3 5 rfl
       have dk6 := blk_cell hbk3 6 rfl
       have dk7 := blk_cell hbk3 7 rfl
       have dk8 := blk_cell hbk3 8 rfl
       have dk9 := blk_cell hbk3 9 rfl
       have df0 := blk_free hbk3 0
       have df1 := blk_free hbk3 1
       have df2 := blk_free hbk3 2
       have df3 := blk_free hbk3 3
       have df4 := blk_free hbk3 4
       have df5 := blk_free hbk3 5
       have df6 := blk_free hbk3 6
       have df7 := blk_free hbk3 7
       have df8 := blk_free hbk3 8
       have df9 := blk_free hbk3 9
       have ck0 := blk_cell hck 0 rfl
       have ck1 := blk_cell hck 1 rfl
       have ck2 := blk_cell hck 2 rfl
       have ck3 := blk_cell hck 3 rfl
       have ck4 := blk_cell hck 4 rfl
       have ck5 := blk_cell hck 5 rfl
       have ck6 := blk_cell hck 6 rfl
       have ck7 := blk_cell hck 7 rfl
       have ck8 := blk_cell hck 8 rfl
       have ck9 := blk_cell hck 9 rfl
       go_wp2
       obtain ⟨WF, hWF⟩ : ∃ WF, WF = (((((((((((w2.alloc (.cells #[.int .i64 cr.u.1, .int .i64 cr.u.2, .int .i64 cr.p.1, .int .i64 cr.p.2, .int .i64 cr.w.1, .int .i64 cr.w.2, .int .i64 cr.size, .slice CA cr.left.length cn, .slice DA cr.right.length dn, .bool cr.smooth] 41)).setCell ⟨w.heap.size, 0, none⟩ (.int .i64 cr.u.1)).setCell ⟨w.heap.size, 1, none⟩ (.int .i64 cr.u.2)).setCell ⟨w.heap.size, 2, none⟩ (.int .i64 cr.p.1)).setCell ⟨w.heap.size, 3, none⟩ (.int .i64 cr.p.2)).setCell ⟨w.heap.size, 4, none⟩ (.int .i64 cr.w.1)).setCell ⟨w.heap.size, 5, none⟩ (.int .i64 cr.w.2)).setCell ⟨w.heap.size, 6, none⟩ (.int .i64 cr.size)).setCell ⟨w.heap.size, 7, none⟩ (.slice CA cr.left.length cn)).setCell ⟨w.heap.size, 8, none⟩ (.slice DA cr.right.length dn)).setCell ⟨w.heap.size, 9, none⟩ (.bool cr.smooth)) := ⟨_, rfl⟩
       have KF : KeptS (fun k => k = w.heap.size) (w2.alloc (.cells #[.int .i64 cr.u.1, .int .i64 cr.u.2, .int .i64 cr.p.1, .int .i64 cr.p.2, .int .i64 cr.w.1, .int .i64 cr.w.2, .int .i64 cr.size, .slice CA cr.left.length cn, .slice DA cr.right.length dn, .bool cr.smooth] 41)) WF := by rw [hWF]; exact (kept_set rfl (kept_set rfl (kept_set rfl (kept_set rfl (kept_set rfl (kept_set rfl (kept_set rfl (kept_set rfl (kept_set rfl (kept_set rfl (kept_refl _ _)))))))))))
       have hF := (blk_set (i := 9) (blk_set (i := 8) (blk_set (i := 7) (blk_set (i := 6) (blk_set (i := 5) (blk_set (i := 4) (blk_set (i := 3) (blk_set (i := 2) (blk_set (i := 1) (blk_set (i := 0) hbk3 (.int .i64 cr.u.1)) (.int .i64 cr.u.2)) (.int .i64 cr.p.1)) (.int .i64 cr.p.2)) (.int .i64 cr.w.1)) (.int .i64 cr.w.2)) (.int .i64 cr.size)) (.slice CA cr.left.length cn)) (.slice DA cr.right.length dn)) (.bool cr.smooth))
       simp only [List.setIfInBounds_toArray, List.set_cons_zero, List.set_cons_succ] at hF
       rw [← hWF] at hF ⊢
       have HCF := Lib.hid (HC3.out.step (fun j hj hl => KF.block j hl hj))
       have HDF := Lib.hid (HD3.out.step (fun j hj hl => KF.block j hl hj))
       have KFF := Lib.hid (kept_step K3.out KF)
       clear hWF KF hck hbk3 HL3 HR3 HC3 HD3 K3 dk0 df0 ck0 dk1 df1 ck1 dk2 df2 ck2 dk3 df3 ck3 dk4 df4 ck4 dk5 df5 ck5 dk6 df6 ck6 dk7 df7 ck7 dk8 df8 ck8 dk9 df9 ck9
       go_roundw
       case rel => exact ⟨k + 1, true, cr, by omega, by go_num, rfl, KFF, Lib.hid ⟨CA, cn, DA, dn, hF, hcl, HCF.out, hdl, HDF.out⟩, HFx, HMS⟩
       case measure => simp [intOf]; omega
      ·have g2 : decide (cr.size < d.size) = false := decide_eq_false hls
       have HFx : Hid ((ps.take (k + 1)).foldl (bestF m limit) none = some d) := Lib.hid (HBF.out.trans (by rw [if_pos hle, if_pos rfl, if_neg hls]))
       clear HBF hle hls
       have dk6 := blk_cell hbk3 6 rfl
       have ck6 := blk_cell hck 6 rfl
       go_wp2
       go_roundw
       case rel => exact ⟨k + 1, true, d, by omega, by go_num, rfl, K3, Lib.hid ⟨LA, ln, RA, rn, hbk3, hll, HL3.out, hrl, HR3.out⟩, HFx, HMS⟩
       case measure => simp [intOf]; omega
    ·have g1 : decide (cr.size ≤ limit) = false := decide_eq_false hle
     have HFx : Hid ((ps.take (k + 1)).foldl (bestF m limit) none = if b then some d else none) := Lib.hid (HBF.out.trans (by rw [if_neg hle]))
     clear HBF hle
     have ck6 := blk_cell hck 6 rfl
     go_wp2
     go_roundw
     case rel => exact ⟨k + 1, b, d, by omega, by go_num, rfl, K3, Lib.hid ⟨LA, ln, RA, rn, hbk3, hll, HL3.out, hrl, HR3.out⟩, HFx, HMS⟩
     case measure => simp [intOf]; omega
  ·obtain rfl : k = ps.length := by omega
   have HE : Hid (bestZ m limit = if b then some d else none) := Lib.hid (HBZ.out.trans (by have := HF.out; rwa [List.take_length] at this))
   have HMM : Hid (∀ q, bestZ m limit = some q → ∃ p, removZ m p = some q) := Lib.hid (fun q h => by have := HM.out; rw [List.take_length, ← HBZ.out] at this; exact this q h)
   clear HF HM HBZ
   have BW : Hid (Below w.heap.size w wr) := Lib.hid (below_kept B1.out HK.out (fun b hb => by omega))
   cases b
   ·go_wp2
    go_ret2
    exact ⟨by rw [HE.out]; rfl, BW.out⟩
   ·obtain ⟨pp, hpp⟩ := HMM.out d (by rw [HE.out]; rfl)
    have hcut := remov_cut hpp
    clear hpp HMM
    have dk0 := blk_cell hbk 0 rfl
    have dk1 := blk_cell hbk 1 rfl
    have dk2 := blk_cell hbk 2 rfl
    have dk3 := blk_cell hbk 3 rfl
    have dk4 := blk_cell hbk 4 rfl
    have dk5 := blk_cell hbk 5 rfl
    have dk6 := blk_cell hbk 6 rfl
    have dk7 := blk_cell hbk 7 rfl
    have dk8 := blk_cell hbk 8 rfl
    have dk9 := blk_cell hbk 9 rfl
    have HRr : Row Ty.edge (fun k => k < w.heap.size) wr A m := (HR1.out.mono (fun _ h => h)).step (fun j hj hl => HK.out.block j hl (fun e : j = w.heap.size => by omega))
    obtain ⟨⟨u1, u2⟩, ⟨c1, c2⟩, ⟨q1, q2⟩, sz, l, r, sm⟩ := d
    simp only at hll hrl hcut HLR HRRr dk0 dk1 dk2 dk3 dk4 dk5 dk6 dk7 dk8 dk9
    have CW := Lib.hid (simplify_without m A m.length c u1 u2 c1 c2 q1 q2 sz l r sm LA RA ln rn wr HRr rfl hlen hll HLR.out hrl HRRr.out hcut)
    clear HRr HB hbk
    go_wp2_with fail
    refine CW.out.mono ?_
    rintro e w5 ⟨A5, c5, rfl, hr5, hb5⟩
    have HR5 := Lib.hid hr5
    clear hr5
    go_wp2
    go_ret2
    exact ⟨by rw [HE.out]; exact ⟨A5, c5, rfl, HR5.out⟩, below_step BW.out hb5⟩
end
section
open Go.RowKit Go.Proofs.YtaeflnbjeaoapaaGreatW.PrintLast

abbrev Ty.segs : Ty Sgs := Ty.slice Ty.sg
def ssD (l : List Sgs) (k : Nat) : Sgs := l.getD k []
theorem ssD_eq {l : List Sgs} {k : Nat} (h : k < l.length) : ssD l k = l[k] := by simp [ssD, h]
theorem Row.segs_at {ok : Nat → Prop} {w : World} {A : Option Addr} {l : List Sgs} (h : Row Ty.segs ok w A l) (k : Nat) (hk : k < l.length) :
  ∃ ad B c, A = some ad ∧ w.cell? (ad.add k) = some (.slice B (ssD l k).length c) ∧ (ssD l k).length ≤ c ∧ Row Ty.sg ok w B (ssD l k) := by
 obtain ⟨ad, cs, e, _, ⟨B, c, rfl, hl, hr⟩, hc⟩ := h.get hk
 rw [ssD_eq hk]
 exact ⟨ad, B, c, e, by have := hc.first; rwa [show Ty.segs.sz = 1 from rfl, Nat.mul_one] at this, hl, hr⟩
theorem Reps.set1 {α : Type} {T : Ty α} {ok : Nat → Prop} {w : World} (hsz : T.sz = 1) : ∀ {xs : List α} {cs : List Value} (i : Nat) {y : α} {c : Value}, Reps T ok w xs cs → T.R ok w y [c] → Reps T ok w (xs.set i y) (cs.set i c)
 | [], cs, i, y, c, h, _ => by rw [show cs = [] from h]; rfl
 | x :: xs, cs, 0, y, c, ⟨d, e, he, hd, hr⟩, hy => by
  have := T.len hd
  rw [hsz] at this
  obtain ⟨u, rfl⟩ := List.length_eq_one_iff.1 this
  rw [he]
  exact ⟨[c], e, rfl, hy, hr⟩
 | x :: xs, cs, i + 1, y, c, ⟨d, e, he, hd, hr⟩, hy => by
  have := T.len hd
  rw [hsz] at this
  obtain ⟨u, rfl⟩ := List.length_eq_one_iff.1 this
  rw [he]
  exact ⟨[u], e.set i c, rfl, hd, Reps.set1 hsz i hr hy⟩
/-- A store of a one-cell element into an own row. -/
theorem OwnR.set1 {α : Type} {T : Ty α} {e : TypeId} {base g n c : Nat} {M : Nat → Prop} {w : World} {xs : List α} (hsz : T.sz = 1) (h : OwnR T e base M w (.slice (some ⟨g, 0, none⟩) n c) xs) (hn : n = xs.length) (i : Nat) {y : α} {V : Value} (hV : T.R (fun k => ¬ M k) w y [V]) :
  OwnR T e base M (w.setCell ⟨g, i, none⟩ V) (.slice (some ⟨g, 0, none⟩) n c) (xs.set i y) ∧ KeptS (fun k => k = g) w (w.setCell ⟨g, i, none⟩ V) := by
 subst hn
 obtain ⟨h0, inner, ho, hr⟩ := h
 rw [hsz] at ho
 have hg : M g := h0 g rfl
 have hk : KeptS (fun k => k = g) w (w.setCell ⟨g, i, none⟩ V) := kept_set rfl (kept_refl _ _)
 have step : ∀ {x : α} {d : List Value}, T.R (fun k => ¬ M k) w x d → T.R (fun k => ¬ M k) (w.setCell ⟨g, i, none⟩ V) x d := fun hx => T.step hx (fun k hk' hlt => hk.block k hlt (fun e => hk' (e ▸ hg)))
 exact ⟨⟨h0, inner.set i V, by rw [hsz, List.length_set]; exact (ho.stored i V).1, (hr.imp (fun _ _ hx => step hx)).set1 hsz i (step hV)⟩, hk⟩
theorem infoSegs : (Tryz.prog.info? 46).map (fun i => (i.zero, i.size, i.bytes)) = some (some (.slice none 0 0), 1, 24) := by kernel_rfl
theorem made_segs (w : World) (n : Nat) (hn : n ≤ 1000000) : ∃ W, (Instr.makeSlice 55 (.int .i64 (n : Int)) (.int .i64 (n : Int))).run Tryz.prog w = .ok (.slice (some ⟨w.heap.size, 0, none⟩) n n) W ∧
  OwnR Ty.segs 46 w.heap.size (fun k => k = w.heap.size) W (.slice (some ⟨w.heap.size, 0, none⟩) n n) (List.replicate n []) ∧ Below w.heap.size w W ∧ W.heap.size = w.heap.size + 1 := by
 obtain ⟨i, hi, hzz⟩ := Option.map_eq_some_iff.1 infoSegs
 simp only [Prod.mk.injEq] at hzz
 obtain ⟨hz, hs, hb⟩ := hzz
 have hr := run_make (P := Tryz.prog) w 55 46 i (.slice none 0 0) (by kernel_rfl) hi hz .i64 .i64 n n (by omega) (by omega) (by rw [hb]; omega) (by omega)
 simp only [Int.toNat_natCast, hs, Nat.mul_one] at hr
 refine ⟨_, hr, ?_, bq, by simp⟩
 have hc : (madeCells (Value.slice none 0 0).cells n).toList = List.replicate n (Value.slice none 0 0) := by
  unfold madeCells
  apply List.ext_getElem
  ·simp
  ·intro j h1 h2
   simp [Value.cells, Nat.mod_one]
 refine ⟨fun k hk => by simp [Value.ownBlock] at hk; exact hk.symm, List.replicate n (.slice none 0 0), ⟨by rw [List.length_replicate, List.length_replicate]; exact (Nat.mul_one n).symm, .inr ⟨w.heap.size, n, _, by rw [List.length_replicate], Nat.le_refl _, heap_alloc_new _ _, by rw [List.length_replicate]; exact Nat.le_refl _, by simp only [maxLen]; omega, by rw [size_madeCells]; exact (Nat.mul_one n).symm, ?_⟩⟩, ?_⟩
 ·rw [hc, List.length_replicate]
  show (List.replicate n _).take (n * 1) = _
  rw [Nat.mul_one, List.take_replicate, Nat.min_self]
 ·have key : ∀ (m : Nat) (W : World), Reps Ty.segs (fun k => ¬ k = w.heap.size) W (List.replicate m []) (List.replicate m (Value.slice none 0 0)) := by
   intro m W
   induction m with
   | zero => exact rfl
   | succ m ih => exact ⟨[.slice none 0 0], List.replicate m (.slice none 0 0), rfl, ⟨none, 0, rfl, Nat.le_refl _, Row.nil _ _ _ _⟩, ih⟩
  exact key n _
theorem OwnR.baseM {α : Type} {T : Ty α} {e : TypeId} {base base' : Nat} {M : Nat → Prop} {w : World} {v : Value} {xs : List α} (h : OwnR T e base M w v xs) (hb : base' ≤ base) : OwnR T e base' M w v xs := by
 obtain ⟨h0, inner, ⟨h1, h2⟩, hr⟩ := h
 refine ⟨h0, inner, ⟨h1, ?_⟩, hr⟩
 rcases h2 with h2 | ⟨g, cap, cur, rfl, hg, hh, r⟩
 ·exact .inl h2
 ·exact .inr ⟨g, cap, cur, rfl, Nat.le_trans hb hg, hh, r⟩
theorem infoInt : (Tryz.prog.info? 3).map (fun i => (i.zero, i.size, i.bytes)) = some (some (.int .i64 0), 1, 8) := by kernel_rfl
theorem int_flat (ok ok' : Nat → Prop) (w w' : World) (x : Int) (cs : List Value) (h : Ty.i64.R ok w x cs) : Ty.i64.R ok' w' x cs := h
theorem OwnR.rowB {α : Type} {T : Ty α} {e : TypeId} {base : Nat} {M : Nat → Prop} {w : World} {v : Value} {xs : List α} (hf : ∀ (ok ok' : Nat → Prop) (w w' : World) (x : α) (cs : List Value), T.R ok w x cs → T.R ok' w' x cs) (h : OwnR T e base M w v xs) (ok : Nat → Prop) (hok : ∀ b, v.ownBlock = some b → ok b) :
  ∃ A c, v = .slice A xs.length c ∧ xs.length ≤ c ∧ Row T ok w A xs := by
 obtain ⟨h0, inner, h1, hr⟩ := h
 have h' : OwnR T e base (fun _ => True) w v xs := ⟨fun _ _ => trivial, inner, h1, hr.imp (fun x c hc => hf _ _ _ _ _ _ hc)⟩
 obtain ⟨A, c, e, hl, hrow, _⟩ := OwnR.reads h'
 exact ⟨A, c, e, hl, hrow.mono (fun k hk => hk.elim (fun h => absurd trivial h) (fun h => hok k h))⟩
theorem OwnR.blkB {α : Type} {T : Ty α} {e : TypeId} {base g n c : Nat} {M : Nat → Prop} {w : World} {xs : List α} (h : OwnR T e base M w (.slice (some ⟨g, 0, none⟩) n c) xs) : base ≤ g ∧ c ≤ maxLen ∧ M g ∧ ∃ cur, w.heap[g]? = some (.cells cur e (0, 0)) ∧ cur.size = c * T.sz := by
 obtain ⟨h0, inner, ho, hr⟩ := h
 have hg : M g := h0 g rfl
 rcases ho.2 with ⟨h, _⟩ | ⟨g', cap, cur, hv, hb, hh, h1, h2, h3, h4⟩
 ·cases h
 ·injection hv with hv hvn hvc; injection hv with hv; injection hv with hv
  subst hv hvc hvn
  exact ⟨hb, h2, hg, cur, hh, h3⟩
theorem OwnR.apart {α β : Type} {T : Ty α} {U : Ty β} {e e' : TypeId} {base base' : Nat} {M M' : Nat → Prop} {w : World} {v u : Value} {xs : List α} {ys : List β} (h : OwnR T e base M w v xs) (h' : OwnR U e' base' M' w u ys) (hne : e ≠ e') {k : Nat} (hk : v.ownBlock = some k) : u.ownBlock ≠ some k := Own1.apart (Own1.of h) (Own1.of h') hne hk
/-- After an append the other own row of the same set of blocks stands as it was. -/
theorem OwnR.beside {α β : Type} {T : Ty α} {U : Ty β} {e e' : TypeId} {base base' : Nat} {M : Nat → Prop} {w w1 : World} {v v1 u : Value} {xs : List α} {ys : List β} (h : OwnR T e base M w v xs) (hu : OwnR U e' base' M w u ys) (hne : e ≠ e') (hg : w.grownBy w1 v.ownBlock) (hat : v1.ownBlock = v.ownBlock ∨ ∃ b, v1.ownBlock = some b ∧ w.heap.size ≤ b) :
  OwnR U e' base' (fun k => M k ∨ v1.ownBlock = some k) w1 u ys := by
 have h1 : OwnR U e' base' (fun k => M k ∨ v1.ownBlock = some k) w u ys := hu.remut (fun k hk hm => by
  rcases hm with hm | hm
  ·exact hm
  ·rcases hat with hat | ⟨b, hb, hle⟩
   ·exact h.mine k (hat ▸ hm)
   ·rw [hb] at hm; injection hm with hm; omega) (fun k hk => .inl (hu.mine k hk))
 exact h1.kept (S := fun b => v.ownBlock = some b) (kept_grown hg (fun b e => e)) (fun b hb => .inl (h.mine b hb)) (fun b hb => h.apart hu hne |> fun f => fun hs => f hs hb)
end
end Go.Proofs.YtaeflnbjeaoapaaGreat
