/- Words of this session's own: the line of a way, plainly; a line that is being built in memory. -/
import Derived.Test.YtniceoinipffmaaNPm
namespace Go.Proofs.Ytniceoinipffmaa
open Go.RowKit Go.Proofs.YtniceoinipffmaaW.PrintLast
set_option linter.unusedVariables false
set_option linter.unusedSimpArgs false

def stepL (a : Pts × List Int) (p : Pt) (n : Int) : Pts × List Int := if a.1.getLast? = some p then a else (a.1 ++ [p], a.2 ++ [n])
def runL (f : Int → Option Pt) : List Int → Pts × List Int → Option (Pts × List Int)
  | [], a => some a
  | n :: r, a => match f n with
    | none => none
    | some p => runL f r (stepL a p n)
def lineZ (f : Int → Option Pt) (x : Way) : Option Line := match runL f x.2.1 ([], []) with
  | none => none
  | some a => if a.1.length < 2 then none else some (x.1, (a.1, (a.2, x.2.2)))
theorem drop_at (l : List Int) (k : Nat) (hk : k < l.length) : l.drop k = inD l k :: l.drop (k + 1) := by
  rw [List.drop_eq_getElem_cons hk]; simp [inD, hk]
theorem runL_none {f : Int → Option Pt} {l : List Int} {k : Nat} {a : Pts × List Int} {z : Option (Pts × List Int)} (hk : k < l.length) (h : runL f (l.drop k) a = z) (hf : f (inD l k) = none) : z = none := by
  rw [drop_at l k hk] at h; simp only [runL, hf] at h; exact h.symm
theorem runL_some {f : Int → Option Pt} {l : List Int} {k : Nat} {a : Pts × List Int} {z : Option (Pts × List Int)} {p : Pt} (hk : k < l.length) (h : runL f (l.drop k) a = z) (hf : f (inD l k) = some p) : runL f (l.drop (k + 1)) (stepL a p (inD l k)) = z := by
  rw [drop_at l k hk] at h; simp only [runL, hf] at h; exact h
theorem stepL_add {ps : Pts} {is : List Int} {p : Pt} {n : Int} (h : ps.getLast? ≠ some p) : stepL (ps, is) p n = (ps ++ [p], is ++ [n]) := by rw [stepL, if_neg h]
theorem stepL_skip {ps : Pts} {is : List Int} {p : Pt} {n : Int} (h : ps.getLast? = some p) : stepL (ps, is) p n = (ps, is) := by rw [stepL, if_pos h]
theorem last_at {ps : Pts} (h : 0 < ps.length) : ps.getLast? = some (ptD ps (ps.length - 1)) := by
  rw [List.getLast?_eq_getElem?, List.getElem?_eq_getElem (by omega), ptD_eq (by omega)]
theorem lineZ_none {f : Int → Option Pt} {x : Way} (h : runL f x.2.1 ([], []) = none) : lineZ f x = none := by rw [lineZ, h]
theorem lineZ_short {f : Int → Option Pt} {x : Way} {a : Pts × List Int} (h : some a = runL f x.2.1 ([], [])) (h2 : a.1.length < 2) : lineZ f x = none := by rw [lineZ, ← h]; simp only; rw [if_pos h2]
theorem lineZ_long {f : Int → Option Pt} {x : Way} {a : Pts × List Int} (h : some a = runL f x.2.1 ([], [])) (h2 : ¬ a.1.length < 2) : lineZ f x = some (x.1, (a.1, (a.2, x.2.2))) := by rw [lineZ, ← h]; simp only; rw [if_neg h2]

section
variable {α : Type} {T : Ty α} {e : TypeId} {base : Nat} {w w' : World} {v : Value} {xs : List α}
theorem Own1.flat_kept {S : Nat → Prop} (hf : ∀ (ok ok' : Nat → Prop) (w w' : World) (x : α) (cs : List Value), T.R ok w x cs → T.R ok' w' x cs) (h : Own1 T e base w v xs) (k : KeptS S w w') (hv : ∀ b, v.ownBlock = some b → ¬ S b) : Own1 T e base w' v xs := by
  obtain ⟨h0, inner, ⟨h1, h2⟩, hr⟩ := h
  refine ⟨h0, inner, ⟨h1, ?_⟩, hr.imp (fun x c hc => hf _ _ _ _ _ _ hc)⟩
  rcases h2 with h2 | ⟨g, cap, cur, rfl, hg, hh, r⟩
  · exact .inl h2
  · exact .inr ⟨g, cap, cur, rfl, hg, (k.block g (lt_of_block hh) (hv g rfl)).trans hh, r⟩
/-- Own rows of different element types lie in different blocks. -/
theorem Own1.apart {β : Type} {U : Ty β} {e' : TypeId} {base' : Nat} {u : Value} {ys : List β} (h : Own1 T e base w v xs) (h' : Own1 U e' base' w u ys) (hne : e ≠ e') {k : Nat} (hk : v.ownBlock = some k) : u.ownBlock ≠ some k := by
  intro hk'
  obtain ⟨_, _, ⟨_, h2⟩, _⟩ := h
  obtain ⟨_, _, ⟨_, h2'⟩, _⟩ := h'
  rcases h2 with ⟨rfl, _⟩ | ⟨g, cap, cur, rfl, _, hh, _⟩
  · cases hk
  rcases h2' with ⟨rfl, _⟩ | ⟨g', cap', cur', rfl, _, hh', _⟩
  · cases hk'
  cases hk
  cases hk'
  rw [hh] at hh'
  injection hh' with hh'
  injection hh' with _ hh'
  exact hne hh'
end
theorem pt_flat (ok ok' : Nat → Prop) (w w' : World) (x : Pt) (cs : List Value) (h : Ty.pt.R ok w x cs) : Ty.pt.R ok' w' x cs := h
theorem int_flat (ok ok' : Nat → Prop) (w w' : World) (x : Int) (cs : List Value) (h : Ty.i64.R ok w x cs) : Ty.i64.R ok' w' x cs := h
theorem blk_set {w : World} {g i : Nat} {cs : Array Value} {t : TypeId} (h : w.heap[g]? = some (.cells cs t (0, 0))) (v : Value) : (w.setCell ⟨g, i, none⟩ v).heap[g]? = some (.cells (cs.setIfInBounds i v) t (0, 0)) := by
  have hlt : g < w.heap.size := (Array.getElem?_eq_some_iff.1 h).1
  have hv : w.heap[g] = .cells cs t (0, 0) := (Array.getElem?_eq_some_iff.1 h).2
  unfold World.setCell
  rw [Array.getElem?_eq_getElem (by simpa using hlt), Array.getElem_modify]
  simp [hv]
/-- A line that is being built: a block of zeros, a block of the line, rows of its own. -/
structure LS (W0 : World) (hd tl : Value) (W : World) (vp vi : Value) (ps : Pts) (is : List Int) : Prop where
  below : Below W0.heap.size W0 W
  zero : W.heap[W0.heap.size]? = some (.cells #[.int .i64 0, .slice none 0 0, .slice none 0 0, .slice none 0 0] 42 (0, 0))
  blk : W.heap[W0.heap.size + 1]? = some (.cells #[hd, vp, vi, tl] 42 (0, 0))
  op : Own1 Ty.pt 44 (W0.heap.size + 2) W vp ps
  oi : Own1 Ty.i64 3 (W0.heap.size + 2) W vi is
section
variable {W0 W w1 : World} {hd tl vp vi v1 : Value} {ps : Pts} {is : List Int}
theorem LS.start (W0 : World) (hd tl : Value) : LS W0 hd tl ((W0.alloc (.cells #[.int .i64 0, .slice none 0 0, .slice none 0 0, .slice none 0 0] 42)).alloc (.cells #[hd, .slice none 0 0, .slice none 0 0, tl] 42)) (.slice none 0 0) (.slice none 0 0) [] [] where
  below := (by repeat (first | exact Below.refl _ _ | apply below_alloc | apply below_drewN | apply below_drew | (refine below_set2 ?_ ?_; (first | (simp; done) | (simp; omega)))))
  zero := by rw [Below.heap_alloc _ _ _ (by simp)]; exact heap_alloc_new _ _
  blk := by have := heap_alloc_new (W0.alloc (.cells #[.int .i64 0, .slice none 0 0, .slice none 0 0, .slice none 0 0] 42)) (.cells #[hd, .slice none 0 0, .slice none 0 0, tl] 42); simpa using this
  op := OwnR.nil _ _ _ _ _
  oi := OwnR.nil _ _ _ _ _
theorem LS.step (h : LS W0 hd tl W vp vi ps is) (hb : Below W.heap.size W w1) : LS W0 hd tl w1 vp vi ps is where
  below := below_step h.below hb
  zero := (hb.block _ (lt_of_block h.zero)).trans h.zero
  blk := (hb.block _ (lt_of_block h.blk)).trans h.blk
  op := h.op.below hb
  oi := h.oi.below hb
theorem LS.atP (h : LS W0 hd tl W vp vi ps is) (hg : W.grownBy w1 vp.ownBlock) : w1.heap[W0.heap.size + 1]? = some (.cells #[hd, vp, vi, tl] 42 (0, 0)) :=
  (hg.block _ (lt_of_block h.blk) (fun e => by have := (OwnR.lt h.op _ e.symm).1; omega)).trans h.blk
theorem LS.atI (h : LS W0 hd tl W vp vi ps is) (hg : W.grownBy w1 vi.ownBlock) : w1.heap[W0.heap.size + 1]? = some (.cells #[hd, vp, vi, tl] 42 (0, 0)) :=
  (hg.block _ (lt_of_block h.blk) (fun e => by have := (OwnR.lt h.oi _ e.symm).1; omega)).trans h.blk
theorem LS.pushP (h : LS W0 hd tl W vp vi ps is) {M : Nat → Prop} {p : Pt} (HO : OwnR Ty.pt 44 (W0.heap.size + 2) M w1 v1 (ps ++ [p])) (hg : W.grownBy w1 vp.ownBlock) : LS W0 hd tl (w1.setCell ⟨W0.heap.size + 1, 1, none⟩ v1) v1 vi (ps ++ [p]) is where
  below := below_set2 (by simp) (below_own h.below hg (fun k e => by have := (OwnR.lt h.op k e).1; omega))
  zero := (Below.heap_setCell w1 _ v1 _ (by simp)).trans ((hg.block _ (lt_of_block h.zero) (fun e => by have := (OwnR.lt h.op _ e.symm).1; omega)).trans h.zero)
  blk := blk_set (h.atP hg) v1
  op := Own1.flat_kept pt_flat (Own1.of HO) (S := fun k => k = W0.heap.size + 1) (kept_set rfl (kept_refl _ _)) (fun b hb e => by have := (OwnR.lt HO b hb).1; omega)
  oi := Own1.flat_kept int_flat h.oi (S := fun k => vp.ownBlock = some k ∨ k = W0.heap.size + 1) (kept_set (.inr rfl) (kept_grown hg (fun b e => .inl e))) (fun b hb e => by
    rcases e with e | e
    · exact h.oi.apart h.op (by decide) hb e
    · have := (OwnR.lt h.oi b hb).1; omega)
theorem LS.pushI (h : LS W0 hd tl W vp vi ps is) {M : Nat → Prop} {n : Int} (HO : OwnR Ty.i64 3 (W0.heap.size + 2) M w1 v1 (is ++ [n])) (hg : W.grownBy w1 vi.ownBlock) : LS W0 hd tl (w1.setCell ⟨W0.heap.size + 1, 2, none⟩ v1) vp v1 ps (is ++ [n]) where
  below := below_set2 (by simp) (below_own h.below hg (fun k e => by have := (OwnR.lt h.oi k e).1; omega))
  zero := (Below.heap_setCell w1 _ v1 _ (by simp)).trans ((hg.block _ (lt_of_block h.zero) (fun e => by have := (OwnR.lt h.oi _ e.symm).1; omega)).trans h.zero)
  blk := blk_set (h.atI hg) v1
  oi := Own1.flat_kept int_flat (Own1.of HO) (S := fun k => k = W0.heap.size + 1) (kept_set rfl (kept_refl _ _)) (fun b hb e => by have := (OwnR.lt HO b hb).1; omega)
  op := Own1.flat_kept pt_flat h.op (S := fun k => vi.ownBlock = some k ∨ k = W0.heap.size + 1) (kept_set (.inr rfl) (kept_grown hg (fun b e => .inl e))) (fun b hb e => by
    rcases e with e | e
    · exact h.op.apart h.oi (by decide) hb e
    · have := (OwnR.lt h.op b hb).1; omega)
end
theorem infoPt : (Try.prog.info? 44).map (fun i => (i.zero, i.size, i.bytes)) = some (some (.agg #[.int .i64 0, .int .i64 0]), 2, 16) := by kernel_rfl
theorem infoInt : (Try.prog.info? 3).map (fun i => (i.zero, i.size, i.bytes)) = some (some (.int .i64 0), 1, 8) := by kernel_rfl
end Go.Proofs.Ytniceoinipffmaa
