/- What stands in memory while nest.Polygons copies its rings and gathers the outer ones. No program is in sight. -/
import Derived.Test.YtaphjehkpdjolaaCopyP
namespace Go.Proofs.Ytaphjehkpdjolaa
open Go.RowKit
set_option linter.unusedVariables false
set_option linter.unusedSimpArgs false

theorem heap_setCell_cong {w w' : World} {g i : Nat} {v : Value} (h : w'.heap[g]? = w.heap[g]?) : (w'.setCell ⟨g, i, none⟩ v).heap[g]? = (w.setCell ⟨g, i, none⟩ v).heap[g]? := by
  simp [World.setCell, Array.getElem?_modify, h]

/-- vc: the copied list of rings, vo: the polygons so far, held in the variable at gc. -/
structure Loop1 (eR eP tP : TypeId) (base gc : Nat) (vc vo : Value) (w : World) (rs os : Rings) : Prop where
  cell : OneC w gc tP vo
  rings : OwnR Ty.ring eR base (fun j => vc.ownBlock = some j ∨ j = gc ∨ vo.ownBlock = some j) w vc rs
  outs : OwnR Ty.outer eP base (fun j => vc.ownBlock = some j ∨ j = gc ∨ vo.ownBlock = some j) w vo os
  ne : ∀ j, vc.ownBlock = some j → j ≠ gc ∧ vo.ownBlock ≠ some j
  ne2 : vo.ownBlock ≠ some gc
  lo : base ≤ gc

section
variable {eR eP tP : TypeId} {base gc : Nat} {vc vo : Value} {w w' : World} {rs os : Rings}
theorem Loop1.start {v : Value} (h : Own1 Ty.ring eR base w v rs) (hb : base ≤ w.heap.size) : Loop1 eR eP tP base w.heap.size v (.slice none 0 0) (w.alloc (.cells #[.slice none 0 0] tP)) rs [] := by
  have hlt := OwnR.lt h
  have h1 : OwnR Ty.ring eR base (fun j => v.ownBlock = some j ∨ j = w.heap.size ∨ (Value.slice none 0 0).ownBlock = some j) w v rs :=
    OwnR.remut h (fun k hk hm => by rcases hm with hm | hm | hm; exact hm; omega; simp [Value.ownBlock] at hm) (fun k hk => .inl hk)
  exact ⟨OneC.new _ _ _, h1.alloc _, OwnR.nil _ _ _ _ _, fun j hj => ⟨by have := (hlt j hj).2; omega, by simp [Value.ownBlock]⟩, by simp [Value.ownBlock], hb⟩
theorem Loop1.below (h : Loop1 eR eP tP base gc vc vo w rs os) (hb : Below w.heap.size w w') : Loop1 eR eP tP base gc vc vo w' rs os :=
  ⟨h.cell.below hb, h.rings.below hb, h.outs.below hb, h.ne, h.ne2, h.lo⟩
theorem Loop1.copy {gR n cc : Nat} (h : Loop1 eR eP tP base gc (.slice (some ⟨gR, 0, none⟩) n cc) vo w rs os) {i : Nat} (hi : i < rs.length) {w2 w3 : World} (hg : w.grownBy w2 none) {H m cap : Nat} (hH : H = w.heap.size)
    (hk : KeptS (fun k => k = H) (w2.setCell ⟨gR, i, none⟩ (.slice (some ⟨H, 0, none⟩) m cap)) w3) (ok : Nat → Prop) (hr : Row Ty.pt (fun k => k = H ∨ (k < H ∧ ok k)) w3 (some ⟨H, 0, none⟩) (rgD rs i)) (hm : m = (rgD rs i).length) (hl : m ≤ cap) :
    Loop1 eR eP tP base gc (.slice (some ⟨gR, 0, none⟩) n cc) vo w3 rs os ∧ KeptS (fun k => k = gR) w w3 ∧ w3.cell? ⟨gR, i, none⟩ = some (.slice (some ⟨H, 0, none⟩) m cap) ∧ Row Ty.pt (fun k => ¬ ((Value.slice (some ⟨gR, 0, none⟩) n cc).ownBlock = some k ∨ k = gc ∨ vo.ownBlock = some k)) w3 (some ⟨H, 0, none⟩) (rgD rs i) := by
  subst hH hm
  have hb2 : Below w.heap.size w w2 := below_grown (Below.refl _ _) hg (fun b e => by cases e)
  have hgR := (h.rings.lt gR rfl).2
  have hK : KeptS (fun k => k = gR) w w3 := by
    have h1 : KeptS (fun k => k = gR ∨ k = w.heap.size) w (w2.setCell ⟨gR, i, none⟩ (.slice (some ⟨w.heap.size, 0, none⟩) (rgD rs i).length cap)) := kept_set (.inl rfl) (kept_of_below hb2)
    exact kept_mono (kept_step h1 (kept_mono hk (fun k _ e => .inr e))) (fun k hlt hs => by rcases hs with e | e; exact e; omega)
  have hM : ∀ k, ((Value.slice (some ⟨gR, 0, none⟩) n cc).ownBlock = some k ∨ k = gc ∨ vo.ownBlock = some k) → k < w.heap.size := by
    rintro k (e | e | e)
    · exact (h.rings.lt k e).2
    · rw [e]; exact h.cell.lt
    · exact (h.outs.lt k e).2
  have hrow : Row Ty.pt (fun k => ¬ ((Value.slice (some ⟨gR, 0, none⟩) n cc).ownBlock = some k ∨ k = gc ∨ vo.ownBlock = some k)) w3 (some ⟨w.heap.size, 0, none⟩) (rgD rs i) := by
    refine ⟨hr.len, fun hn => ?_⟩
    obtain ⟨ad, e, _, hc⟩ := hr.2 hn
    cases e
    exact ⟨_, rfl, fun hm => by have := hM _ hm; simp at this, hc⟩
  have hblk : w3.heap[gR]? = (w.setCell ⟨gR, i, none⟩ (.slice (some ⟨w.heap.size, 0, none⟩) (rgD rs i).length cap)).heap[gR]? := by
    rw [hk.block gR (by have := hg.size; simp [World.setCell]; omega) (by omega)]
    exact heap_setCell_cong (hb2.block gR hgR)
  have hne := h.ne gR rfl
  refine ⟨⟨h.cell.kept hK (fun e => hne.1 e.symm), h.rings.replace hi hK hblk ⟨_, _, rfl, hl, hrow⟩, h.outs.kept hK (fun b hb => .inl (by rw [hb]; rfl)) (fun b hb e => hne.2 (by rw [← e]; exact hb)), h.ne, h.ne2, h.lo⟩, hK, ?_, hrow⟩
  obtain ⟨A0, c0, hc0, _⟩ := h.rings.ring_cell i hi
  refine (cell_heap (a := ⟨gR, i, none⟩) hblk).trans (World.cell?_setCell_same _ _ _ hc0)
/-- A further outer ring. -/
theorem Loop1.push {v1 : Value} {w4 : World} {r : Pts} (h : Loop1 eR eP tP base gc vc vo w rs os) (ho : OwnR Ty.outer eP base (fun k => (vc.ownBlock = some k ∨ k = gc ∨ vo.ownBlock = some k) ∨ v1.ownBlock = some k) w4 v1 (os ++ [r]))
    (hg : w.grownBy w4 vo.ownBlock) (hat : v1.ownBlock = vo.ownBlock ∨ ∃ b, v1.ownBlock = some b ∧ w.heap.size ≤ b) :
    Loop1 eR eP tP base gc vc v1 (w4.setCell ⟨gc, 0, none⟩ v1) rs (os ++ [r]) ∧ KeptS (fun k => k = gc ∨ vo.ownBlock = some k) w (w4.setCell ⟨gc, 0, none⟩ v1) ∧ OneC w4 gc tP vo := by
  have hK : KeptS (fun k => k = gc ∨ vo.ownBlock = some k) w (w4.setCell ⟨gc, 0, none⟩ v1) := kept_set (a := ⟨gc, 0, none⟩) (.inl rfl) (kept_grown hg (fun b e => .inr e))
  have hne : ∀ k, k < w.heap.size → v1.ownBlock = some k → vo.ownBlock = some k := fun k hk e => by
    rcases hat with h1 | ⟨b, hb, hle⟩
    · exact h1 ▸ e
    · rw [hb] at e; injection e with e; omega
  have hgc := h.cell.lt
  have hn1 : v1.ownBlock ≠ some gc := fun e => h.ne2 (hne gc hgc e)
  have hc4 : OneC w4 gc tP vo := h.cell.grown hg (fun e => h.ne2 e.symm)
  refine ⟨⟨hc4.set _, ?_, ?_, fun j hj => ⟨(h.ne j hj).1, fun e => (h.ne j hj).2 (hne j (h.rings.lt j hj).2 e)⟩, hn1, h.lo⟩, hK, hc4⟩
  · have h1 := h.rings.remut (M' := fun k => (vc.ownBlock = some k ∨ k = gc ∨ vo.ownBlock = some k) ∨ v1.ownBlock = some k) (fun k hk hm => by rcases hm with hm | hm; exact hm; exact .inr (.inr (hne k hk hm))) (fun k hk => .inl (.inl hk))
    have h2 := h1.kept hK (fun b hb => .inl (.inr hb)) (fun b hb hs => by rcases hs with hs | hs; exact (h.ne b hb).1 hs; exact (h.ne b hb).2 hs)
    exact h2.remut (fun k _ hm => by rcases hm with hm | hm | hm; exact .inl (.inl hm); exact .inl (.inr (.inl hm)); exact .inr hm) (fun k hk => .inl hk)
  · have h1 := ho.kept (S := fun k => k = gc) (kept_set (a := ⟨gc, 0, none⟩) (v := v1) rfl (kept_refl _ _)) (fun b hb => .inl (.inr (.inl hb))) (fun b hb e => hn1 (e ▸ hb))
    exact h1.remut (fun k _ hm => by rcases hm with hm | hm | hm; exact .inl (.inl hm); exact .inl (.inr (.inl hm)); exact .inr hm) (fun k hk => .inr (.inr hk))
/-- Behind the loop. -/
theorem Loop1.done {n cc : Nat} {Ac : Option Addr} (h : Loop1 eR eP tP base gc (.slice Ac n cc) vo w rs os) {Ao : Option Addr} {m co : Nat} (hv : vo = .slice Ao m co) : Row Ty.ring (fun k => k < w.heap.size ∧ ∀ a, Ao = some a → k ≠ a.block) w Ac rs := by
  subst hv
  obtain ⟨A', c', e, _, hr, _⟩ := h.rings.reads
  injection e with e1 e2 e3
  subst e1
  refine hr.bnd.mono (fun k hk => ⟨hk.2, fun a ea e => ?_⟩)
  subst ea
  rcases hk.1 with hk | hk
  · exact hk (.inr (.inr (by rw [e]; rfl)))
  · exact (h.ne k hk).2 (by rw [e]; rfl)
end
end Go.Proofs.Ytaphjehkpdjolaa
