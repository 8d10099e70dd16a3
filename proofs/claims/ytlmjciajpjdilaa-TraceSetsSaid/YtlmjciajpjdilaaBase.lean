/- Words of this session's own: how Go values in memory read as Lean data (flat structs, slices, slices of slices), rows that a call owns, and how readings outlive later worlds. No program is in sight. -/
import Derived.WalkKit
import Derived.KernelRfl
import Derived.WalkSpells
import Derived.WalkLawsBesides
import Derived.Deep.Draws
import Derived.Deep.QuietTactic
import Derived.BigQuiet
import Derived.Deep.LoopGhost
import Derived.Deep.RegionHeld3
import Derived.StillTailTactics
import Derived.Deep.DeepFit
import Derived.Lib.Hide
namespace Go.Proofs.Ytlmjciajpjdilaa
open Go.RowKit

/-! ### worlds -/
theorem below_alloc {w W : World} (h : Below w.heap.size w W) (o : Obj) : Below w.heap.size w (W.alloc o) := h.alloc h.size o
theorem below_drew {B : Nat} {w W : World} (h : Below B w W) : Below B w W.drew := ⟨h.os, h.tape, h.output, h.size, h.block⟩
theorem below_drewN {B : Nat} {w W : World} (h : Below B w W) (n : Nat) : Below B w (W.drewN n) := ⟨h.os, h.tape, h.output, h.size, h.block⟩
theorem below_step {w W w2 : World} (h : Below w.heap.size w W) (k : Below W.heap.size W w2) : Below w.heap.size w w2 :=
  h.trans ⟨k.os, k.tape, k.output, k.size, fun i hi => k.block i (Nat.lt_of_lt_of_le hi h.size)⟩
theorem below_set {w W : World} {a : Addr} {v : Value} (h : Below w.heap.size w W) (hg : w.heap.size ≤ a.block) : Below w.heap.size w (W.setCell a v) := h.setCell hg _
theorem below_set2 {w W : World} {a : Addr} {v : Value} (hg : w.heap.size ≤ a.block) (h : Below w.heap.size w W) : Below w.heap.size w (W.setCell a v) := h.setCell hg _
theorem bcell {W w1 : World} (hb : Below W.heap.size W w1) : (∀ b o, b < W.heap.size → w1.cell? ⟨b, o, none⟩ = W.cell? ⟨b, o, none⟩) ∧ (∀ b o, b < W.heap.size → w1.frozen? ⟨b, o, none⟩ = W.frozen? ⟨b, o, none⟩) :=
  ⟨fun b o h => hb.cell (p := ⟨b, o, none⟩) h, fun b o h => hb.frozen (p := ⟨b, o, none⟩) h⟩
theorem cell_below {w w1 : World} (h : Below w.heap.size w w1) {a : Addr} {v : Value} (hc : w.cell? a = some v) : w1.cell? a = some v := (h.cell (World.block_lt_of_cell? w a hc)).trans hc
theorem cell_heap {w w1 : World} {a : Addr} (h : w1.heap[a.block]? = w.heap[a.block]?) : w1.cell? a = w.cell? a := World.cell?_of_block (w := w) h
theorem add_block (a : Addr) (i : Nat) : (a.add i).block = a.block := by unfold Addr.add; split <;> rfl
theorem add_add (a : Addr) (i j : Nat) : (a.add i).add j = a.add (i + j) := by
  unfold Addr.add
  split
  · rename_i h; subst h; simp
  · split
    · rename_i h; subst h; simp [*]
    · rename_i h1 h2; rw [if_neg (by omega)]; simp; omega
theorem add_at (g o j : Nat) : (⟨g, o, none⟩ : Addr).add j = ⟨g, o + j, none⟩ := by unfold Addr.add; split <;> simp_all
theorem ret_bool {a b : Bool} (h : a = b) : Ending.returned (.bool a) = .returned (.bool b) := by rw [h]
theorem ret_int {k : IntKind} {a b : Int} (h : a = b) : Ending.returned (.int k a) = .returned (.int k b) := by rw [h]
theorem cell_field {w : World} {a : Addr} {i : Nat} {v : Value} (hi : 0 < i) (h : w.cell? (a.add i) = some v) : w.cell? ⟨a.block, a.off + i, none⟩ = some v := by
  have e : a.add i = ⟨a.block, a.off + i, none⟩ := by unfold Addr.add; rw [if_neg (by omega)]
  rw [← e]; exact h

/-! ### a variable in a block of its own; worlds in which one block alone may have turned -/
def OneC (w : World) (g : Nat) (t : TypeId) (v : Value) : Prop := w.heap[g]? = some (.cells #[v] t (0, 0))
section
variable {w W W2 : World} {g : Nat} {t : TypeId} {v u : Value} {row : Option Nat}
theorem OneC.cell (h : OneC w g t v) : w.cell? ⟨g, 0, none⟩ = some v := cell_of_one h
theorem OneC.free (h : OneC w g t v) : w.frozen? ⟨g, 0, none⟩ = false := free_of_one h
theorem OneC.lt (h : OneC w g t v) : g < w.heap.size := lt_of_block h
theorem OneC.set (h : OneC w g t v) (u : Value) : OneC (w.setCell ⟨g, 0, none⟩ u) g t u := one_setCell h
theorem OneC.other (h : OneC w g t v) {a : Addr} (ha : g ≠ a.block) (u : Value) : OneC (w.setCell a u) g t v := (Below.heap_setCell w a u g ha).trans h
theorem OneC.alloc (h : OneC w g t v) (o : Obj) : OneC (w.alloc o) g t v := (Below.heap_alloc w o g h.lt).trans h
theorem OneC.drew (h : OneC w g t v) : OneC w.drew g t v := h
theorem OneC.drewN (h : OneC w g t v) (n : Nat) : OneC (w.drewN n) g t v := h
theorem OneC.below (h : OneC w g t v) (hb : Below w.heap.size w W) : OneC W g t v := (hb.block g h.lt).trans h
theorem OneC.grown (h : OneC w g t v) (hg : w.grownBy W row) (hne : some g ≠ row) : OneC W g t v := (hg.block g h.lt hne).trans h
theorem OneC.new (w : World) (t : TypeId) (v : Value) : OneC (w.alloc (.cells #[v] t)) w.heap.size t v := heap_alloc_new w _
theorem grown_refl (w : World) (row : Option Nat) : w.grownBy w row := ⟨rfl, rfl, rfl, Nat.le_refl _, fun _ _ _ => rfl⟩
theorem grown_step (h : w.grownBy W row) (k : W.grownBy W2 row) : w.grownBy W2 row := World.grownBy.trans h k
theorem grown_alloc (h : w.grownBy W row) (o : Obj) : w.grownBy (W.alloc o) row := World.grownBy.trans h (World.grownBy_alloc W o row)
theorem grown_drew (h : w.grownBy W row) : w.grownBy W.drew row := ⟨h.os, h.tape, h.output, h.size, h.block⟩
theorem grown_drewN (h : w.grownBy W row) (n : Nat) : w.grownBy (W.drewN n) row := ⟨h.os, h.tape, h.output, h.size, h.block⟩
theorem grown_below (h : w.grownBy W row) (k : Below W.heap.size W W2) : w.grownBy W2 row :=
  ⟨k.os.trans h.os, k.tape.trans h.tape, k.output.trans h.output, Nat.le_trans h.size k.size, fun i hi hne => (k.block i (Nat.lt_of_lt_of_le hi h.size)).trans (h.block i hi hne)⟩
theorem grown_set {j : Nat} (h : w.grownBy W (some g)) : w.grownBy (W.setCell ⟨g, j, none⟩ v) (some g) :=
  ⟨h.os, h.tape, h.output, by simpa [World.setCell] using h.size, fun i hi hne => (Below.heap_setCell W _ v i (fun e => hne (by simp [e]))).trans (h.block i hi hne)⟩
theorem grown_setnew {a : Addr} (hg : w.heap.size ≤ a.block) (h : w.grownBy W row) : w.grownBy (W.setCell a v) row :=
  ⟨h.os, h.tape, h.output, by simpa [World.setCell] using h.size, fun i hi hne => (Below.heap_setCell W _ v i (fun e => by omega)).trans (h.block i hi hne)⟩
/-- What grew from an elder world by a block that is newer than it is: below it nothing has turned. -/
theorem below_grown {w0 : World} (h : Below w0.heap.size w0 w) (k : w.grownBy W row) (hr : ∀ b, row = some b → w0.heap.size ≤ b) : Below w0.heap.size w0 W :=
  h.trans ⟨k.os, k.tape, k.output, k.size, fun i hi => k.block i (Nat.lt_of_lt_of_le hi h.size) (fun e => by have := hr i e.symm; omega)⟩
end

/-- Outside the blocks of S nothing has turned. -/
structure KeptS (S : Nat → Prop) (w W : World) : Prop where
  os : W.os = w.os
  tape : W.tape = w.tape
  output : W.output = w.output
  size : w.heap.size ≤ W.heap.size
  block : ∀ k, k < w.heap.size → ¬ S k → W.heap[k]? = w.heap[k]?
section
variable {S S' : Nat → Prop} {w W W2 : World} {v : Value}
theorem kept_refl (S : Nat → Prop) (w : World) : KeptS S w w := ⟨rfl, rfl, rfl, Nat.le_refl _, fun _ _ _ => rfl⟩
theorem kept_step (h : KeptS S w W) (k : KeptS S W W2) : KeptS S w W2 :=
  ⟨k.os.trans h.os, k.tape.trans h.tape, k.output.trans h.output, Nat.le_trans h.size k.size, fun i hi hne => (k.block i (Nat.lt_of_lt_of_le hi h.size) hne).trans (h.block i hi hne)⟩
theorem kept_of_below (k : Below w.heap.size w W) : KeptS S w W := ⟨k.os, k.tape, k.output, k.size, fun i hi _ => k.block i hi⟩
theorem kept_below (h : KeptS S w W) (k : Below W.heap.size W W2) : KeptS S w W2 := kept_step h (kept_of_below k)
theorem kept_alloc (h : KeptS S w W) (o : Obj) : KeptS S w (W.alloc o) := kept_below h (below_alloc (Below.refl _ _) o)
theorem kept_drew (h : KeptS S w W) : KeptS S w W.drew := ⟨h.os, h.tape, h.output, h.size, h.block⟩
theorem kept_drewN (h : KeptS S w W) (n : Nat) : KeptS S w (W.drewN n) := ⟨h.os, h.tape, h.output, h.size, h.block⟩
theorem kept_set {a : Addr} (hs : S a.block) (h : KeptS S w W) : KeptS S w (W.setCell a v) :=
  ⟨h.os, h.tape, h.output, by simpa [World.setCell] using h.size, fun i hi hne => (Below.heap_setCell W _ v i (fun e => hne (e ▸ hs))).trans (h.block i hi hne)⟩
theorem kept_setnew {a : Addr} (hg : w.heap.size ≤ a.block) (h : KeptS S w W) : KeptS S w (W.setCell a v) :=
  ⟨h.os, h.tape, h.output, by simpa [World.setCell] using h.size, fun i hi hne => (Below.heap_setCell W _ v i (fun e => by omega)).trans (h.block i hi hne)⟩
theorem kept_grown {row : Option Nat} (h : w.grownBy W row) (hr : ∀ b, row = some b → S b) : KeptS S w W :=
  ⟨h.os, h.tape, h.output, h.size, fun i hi hne => h.block i hi (fun e => hne (hr i e.symm))⟩
theorem kept_mono (h : KeptS S w W) (hs : ∀ k, k < w.heap.size → S k → S' k) : KeptS S' w W := ⟨h.os, h.tape, h.output, h.size, fun i hi hne => h.block i hi (fun hk => hne (hs i hi hk))⟩
theorem below_kept {w0 : World} (h : Below w0.heap.size w0 w) (k : KeptS S w W) (hr : ∀ b, S b → w0.heap.size ≤ b) : Below w0.heap.size w0 W :=
  h.trans ⟨k.os, k.tape, k.output, k.size, fun i hi => k.block i (Nat.lt_of_lt_of_le hi h.size) (fun hk => by have := hr i hk; omega)⟩
theorem KeptS.cell (h : KeptS S w W) {a : Addr} {v : Value} (hc : w.cell? a = some v) (hs : ¬ S a.block) : W.cell? a = some v :=
  (cell_heap (w := w) (h.block _ (World.block_lt_of_cell? w a hc) hs)).trans hc
theorem OneC.kept {g : Nat} {t : TypeId} {v : Value} (h : OneC w g t v) (k : KeptS S w W) (hs : ¬ S g) : OneC W g t v := (k.block g h.lt hs).trans h
end

/-! ### kinds of values -/
/-- How a value of Lean's reads as cells. ok: the blocks that the reading may look at. -/
structure Ty (α : Type) where
  sz : Nat
  pos : 0 < sz
  R : (Nat → Prop) → World → α → List Value → Prop
  len : ∀ {ok w x cs}, R ok w x cs → cs.length = sz
  one : ∀ {ok w x cs}, R ok w x cs → ∀ u ∈ cs, u.oneCell' = true
  mono : ∀ {ok ok' : Nat → Prop} {w x cs}, (∀ k, ok k → ok' k) → R ok w x cs → R ok' w x cs
  move : ∀ {ok : Nat → Prop} {w w' : World} {x cs}, (∀ k, ok k → w'.heap[k]? = w.heap[k]?) → R ok w x cs → R ok w' x cs
  bnd : ∀ {ok : Nat → Prop} {w : World} {x cs}, R ok w x cs → R (fun k => ok k ∧ k < w.heap.size) w x cs

namespace Ty
variable {α β : Type}
theorem step (T : Ty α) {ok : Nat → Prop} {w w' : World} {x : α} {cs : List Value} (h : T.R ok w x cs) (hm : ∀ k, ok k → k < w.heap.size → w'.heap[k]? = w.heap[k]?) : T.R ok w' x cs :=
  T.mono (fun _ hk => hk.1) (T.move (fun k hk => hm k hk.1 hk.2) (T.bnd h))
theorem below (T : Ty α) {ok : Nat → Prop} {w w' : World} {x : α} {cs : List Value} (h : T.R ok w x cs) (hb : Below w.heap.size w w') : T.R ok w' x cs :=
  T.step h (fun k _ hk => hb.block k hk)

def flat (n : Nat) (hn : 0 < n) (enc : α → List Value) (hl : ∀ x, (enc x).length = n) (h1 : ∀ x, ∀ u ∈ enc x, u.oneCell' = true) : Ty α where
  sz := n
  pos := hn
  R := fun _ _ x cs => cs = enc x
  len := fun h => by rw [h]; exact hl _
  one := fun h u hu => h1 _ u (h ▸ hu)
  mono := fun _ h => h
  move := fun _ h => h
  bnd := fun h => h
def int (k : IntKind) : Ty Int := flat 1 (by decide) (fun x => [.int k x]) (fun _ => rfl) (fun x u hu => by rw [List.mem_singleton.1 hu]; rfl)
def bool : Ty Bool := flat 1 (by decide) (fun x => [.bool x]) (fun _ => rfl) (fun x u hu => by rw [List.mem_singleton.1 hu]; rfl)
def str : Ty ByteArray := flat 1 (by decide) (fun x => [.string x]) (fun _ => rfl) (fun x u hu => by rw [List.mem_singleton.1 hu]; rfl)
def pair (a : Ty α) (b : Ty β) : Ty (α × β) where
  sz := a.sz + b.sz
  pos := Nat.lt_of_lt_of_le a.pos (Nat.le_add_right _ _)
  R := fun ok w x cs => ∃ c1 c2, cs = c1 ++ c2 ∧ a.R ok w x.1 c1 ∧ b.R ok w x.2 c2
  len := by rintro ok w x cs ⟨c1, c2, rfl, h1, h2⟩; rw [List.length_append, a.len h1, b.len h2]
  one := by
    rintro ok w x cs ⟨c1, c2, rfl, h1, h2⟩ u hu
    rcases List.mem_append.1 hu with h | h
    · exact a.one h1 u h
    · exact b.one h2 u h
  mono := by rintro ok ok' w x cs hok ⟨c1, c2, rfl, h1, h2⟩; exact ⟨c1, c2, rfl, a.mono hok h1, b.mono hok h2⟩
  move := by rintro ok w w' x cs hm ⟨c1, c2, rfl, h1, h2⟩; exact ⟨c1, c2, rfl, a.move hm h1, b.move hm h2⟩
  bnd := by rintro ok w x cs ⟨c1, c2, rfl, h1, h2⟩; exact ⟨c1, c2, rfl, a.bnd h1, b.bnd h2⟩
end Ty

def CellsAt (w : World) (ad : Addr) (o : Nat) (cs : List Value) : Prop := ∀ (j : Nat) (u : Value), cs[j]? = some u → w.cell? (ad.add (o + j)) = some u

/-- A slice's elements, as they are read; an empty row asks nothing. -/
def Row {α : Type} (T : Ty α) (ok : Nat → Prop) (w : World) (A : Option Addr) (xs : List α) : Prop :=
  xs.length ≤ 9223372036854775807 ∧ (0 < xs.length → ∃ ad, A = some ad ∧ ok ad.block ∧ ∀ (i : Nat) (x : α), xs[i]? = some x → ∃ cs, T.R ok w x cs ∧ CellsAt w ad (i * T.sz) cs)

section
variable {α : Type} {T : Ty α} {ok ok' : Nat → Prop} {w w' : World} {A : Option Addr} {xs : List α}
theorem Row.len (h : Row T ok w A xs) : xs.length ≤ 9223372036854775807 := h.1
theorem Row.nil (T : Ty α) (ok : Nat → Prop) (w : World) (A : Option Addr) : Row T ok w A [] := ⟨by simp, fun h => absurd h (by simp)⟩
theorem Row.mono (h : Row T ok w A xs) (hok : ∀ k, ok k → ok' k) : Row T ok' w A xs :=
  ⟨h.1, fun hn => by
    obtain ⟨ad, e, hb, hc⟩ := h.2 hn
    refine ⟨ad, e, hok _ hb, fun i x hx => ?_⟩
    obtain ⟨cs, hr, hcs⟩ := hc i x hx
    exact ⟨cs, T.mono hok hr, hcs⟩⟩
theorem Row.move (h : Row T ok w A xs) (hm : ∀ k, ok k → w'.heap[k]? = w.heap[k]?) : Row T ok w' A xs :=
  ⟨h.1, fun hn => by
    obtain ⟨ad, e, hb, hc⟩ := h.2 hn
    refine ⟨ad, e, hb, fun i x hx => ?_⟩
    obtain ⟨cs, hr, hcs⟩ := hc i x hx
    exact ⟨cs, T.move hm hr, fun j u hu => by rw [cell_heap (w := w)]; exact hcs j u hu; rw [add_block]; exact hm _ hb⟩⟩
theorem Row.bnd (h : Row T ok w A xs) : Row T (fun k => ok k ∧ k < w.heap.size) w A xs :=
  ⟨h.1, fun hn => by
    obtain ⟨ad, e, hb, hc⟩ := h.2 hn
    refine ⟨ad, e, ⟨hb, ?_⟩, fun i x hx => ?_⟩
    · obtain ⟨cs, hr, hcs⟩ := hc 0 xs[0] (by simp [hn])
      have hp : 0 < cs.length := by rw [T.len hr]; exact T.pos
      have := World.block_lt_of_cell? w _ (hcs 0 cs[0] (by simp [hp]))
      rwa [add_block] at this
    · obtain ⟨cs, hr, hcs⟩ := hc i x hx
      exact ⟨cs, T.bnd hr, hcs⟩⟩
theorem Row.step (h : Row T ok w A xs) (hm : ∀ k, ok k → k < w.heap.size → w'.heap[k]? = w.heap[k]?) : Row T ok w' A xs :=
  Row.mono (Row.move (Row.bnd h) (fun k hk => hm k hk.1 hk.2)) (fun _ hk => hk.1)
theorem Row.below (h : Row T ok w A xs) (hb : Below w.heap.size w w') : Row T ok w' A xs := h.step (fun k _ hk => hb.block k hk)
theorem Row.alloc (h : Row T ok w A xs) (o : Obj) : Row T ok (w.alloc o) A xs := h.below (below_alloc (Below.refl _ _) o)
theorem Row.drewN (h : Row T ok w A xs) (n : Nat) : Row T ok (w.drewN n) A xs := h.below (below_drewN (Below.refl _ _) n)
theorem Row.get (h : Row T ok w A xs) {i : Nat} (hi : i < xs.length) : ∃ ad cs, A = some ad ∧ ok ad.block ∧ T.R ok w xs[i] cs ∧ CellsAt w ad (i * T.sz) cs := by
  obtain ⟨ad, e, hb, hc⟩ := h.2 (by omega)
  obtain ⟨cs, hr, hcs⟩ := hc i xs[i] (by simp [hi])
  exact ⟨ad, cs, e, hb, hr, hcs⟩
theorem CellsAt.cell {ad : Addr} {o : Nat} {cs : List Value} (h : CellsAt w ad o cs) (j : Nat) {u : Value} (hu : cs[j]? = some u) : w.cell? (ad.add (o + j)) = some u := h j u hu
theorem CellsAt.first {ad : Addr} {o : Nat} {u : Value} {cs : List Value} (h : CellsAt w ad o (u :: cs)) : w.cell? (ad.add o) = some u := h 0 u rfl
theorem CellsAt.field {ad : Addr} {o : Nat} {cs : List Value} (h : CellsAt w ad o cs) (j : Nat) (hj : 0 < j) {u : Value} (hu : cs[j]? = some u) : w.cell? ⟨(ad.add o).block, (ad.add o).off + j, none⟩ = some u :=
  cell_field hj (by rw [add_add]; exact h j u hu)
end

namespace Ty
variable {α β : Type}
def slice (T : Ty α) : Ty (List α) where
  sz := 1
  pos := by decide
  R := fun ok w xs cs => ∃ A c, cs = [.slice A xs.length c] ∧ xs.length ≤ c ∧ Row T ok w A xs
  len := by rintro ok w x cs ⟨A, c, rfl, _⟩; rfl
  one := by rintro ok w x cs ⟨A, c, rfl, _⟩ u hu; rw [List.mem_singleton.1 hu]; rfl
  mono := by rintro ok ok' w x cs hok ⟨A, c, rfl, hl, h⟩; exact ⟨A, c, rfl, hl, h.mono hok⟩
  move := by rintro ok w w' x cs hm ⟨A, c, rfl, hl, h⟩; exact ⟨A, c, rfl, hl, h.move hm⟩
  bnd := by rintro ok w x cs ⟨A, c, rfl, hl, h⟩; exact ⟨A, c, rfl, hl, h.bnd⟩
end Ty

/-! ### points and segments -/
abbrev Pt := Int × Int
abbrev Sg := Pt × Pt
abbrev Ty.pt : Ty Pt := Ty.flat 2 (by decide) (fun x => [.int .i64 x.1, .int .i64 x.2]) (fun _ => rfl) (fun x u hu => by simp at hu; rcases hu with rfl | rfl <;> rfl)
abbrev Ty.sg : Ty Sg := Ty.flat 4 (by decide) (fun x => [.int .i64 x.1.1, .int .i64 x.1.2, .int .i64 x.2.1, .int .i64 x.2.2]) (fun _ => rfl) (fun x u hu => by simp at hu; rcases hu with rfl | rfl | rfl | rfl <;> rfl)
abbrev Pts := List Pt
def ptD (xs : Pts) (k : Nat) : Pt := xs.getD k (0, 0)
theorem ptD_eq {xs : Pts} {k : Nat} (h : k < xs.length) : ptD xs k = xs[k] := by simp [ptD, h]

theorem Row.pt_at {ok : Nat → Prop} {w : World} {A : Option Addr} {xs : Pts} (h : Row Ty.pt ok w A xs) (k : Nat) (hk : k < xs.length) :
    ∃ ad, A = some ad ∧ w.cell? (ad.add (k * 2)) = some (.int .i64 (ptD xs k).1) ∧ w.cell? ⟨(ad.add (k * 2)).block, (ad.add (k * 2)).off + 1, none⟩ = some (.int .i64 (ptD xs k).2) := by
  obtain ⟨ad, cs, e, _, hr, hc⟩ := h.get hk
  rw [ptD_eq hk]
  obtain rfl : cs = _ := hr
  exact ⟨ad, e, hc.first, hc.field 1 (by decide) rfl⟩
/-- A literal row of points in a block of its own. -/
theorem Row.pt_lit (w : World) (xs : Pts) (t : TypeId) (ok : Nat → Prop) (hok : ok w.heap.size) (hl : xs.length ≤ 9223372036854775807) :
    Row Ty.pt ok (w.alloc (.cells (xs.flatMap fun x => [Value.int .i64 x.1, .int .i64 x.2]).toArray t)) (some ⟨w.heap.size, 0, none⟩) xs := by
  refine ⟨hl, fun _ => ⟨_, rfl, hok, fun i x hx => ⟨_, rfl, fun j u hu => ?_⟩⟩⟩
  rw [add_at]
  simp only [World.cell?, heap_alloc_new, Nat.zero_add]
  have key : ∀ (xs : Pts) (i : Nat), xs[i]? = some x → (xs.flatMap fun x => [Value.int .i64 x.1, .int .i64 x.2])[i * 2 + j]? = some u := by
    intro xs
    induction xs with
    | nil => intro i h; simp at h
    | cons y ys ih =>
      intro i h
      cases i with
      | zero =>
        simp at h; subst h
        have hj : j < 2 := by have := (List.getElem?_eq_some_iff.1 hu).1; simpa using this
        rw [List.flatMap_cons, Nat.zero_mul, Nat.zero_add, List.getElem?_append_left (by simpa using hj)]
        exact hu
      | succ i =>
        rw [List.flatMap_cons, List.getElem?_append_right (by simp; omega)]
        have := ih i (by simpa using h)
        simp only [List.length_cons, List.length_nil]
        rw [show (i + 1) * 2 + j - (0 + 1 + 1) = i * 2 + j by omega]
        exact this
  have := key xs i hx
  simpa [Ty.pt, Ty.flat] using this
end Go.Proofs.Ytlmjciajpjdilaa
