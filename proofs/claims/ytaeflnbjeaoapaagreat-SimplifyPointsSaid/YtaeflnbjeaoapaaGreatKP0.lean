/- Words of this session's own: how Go values in memory read as Lean data (flat structs, slices, slices of slices), rows that a call owns, and how readings outlive later worlds. No program is in sight. Contracts of the small geometric functions: grid.Valid, grid.Less, seg.valid, seg.Turn, seg.Of, seg.On, poly.crosses; and of their twins in the references. Plain facts on lists of rings: the order of rings, exchanges, sorted stretches. No program is in sight. Plain facts on sorted lists under a total order: insertion sort, neighbours that repeat taken out, uniqueness. No program is in sight. Contracts of seg.On, poly.crosses and of the references' Turn, On, Crosses. Plain words on sets of segments: what noding and trace compute. No program is in sight. Plain words on meshes: what mesh.Check and simplify compute. No program is in sight. -/
import Derived.WalkKit
import Derived.KernelRfl
import Derived.WalkSpells
import Derived.WalkLawsBesides
import Derived.Deep.Draws
import Derived.Deep.QuietTactic
import Derived.BigQuiet
import Derived.Deep.LoopGhost
import Derived.Deep.RegionHeld3
import Derived.StillTailTactics
import Derived.Deep.DeepFit
import Derived.Lib.Hide
import Derived.Test.YtaeflnbjeaoapaaGreatProg
section
namespace Go.Proofs.YtaeflnbjeaoapaaGreat
open Go.RowKit

/-! ### worlds -/
theorem below_alloc {w W : World} (h : Below w.heap.size w W) (o : Obj) : Below w.heap.size w (W.alloc o) := h.alloc h.size o
theorem below_drew {B : Nat} {w W : World} (h : Below B w W) : Below B w W.drew := ⟨h.os, h.tape, h.output, h.size, h.block⟩
theorem below_drewN {B : Nat} {w W : World} (h : Below B w W) (n : Nat) : Below B w (W.drewN n) := ⟨h.os, h.tape, h.output, h.size, h.block⟩
theorem below_step {w W w2 : World} (h : Below w.heap.size w W) (k : Below W.heap.size W w2) : Below w.heap.size w w2 :=
 h.trans ⟨k.os, k.tape, k.output, k.size, fun i hi => k.block i (Nat.lt_of_lt_of_le hi h.size)⟩
theorem below_set {w W : World} {a : Addr} {v : Value} (h : Below w.heap.size w W) (hg : w.heap.size ≤ a.block) : Below w.heap.size w (W.setCell a v) := h.setCell hg _
theorem below_set2 {w W : World} {a : Addr} {v : Value} (hg : w.heap.size ≤ a.block) (h : Below w.heap.size w W) : Below w.heap.size w (W.setCell a v) := h.setCell hg _
theorem bcell {W w1 : World} (hb : Below W.heap.size W w1) : (∀ b o, b < W.heap.size → w1.cell? ⟨b, o, none⟩ = W.cell? ⟨b, o, none⟩) ∧ (∀ b o, b < W.heap.size → w1.frozen? ⟨b, o, none⟩ = W.frozen? ⟨b, o, none⟩) :=
 ⟨fun b o h => hb.cell (p := ⟨b, o, none⟩) h, fun b o h => hb.frozen (p := ⟨b, o, none⟩) h⟩
theorem cell_below {w w1 : World} (h : Below w.heap.size w w1) {a : Addr} {v : Value} (hc : w.cell? a = some v) : w1.cell? a = some v := (h.cell (World.block_lt_of_cell? w a hc)).trans hc
theorem cell_heap {w w1 : World} {a : Addr} (h : w1.heap[a.block]? = w.heap[a.block]?) : w1.cell? a = w.cell? a := World.cell?_of_block (w := w) h
theorem add_block (a : Addr) (i : Nat) : (a.add i).block = a.block := by unfold Addr.add; split <;> rfl
theorem add_add (a : Addr) (i j : Nat) : (a.add i).add j = a.add (i + j) := by
 unfold Addr.add
 split
 ·rename_i h; subst h; simp
 ·split
  ·rename_i h; subst h; simp [*]
  ·rename_i h1 h2; rw [if_neg (by omega)]; simp; omega
theorem add_at (g o j : Nat) : (⟨g, o, none⟩ : Addr).add j = ⟨g, o + j, none⟩ := by unfold Addr.add; split <;> simp_all
theorem ret_bool {a b : Bool} (h : a = b) : Ending.returned (.bool a) = .returned (.bool b) := by rw [h]
theorem ret_int {k : IntKind} {a b : Int} (h : a = b) : Ending.returned (.int k a) = .returned (.int k b) := by rw [h]
theorem cell_field {w : World} {a : Addr} {i : Nat} {v : Value} (hi : 0 < i) (h : w.cell? (a.add i) = some v) : w.cell? ⟨a.block, a.off + i, none⟩ = some v := by
 have e : a.add i = ⟨a.block, a.off + i, none⟩ := by unfold Addr.add; rw [if_neg (by omega)]
 rw [← e]; exact h

/-! ### a variable in a block of its own; worlds in which one block alone may have turned -/
def OneC (w : World) (g : Nat) (t : TypeId) (v : Value) : Prop := w.heap[g]? = some (.cells #[v] t (0, 0))
section
variable {w W W2 : World} {g : Nat} {t : TypeId} {v u : Value} {row : Option Nat}
theorem OneC.cell (h : OneC w g t v) : w.cell? ⟨g, 0, none⟩ = some v := cell_of_one h
theorem OneC.free (h : OneC w g t v) : w.frozen? ⟨g, 0, none⟩ = false := free_of_one h
theorem OneC.lt (h : OneC w g t v) : g < w.heap.size := lt_of_block h
theorem OneC.set (h : OneC w g t v) (u : Value) : OneC (w.setCell ⟨g, 0, none⟩ u) g t u := one_setCell h
theorem OneC.other (h : OneC w g t v) {a : Addr} (ha : g ≠ a.block) (u : Value) : OneC (w.setCell a u) g t v := (Below.heap_setCell w a u g ha).trans h
theorem OneC.alloc (h : OneC w g t v) (o : Obj) : OneC (w.alloc o) g t v := (Below.heap_alloc w o g h.lt).trans h
theorem OneC.drew (h : OneC w g t v) : OneC w.drew g t v := h
theorem OneC.drewN (h : OneC w g t v) (n : Nat) : OneC (w.drewN n) g t v := h
theorem OneC.below (h : OneC w g t v) (hb : Below w.heap.size w W) : OneC W g t v := (hb.block g h.lt).trans h
theorem OneC.grown (h : OneC w g t v) (hg : w.grownBy W row) (hne : some g ≠ row) : OneC W g t v := (hg.block g h.lt hne).trans h
theorem OneC.new (w : World) (t : TypeId) (v : Value) : OneC (w.alloc (.cells #[v] t)) w.heap.size t v := heap_alloc_new w _
theorem grown_refl (w : World) (row : Option Nat) : w.grownBy w row := ⟨rfl, rfl, rfl, Nat.le_refl _, fun _ _ _ => rfl⟩
theorem grown_step (h : w.grownBy W row) (k : W.grownBy W2 row) : w.grownBy W2 row := World.grownBy.trans h k
theorem grown_alloc (h : w.grownBy W row) (o : Obj) : w.grownBy (W.alloc o) row := World.grownBy.trans h (World.grownBy_alloc W o row)
theorem grown_drew (h : w.grownBy W row) : w.grownBy W.drew row := ⟨h.os, h.tape, h.output, h.size, h.block⟩
theorem grown_drewN (h : w.grownBy W row) (n : Nat) : w.grownBy (W.drewN n) row := ⟨h.os, h.tape, h.output, h.size, h.block⟩
theorem grown_below (h : w.grownBy W row) (k : Below W.heap.size W W2) : w.grownBy W2 row :=
 ⟨k.os.trans h.os, k.tape.trans h.tape, k.output.trans h.output, Nat.le_trans h.size k.size, fun i hi hne => (k.block i (Nat.lt_of_lt_of_le hi h.size)).trans (h.block i hi hne)⟩
theorem grown_set {j : Nat} (h : w.grownBy W (some g)) : w.grownBy (W.setCell ⟨g, j, none⟩ v) (some g) :=
 ⟨h.os, h.tape, h.output, by simpa [World.setCell] using h.size, fun i hi hne => (Below.heap_setCell W _ v i (fun e => hne (by simp [e]))).trans (h.block i hi hne)⟩
theorem grown_setnew {a : Addr} (hg : w.heap.size ≤ a.block) (h : w.grownBy W row) : w.grownBy (W.setCell a v) row :=
 ⟨h.os, h.tape, h.output, by simpa [World.setCell] using h.size, fun i hi hne => (Below.heap_setCell W _ v i (fun e => by omega)).trans (h.block i hi hne)⟩
/-- What grew from an elder world by a block that is newer than it is: below it nothing has turned. -/
theorem below_grown {w0 : World} (h : Below w0.heap.size w0 w) (k : w.grownBy W row) (hr : ∀ b, row = some b → w0.heap.size ≤ b) : Below w0.heap.size w0 W :=
 h.trans ⟨k.os, k.tape, k.output, k.size, fun i hi => k.block i (Nat.lt_of_lt_of_le hi h.size) (fun e => by have := hr i e.symm; omega)⟩
end

/-- Outside the blocks of S nothing has turned. -/
structure KeptS (S : Nat → Prop) (w W : World) : Prop where
 os : W.os = w.os
 tape : W.tape = w.tape
 output : W.output = w.output
 size : w.heap.size ≤ W.heap.size
 block : ∀ k, k < w.heap.size → ¬ S k → W.heap[k]? = w.heap[k]?
section
variable {S S' : Nat → Prop} {w W W2 : World} {v : Value}
theorem kept_refl (S : Nat → Prop) (w : World) : KeptS S w w := ⟨rfl, rfl, rfl, Nat.le_refl _, fun _ _ _ => rfl⟩
theorem kept_step (h : KeptS S w W) (k : KeptS S W W2) : KeptS S w W2 :=
 ⟨k.os.trans h.os, k.tape.trans h.tape, k.output.trans h.output, Nat.le_trans h.size k.size, fun i hi hne => (k.block i (Nat.lt_of_lt_of_le hi h.size) hne).trans (h.block i hi hne)⟩
theorem kept_of_below (k : Below w.heap.size w W) : KeptS S w W := ⟨k.os, k.tape, k.output, k.size, fun i hi _ => k.block i hi⟩
theorem kept_below (h : KeptS S w W) (k : Below W.heap.size W W2) : KeptS S w W2 := kept_step h (kept_of_below k)
theorem kept_alloc (h : KeptS S w W) (o : Obj) : KeptS S w (W.alloc o) := kept_below h (below_alloc (Below.refl _ _) o)
theorem kept_drew (h : KeptS S w W) : KeptS S w W.drew := ⟨h.os, h.tape, h.output, h.size, h.block⟩
theorem kept_drewN (h : KeptS S w W) (n : Nat) : KeptS S w (W.drewN n) := ⟨h.os, h.tape, h.output, h.size, h.block⟩
theorem kept_set {a : Addr} (hs : S a.block) (h : KeptS S w W) : KeptS S w (W.setCell a v) :=
 ⟨h.os, h.tape, h.output, by simpa [World.setCell] using h.size, fun i hi hne => (Below.heap_setCell W _ v i (fun e => hne (e ▸ hs))).trans (h.block i hi hne)⟩
theorem kept_setnew {a : Addr} (hg : w.heap.size ≤ a.block) (h : KeptS S w W) : KeptS S w (W.setCell a v) :=
 ⟨h.os, h.tape, h.output, by simpa [World.setCell] using h.size, fun i hi hne => (Below.heap_setCell W _ v i (fun e => by omega)).trans (h.block i hi hne)⟩
theorem kept_grown {row : Option Nat} (h : w.grownBy W row) (hr : ∀ b, row = some b → S b) : KeptS S w W :=
 ⟨h.os, h.tape, h.output, h.size, fun i hi hne => h.block i hi (fun e => hne (hr i e.symm))⟩
theorem kept_mono (h : KeptS S w W) (hs : ∀ k, k < w.heap.size → S k → S' k) : KeptS S' w W := ⟨h.os, h.tape, h.output, h.size, fun i hi hne => h.block i hi (fun hk => hne (hs i hi hk))⟩
theorem below_kept {w0 : World} (h : Below w0.heap.size w0 w) (k : KeptS S w W) (hr : ∀ b, S b → w0.heap.size ≤ b) : Below w0.heap.size w0 W :=
 h.trans ⟨k.os, k.tape, k.output, k.size, fun i hi => k.block i (Nat.lt_of_lt_of_le hi h.size) (fun hk => by have := hr i hk; omega)⟩
theorem KeptS.cell (h : KeptS S w W) {a : Addr} {v : Value} (hc : w.cell? a = some v) (hs : ¬ S a.block) : W.cell? a = some v :=
 (cell_heap (w := w) (h.block _ (World.block_lt_of_cell? w a hc) hs)).trans hc
theorem OneC.kept {g : Nat} {t : TypeId} {v : Value} (h : OneC w g t v) (k : KeptS S w W) (hs : ¬ S g) : OneC W g t v := (k.block g h.lt hs).trans h
end

/-! ### kinds of values -/
/-- How a value of Lean's reads as cells. ok: the blocks that the reading may look at. -/
structure Ty (α : Type) where
 sz : Nat
 pos : 0 < sz
 R : (Nat → Prop) → World → α → List Value → Prop
 len : ∀ {ok w x cs}, R ok w x cs → cs.length = sz
 one : ∀ {ok w x cs}, R ok w x cs → ∀ u ∈ cs, u.oneCell' = true
 mono : ∀ {ok ok' : Nat → Prop} {w x cs}, (∀ k, ok k → ok' k) → R ok w x cs → R ok' w x cs
 move : ∀ {ok : Nat → Prop} {w w' : World} {x cs}, (∀ k, ok k → w'.heap[k]? = w.heap[k]?) → R ok w x cs → R ok w' x cs
 bnd : ∀ {ok : Nat → Prop} {w : World} {x cs}, R ok w x cs → R (fun k => ok k ∧ k < w.heap.size) w x cs

namespace Ty
variable {α β : Type}
theorem step (T : Ty α) {ok : Nat → Prop} {w w' : World} {x : α} {cs : List Value} (h : T.R ok w x cs) (hm : ∀ k, ok k → k < w.heap.size → w'.heap[k]? = w.heap[k]?) : T.R ok w' x cs :=
 T.mono (fun _ hk => hk.1) (T.move (fun k hk => hm k hk.1 hk.2) (T.bnd h))
theorem below (T : Ty α) {ok : Nat → Prop} {w w' : World} {x : α} {cs : List Value} (h : T.R ok w x cs) (hb : Below w.heap.size w w') : T.R ok w' x cs :=
 T.step h (fun k _ hk => hb.block k hk)

def flat (n : Nat) (hn : 0 < n) (enc : α → List Value) (hl : ∀ x, (enc x).length = n) (h1 : ∀ x, ∀ u ∈ enc x, u.oneCell' = true) : Ty α where
 sz := n
 pos := hn
 R := fun _ _ x cs => cs = enc x
 len := fun h => by rw [h]; exact hl _
 one := fun h u hu => h1 _ u (h ▸ hu)
 mono := fun _ h => h
 move := fun _ h => h
 bnd := fun h => h
def int (k : IntKind) : Ty Int := flat 1 (by decide) (fun x => [.int k x]) (fun _ => rfl) (fun x u hu => by rw [List.mem_singleton.1 hu]; rfl)
def bool : Ty Bool := flat 1 (by decide) (fun x => [.bool x]) (fun _ => rfl) (fun x u hu => by rw [List.mem_singleton.1 hu]; rfl)
def str : Ty ByteArray := flat 1 (by decide) (fun x => [.string x]) (fun _ => rfl) (fun x u hu => by rw [List.mem_singleton.1 hu]; rfl)
def pair (a : Ty α) (b : Ty β) : Ty (α × β) where
 sz := a.sz + b.sz
 pos := Nat.lt_of_lt_of_le a.pos (Nat.le_add_right _ _)
 R := fun ok w x cs => ∃ c1 c2, cs = c1 ++ c2 ∧ a.R ok w x.1 c1 ∧ b.R ok w x.2 c2
 len := by rintro ok w x cs ⟨c1, c2, rfl, h1, h2⟩; rw [List.length_append, a.len h1, b.len h2]
 one := by
  rintro ok w x cs ⟨c1, c2, rfl, h1, h2⟩ u hu
  rcases List.mem_append.1 hu with h | h
  ·exact a.one h1 u h
  ·exact b.one h2 u h
 mono := by rintro ok ok' w x cs hok ⟨c1, c2, rfl, h1, h2⟩; exact ⟨c1, c2, rfl, a.mono hok h1, b.mono hok h2⟩
 move := by rintro ok w w' x cs hm ⟨c1, c2, rfl, h1, h2⟩; exact ⟨c1, c2, rfl, a.move hm h1, b.move hm h2⟩
 bnd := by rintro ok w x cs ⟨c1, c2, rfl, h1, h2⟩; exact ⟨c1, c2, rfl, a.bnd h1, b.bnd h2⟩
end Ty

def CellsAt (w : World) (ad : Addr) (o : Nat) (cs : List Value) : Prop := ∀ (j : Nat) (u : Value), cs[j]? = some u → w.cell? (ad.add (o + j)) = some u

/-- A slice's elements, as they are read; an empty row asks nothing. -/
def Row {α : Type} (T : Ty α) (ok : Nat → Prop) (w : World) (A : Option Addr) (xs : List α) : Prop :=
 xs.length ≤ 9223372036854775807 ∧ (0 < xs.length → ∃ ad, A = some ad ∧ ok ad.block ∧ ∀ (i : Nat) (x : α), xs[i]? = some x → ∃ cs, T.R ok w x cs ∧ CellsAt w ad (i * T.sz) cs)

section
variable {α : Type} {T : Ty α} {ok ok' : Nat → Prop} {w w' : World} {A : Option Addr} {xs : List α}
theorem Row.len (h : Row T ok w A xs) : xs.length ≤ 9223372036854775807 := h.1
theorem Row.nil (T : Ty α) (ok : Nat → Prop) (w : World) (A : Option Addr) : Row T ok w A [] := ⟨by simp, fun h => absurd h (by simp)⟩
theorem Row.mono (h : Row T ok w A xs) (hok : ∀ k, ok k → ok' k) : Row T ok' w A xs :=
 ⟨h.1, fun hn => by
  obtain ⟨ad, e, hb, hc⟩ := h.2 hn
  refine ⟨ad, e, hok _ hb, fun i x hx => ?_⟩
  obtain ⟨cs, hr, hcs⟩ := hc i x hx
  exact ⟨cs, T.mono hok hr, hcs⟩⟩
theorem Row.move (h : Row T ok w A xs) (hm : ∀ k, ok k → w'.heap[k]? = w.heap[k]?) : Row T ok w' A xs :=
 ⟨h.1, fun hn => by
  obtain ⟨ad, e, hb, hc⟩ := h.2 hn
  refine ⟨ad, e, hb, fun i x hx => ?_⟩
  obtain ⟨cs, hr, hcs⟩ := hc i x hx
  exact ⟨cs, T.move hm hr, fun j u hu => by rw [cell_heap (w := w)]; exact hcs j u hu; rw [add_block]; exact hm _ hb⟩⟩
theorem Row.bnd (h : Row T ok w A xs) : Row T (fun k => ok k ∧ k < w.heap.size) w A xs :=
 ⟨h.1, fun hn => by
  obtain ⟨ad, e, hb, hc⟩ := h.2 hn
  refine ⟨ad, e, ⟨hb, ?_⟩, fun i x hx => ?_⟩
  ·obtain ⟨cs, hr, hcs⟩ := hc 0 xs[0] (by simp [hn])
   have hp : 0 < cs.length := by rw [T.len hr]; exact T.pos
   have := World.block_lt_of_cell? w _ (hcs 0 cs[0] (by simp [hp]))
   rwa [add_block] at this
  ·obtain ⟨cs, hr, hcs⟩ := hc i x hx
   exact ⟨cs, T.bnd hr, hcs⟩⟩
theorem Row.step (h : Row T ok w A xs) (hm : ∀ k, ok k → k < w.heap.size → w'.heap[k]? = w.heap[k]?) : Row T ok w' A xs :=
 Row.mono (Row.move (Row.bnd h) (fun k hk => hm k hk.1 hk.2)) (fun _ hk => hk.1)
theorem Row.below (h : Row T ok w A xs) (hb : Below w.heap.size w w') : Row T ok w' A xs := h.step (fun k _ hk => hb.block k hk)
theorem Row.alloc (h : Row T ok w A xs) (o : Obj) : Row T ok (w.alloc o) A xs := h.below (below_alloc (Below.refl _ _) o)
theorem Row.drewN (h : Row T ok w A xs) (n : Nat) : Row T ok (w.drewN n) A xs := h.below (below_drewN (Below.refl _ _) n)
theorem Row.get (h : Row T ok w A xs) {i : Nat} (hi : i < xs.length) : ∃ ad cs, A = some ad ∧ ok ad.block ∧ T.R ok w xs[i] cs ∧ CellsAt w ad (i * T.sz) cs := by
 obtain ⟨ad, e, hb, hc⟩ := h.2 (by omega)
 obtain ⟨cs, hr, hcs⟩ := hc i xs[i] (by simp [hi])
 exact ⟨ad, cs, e, hb, hr, hcs⟩
theorem CellsAt.cell {ad : Addr} {o : Nat} {cs : List Value} (h : CellsAt w ad o cs) (j : Nat) {u : Value} (hu : cs[j]? = some u) : w.cell? (ad.add (o + j)) = some u := h j u hu
theorem CellsAt.first {ad : Addr} {o : Nat} {u : Value} {cs : List Value} (h : CellsAt w ad o (u :: cs)) : w.cell? (ad.add o) = some u := h 0 u rfl
theorem CellsAt.field {ad : Addr} {o : Nat} {cs : List Value} (h : CellsAt w ad o cs) (j : Nat) (hj : 0 < j) {u : Value} (hu : cs[j]? = some u) : w.cell? ⟨(ad.add o).block, (ad.add o).off + j, none⟩ = some u :=
 cell_field hj (by rw [add_add]; exact h j u hu)
end

namespace Ty
variable {α β : Type}
def slice (T : Ty α) : Ty (List α) where
 sz := 1
 pos := by decide
 R := fun ok w xs cs => ∃ A c, cs = [.slice A xs.length c] ∧ xs.length ≤ c ∧ Row T ok w A xs
 len := by rintro ok w x cs ⟨A, c, rfl, _⟩; rfl
 one := by rintro ok w x cs ⟨A, c, rfl, _⟩ u hu; rw [List.mem_singleton.1 hu]; rfl
 mono := by rintro ok ok' w x cs hok ⟨A, c, rfl, hl, h⟩; exact ⟨A, c, rfl, hl, h.mono hok⟩
 move := by rintro ok w w' x cs hm ⟨A, c, rfl, hl, h⟩; exact ⟨A, c, rfl, hl, h.move hm⟩
 bnd := by rintro ok w x cs ⟨A, c, rfl, hl, h⟩; exact ⟨A, c, rfl, hl, h.bnd⟩
end Ty

/-! ### points and segments -/
abbrev Pt := Int × Int
abbrev Sg := Pt × Pt
abbrev Ty.pt : Ty Pt := Ty.flat 2 (by decide) (fun x => [.int .i64 x.1, .int .i64 x.2]) (fun _ => rfl) (fun x u hu => by simp at hu; rcases hu with rfl | rfl <;> rfl)
abbrev Ty.sg : Ty Sg := Ty.flat 4 (by decide) (fun x => [.int .i64 x.1.1, .int .i64 x.1.2, .int .i64 x.2.1, .int .i64 x.2.2]) (fun _ => rfl) (fun x u hu => by simp at hu; rcases hu with rfl | rfl | rfl | rfl <;> rfl)
abbrev Pts := List Pt
def ptD (xs : Pts) (k : Nat) : Pt := xs.getD k (0, 0)
theorem ptD_eq {xs : Pts} {k : Nat} (h : k < xs.length) : ptD xs k = xs[k] := by simp [ptD, h]

theorem Row.pt_at {ok : Nat → Prop} {w : World} {A : Option Addr} {xs : Pts} (h : Row Ty.pt ok w A xs) (k : Nat) (hk : k < xs.length) :
  ∃ ad, A = some ad ∧ w.cell? (ad.add (k * 2)) = some (.int .i64 (ptD xs k).1) ∧ w.cell? ⟨(ad.add (k * 2)).block, (ad.add (k * 2)).off + 1, none⟩ = some (.int .i64 (ptD xs k).2) := by
 obtain ⟨ad, cs, e, _, hr, hc⟩ := h.get hk
 rw [ptD_eq hk]
 obtain rfl : cs = _ := hr
 exact ⟨ad, e, hc.first, hc.field 1 (by decide) rfl⟩
/-- A literal row of points in a block of its own. -/
theorem Row.pt_lit (w : World) (xs : Pts) (t : TypeId) (ok : Nat → Prop) (hok : ok w.heap.size) (hl : xs.length ≤ 9223372036854775807) :
  Row Ty.pt ok (w.alloc (.cells (xs.flatMap fun x => [Value.int .i64 x.1, .int .i64 x.2]).toArray t)) (some ⟨w.heap.size, 0, none⟩) xs := by
 refine ⟨hl, fun _ => ⟨_, rfl, hok, fun i x hx => ⟨_, rfl, fun j u hu => ?_⟩⟩⟩
 rw [add_at]
 simp only [World.cell?, heap_alloc_new, Nat.zero_add]
 have key : ∀ (xs : Pts) (i : Nat), xs[i]? = some x → (xs.flatMap fun x => [Value.int .i64 x.1, .int .i64 x.2])[i * 2 + j]? = some u := by
  intro xs
  induction xs with
  | nil => intro i h; simp at h
  | cons y ys ih =>
   intro i h
   cases i with
   | zero =>
    simp at h; subst h
    have hj : j < 2 := by have := (List.getElem?_eq_some_iff.1 hu).1; simpa using this
    rw [List.flatMap_cons, Nat.zero_mul, Nat.zero_add, List.getElem?_append_left (by simpa using hj)]
    exact hu
   | succ i =>
    rw [List.flatMap_cons, List.getElem?_append_right (by simp; omega)]
    have := ih i (by simpa using h)
    simp only [List.length_cons, List.length_nil]
    rw [show (i + 1) * 2 + j - (0 + 1 + 1) = i * 2 + j by omega]
    exact this
 have := key xs i hx
 simpa [Ty.pt, Ty.flat] using this
abbrev J : Bool := true
abbrev Z : Bool := false
theorem bq {n : Nat} {w W : World} (h : Below n w W := by repeat (first | exact Below.refl _ _ | apply below_alloc | apply below_drewN | apply below_drew | (refine below_set2 ?_ ?_; (first | (simp; done) | (simp; omega))))) : Below n w W := h
theorem sA {α : Type} (l : List α) (i : Nat) (a : α) : l.toArray.setIfInBounds i a = (l.set i a).toArray := List.setIfInBounds_toArray ..
theorem sB {α : Type} (x a : α) (l : List α) : (x :: l).set 0 a = a :: l := rfl
theorem sC {α : Type} (x a : α) (l : List α) (i : Nat) : (x :: l).set (i + 1) a = x :: l.set i a := rfl
end Go.Proofs.YtaeflnbjeaoapaaGreat
end
namespace Go.Proofs.YtaeflnbjeaoapaaGreat
set_option linter.unusedVariables false
set_option linter.unusedSimpArgs false
section
open Go.RowKit

def lessB (a b : Pt) : Bool := if a.1 = b.1 then decide (a.2 < b.2) else decide (a.1 < b.1)
def validB (p : Pt) : Bool := decide (0 ≤ p.1 ∧ p.1 < 32768 ∧ 0 ≤ p.2 ∧ p.2 < 32768)
def crossZ (a b c : Pt) : Int := (b.1 - a.1) * (c.2 - a.2) - (b.2 - a.2) * (c.1 - a.1)
def turnZ (a b c : Pt) : Int := if validB a && validB b && validB c then crossZ a b c else 0
def ofB (a b : Pt) : Sg := if lessB b a then (b, a) else (a, b)

theorem valid_bd {p : Pt} (h : validB p = true) : 0 ≤ p.1 ∧ p.1 < 32768 ∧ 0 ≤ p.2 ∧ p.2 < 32768 := by simpa [validB] using h
theorem mul_bd {a b : Int} (h1 : -32768 ≤ a) (h2 : a ≤ 32768) (h3 : -32768 ≤ b) (h4 : b ≤ 32768) : -1073741824 ≤ a * b ∧ a * b ≤ 1073741824 := by
 have h : (a * b).natAbs ≤ 32768 * 32768 := by rw [Int.natAbs_mul]; exact Nat.mul_le_mul (by omega) (by omega)
 omega
theorem cross_wrap {m n : Int} (h1 : -1073741824 ≤ m ∧ m ≤ 1073741824) (h2 : -1073741824 ≤ n ∧ n ≤ 1073741824) : wrap64 (wrap64 m - wrap64 n) = m - n := by
 have e1 : wrap64 m = m := by unfold wrap64; omega
 have e2 : wrap64 n = n := by unfold wrap64; omega
 rw [e1, e2]; unfold wrap64; omega

theorem grid_Less (ax ay bx by_ : Int) (w : World) :
  Calls Tryz.prog 20 #[.agg #[.int .i64 ax, .int .i64 ay], .agg #[.int .i64 bx, .int .i64 by_]] w fun e w' => e = .returned (.bool (lessB (ax, ay) (bx, by_))) ∧ Below w.heap.size w w' := by
 by_cases h : ax = bx
 ·subst h
  go_enter Tryz.func20, Tryz.ntmps20
  go_wp2
  go_ret
  exact ⟨ret_bool (by simp [lessB]), bq⟩
 ·have h' : (ax != bx) = true := by simp [h]
  go_enter Tryz.func20, Tryz.ntmps20
  go_wp2
  go_ret
  exact ⟨ret_bool (by simp [lessB, h]), bq⟩
theorem grid_Valid (ax ay : Int) (w : World) :
  Calls Tryz.prog 19 #[.agg #[.int .i64 ax, .int .i64 ay]] w fun e w' => e = .returned (.bool (validB (ax, ay))) ∧ Below w.heap.size w w' := by
 go_enter Tryz.func19, Tryz.ntmps19
 go_wp2
 all_goals go_ret
 all_goals refine ⟨ret_bool ?_, bq⟩
 all_goals simp [validB, *]
 all_goals (intros; omega)

theorem take_snoc {α : Type} (xs : List α) (k : Nat) (d : α) (h : k < xs.length) : xs.take (k + 1) = xs.take k ++ [xs.getD k d] := by
 rw [List.take_succ_eq_append_getElem h]; simp [h]
theorem all_true {α : Type} {p : α → Bool} {xs : List α} (h : (xs.take xs.length).all p = true) : xs.all p = true := by rwa [List.take_length] at h
theorem all_false {α : Type} {p : α → Bool} {xs : List α} {k : Nat} (d : α) (h : k < xs.length) (hp : p (xs.getD k d) = false) : xs.all p = false := by
 rw [List.all_eq_false]
 exact ⟨xs[k], by simp, by simpa [h] using hp⟩

theorem seg_valid {ok : Nat → Prop} (xs : Pts) (A : Option Addr) (n c : Nat) (w : World) (hr : Row Ty.pt ok w A xs) (hn : n = xs.length) :
  Calls Tryz.prog 66 #[.slice A n c] w fun e w' => e = .returned (.bool (xs.all validB)) ∧ Below w.heap.size w w' := by
 subst hn
 have hm := hr.len
 go_enter Tryz.func66, Tryz.ntmps66
 go_wp2
 go_loopw [7] (fun i wr => ∃ k : Nat, k ≤ xs.length ∧ i = .int .i64 k ∧ Below w.heap.size w wr ∧ Hid ((xs.take k).all validB = true)) (fun i _ => xs.length - (intOf i).toNat)
 case atStart => exact ⟨0, Nat.zero_le _, rfl, Below.refl _ _, by simp [Hid]⟩
 case round =>
  obtain ⟨k, hk, rfl, hb, hall⟩ := hrel
  by_cases hlt : k < xs.length
  ·obtain ⟨ad, rfl, hc1, hc2⟩ := (hr.below hb).pt_at k hlt
   have hz := hb.size
   cases hv : validB (ptD xs k)
   ·have hv' : validB ((ptD xs k).1, (ptD xs k).2) = false := hv
    have HV := Lib.hid hv
    clear hv
    go_wp2_with (go_at_call 19; refine (grid_Valid _ _ _).mono ?_; rintro e w1 ⟨rfl, hb1⟩)
    go_ret
    exact ⟨ret_bool (all_false _ hlt HV.out).symm, (by repeat (first | exact Below.refl _ _ | apply below_alloc | apply below_drewN | apply below_drew | (refine below_set2 ?_ ?_; (first | (simp; done) | (simp; omega))) | (refine below_step ?_ hb1) | (refine below_step ?_ hb)))⟩
   ·have hv' : validB ((ptD xs k).1, (ptD xs k).2) = true := hv
    have HV := Lib.hid hv
    clear hv
    go_wp2_with (go_at_call 19; refine (grid_Valid _ _ _).mono ?_; rintro e w1 ⟨rfl, hb1⟩)
    go_roundw
    case rel => exact ⟨k + 1, by omega, by go_num, (by repeat (first | exact Below.refl _ _ | apply below_alloc | apply below_drewN | apply below_drew | (refine below_set2 ?_ ?_; (first | (simp; done) | (simp; omega))) | (refine below_step ?_ hb1) | (refine below_step ?_ hb))), by show _ = true; rw [take_snoc _ _ (0, 0) hlt, List.all_append, hall.out]; simpa [ptD] using HV.out⟩
    case measure => simp [intOf]; omega
  ·go_wp2
   go_ret
   exact ⟨ret_bool (by rw [List.take_of_length_le (by omega)] at hall; exact hall.out.symm), hb⟩

theorem seg_Turn (ax ay bx by_ cx cy : Int) (w : World) :
  Calls Tryz.prog 40 #[.agg #[.int .i64 ax, .int .i64 ay], .agg #[.int .i64 bx, .int .i64 by_], .agg #[.int .i64 cx, .int .i64 cy]] w fun e w' => e = .returned (.int .i64 (turnZ (ax, ay) (bx, by_) (cx, cy))) ∧ Below w.heap.size w w' := by
 have hlit : ∀ (W : World) (g : Nat), g = W.heap.size → Row Ty.pt (fun _ => True) (W.alloc (.cells #[.int .i64 ax, .int .i64 ay, .int .i64 bx, .int .i64 by_, .int .i64 cx, .int .i64 cy] 28)) (some ⟨g, 0, none⟩) [(ax, ay), (bx, by_), (cx, cy)] :=
  fun W g hg => hg ▸ Row.pt_lit W [(ax, ay), (bx, by_), (cx, cy)] _ _ trivial (by simp)
 have HL := Lib.hid hlit
 clear hlit
 cases hv : [(ax, ay), (bx, by_), (cx, cy)].all validB
 ·have HV := Lib.hid hv
  go_enter Tryz.func40, Tryz.ntmps40
  go_wp2_with (go_at_call 66; refine (seg_valid [(ax, ay), (bx, by_), (cx, cy)] _ _ _ _ (HL.out _ _ (by simp)) rfl).mono ?_; rintro e w1 ⟨rfl, hb1⟩)
  go_ret
  refine ⟨ret_int ?_, (by repeat (first | exact Below.refl _ _ | apply below_alloc | apply below_drewN | apply below_drew | (refine below_set2 ?_ ?_; (first | (simp; done) | (simp; omega))) | (refine below_step ?_ hb1)))⟩
  have h := HV.out
  simp only [List.all_cons, List.all_nil, Bool.and_true] at h
  simp only [turnZ, Bool.and_assoc, h]; simp
 ·have HV := Lib.hid hv
  obtain ⟨va, vb, vc⟩ : validB (ax, ay) = true ∧ validB (bx, by_) = true ∧ validB (cx, cy) = true := by simpa using hv
  have VA := Lib.hid va
  have VB := Lib.hid vb
  have VC := Lib.hid vc
  obtain ⟨a1, a2, a3, a4⟩ := valid_bd va
  obtain ⟨b1, b2, b3, b4⟩ := valid_bd vb
  obtain ⟨c1, c2, c3, c4⟩ := valid_bd vc
  clear va vb vc
  simp only at a1 a2 a3 a4 b1 b2 b3 b4 c1 c2 c3 c4
  go_enter Tryz.func40, Tryz.ntmps40
  go_wp2_with (go_at_call 66; refine (seg_valid [(ax, ay), (bx, by_), (cx, cy)] _ _ _ _ (HL.out _ _ (by simp)) rfl).mono ?_; rintro e w1 ⟨rfl, hb1⟩; obtain ⟨hc, hf⟩ := bcell hb1)
  go_ret
  refine ⟨ret_int ?_, (by repeat (first | exact Below.refl _ _ | apply below_alloc | apply below_drewN | apply below_drew | (refine below_set2 ?_ ?_; (first | (simp; done) | (simp; omega))) | (refine below_step ?_ hb1)))⟩
  simp only [turnZ, VA.out, VB.out, VC.out, Bool.and_true, if_true, crossZ]
  rw [cross_wrap (mul_bd (a := bx - ax) (b := cy - ay) (by omega) (by omega) (by omega) (by omega)) (mul_bd (a := by_ - ay) (b := cx - ax) (by omega) (by omega) (by omega) (by omega))]

theorem seg_Of (ax ay bx by_ : Int) (w : World) :
  Calls Tryz.prog 67 #[.agg #[.int .i64 ax, .int .i64 ay], .agg #[.int .i64 bx, .int .i64 by_]] w fun e w' =>
   e = .returned (.agg #[.int .i64 (ofB (ax, ay) (bx, by_)).1.1, .int .i64 (ofB (ax, ay) (bx, by_)).1.2, .int .i64 (ofB (ax, ay) (bx, by_)).2.1, .int .i64 (ofB (ax, ay) (bx, by_)).2.2]) ∧ Below w.heap.size w w' := by
 cases hv : lessB (bx, by_) (ax, ay)
 ·have HV := Lib.hid hv
  go_enter Tryz.func67, Tryz.ntmps67
  go_wp2_with (go_at_call 20; (refine (grid_Less _ _ _ _ _).mono ?_; rintro e w1 ⟨rfl, hb1⟩; obtain ⟨c_hb1, f_hb1⟩ := bcell hb1; have z_hb1 := hb1.size; (try simp at z_hb1); (try have y0_hb1 : w.heap.size < w1.heap.size := by omega); (try have y1_hb1 : w.heap.size + 1 < w1.heap.size := by omega); (try have y2_hb1 : w.heap.size + 1 + 1 < w1.heap.size := by omega); (try have y3_hb1 : w.heap.size + 1 + 1 + 1 < w1.heap.size := by omega); (try have y4_hb1 : w.heap.size + 1 + 1 + 1 + 1 < w1.heap.size := by omega)))
  exact bodyPost_ret (v := .agg #[.int .i64 ax, .int .i64 ay, .int .i64 bx, .int .i64 by_]) (by simp [results, Tryz.results67]; go_simp) rfl ⟨by simp [ofB, HV.out], (by repeat (first | exact Below.refl _ _ | apply below_alloc | apply below_drewN | apply below_drew | (refine below_set2 ?_ ?_; (first | (simp; done) | (simp; omega))) | (refine below_step ?_ hb1)))⟩
 ·have HV := Lib.hid hv
  go_enter Tryz.func67, Tryz.ntmps67
  go_wp2_with (go_at_call 20; (refine (grid_Less _ _ _ _ _).mono ?_; rintro e w1 ⟨rfl, hb1⟩; obtain ⟨c_hb1, f_hb1⟩ := bcell hb1; have z_hb1 := hb1.size; (try simp at z_hb1); (try have y0_hb1 : w.heap.size < w1.heap.size := by omega); (try have y1_hb1 : w.heap.size + 1 < w1.heap.size := by omega); (try have y2_hb1 : w.heap.size + 1 + 1 < w1.heap.size := by omega); (try have y3_hb1 : w.heap.size + 1 + 1 + 1 < w1.heap.size := by omega); (try have y4_hb1 : w.heap.size + 1 + 1 + 1 + 1 < w1.heap.size := by omega)))
  exact bodyPost_ret (v := .agg #[.int .i64 bx, .int .i64 by_, .int .i64 ax, .int .i64 ay]) (by simp [results, Tryz.results67]; go_simp) rfl ⟨by simp [ofB, HV.out], (by repeat (first | exact Below.refl _ _ | apply below_alloc | apply below_drewN | apply below_drew | (refine below_set2 ?_ ?_; (first | (simp; done) | (simp; omega))) | (refine below_step ?_ hb1)))⟩
end
section
def lessR : Pts → Pts → Bool
 | [], [] => false
 | [], _ :: _ => true
 | _ :: _, [] => false
 | a :: as_, b :: bs => if a = b then lessR as_ bs else lessB a b
theorem lessB_irrefl (a : Pt) : lessB a a = false := by simp [lessB]
theorem lessB_total {a b : Pt} (h : a ≠ b) : lessB a b = !lessB b a := by
 unfold lessB
 by_cases h1 : a.1 = b.1
 ·have h2 : a.2 ≠ b.2 := fun e => h (Prod.ext h1 e)
  simp only [h1, if_true]
  rw [← decide_not, decide_eq_decide]; omega
 ·rw [if_neg h1, if_neg (fun e => h1 e.symm), ← decide_not, decide_eq_decide]; omega
theorem lessB_trans {a b c : Pt} (h1 : lessB a b = true) (h2 : lessB b c = true) : lessB a c = true := by
 unfold lessB at *
 split at h1 <;> split at h2 <;> simp at h1 h2 <;> split <;> simp <;> omega
theorem lessR_irrefl : ∀ a : Pts, lessR a a = false
 | [] => rfl
 | a :: as_ => by simp [lessR, lessR_irrefl as_]
theorem lessR_total : ∀ {a b : Pts}, a ≠ b → lessR a b = !lessR b a
 | [], [], h => absurd rfl h
 | [], _ :: _, _ => rfl
 | _ :: _, [], _ => rfl
 | a :: as_, b :: bs, h => by
  by_cases e : a = b
  ·subst e
   simp only [lessR, if_true]
   exact lessR_total (fun e => h (by rw [e]))
  ·rw [lessR, lessR, if_neg e, if_neg (fun x => e x.symm)]
   exact lessB_total e
theorem lessR_trans : ∀ {a b c : Pts}, lessR a b = true → lessR b c = true → lessR a c = true
 | [], [], _, h, _ => by simp [lessR] at h
 | [], _ :: _, [], _, h => by simp [lessR] at h
 | [], _ :: _, _ :: _, _, _ => rfl
 | _ :: _, [], _, h, _ => by simp [lessR] at h
 | _ :: _, _ :: _, [], _, h => by simp [lessR] at h
 | a :: as_, b :: bs, c :: cs, h1, h2 => by
  unfold lessR at *
  by_cases e1 : a = b
  ·subst e1
   by_cases e2 : a = c
   ·subst e2
    simp only [if_true] at *
    exact lessR_trans h1 h2
   ·rw [if_neg e2] at h2 ⊢; exact h2
  ·rw [if_neg e1] at h1
   by_cases e2 : b = c
   ·subst e2
    rw [if_neg e1]; exact h1
   ·rw [if_neg e2] at h2
    have h3 := lessB_trans h1 h2
    have e3 : a ≠ c := fun e => by subst e; rw [lessB_irrefl] at h3; cases h3
    rw [if_neg e3]; exact h3
/-- not greater -/
def leR (a b : Pts) : Prop := lessR b a = false
theorem leR_refl (a : Pts) : leR a a := lessR_irrefl a
theorem leR_of_less {a b : Pts} (h : lessR a b = true) : leR a b := by
 unfold leR
 have e : a ≠ b := fun e => by subst e; rw [lessR_irrefl] at h; cases h
 have := lessR_total e
 rw [h] at this
 cases hb : lessR b a
 ·rfl
 ·rw [hb] at this; cases this
theorem leR_trans {a b c : Pts} (h1 : leR a b) (h2 : leR b c) : leR a c := by
 unfold leR at *
 cases h : lessR c a
 ·rfl
 ·by_cases e1 : a = b
  ·subst e1; rw [h2] at h; cases h
  ·have h1' : lessR a b = true := by rw [lessR_total e1, h1]; rfl
   have := lessR_trans h h1'
   rw [h2] at this; cases this
theorem leR_antisymm {a b : Pts} (h1 : leR a b) (h2 : leR b a) : a = b := by
 by_cases e : a = b
 ·exact e
 ·have := lessR_total e
  unfold leR at h1 h2
  rw [h1, h2] at this; cases this

theorem lessR_step {a b : Pts} : ∀ {k : Nat}, a.take k = b.take k → k < a.length → k < b.length → a.getD k (0, 0) ≠ b.getD k (0, 0) → lessR a b = lessB (a.getD k (0, 0)) (b.getD k (0, 0)) := by
 induction a generalizing b with
 | nil => intro k _ h; simp at h
 | cons x xs ih =>
  cases b with
  | nil => intro k _ _ h; simp at h
  | cons y ys =>
   intro k ht ha hb hne
   cases k with
   | zero => simp at hne ⊢; rw [lessR, if_neg hne]
   | succ k =>
    simp only [List.take_succ_cons, List.cons.injEq] at ht
    rw [lessR, if_pos ht.1]
    simpa using ih ht.2 (by simpa using ha) (by simpa using hb) (by simpa using hne)
theorem lessR_end {a b : Pts} : a.take (min a.length b.length) = b.take (min a.length b.length) → lessR a b = decide (a.length < b.length) := by
 induction a generalizing b with
 | nil => cases b <;> simp [lessR]
 | cons x xs ih =>
  cases b with
  | nil => simp [lessR]
  | cons y ys =>
   intro h
   simp only [List.length_cons, Nat.succ_min_succ, List.take_succ_cons, List.cons.injEq] at h
   rw [lessR, if_pos h.1, ih h.2]
   simp

def swp {α : Type} (xs : List α) (i j : Nat) (d : α) : List α := (xs.set i (xs.getD j d)).set j (xs.getD i d)
section
variable {α : Type} {xs : List α} {i j k : Nat} {d : α}
theorem swp_len : (swp xs i j d).length = xs.length := by simp [swp]
theorem swp_get (hi : i < xs.length) (hj : j < xs.length) (k : Nat) : (swp xs i j d).getD k d = if k = j then xs.getD i d else if k = i then xs.getD j d else xs.getD k d := by
 unfold swp
 simp only [List.getD_eq_getElem?_getD, List.getElem?_set]
 by_cases h1 : k = j
 ·subst h1; simp [hj]
 ·have h1' : ¬ j = k := fun e => h1 e.symm
  by_cases h2 : k = i
  ·subst h2; simp [hi, h1, h1']
  ·have h2' : ¬ i = k := fun e => h2 e.symm
   simp [h1, h1', h2, h2']
theorem swp_perm [DecidableEq α] (hi : i < xs.length) (hj : j < xs.length) : (swp xs i j d).Perm xs := by
 rw [List.perm_iff_count]
 intro a
 unfold swp
 have hi' : xs.getD i d = xs[i] := by simp [hi]
 have hj' : xs.getD j d = xs[j] := by simp [hj]
 rw [hi', hj', List.count_set (by simpa using hj), List.count_set hi]
 have h1 : xs[i] = a → 0 < xs.count a := fun e => List.count_pos_iff.2 (e ▸ List.getElem_mem hi)
 by_cases hij : i = j
 ·subst hij
  simp only [List.getElem_set_self, beq_iff_eq]
  split
  ·rename_i e; have := h1 e; omega
  ·omega
 ·rw [List.getElem_set_ne hij]
  simp only [beq_iff_eq]
  by_cases e1 : xs[i] = a <;> by_cases e2 : xs[j] = a
  ·simp [e1, e2]; have := h1 e1; omega
  ·simp [e1, e2]; have := h1 e1; omega
  ·simp [e1, e2]
  ·simp [e1, e2]
end
def rg (xs : List Pts) (k : Nat) : Pts := xs.getD k []
def SortedOn (xs : List Pts) (a b : Nat) : Prop := ∀ i j, a ≤ i → i < j → j < b → leR (rg xs i) (rg xs j)
/-- the state of an insertion: the element at j is on its way down; the others of a .. i are sorted, and those behind j are not below it -/
def Inserting (xs : List Pts) (a i j : Nat) : Prop :=
 (∀ p q, a ≤ p → p < q → q ≤ i → p ≠ j → q ≠ j → leR (rg xs p) (rg xs q)) ∧ (∀ q, j < q → q ≤ i → leR (rg xs j) (rg xs q))
theorem inserting_start {xs : List Pts} {a i : Nat} (h : SortedOn xs a i) : Inserting xs a i i := ⟨fun p q h1 h2 h3 h4 h5 => h p q h1 h2 (by omega), fun q h1 h2 => by omega⟩
theorem inserting_step {xs : List Pts} {a i j : Nat} (h : Inserting xs a i j) (ha : a < j) (hji : j ≤ i) (hi : i < xs.length) (hl : lessR (rg xs j) (rg xs (j - 1)) = true) : Inserting (swp xs j (j - 1) []) a i (j - 1) := by
 have g : ∀ k, rg (swp xs j (j - 1) []) k = if k = j - 1 then rg xs j else if k = j then rg xs (j - 1) else rg xs k := fun k => swp_get (by omega) (by omega) k
 refine ⟨fun p q h1 h2 h3 h4 h5 => ?_, fun q h1 h2 => ?_⟩
 ·rw [g, g, if_neg h4, if_neg h5]
  by_cases e1 : p = j
  ·rw [if_pos e1, if_neg (by omega)]
   exact h.1 (j - 1) q (by omega) (by omega) h3 (by omega) (by omega)
  ·rw [if_neg e1]
   by_cases e2 : q = j
   ·rw [if_pos e2]
    exact h.1 p (j - 1) h1 (by omega) (by omega) e1 (by omega)
   ·rw [if_neg e2]
    exact h.1 p q h1 h2 h3 e1 e2
 ·rw [g, g, if_pos rfl, if_neg (by omega)]
  by_cases e : q = j
  ·rw [if_pos e]; exact leR_of_less hl
  ·rw [if_neg e]; exact h.2 q (by omega) h2
theorem inserting_end {xs : List Pts} {a i j : Nat} (h : Inserting xs a i j) (ha : a ≤ j) (hji : j ≤ i) (hl : a = j ∨ leR (rg xs (j - 1)) (rg xs j)) : SortedOn xs a (i + 1) := by
 intro p q h1 h2 h3
 by_cases e1 : p = j
 ·subst e1; exact h.2 q h2 (by omega)
 ·by_cases e2 : q = j
  ·subst e2
   rcases hl with hl | hl
   ·omega
   ·by_cases e3 : p = q - 1
    ·subst e3; exact hl
    ·exact leR_trans (h.1 p (q - 1) h1 (by omega) (by omega) e1 (by omega)) hl
  ·exact h.1 p q h1 h2 (by omega) e1 e2
/-- two sorted lists with the same elements are one -/
theorem sorted_unique : ∀ {xs ys : List Pts}, xs.Perm ys → SortedOn xs 0 xs.length → SortedOn ys 0 ys.length → xs = ys
 | [], ys, h, _, _ => h.symm.eq_nil.symm
 | x :: xs, [], h, _, _ => by simpa using h.length_eq
 | x :: xs, y :: ys, h, h1, h2 => by
  have tail : ∀ {z : Pts} {zs : List Pts}, SortedOn (z :: zs) 0 (z :: zs).length → SortedOn zs 0 zs.length := fun {z zs} hs i j _ h2 h3 => by
   have := hs (i + 1) (j + 1) (by omega) (by omega) (by simpa using h3)
   simpa [rg] using this
  have least : ∀ {z u : Pts} {zs : List Pts}, SortedOn (z :: zs) 0 (z :: zs).length → u ∈ z :: zs → leR z u := fun {z u zs} hs hu => by
   rcases List.mem_cons.1 hu with rfl | hu
   ·exact leR_refl _
   ·obtain ⟨i, hi, e⟩ := List.getElem_of_mem hu
    have := hs 0 (i + 1) (by omega) (by omega) (by simpa using hi)
    simpa [rg, hi, e] using this
  have e : x = y := leR_antisymm (least h1 (h.symm.subset (List.mem_cons_self))) (least h2 (h.subset (List.mem_cons_self)))
  subst e
  rw [sorted_unique (List.Perm.cons_inv h) (tail h1) (tail h2)]
end
section
set_option linter.unusedSectionVars false

structure Tot {α : Type} (less : α → α → Bool) : Prop where
 irr : ∀ a, less a a = false
 trans : ∀ {a b c}, less a b = true → less b c = true → less a c = true
 total : ∀ {a b}, a ≠ b → less a b = !less b a
def insZ {α : Type} (less : α → α → Bool) (x : α) : List α → List α
 | [] => [x]
 | y :: ys => if less x y then x :: y :: ys else y :: insZ less x ys
def sortG {α : Type} (less : α → α → Bool) (l : List α) : List α := l.foldl (fun acc x => insZ less x acc) []
def Srt {α : Type} (less : α → α → Bool) (l : List α) : Prop := l.Pairwise (fun a b => less b a = false)
def Inc {α : Type} (less : α → α → Bool) (l : List α) : Prop := l.Pairwise (fun a b => less a b = true)
section
variable {α : Type} {less : α → α → Bool}
theorem Tot.asymm (T : Tot less) {a b : α} (h : less a b = true) : less b a = false := by
 have e : a ≠ b := fun e => by subst e; rw [T.irr] at h; cases h
 have := T.total e
 rw [h] at this
 cases hb : less b a
 ·rfl
 ·rw [hb] at this; cases this
theorem Tot.antisymm (T : Tot less) {a b : α} (h1 : less a b = false) (h2 : less b a = false) : a = b := by
 by_cases e : a = b
 ·exact e
 ·have := T.total e
  rw [h1, h2] at this; cases this
theorem Tot.ntrans (T : Tot less) {a b c : α} (h1 : less b a = false) (h2 : less c b = false) : less c a = false := by
 cases h : less c a
 ·rfl
 ·by_cases e : b = a
  ·subst e; rw [h2] at h; cases h
  ·have h3 : less a b = true := by
    have := T.total (fun x => e x.symm : a ≠ b)
    rw [h1] at this; exact this
   have := T.trans h h3
   rw [h2] at this; cases this
theorem insZ_perm (x : α) : ∀ l : List α, (insZ less x l).Perm (x :: l)
 | [] => List.Perm.refl _
 | y :: ys => by
  unfold insZ
  split
  ·exact List.Perm.refl _
  ·exact ((insZ_perm x ys).cons y).trans (List.Perm.swap x y ys)
theorem fold_perm : ∀ (l acc : List α), (l.foldl (fun acc x => insZ less x acc) acc).Perm (l ++ acc)
 | [], acc => List.Perm.refl _
 | x :: l, acc => by
  refine (fold_perm l (insZ less x acc)).trans ?_
  exact (List.Perm.append_left l (insZ_perm x acc)).trans List.perm_middle
theorem sortG_perm (l : List α) : (sortG less l).Perm l := by
 have := fold_perm (less := less) l []
 rwa [List.append_nil] at this
theorem insZ_srt (T : Tot less) (x : α) : ∀ {l : List α}, Srt less l → Srt less (insZ less x l)
 | [], _ => List.pairwise_singleton _ _
 | y :: ys, h => by
  have h1 := List.pairwise_cons.1 h
  unfold insZ
  split
  ·rename_i hx
   refine List.pairwise_cons.2 ⟨fun z hz => ?_, h⟩
   rcases List.mem_cons.1 hz with rfl | hz
   ·exact T.asymm hx
   ·exact T.ntrans (T.asymm hx) (h1.1 z hz)
  ·rename_i hx
   refine List.pairwise_cons.2 ⟨fun z hz => ?_, insZ_srt T x h1.2⟩
   rcases List.mem_cons.1 ((insZ_perm x ys).subset hz) with rfl | hz
   ·simpa using hx
   ·exact h1.1 z hz
theorem fold_srt (T : Tot less) : ∀ (l : List α) {acc : List α}, Srt less acc → Srt less (l.foldl (fun acc x => insZ less x acc) acc)
 | [], _, h => h
 | x :: l, _, h => fold_srt T l (insZ_srt T x h)
theorem sortG_srt (T : Tot less) (l : List α) : Srt less (sortG less l) := fold_srt T l List.Pairwise.nil
theorem srt_unique (T : Tot less) : ∀ {a b : List α}, a.Perm b → Srt less a → Srt less b → a = b
 | [], b, h, _, _ => h.symm.eq_nil.symm
 | x :: xs, [], h, _, _ => by simpa using h.length_eq
 | x :: xs, y :: ys, h, h1, h2 => by
  have k1 := List.pairwise_cons.1 h1
  have k2 := List.pairwise_cons.1 h2
  have e : x = y := by
   rcases List.mem_cons.1 (h.subset (List.mem_cons_self)) with e | hx
   ·exact e
   ·rcases List.mem_cons.1 (h.symm.subset (List.mem_cons_self)) with e | hy
    ·exact e.symm
    ·exact T.antisymm (k2.1 x hx) (k1.1 y hy)
  subst e
  rw [srt_unique T (List.Perm.cons_inv h) k1.2 k2.2]
theorem sortG_eq (T : Tot less) {a b : List α} (h : b.Perm a) (hs : Srt less b) : b = sortG less a := srt_unique T (h.trans (sortG_perm a).symm) hs (sortG_srt T a)
theorem sortG_congr (T : Tot less) {a b : List α} (h : a.Perm b) : sortG less a = sortG less b := sortG_eq T ((sortG_perm a).trans h) (sortG_srt T a)
theorem mem_sortG {l : List α} {x : α} : x ∈ sortG less l ↔ x ∈ l := (sortG_perm l).mem_iff
theorem sortG_len (l : List α) : (sortG less l).length = l.length := (sortG_perm l).length_eq

theorem inc_unique (T : Tot less) : ∀ {a b : List α}, (∀ x, x ∈ a ↔ x ∈ b) → Inc less a → Inc less b → a = b
 | [], [], _, _, _ => rfl
 | [], y :: ys, h, _, _ => absurd ((h y).2 List.mem_cons_self) (by simp)
 | x :: xs, [], h, _, _ => absurd ((h x).1 List.mem_cons_self) (by simp)
 | x :: xs, y :: ys, h, h1, h2 => by
  have k1 := List.pairwise_cons.1 h1
  have k2 := List.pairwise_cons.1 h2
  have e : x = y := by
   rcases List.mem_cons.1 ((h x).1 List.mem_cons_self) with e | hx
   ·exact e
   ·rcases List.mem_cons.1 ((h y).2 List.mem_cons_self) with e | hy
    ·exact e.symm
    ·have := T.asymm (k2.1 x hx)
     rw [k1.1 y hy] at this; cases this
  subst e
  refine congrArg _ (inc_unique T (fun z => ?_) k1.2 k2.2)
  have hz := h z
  simp only [List.mem_cons] at hz
  constructor
  ·intro hm
   rcases hz.1 (.inr hm) with rfl | h'
   ·have := k1.1 _ hm; rw [T.irr] at this; cases this
   ·exact h'
  ·intro hm
   rcases hz.2 (.inr hm) with rfl | h'
   ·have := k2.1 _ hm; rw [T.irr] at this; cases this
   ·exact h'
end
/-! ### neighbours that repeat, taken out -/
section
variable {α : Type} [DecidableEq α] {less : α → α → Bool}
def compA (p : α) : List α → List α
 | [] => []
 | y :: ys => if y = p then compA p ys else y :: compA y ys
def compactZ : List α → List α
 | [] => []
 | x :: xs => x :: compA x xs
theorem mem_compA {x : α} : ∀ {p : α} {l : List α}, x = p ∨ x ∈ compA p l ↔ x = p ∨ x ∈ l
 | p, [] => by simp [compA]
 | p, y :: ys => by
  unfold compA
  split
  ·rename_i h; subst h
   rw [mem_compA (p := y) (l := ys)]; simp
  ·have := mem_compA (x := x) (p := y) (l := ys)
   simp only [List.mem_cons]
   rw [this]
theorem mem_compact {x : α} {l : List α} : x ∈ compactZ l ↔ x ∈ l := by
 cases l with
 | nil => simp [compactZ]
 | cons y ys => simp only [compactZ, List.mem_cons]; exact mem_compA
theorem compA_sub {p : α} {l : List α} : ∀ {x : α}, x ∈ compA p l → x ∈ l := by
 induction l generalizing p with
 | nil => simp [compA]
 | cons y ys ih =>
  intro x hx
  unfold compA at hx
  split at hx
  ·exact List.mem_cons_of_mem _ (ih hx)
  ·rcases List.mem_cons.1 hx with rfl | h
   ·exact List.mem_cons_self
   ·exact List.mem_cons_of_mem _ (ih h)
theorem compA_inc (T : Tot less) : ∀ {p : α} {l : List α}, Srt less (p :: l) → Inc less (p :: compA p l)
 | p, [], _ => List.pairwise_singleton _ _
 | p, y :: ys, h => by
  have h1 := List.pairwise_cons.1 h
  have h2 := List.pairwise_cons.1 h1.2
  unfold compA
  split
  ·rename_i e; subst e
   exact compA_inc T h1.2
  ·rename_i e
   refine List.pairwise_cons.2 ⟨fun z hz => ?_, compA_inc T h1.2⟩
   have hp : less p y = true := by
    have := T.total (fun x => e x.symm : p ≠ y)
    rw [h1.1 y List.mem_cons_self] at this; exact this
   rcases List.mem_cons.1 hz with rfl | hz
   ·exact hp
   ·have := (List.pairwise_cons.1 (compA_inc T h1.2)).1 z hz
    exact T.trans hp this
theorem compact_inc (T : Tot less) {l : List α} (h : Srt less l) : Inc less (compactZ l) := by
 cases l with
 | nil => exact List.Pairwise.nil
 | cons x xs => exact compA_inc T h
theorem Inc.srt (T : Tot less) {l : List α} (h : Inc less l) : Srt less l := h.imp (fun hx => T.asymm hx)
theorem Inc.nodup (T : Tot less) {l : List α} (h : Inc less l) : l.Nodup := h.imp (fun {a b} hx e => by subst e; rw [T.irr] at hx; cases hx)
theorem compact_len (l : List α) : (compactZ l).length ≤ l.length := by
 cases l with
 | nil => simp [compactZ]
 | cons x xs =>
  have : ∀ (l : List α) (p : α), (compA p l).length ≤ l.length := by
   intro l
   induction l with
   | nil => intro p; simp [compA]
   | cons y ys ih =>
    intro p
    unfold compA
    split
    ·have := ih p; simp; omega
    ·have := ih y; simp; omega
  have := this xs x
  simp [compactZ]; omega
end
theorem totB : Tot lessB := ⟨lessB_irrefl, lessB_trans, lessB_total⟩
theorem totR : Tot lessR := ⟨lessR_irrefl, lessR_trans, lessR_total⟩
def lessS (a b : Sg) : Bool := if a.1 = b.1 then lessB a.2 b.2 else lessB a.1 b.1
theorem totS : Tot lessS where
 irr := fun a => by unfold lessS; rw [if_pos rfl]; exact lessB_irrefl _
 trans := fun {a b c} h1 h2 => by
  unfold lessS at *
  by_cases e1 : a.1 = b.1
  ·rw [if_pos e1] at h1
   by_cases e2 : b.1 = c.1
   ·rw [if_pos e2] at h2
    rw [if_pos (e1.trans e2)]
    exact lessB_trans h1 h2
   ·rw [if_neg e2] at h2
    rw [if_neg (fun e => e2 (e1.symm.trans e)), e1]
    exact h2
  ·rw [if_neg e1] at h1
   by_cases e2 : b.1 = c.1
   ·rw [if_neg (fun e => e1 (e.trans e2.symm)), ← e2]
    exact h1
   ·rw [if_neg e2] at h2
    have h3 := lessB_trans h1 h2
    have e3 : a.1 ≠ c.1 := fun e => by rw [e, lessB_irrefl] at h3; cases h3
    rw [if_neg e3]; exact h3
 total := fun {a b} h => by
  unfold lessS
  by_cases e1 : a.1 = b.1
  ·have e2 : a.2 ≠ b.2 := fun e => h (Prod.ext e1 e)
   rw [if_pos e1, if_pos e1.symm]
   exact lessB_total e2
  ·rw [if_neg e1, if_neg (fun e => e1 e.symm)]
   exact lessB_total e1
end
section
open Go.RowKit

def onB (p a b : Pt) : Bool := (validB p && validB a && validB b) && (decide (crossZ a b p = 0) && decide (min a.1 b.1 ≤ p.1 ∧ p.1 ≤ max a.1 b.1 ∧ min a.2 b.2 ≤ p.2 ∧ p.2 ≤ max a.2 b.2))
theorem onB_invalid {p a b : Pt} (h : (validB p && validB a && validB b) = false) : onB p a b = false := by simp [onB, h]
theorem onB_off {p a b : Pt} (h : ¬ crossZ a b p = 0) : onB p a b = false := by simp [onB, h]
theorem turn_valid {a b c : Pt} (h : (validB a && validB b && validB c) = true) : turnZ a b c = crossZ a b c := by simp [turnZ, h]
theorem ofB_x (a b : Pt) : (ofB a b).1.1 = min a.1 b.1 ∧ (ofB a b).2.1 = max a.1 b.1 := by
 by_cases h1 : b.1 = a.1
 ·by_cases h2 : b.2 < a.2
  ·simp [ofB, lessB, h1, h2]
  ·simp [ofB, lessB, h1, h2]
 ·by_cases h2 : b.1 < a.1
  ·simp [ofB, lessB, h1, h2]; omega
  ·simp [ofB, lessB, h1, h2]; omega

theorem seg_On (px py ax ay bx by_ : Int) (w : World) :
  Calls Tryz.prog 105 #[.agg #[.int .i64 px, .int .i64 py], .agg #[.int .i64 ax, .int .i64 ay], .agg #[.int .i64 bx, .int .i64 by_]] w fun e w' => e = .returned (.bool (onB (px, py) (ax, ay) (bx, by_))) ∧ Below w.heap.size w w' := by
 have hlit : ∀ (W : World) (g : Nat), g = W.heap.size → Row Ty.pt (fun _ => True) (W.alloc (.cells #[.int .i64 px, .int .i64 py, .int .i64 ax, .int .i64 ay, .int .i64 bx, .int .i64 by_] 28)) (some ⟨g, 0, none⟩) [(px, py), (ax, ay), (bx, by_)] :=
  fun W g hg => hg ▸ Row.pt_lit W [(px, py), (ax, ay), (bx, by_)] _ _ trivial (by simp)
 have HL := Lib.hid hlit
 clear hlit
 cases hv : [(px, py), (ax, ay), (bx, by_)].all validB
 ·have HV := Lib.hid hv
  go_enter Tryz.func105, Tryz.ntmps105
  go_wp2_with (go_at_call 66; (refine (seg_valid [(px, py), (ax, ay), (bx, by_)] _ _ _ _ (HL.out _ _ (by simp)) rfl).mono ?_; rintro e w1 ⟨rfl, hb1⟩; obtain ⟨c_hb1, f_hb1⟩ := bcell hb1; have z_hb1 := hb1.size; (try simp at z_hb1); (try have y0_hb1 : w.heap.size < w1.heap.size := by omega); (try have y1_hb1 : w.heap.size + 1 < w1.heap.size := by omega); (try have y2_hb1 : w.heap.size + 1 + 1 < w1.heap.size := by omega); (try have y3_hb1 : w.heap.size + 1 + 1 + 1 < w1.heap.size := by omega); (try have y4_hb1 : w.heap.size + 1 + 1 + 1 + 1 < w1.heap.size := by omega)))
  go_ret
  refine ⟨ret_bool ?_, (by repeat (first | exact Below.refl _ _ | apply below_alloc | apply below_drewN | apply below_drew | (refine below_set2 ?_ ?_; (first | (simp; done) | (simp; omega))) | (refine below_step ?_ hb1)))⟩
  rw [onB_invalid (by have := HV.out; simpa [Bool.and_assoc] using this)]
 ·obtain ⟨vp, va, vb⟩ : validB (px, py) = true ∧ validB (ax, ay) = true ∧ validB (bx, by_) = true := by simpa using hv
  have ht : turnZ (ax, ay) (bx, by_) (px, py) = crossZ (ax, ay) (bx, by_) (px, py) := turn_valid (by rw [va, vb, vp]; rfl)
  have HT := Lib.hid ht
  have VV : Hid ((validB (px, py) && validB (ax, ay) && validB (bx, by_)) = true) := by show _ = true; rw [vp, va, vb]; rfl
  clear vp va vb ht
  by_cases hz : crossZ (ax, ay) (bx, by_) (px, py) = 0
  ·have hzb : (turnZ (ax, ay) (bx, by_) (px, py) != 0) = false := by rw [HT.out, hz]; rfl
   have HZ := Lib.hid hz
   clear hz
   go_enter Tryz.func105, Tryz.ntmps105
   go_wp2_with fail
   (refine (seg_valid [(px, py), (ax, ay), (bx, by_)] _ _ _ _ (HL.out _ _ (by simp)) rfl).mono ?_; rintro e w1 ⟨rfl, hb1⟩; obtain ⟨c_hb1, f_hb1⟩ := bcell hb1; have z_hb1 := hb1.size; (try simp at z_hb1); (try have y0_hb1 : w.heap.size < w1.heap.size := by omega); (try have y1_hb1 : w.heap.size + 1 < w1.heap.size := by omega); (try have y2_hb1 : w.heap.size + 1 + 1 < w1.heap.size := by omega); (try have y3_hb1 : w.heap.size + 1 + 1 + 1 < w1.heap.size := by omega); (try have y4_hb1 : w.heap.size + 1 + 1 + 1 + 1 < w1.heap.size := by omega))
   go_wp2_with fail
   (refine (seg_Turn _ _ _ _ _ _ _).mono ?_; rintro e w2 ⟨rfl, hb2⟩; obtain ⟨c_hb2, f_hb2⟩ := bcell hb2; have z_hb2 := hb2.size; (try simp at z_hb2); (try have y0_hb2 : w.heap.size < w2.heap.size := by omega); (try have y1_hb2 : w.heap.size + 1 < w2.heap.size := by omega); (try have y2_hb2 : w.heap.size + 1 + 1 < w2.heap.size := by omega); (try have y3_hb2 : w.heap.size + 1 + 1 + 1 < w2.heap.size := by omega); (try have y4_hb2 : w.heap.size + 1 + 1 + 1 + 1 < w2.heap.size := by omega))
   go_wp2_with fail
   (refine (seg_Of _ _ _ _ _).mono ?_; rintro e w3 ⟨rfl, hb3⟩; obtain ⟨c_hb3, f_hb3⟩ := bcell hb3; have z_hb3 := hb3.size; (try simp at z_hb3); (try have y0_hb3 : w.heap.size < w3.heap.size := by omega); (try have y1_hb3 : w.heap.size + 1 < w3.heap.size := by omega); (try have y2_hb3 : w.heap.size + 1 + 1 < w3.heap.size := by omega); (try have y3_hb3 : w.heap.size + 1 + 1 + 1 < w3.heap.size := by omega); (try have y4_hb3 : w.heap.size + 1 + 1 + 1 + 1 < w3.heap.size := by omega))
   go_wp2_with fail
   go_quiet (fail)
   go_wp2
   all_goals go_ret
   all_goals refine ⟨ret_bool ?_, (by repeat (first | exact Below.refl _ _ | apply below_alloc | apply below_drewN | apply below_drew | (refine below_set2 ?_ ?_; (first | (simp; done) | (simp; omega))) | (refine below_step ?_ hb3) | (refine below_step ?_ hb2) | (refine below_step ?_ hb1)))⟩
   all_goals have hx := ofB_x (ax, ay) (bx, by_)
   all_goals simp only at hx
   all_goals simp only [onB, VV.out, HZ.out, Bool.true_and, decide_true]
   all_goals first | (rw [decide_eq_decide]; omega) | (rw [eq_comm, decide_eq_false_iff_not]; omega)
  ·have hzb : (turnZ (ax, ay) (bx, by_) (px, py) != 0) = true := by rw [HT.out]; simpa using hz
   have HZ := Lib.hid hz
   clear hz
   go_enter Tryz.func105, Tryz.ntmps105
   go_wp2_with fail
   (refine (seg_valid [(px, py), (ax, ay), (bx, by_)] _ _ _ _ (HL.out _ _ (by simp)) rfl).mono ?_; rintro e w1 ⟨rfl, hb1⟩; obtain ⟨c_hb1, f_hb1⟩ := bcell hb1; have z_hb1 := hb1.size; (try simp at z_hb1); (try have y0_hb1 : w.heap.size < w1.heap.size := by omega); (try have y1_hb1 : w.heap.size + 1 < w1.heap.size := by omega); (try have y2_hb1 : w.heap.size + 1 + 1 < w1.heap.size := by omega); (try have y3_hb1 : w.heap.size + 1 + 1 + 1 < w1.heap.size := by omega); (try have y4_hb1 : w.heap.size + 1 + 1 + 1 + 1 < w1.heap.size := by omega))
   go_wp2_with fail
   (refine (seg_Turn _ _ _ _ _ _ _).mono ?_; rintro e w2 ⟨rfl, hb2⟩; obtain ⟨c_hb2, f_hb2⟩ := bcell hb2; have z_hb2 := hb2.size; (try simp at z_hb2); (try have y0_hb2 : w.heap.size < w2.heap.size := by omega); (try have y1_hb2 : w.heap.size + 1 < w2.heap.size := by omega); (try have y2_hb2 : w.heap.size + 1 + 1 < w2.heap.size := by omega); (try have y3_hb2 : w.heap.size + 1 + 1 + 1 < w2.heap.size := by omega); (try have y4_hb2 : w.heap.size + 1 + 1 + 1 + 1 < w2.heap.size := by omega))
   go_wp2
   go_ret
   exact ⟨ret_bool (onB_off HZ.out).symm, (by repeat (first | exact Below.refl _ _ | apply below_alloc | apply below_drewN | apply below_drew | (refine below_set2 ?_ ?_; (first | (simp; done) | (simp; omega))) | (refine below_step ?_ hb2) | (refine below_step ?_ hb1)))⟩
end
section
abbrev Sgs := List Sg
abbrev Rgs := List Pts
def sgD (xs : Sgs) (k : Nat) : Sg := xs.getD k ((0, 0), (0, 0))
def goodB (s : Sg) : Bool := decide (s.1 ≠ s.2) && (validB s.1 && validB s.2)
def ofS (s : Sg) : Sg := ofB s.1 s.2
def canonZ (l : Sgs) : Sgs := (l.filter goodB).map ofS
def sortZ (l : Sgs) : Sgs := sortG lessS (canonZ l)
def uniqZ (l : Sgs) : Sgs := compactZ (sortZ l)
def cmpS (a b : Sg) : Int := if a = b then 0 else if lessS a b then -1 else 1
def cmpP (a b : Pt) : Int := if a = b then 0 else if lessB a b then -1 else 1
def cmpR (a b : Pts) : Int := if lessR a b then -1 else if lessR b a then 1 else 0
def ends2 (l : Sgs) : Pts := l.flatMap fun s => [s.1, s.2]
def endsZ (l : Sgs) : Pts := compactZ (sortG lessB (ends2 (uniqZ l)))
def withinB (p a b : Pt) : Bool := onB p a b && (decide (p ≠ a) && decide (p ≠ b))
/-- the parts of a segment -/
def cutsF (s : Sg) : Sgs × Pt → Pt → Sgs × Pt := fun st p => if withinB p s.1 s.2 then (st.1 ++ [(st.2, p)], p) else st
def cutsZ (es : Pts) (s : Sg) (acc : Sgs) : Sgs := let st := es.foldl (cutsF s) (acc, s.1); st.1 ++ [(st.2, s.2)]
def splitZ (l : Sgs) : Sgs := sortZ ((canonZ l).foldl (fun acc s => cutsZ (endsZ l) s acc) [])
def signZ (n : Int) : Int := min 1 (max (-1) n)
def flatZ (s t : Sg) : Int :=
 let lo := if lessB s.1 t.1 then t.1 else s.1
 let hi := if lessB t.2 s.2 then t.2 else s.2
 if lessB lo hi then 3 else if lo = hi then 1 else 0
/-- seg.Relate -/
def relZ (s0 t0 : Sg) : Int :=
 if ((validB s0.1 && validB s0.2 && validB t0.1 && validB t0.2) && (decide (s0.1 ≠ s0.2) && decide (t0.1 ≠ t0.2))) = false then 0 else
 let s := ofS s0
 let t := ofS t0
 let a := signZ (turnZ s.1 s.2 t.1)
 let b := signZ (turnZ s.1 s.2 t.2)
 let c := signZ (turnZ t.1 t.2 s.1)
 let d := signZ (turnZ t.1 t.2 s.2)
 if a = 0 ∧ b = 0 then flatZ s t else if a * b < 0 ∧ c * d < 0 then 2 else
 if onB t.1 s.1 s.2 || (onB t.2 s.1 s.2 || (onB s.1 t.1 t.2 || onB s.2 t.1 t.2)) then 1 else 0
def badB (s t : Sg) : Bool := decide (relZ s t = 2) || decide (relZ s t = 3)
def crossZs (u : Sgs) : List (Sg × Sg) := (List.range u.length).flatMap fun i => ((u.drop (i + 1)).filter (badB (sgD u i))).map fun t => (sgD u i, t)
def cleanZ (l : Sgs) : Bool := decide (splitZ l = sortZ l) && decide (crossZs (uniqZ l) = [])
def degZ (u : Sgs) (p : Pt) : Nat := (ends2 u).count p
def checkU (u : Sgs) : Int := if u = [] then 15 else if cleanZ u = false then 13 else if (ends2 u).any (fun p => decide (degZ u p % 2 = 1)) then 14 else 0
def checkZ (l : Sgs) : Int := checkU (uniqZ l)
/-- crossings of a ray, doubled coordinates -/
def rayB (m : Pt) (but s : Sg) : Bool :=
 let low := if s.1.2 > s.2.2 then s.2 else s.1
 let high := if s.1.2 > s.2.2 then s.1 else s.2
 !(decide (s = but) || (decide (2 * low.2 > m.2) || decide (2 * high.2 ≤ m.2))) && decide ((high.1 - low.1) * (m.2 - 2 * low.2) - (high.2 - low.2) * (m.1 - 2 * low.1) > 0)
def crossN (u : Sgs) (m : Pt) (but : Sg) : Nat := u.countP (rayB m but)
def leftZ (u : Sgs) (s : Sg) : Bool :=
 let odd := decide (crossN u (s.1.1 + s.2.1, s.1.2 + s.2.2) s % 2 = 1)
 if s.2.2 > s.1.2 then !odd else odd
def whereU (u : Sgs) (p : Pt) : Int := if u.any (fun s => onB p s.1 s.2) then 1 else if crossN u (2 * p.1, 2 * p.2) ((0, 0), (0, 0)) % 2 = 1 then 2 else 0
def whereT (l : Sgs) (p : Pt) : Int := if validB p = false then 0 else whereU (uniqZ l) p
def leftIn (l : Sgs) (s : Sg) : Bool := decide (s ∈ uniqZ l) && (decide (checkZ l = 0) && leftZ (uniqZ l) s)
def dirZ (u : Sgs) : Sgs := u.map fun s => if leftZ u s then s else (s.2, s.1)
def crossV (v a b : Pt) : Int := (a.1 - v.1) * (b.2 - v.2) - (a.2 - v.2) * (b.1 - v.1)
def sideZ (v u a : Pt) : Int := if crossV v u a < 0 then 0 else if crossV v u a = 0 then 1 else 2
def betterB (u v best a : Pt) : Bool := decide (sideZ v u a < sideZ v u best) || (decide (sideZ v u a = sideZ v u best) && decide (crossV v best a > 0))
def turnL (u v : Pt) : Pts → Pt
 | [] => (0, 0)
 | a :: l => l.foldl (fun best a => if betterB u v best a then a else best) a
def outs (dl : Sgs) (v : Pt) : Pts := (dl.filter fun s => decide (s.1 = v)).map (·.2)
def succZ (dl : Sgs) (t : Sg) : Sg := (t.2, turnL t.1 t.2 (outs dl t.2))
/-- one ring: the ring, and what remains -/
def walkZ (dl : Sgs) (s : Sg) : Nat → Sg → Pts → Sgs → Pts × Sgs
 | 0, _, ring, rest => (ring, rest)
 | n + 1, t, ring, rest =>
  let ring' := ring ++ [t.1]
  let rest' := rest.filter fun x => decide (x ≠ t)
  let t' := succZ dl t
  if t' = s ∨ t' ∉ rest' then (ring', rest') else walkZ dl s n t' ring' rest'
def loopF (dl : Sgs) (st : Rgs × Sgs) (s : Sg) : Rgs × Sgs :=
 if s ∈ st.2 then let r := walkZ dl s st.2.length s [] st.2; (st.1 ++ [r.1], r.2) else st
def loopsZ (dl : Sgs) : Rgs := (dl.foldl (loopF dl) ([], dl)).1
def minIx (r : Pts) (n : Nat) : Nat := (List.range n).foldl (fun f k => if lessB (ptD r k) (ptD r f) then k else f) 0
def canonR (r : Pts) : Pts := r.drop (minIx r r.length) ++ r.take (minIx r r.length)
def cutF (st : Rgs × Pts) (p : Pt) : Rgs × Pts :=
 if p ∈ st.2 then (st.1 ++ [canonR (st.2.drop (st.2.idxOf p))], st.2.take (st.2.idxOf p) ++ [p]) else (st.1, st.2 ++ [p])
def divR (acc : Rgs) (r : Pts) : Rgs := let st := r.foldl cutF (acc, []); st.1 ++ [canonR st.2]
def dividedZ (l : Rgs) : Rgs := l.foldl divR []
def ringsU (u : Sgs) : Rgs := sortG lessR (dividedZ (loopsZ (dirZ u)))
def ringsZ (l : Sgs) : Rgs := if checkZ l = 0 then ringsU (uniqZ l) else []

/-! the example of the chapter -/
def sqS (x y d : Int) : Sgs := [((x, y), (x + d, y)), ((x + d, y), (x + d, y + d)), ((x, y + d), (x + d, y + d)), ((x, y), (x, y + d))]
def exS : Sgs := sqS 0 0 9 ++ sqS 3 3 2
theorem ex_check : checkZ exS = 0 := by decide +kernel
theorem ex_rings : ringsZ exS = [[(0, 0), (9, 0), (9, 9), (0, 9)], [(3, 3), (3, 5), (5, 5), (5, 3)]] := by decide +kernel
theorem ex_in : whereT exS (1, 1) = 2 := by decide +kernel
theorem ex_out : whereT exS (4, 4) = 0 := by decide +kernel
theorem ex_left : leftIn exS ((0, 0), (9, 0)) = true := by decide +kernel
theorem nil_check : checkZ [] = 15 := by decide +kernel
end
section
/-- an edge: its segment, the areas on its left and on its right -/
abbrev Edg := Sg × (List Int × List Int)
abbrev Msh := List Edg
def egD (m : Msh) (k : Nat) : Edg := m.getD k (((0, 0), (0, 0)), ([], []))
def endE (p : Pt) (e : Edg) : Bool := decide (e.1.1 = p) || decide (e.1.2 = p)
def ptsOf (m : Msh) : Pts := m.flatMap fun e => [e.1.1, e.1.2]
def pointsZ (m : Msh) : Pts := compactZ (sortG lessB (ptsOf m))
structure Cor where
 u : Pt
 p : Pt
 w : Pt
 size : Int
 left : List Int
 right : List Int
 smooth : Bool
def cor0 : Cor := ⟨(0, 0), (0, 0), (0, 0), 0, [], [], false⟩
/-- the other end, and the areas right and left behind it -/
def leaveZ (e : Edg) (p : Pt) : Pt × (List Int × List Int) := if e.1.1 = p then (e.1.2, (e.2.1, e.2.2)) else (e.1.1, (e.2.2, e.2.1))
def cornerZ (e f : Edg) (p : Pt) : Cor :=
 ⟨(leaveZ e p).1, p, (leaveZ f p).1, max (turnZ (leaveZ e p).1 p (leaveZ f p).1) (-(turnZ (leaveZ e p).1 p (leaveZ f p).1)), (leaveZ e p).2.2, (leaveZ e p).2.1,
  decide ((leaveZ f p).2.1 = (leaveZ e p).2.2) && decide ((leaveZ f p).2.2 = (leaveZ e p).2.1)⟩
def atZ (m : Msh) (p : Pt) : Option Cor := if (m.filter (endE p)).length = 2 then some (cornerZ (egD (m.filter (endE p)) 0) (egD (m.filter (endE p)) 1) p) else none
def insideZ (a c d b : Pt) : Bool :=
 let c' := if turnZ a c d < 0 then d else c
 let d' := if turnZ a c d < 0 then c else d
 decide (turnZ a c' b ≥ 0) && decide (turnZ a b d' ≥ 0)
def farE (e : Edg) (p : Pt) : Pt := if e.1.1 = p then e.1.2 else e.1.1
def blocksZ (c : Cor) (e : Edg) : Bool :=
 if endE c.u e && endE c.w e then true
 else if decide (c.size = 0) && (endE c.u e || endE c.w e) then decide (relZ e.1 (ofB c.u c.w) = 3)
 else if endE c.u e then insideZ c.u c.p c.w (farE e c.u)
 else if endE c.w e then insideZ c.w c.p c.u (farE e c.w)
 else if decide (relZ e.1 (ofB c.u c.w) ≠ 0) || (decide (relZ e.1 (ofB c.u c.p) ≠ 0) || decide (relZ e.1 (ofB c.p c.w) ≠ 0)) then true
 else decide (c.size > 0) && (insideZ c.u c.p c.w e.1.1 && insideZ c.w c.p c.u e.1.1)
def removZ (m : Msh) (p : Pt) : Option Cor :=
 match atZ m p with
 | none => none
 | some c => if c.u = c.w ∨ c.smooth = false then none else if m.any (fun e => !endE p e && blocksZ c e) then none else some c
def bridge (c : Cor) : Edg := (ofB c.u c.w, if (ofB c.u c.w).1 = c.u then (c.left, c.right) else (c.right, c.left))
def restZ (m : Msh) (p : Pt) : Msh := m.filter fun x => !endE p x
def spotZ (m : Msh) (s : Sg) : Nat := m.findIdx fun x => lessS s x.1
def withoutZ (m : Msh) (c : Cor) : Msh := (restZ m c.p).take (spotZ (restZ m c.p) (ofB c.u c.w)) ++ bridge c :: (restZ m c.p).drop (spotZ (restZ m c.p) (ofB c.u c.w))
def bestF (m : Msh) (limit : Int) (b : Option Cor) (p : Pt) : Option Cor :=
 match removZ m p with
 | none => b
 | some c => if c.size ≤ limit then (match b with | none => some c | some d => if c.size < d.size then some c else b) else b
def bestZ (m : Msh) (limit : Int) : Option Cor := (pointsZ m).foldl (bestF m limit) none
/-- what is left when step after step has removed a point; n: at most so many steps -/
def runZ (limit : Int) : Nat → Msh → Msh
 | 0, m => m
 | n + 1, m => match bestZ m limit with
  | none => m
  | some c => runZ limit n (withoutZ m c)

/-! mesh.Check -/
def areasB (l : List Int) : Bool := (List.range l.length).all fun i => decide (0 ≤ l.getD i 0) && (decide (l.getD i 0 < 20000) && (decide (i = 0) || decide (l.getD (i - 1) 0 < l.getD i 0)))
def edgeB (m : Msh) (i : Nat) : Bool :=
 (validB (egD m i).1.1 && validB (egD m i).1.2) && (lessB (egD m i).1.1 (egD m i).1.2 && ((decide (i = 0) || lessS (egD m (i - 1)).1 (egD m i).1) && (areasB (egD m i).2.1 && areasB (egD m i).2.2)))
def topL (g : Int) (l : List Int) : Int := if l = [] then g else max g (l.getD (l.length - 1) 0)
def greatZ (m : Msh) : Int := m.foldl (fun g e => topL (topL g e.2.1) e.2.2) (-1)
def hasI (l : List Int) (x : Int) : Bool := decide (x ∈ l)
def boundsZ (m : Msh) (area : Int) : Sgs := (m.filter fun e => hasI e.2.1 area != hasI e.2.2 area).map (·.1)
/-- mesh.sides -/
def sideF (m : Pt) (st : Bool × Bool) (s : Sg) : Bool × Bool :=
 let low := if s.1.2 > s.2.2 then s.2 else s.1
 let high := if s.1.2 > s.2.2 then s.1 else s.2
 let turn := (high.1 - low.1) * (m.2 - 2 * low.2) - (high.2 - low.2) * (m.1 - 2 * low.1)
 if decide (turn = 0) && (decide (m.2 ≥ 2 * low.2) && (decide (m.2 ≤ 2 * high.2) && (decide (m.1 ≥ 2 * min low.1 high.1) && decide (m.1 ≤ 2 * max low.1 high.1)))) then (st.1, true)
 else if decide (m.2 ≥ 2 * low.2) && (decide (m.2 < 2 * high.2) && decide (turn > 0)) then (!st.1, st.2) else st
def sidesM (set : Sgs) (t : Sg) : Bool × Bool :=
 if set = [] then (false, false) else
 let st := set.foldl (sideF (t.1.1 + t.2.1, t.1.2 + t.2.2)) (false, false)
 if t.2.2 > t.1.2 then (st.1 != st.2, st.1) else (st.1, st.1 != st.2)
def sideL (own : List Sgs) (s : Sg) (left : Bool) : List Int := ((List.range own.length).filter fun i : Nat => if left then (sidesM (own.getD i []) s).1 else (sidesM (own.getD i []) s).2).map fun i : Nat => (i : Int)
def buildE (l : List Sgs) : Int := (l.map checkZ).foldl (fun e c => if e ≠ 0 then e else if c ≠ 0 ∧ c ≠ 15 then c else 0) 0
def nodeZ (l : List Sgs) : Sgs := uniqZ (splitZ (l.flatMap uniqZ))
def buildZ (l : List Sgs) : Msh × Int :=
 if l.length > 20000 then ([], 5) else if buildE l ≠ 0 then ([], buildE l) else if crossZs (nodeZ l) ≠ [] then ([], 13) else
 ((nodeZ l).map fun s => (s, (sideL (l.map uniqZ) s true, sideL (l.map uniqZ) s false)), 0)
def ownZ (m : Msh) : List Sgs := (List.range (greatZ m + 1).toNat).map fun i : Nat => boundsZ m (i : Int)
def checkM (m : Msh) : Int :=
 if (List.range m.length).any (fun i => !edgeB m i) then 6 else if cleanZ (m.map (·.1)) = false then 13
 else if (buildZ (ownZ m)).2 = 0 ∧ (buildZ (ownZ m)).1 = m then 0 else 4
def meshZ (m : Msh) (limit : Int) : Msh := if checkM m = 0 then runZ limit m.length m else m
def pointsM (m : Msh) : Pts := if checkM m = 0 then pointsZ m else []

/-! the example of the chapter -/
def exM : Msh := [(((0, 0), (0, 8)), ([], [0])), (((0, 0), (4, 0)), ([0], [])), (((0, 8), (8, 8)), ([], [0])), (((4, 0), (8, 0)), ([0], [])), (((8, 0), (8, 8)), ([0], []))]
def sizeM (m : Msh) (p : Pt) : Int × Bool := if checkM m = 0 then (match atZ m p with | none => (0, false) | some c => (c.size, true)) else (0, false)
def removM (m : Msh) (p : Pt) : Bool := (removZ m p).isSome && decide (checkM m = 0)
theorem ex_checkM : checkM exM = 0 := by decide +kernel
theorem ex_mesh : meshZ exM 0 = [(((0, 0), (0, 8)), ([], [0])), (((0, 0), (8, 0)), ([0], [])), (((0, 8), (8, 8)), ([], [0])), (((8, 0), (8, 8)), ([0], []))] := by decide +kernel
theorem ex_size : sizeM exM (4, 0) = (0, true) ∧ sizeM exM (8, 8) = (64, true) := by decide +kernel
theorem ex_remov : removM exM (4, 0) = true := by decide +kernel
theorem ex_points : (pointsM (meshZ exM 0)).length = 4 := by decide +kernel
end
end Go.Proofs.YtaeflnbjeaoapaaGreat
