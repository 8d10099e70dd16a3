/- Words of this session's own: the kinds of values of a dataset. No program is in sight. -/
import Derived.Test.YtniceoinipffmaaStep
namespace Go.Proofs.Ytniceoinipffmaa
open Go.RowKit
set_option linter.unusedVariables false
set_option linter.unusedSimpArgs false

abbrev Tag := ByteArray × ByteArray
abbrev Ty.tag : Ty Tag := Ty.pair Ty.str Ty.str
abbrev Ty.i64 : Ty Int := Ty.int .i64
abbrev Node := Int × (Pt × List Tag)
abbrev Ty.node : Ty Node := Ty.pair Ty.i64 (Ty.pair Ty.pt (Ty.slice Ty.tag))
abbrev Way := Int × (List Int × List Tag)
abbrev Ty.way : Ty Way := Ty.pair Ty.i64 (Ty.pair (Ty.slice Ty.i64) (Ty.slice Ty.tag))
abbrev Mem := Pt × ByteArray
abbrev Ty.mem : Ty Mem := Ty.pair Ty.pt Ty.str
abbrev Rel := Int × (List Mem × List Tag)
abbrev Ty.rel : Ty Rel := Ty.pair Ty.i64 (Ty.pair (Ty.slice Ty.mem) (Ty.slice Ty.tag))
abbrev Place := Int × (Pt × List Tag)
abbrev Line := Int × (Pts × (List Int × List Tag))
abbrev Ty.line : Ty Line := Ty.pair Ty.i64 (Ty.pair (Ty.slice Ty.pt) (Ty.pair (Ty.slice Ty.i64) (Ty.slice Ty.tag)))
def tgD (l : List Tag) (k : Nat) : Tag := l.getD k (ByteArray.empty, ByteArray.empty)
def inD (l : List Int) (k : Nat) : Int := l.getD k 0
def ndD (l : List Node) (k : Nat) : Node := l.getD k (0, ((0, 0), []))
def wyD (l : List Way) (k : Nat) : Way := l.getD k (0, ([], []))
def meD (l : List Mem) (k : Nat) : Mem := l.getD k ((0, 0), ByteArray.empty)
def rlD (l : List Rel) (k : Nat) : Rel := l.getD k (0, ([], []))
def lnD (l : List Line) (k : Nat) : Line := l.getD k (0, ([], ([], [])))
section
variable {ok : Nat → Prop} {w : World} {A : Option Addr}
theorem Row.tag_at {l : List Tag} (h : Row Ty.tag ok w A l) (k : Nat) (hk : k < l.length) :
    ∃ ad, A = some ad ∧ w.cell? (ad.add (k * 2)) = some (.string (tgD l k).1) ∧ w.cell? ⟨(ad.add (k * 2)).block, (ad.add (k * 2)).off + 1, none⟩ = some (.string (tgD l k).2) := by
  obtain ⟨ad, cs, e, _, ⟨c1, c2, rfl, h1, h2⟩, hc⟩ := h.get hk
  have e1 : tgD l k = l[k] := by simp [tgD, hk]
  rw [e1]
  obtain rfl : c1 = _ := h1
  obtain rfl : c2 = _ := h2
  exact ⟨ad, e, hc.first, hc.field 1 (by decide) rfl⟩
theorem Row.int_at {l : List Int} (h : Row Ty.i64 ok w A l) (k : Nat) (hk : k < l.length) : ∃ ad, A = some ad ∧ w.cell? (ad.add k) = some (.int .i64 (inD l k)) := by
  obtain ⟨ad, cs, e, _, h1, hc⟩ := h.get hk
  have e1 : inD l k = l[k] := by simp [inD, hk]
  rw [e1]
  obtain rfl : cs = _ := h1
  exact ⟨ad, e, by have := hc.first; rwa [show k * Ty.i64.sz = k from Nat.mul_one k] at this⟩
theorem Row.node_at {l : List Node} (h : Row Ty.node ok w A l) (k : Nat) (hk : k < l.length) :
    ∃ ad A1 c1, A = some ad ∧ w.cell? (ad.add (k * 4)) = some (.int .i64 (ndD l k).1) ∧ w.cell? ⟨(ad.add (k * 4)).block, (ad.add (k * 4)).off + 1, none⟩ = some (.int .i64 (ndD l k).2.1.1) ∧ w.cell? ⟨(ad.add (k * 4)).block, (ad.add (k * 4)).off + 2, none⟩ = some (.int .i64 (ndD l k).2.1.2) ∧
      w.cell? ⟨(ad.add (k * 4)).block, (ad.add (k * 4)).off + 3, none⟩ = some (.slice A1 (ndD l k).2.2.length c1) ∧ (ndD l k).2.2.length ≤ c1 ∧ Row Ty.tag ok w A1 (ndD l k).2.2 := by
  obtain ⟨ad, cs, e, _, ⟨c1, c2, rfl, h1, c3, c4, rfl, h2, A1, cc, rfl, hl, hr⟩, hc⟩ := h.get hk
  have e1 : ndD l k = l[k] := by simp [ndD, hk]
  rw [e1]
  obtain rfl : c1 = _ := h1
  obtain rfl : c3 = _ := h2
  exact ⟨ad, A1, cc, e, hc.first, hc.field 1 (by decide) rfl, hc.field 2 (by decide) rfl, hc.field 3 (by decide) rfl, hl, hr⟩
theorem Row.way_at {l : List Way} (h : Row Ty.way ok w A l) (k : Nat) (hk : k < l.length) :
    ∃ ad A1 c1 A2 c2, A = some ad ∧ w.cell? (ad.add (k * 3)) = some (.int .i64 (wyD l k).1) ∧ w.cell? ⟨(ad.add (k * 3)).block, (ad.add (k * 3)).off + 1, none⟩ = some (.slice A1 (wyD l k).2.1.length c1) ∧ w.cell? ⟨(ad.add (k * 3)).block, (ad.add (k * 3)).off + 2, none⟩ = some (.slice A2 (wyD l k).2.2.length c2) ∧
      (wyD l k).2.1.length ≤ c1 ∧ Row Ty.i64 ok w A1 (wyD l k).2.1 ∧ (wyD l k).2.2.length ≤ c2 ∧ Row Ty.tag ok w A2 (wyD l k).2.2 := by
  obtain ⟨ad, cs, e, _, ⟨c1, c2, rfl, h1, c3, c4, rfl, ⟨A1, cc1, rfl, hl1, hr1⟩, A2, cc2, rfl, hl2, hr2⟩, hc⟩ := h.get hk
  have e1 : wyD l k = l[k] := by simp [wyD, hk]
  rw [e1]
  obtain rfl : c1 = _ := h1
  exact ⟨ad, A1, cc1, A2, cc2, e, hc.first, hc.field 1 (by decide) rfl, hc.field 2 (by decide) rfl, hl1, hr1, hl2, hr2⟩
theorem Row.mem_at {l : List Mem} (h : Row Ty.mem ok w A l) (k : Nat) (hk : k < l.length) :
    ∃ ad, A = some ad ∧ w.cell? (ad.add (k * 3)) = some (.int .i64 (meD l k).1.1) ∧ w.cell? ⟨(ad.add (k * 3)).block, (ad.add (k * 3)).off + 1, none⟩ = some (.int .i64 (meD l k).1.2) ∧ w.cell? ⟨(ad.add (k * 3)).block, (ad.add (k * 3)).off + 2, none⟩ = some (.string (meD l k).2) := by
  obtain ⟨ad, cs, e, _, ⟨c1, c2, rfl, h1, h2⟩, hc⟩ := h.get hk
  have e1 : meD l k = l[k] := by simp [meD, hk]
  rw [e1]
  obtain rfl : c1 = _ := h1
  obtain rfl : c2 = _ := h2
  exact ⟨ad, e, hc.first, hc.field 1 (by decide) rfl, hc.field 2 (by decide) rfl⟩
theorem Row.rel_at {l : List Rel} (h : Row Ty.rel ok w A l) (k : Nat) (hk : k < l.length) :
    ∃ ad A1 c1 A2 c2, A = some ad ∧ w.cell? (ad.add (k * 3)) = some (.int .i64 (rlD l k).1) ∧ w.cell? ⟨(ad.add (k * 3)).block, (ad.add (k * 3)).off + 1, none⟩ = some (.slice A1 (rlD l k).2.1.length c1) ∧ w.cell? ⟨(ad.add (k * 3)).block, (ad.add (k * 3)).off + 2, none⟩ = some (.slice A2 (rlD l k).2.2.length c2) ∧
      (rlD l k).2.1.length ≤ c1 ∧ Row Ty.mem ok w A1 (rlD l k).2.1 ∧ (rlD l k).2.2.length ≤ c2 ∧ Row Ty.tag ok w A2 (rlD l k).2.2 := by
  obtain ⟨ad, cs, e, _, ⟨c1, c2, rfl, h1, c3, c4, rfl, ⟨A1, cc1, rfl, hl1, hr1⟩, A2, cc2, rfl, hl2, hr2⟩, hc⟩ := h.get hk
  have e1 : rlD l k = l[k] := by simp [rlD, hk]
  rw [e1]
  obtain rfl : c1 = _ := h1
  exact ⟨ad, A1, cc1, A2, cc2, e, hc.first, hc.field 1 (by decide) rfl, hc.field 2 (by decide) rfl, hl1, hr1, hl2, hr2⟩
theorem Row.line_at {l : List Line} (h : Row Ty.line ok w A l) (k : Nat) (hk : k < l.length) :
    ∃ ad A1 c1 A2 c2 A3 c3, A = some ad ∧ w.cell? (ad.add (k * 4)) = some (.int .i64 (lnD l k).1) ∧ w.cell? ⟨(ad.add (k * 4)).block, (ad.add (k * 4)).off + 1, none⟩ = some (.slice A1 (lnD l k).2.1.length c1) ∧ w.cell? ⟨(ad.add (k * 4)).block, (ad.add (k * 4)).off + 2, none⟩ = some (.slice A2 (lnD l k).2.2.1.length c2) ∧ w.cell? ⟨(ad.add (k * 4)).block, (ad.add (k * 4)).off + 3, none⟩ = some (.slice A3 (lnD l k).2.2.2.length c3) ∧
      (lnD l k).2.1.length ≤ c1 ∧ Row Ty.pt ok w A1 (lnD l k).2.1 ∧ (lnD l k).2.2.1.length ≤ c2 ∧ Row Ty.i64 ok w A2 (lnD l k).2.2.1 ∧ (lnD l k).2.2.2.length ≤ c3 ∧ Row Ty.tag ok w A3 (lnD l k).2.2.2 := by
  obtain ⟨ad, cs, e, _, ⟨c1, c2, rfl, h1, c3, c4, rfl, ⟨A1, cc1, rfl, hl1, hr1⟩, c5, c6, rfl, ⟨A2, cc2, rfl, hl2, hr2⟩, A3, cc3, rfl, hl3, hr3⟩, hc⟩ := h.get hk
  have e1 : lnD l k = l[k] := by simp [lnD, hk]
  rw [e1]
  obtain rfl : c1 = _ := h1
  exact ⟨ad, A1, cc1, A2, cc2, A3, cc3, e, hc.first, hc.field 1 (by decide) rfl, hc.field 2 (by decide) rfl, hc.field 3 (by decide) rfl, hl1, hr1, hl2, hr2, hl3, hr3⟩
end
theorem take_snoc {α : Type} (l : List α) (k : Nat) (d : α) (h : k < l.length) : l.take (k + 1) = l.take k ++ [l.getD k d] := by
  rw [List.take_succ_eq_append_getElem h]; simp [h]
end Go.Proofs.Ytniceoinipffmaa
