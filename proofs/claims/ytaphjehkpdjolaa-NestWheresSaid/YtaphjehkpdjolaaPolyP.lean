/- The plain specification of nest's Polygons, and its laws. No program is in sight. -/
import Derived.Test.YtaphjehkpdjolaaSums
namespace Go.Proofs.Ytaphjehkpdjolaa
open Go.RowKit
set_option linter.unusedVariables false
set_option linter.unusedSimpArgs false

def goodR (r : Pts) : Bool := decide (0 < area2 r)
def errOf (r : Pts) : Option Int := if r.length < 3 then some 12 else if area2 r = 0 then some 15 else none
def firstErr (rs : Rings) : Option Int := rs.findSome? errOf
def outersR (rs : Rings) : Rings := rs.filter goodR
def betterB (os : Rings) (r : Pts) (k : Nat) (best : Int) : Bool := withinB r (rgD os k) && (decide (best < 0) || decide (area2 (rgD os k) < area2 (rgD os best.toNat)))
def bestTo (os : Rings) (r : Pts) : Nat → Int
  | 0 => -1
  | k + 1 => if betterB os r k (bestTo os r k) then (k : Int) else bestTo os r k
def bestOf (os : Rings) (r : Pts) : Int := bestTo os r os.length
theorem bestTo_lo (os : Rings) (r : Pts) (k : Nat) : -1 ≤ bestTo os r k := by
  induction k with
  | zero => simp [bestTo]
  | succ k ih => rw [bestTo]; split <;> omega
theorem bestTo_hi (os : Rings) (r : Pts) (k : Nat) : bestTo os r k < (k : Int) := by
  induction k with
  | zero => simp [bestTo]
  | succ k ih => rw [bestTo]; split <;> omega
theorem bestTo_within (os : Rings) (r : Pts) (k : Nat) (h : 0 ≤ bestTo os r k) : withinB r (rgD os (bestTo os r k).toNat) = true := by
  induction k with
  | zero => simp [bestTo] at h
  | succ k ih =>
    rw [bestTo] at h ⊢
    split
    · rename_i hb
      simp only [betterB, Bool.and_eq_true] at hb
      simpa using hb.1
    · rename_i hb
      rw [if_neg hb] at h
      exact ih h

def addHole (l : List Poly) (i : Nat) (r : Pts) : List Poly := l.set i ((pyD l i).1, (pyD l i).2 ++ [r])
def stepP (os : Rings) (l : Option (List Poly)) (r : Pts) : Option (List Poly) :=
  match l with
  | none => none
  | some l => if goodR r then some l else if bestOf os r < 0 then none else some (addHole l (bestOf os r).toNat r)
def startP (os : Rings) : List Poly := os.map fun o => (o, [])
def assignP (os rs : Rings) : Option (List Poly) := rs.foldl (stepP os) (some (startP os))
def polysR (rs : Rings) : List Poly × Int :=
  match firstErr rs with
  | some e => ([], e)
  | none => match assignP (outersR rs) rs with
    | some l => (l, 0)
    | none => ([], 14)

theorem assign_snoc {os rs : Rings} {k : Nat} (h : k < rs.length) : assignP os (rs.take (k + 1)) = stepP os (assignP os (rs.take k)) (rgD rs k) := by
  rw [take_snoc rs k [] h, assignP, List.foldl_append]; rfl
theorem foldl_none (os rs : Rings) : rs.foldl (stepP os) none = none := by
  induction rs with
  | nil => rfl
  | cons r rs ih => exact ih
theorem assign_none {os rs : Rings} {k : Nat} (h : assignP os (rs.take k) = none) : assignP os rs = none := by
  rw [← List.take_append_drop k rs, assignP, List.foldl_append]
  unfold assignP at h
  rw [h, foldl_none]
theorem err_snoc {rs : Rings} {k : Nat} (h : k < rs.length) (hp : firstErr (rs.take k) = none) : firstErr (rs.take (k + 1)) = errOf (rgD rs k) := by
  rw [take_snoc rs k [] h, firstErr, List.findSome?_append]
  unfold firstErr at hp
  rw [hp]
  simp [rgD]
theorem err_later {rs : Rings} {k : Nat} {e : Int} (h : firstErr (rs.take k) = some e) : firstErr rs = some e := by
  rw [← List.take_append_drop k rs, firstErr, List.findSome?_append]
  unfold firstErr at h
  rw [h]; rfl
theorem outers_snoc {rs : Rings} {k : Nat} (h : k < rs.length) : outersR (rs.take (k + 1)) = outersR (rs.take k) ++ if goodR (rgD rs k) then [rgD rs k] else [] := by
  rw [take_snoc rs k [] h, outersR, List.filter_append]
  congr 1
  unfold rgD
  generalize rs.getD k [] = x
  cases hg : goodR x <;> simp [hg]
theorem outers_le (rs : Rings) (k : Nat) : (outersR (rs.take k)).length ≤ rs.length := by
  unfold outersR
  have h1 := List.length_filter_le goodR (rs.take k)
  have h2 : (rs.take k).length ≤ rs.length := by rw [List.length_take]; omega
  omega
theorem addHole_len (l : List Poly) (i : Nat) (r : Pts) : (addHole l i r).length = l.length := by simp [addHole]
theorem addHole_same {l : List Poly} {i : Nat} {r : Pts} (h : i < l.length) : pyD (addHole l i r) i = ((pyD l i).1, (pyD l i).2 ++ [r]) := by
  simp [addHole, pyD, h]
theorem addHole_other {l : List Poly} {i j : Nat} {r : Pts} (h : j ≠ i) : pyD (addHole l i r) j = pyD l j := by
  simp [addHole, pyD, List.getElem?_set, Ne.symm h]
theorem startP_len (os : Rings) : (startP os).length = os.length := by simp [startP]
theorem startP_at {os : Rings} {i : Nat} (h : i < os.length) : pyD (startP os) i = (rgD os i, []) := by simp [startP, pyD, rgD, h]
/-- What stays while holes are dealt out: the outer rings. -/
theorem addHole_fst (l : List Poly) (i : Nat) (r : Pts) : (addHole l i r).map Prod.fst = l.map Prod.fst := by
  unfold addHole
  rw [List.map_set]
  apply List.ext_getElem?
  intro j
  rw [List.getElem?_set]
  split
  · rename_i h; subst h
    simp only [List.length_map, pyD]
    split
    · rename_i h2; simp [h2]
    · rename_i h2; rw [List.getElem?_eq_none (by simpa using h2)]
  · rfl
theorem fst_at {l : List Poly} {os : Rings} (h : l.map Prod.fst = os) (k : Nat) : (pyD l k).1 = rgD os k := by
  subst h
  simp only [pyD, rgD, List.getD_eq_getElem?_getD, List.getElem?_map]
  cases l[k]? <;> rfl
theorem startP_fst (os : Rings) : (startP os).map Prod.fst = os := by
  unfold startP
  induction os with
  | nil => rfl
  | cons o os ih => simp only [List.map_cons, ih]
/-- How many holes there are. -/
def holesN (l : List Poly) : Nat := (l.map fun p => p.2.length).sum
theorem holes_le (l : List Poly) (i : Nat) : (pyD l i).2.length ≤ holesN l := by
  unfold holesN
  induction l generalizing i with
  | nil => simp [pyD]
  | cons p l ih =>
    cases i with
    | zero => simp [pyD]
    | succ i => have := ih i; simp only [pyD, List.getD_cons_succ, List.map_cons, List.sum_cons] at this ⊢; omega
theorem addHole_holes {l : List Poly} {i : Nat} {r : Pts} (h : i < l.length) : holesN (addHole l i r) = holesN l + 1 := by
  unfold holesN addHole
  induction l generalizing i with
  | nil => simp at h
  | cons p l ih =>
    cases i with
    | zero => simp [pyD]; omega
    | succ i =>
      have := @ih i (by simpa using h)
      simp only [pyD, List.getD_cons_succ, List.set_cons_succ, List.map_cons, List.sum_cons] at this ⊢
      omega
/-- The invariant of the second loop. -/
theorem assign_inv {os rs : Rings} : ∀ {k : Nat} {l : List Poly}, assignP os (rs.take k) = some l → l.map Prod.fst = os ∧ holesN l ≤ k
  | 0, l, h => by
    simp only [assignP, List.take_zero, List.foldl_nil, Option.some.injEq] at h
    subst h
    refine ⟨startP_fst os, ?_⟩
    have : ∀ xs : Rings, holesN (startP xs) = 0 := by
      intro xs
      unfold holesN startP
      induction xs with
      | nil => rfl
      | cons o xs ih => simpa using ih
    rw [this]; exact Nat.le_refl _
  | k + 1, l, h => by
    by_cases hk : k < rs.length
    · rw [assign_snoc hk] at h
      cases hp : assignP os (rs.take k) with
      | none => rw [hp] at h; simp [stepP] at h
      | some l0 =>
        have ih := assign_inv hp
        rw [hp] at h
        simp only [stepP] at h
        split at h
        · injection h with h; subst h; exact ⟨ih.1, by omega⟩
        · split at h
          · cases h
          · rename_i hb
            injection h with h
            subst h
            refine ⟨by rw [addHole_fst]; exact ih.1, ?_⟩
            have hlt : (bestOf os (rgD rs k)).toNat < l0.length := by
              have := bestTo_hi os (rgD rs k) os.length
              have e : l0.length = os.length := by rw [← ih.1, List.length_map]
              unfold bestOf at hb ⊢; omega
            rw [addHole_holes hlt]; omega
    · rw [List.take_of_length_le (by omega), ← List.take_of_length_le (show rs.length ≤ k by omega)] at h
      have := assign_inv h
      exact ⟨this.1, by omega⟩
end Go.Proofs.Ytaphjehkpdjolaa
