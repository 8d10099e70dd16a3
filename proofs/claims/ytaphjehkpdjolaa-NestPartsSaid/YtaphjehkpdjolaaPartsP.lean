/- The plain law of a successful grouping: every ring occurs once, outer rings have positive areas, holes negative ones and lie within their outer rings. No program is in sight. -/
import Derived.Test.YtaphjehkpdjolaaPolyR
namespace Go.Proofs.Ytaphjehkpdjolaa
open Go.RowKit
set_option linter.unusedVariables false
set_option linter.unusedSimpArgs false

def goodP (rs : Rings) (p : Poly) : Prop := (p.1 ∈ rs ∧ 0 < area2 p.1) ∧ ∀ h ∈ p.2, h ∈ rs ∧ area2 h < 0 ∧ withinB h p.1 = true
/-- How many rings the first k polygons have. -/
def cntP (l : List Poly) (k : Nat) : Nat := ((l.take k).map fun p => 1 + p.2.length).sum
theorem cntP_all (l : List Poly) : cntP l l.length = l.length + holesN l := by
  unfold cntP holesN
  rw [List.take_length]
  induction l with
  | nil => rfl
  | cons p l ih => simp only [List.map_cons, List.sum_cons, List.length_cons, ih]; omega
theorem cntP_snoc {l : List Poly} {k : Nat} (h : k < l.length) : cntP l (k + 1) = cntP l k + 1 + (pyD l k).2.length := by
  unfold cntP
  rw [take_snoc l k ([], []) h, List.map_append, List.sum_append]
  simp [pyD]; omega
theorem cntP_le {l : List Poly} (k : Nat) : cntP l k ≤ cntP l l.length := by
  unfold cntP
  rw [List.take_length]
  conv => rhs; rw [← List.take_append_drop k l]
  rw [List.map_append, List.sum_append]; omega
theorem err_all {rs : Rings} (h : firstErr rs = none) {r : Pts} (hr : r ∈ rs) : area2 r ≠ 0 := by
  have := List.findSome?_eq_none_iff.1 h r hr
  intro h0
  unfold errOf at this
  split at this
  · cases this
  · first | cases this | (rw [if_pos h0] at this; cases this)
theorem outers_mem {rs : Rings} {r : Pts} (h : r ∈ outersR rs) : 0 < area2 r := by
  have := (List.mem_filter.1 h).2
  simpa [goodR] using this
theorem pyD_mem {l : List Poly} {k : Nat} (h : k < l.length) : pyD l k ∈ l := by
  have : pyD l k = l[k] := by simp [pyD, h]
  rw [this]; exact List.getElem_mem h
theorem mem_pyD {l : List Poly} {p : Poly} (h : p ∈ l) : ∃ k, k < l.length ∧ p = pyD l k := by
  obtain ⟨k, hk, rfl⟩ := List.mem_iff_getElem.1 h
  exact ⟨k, hk, by simp [pyD, hk]⟩
theorem assign_good {rs : Rings} (he : firstErr rs = none) : ∀ {k : Nat} {l : List Poly}, k ≤ rs.length → assignP (outersR rs) (rs.take k) = some l → (∀ i, i < l.length → goodP rs (pyD l i)) ∧ holesN l + (outersR (rs.take k)).length = k
  | 0, l, _, h => by
    have h1 := (assign_inv h).1
    have h2 := (assign_inv h).2
    refine ⟨fun i hi => ⟨?_, fun x hx => ?_⟩, by simp [outersR]; omega⟩
    · have hm : (pyD l i).1 ∈ outersR rs := by rw [← h1]; exact List.mem_map_of_mem (pyD_mem hi)
      exact ⟨(List.mem_filter.1 hm).1, outers_mem hm⟩
    · have := holes_le l i
      have hp := List.length_pos_of_mem hx
      omega
  | k + 1, l, hk, h => by
    have hk' : k < rs.length := by omega
    rw [assign_snoc hk'] at h
    cases hp : assignP (outersR rs) (rs.take k) with
    | none => rw [hp] at h; simp [stepP] at h
    | some l0 =>
      obtain ⟨ih1, ih2⟩ := assign_good he (by omega) hp
      have hf := (assign_inv hp).1
      rw [hp] at h
      simp only [stepP] at h
      by_cases hg : 0 < area2 (rgD rs k)
      · rw [if_pos (by simp [goodR, hg])] at h
        injection h with h
        subst h
        exact ⟨ih1, by rw [outers_good hk' hg]; simp; omega⟩
      · rw [if_neg (by simp [goodR]; omega)] at h
        split at h
        · cases h
        · rename_i hb
          injection h with h
          subst h
          have el : l0.length = (outersR rs).length := by rw [← hf, List.length_map]
          obtain ⟨b, hbe⟩ : ∃ b : Nat, bestOf (outersR rs) (rgD rs k) = (b : Int) := ⟨(bestOf (outersR rs) (rgD rs k)).toNat, by omega⟩
          have hlt : b < l0.length := by
            have := bestTo_hi (outersR rs) (rgD rs k) (outersR rs).length
            unfold bestOf at hbe; omega
          have hw := bestTo_within (outersR rs) (rgD rs k) (outersR rs).length (by unfold bestOf at hbe; omega)
          rw [show bestTo (outersR rs) (rgD rs k) (outersR rs).length = (b : Int) from hbe] at hw
          rw [hbe]
          simp only [Int.toNat_natCast] at hw ⊢
          refine ⟨fun i hi => ?_, by rw [addHole_holes hlt, outers_bad hk' hg]; omega⟩
          rw [addHole_len] at hi
          by_cases hib : i = b
          · subst hib
            rw [addHole_same hlt]
            refine ⟨(ih1 i hlt).1, fun x hx => ?_⟩
            rcases List.mem_append.1 hx with hx | hx
            · exact (ih1 i hlt).2 x hx
            · rw [List.mem_singleton.1 hx]
              refine ⟨by simp [rgD, hk'], ?_, by show withinB _ (pyD l0 i).1 = true; rw [fst_at hf i]; exact hw⟩
              have : area2 (rgD rs k) ≠ 0 := err_all he (by simp [rgD, hk'])
              omega
          · rw [addHole_other hib]
            exact ih1 i hi
/-- What law22.NestParts asks. -/
theorem polys_parts {rs : Rings} (h : (polysR rs).2 = 0) : (∀ i, i < (polysR rs).1.length → goodP rs (pyD (polysR rs).1 i)) ∧ cntP (polysR rs).1 (polysR rs).1.length = rs.length := by
  cases he : firstErr rs with
  | some e =>
    have e1 : polysR rs = ([], e) := by unfold polysR; rw [he]
    exfalso
    rw [e1] at h
    obtain ⟨r, _, hr⟩ := List.exists_of_findSome?_eq_some he
    unfold errOf at hr
    simp only at h
    subst h
    split at hr
    · injection hr with hr; cases hr
    · split at hr
      · injection hr with hr; cases hr
      · cases hr
  | none =>
    cases ha : assignP (outersR rs) rs with
    | none => rw [show polysR rs = ([], 14) by unfold polysR; rw [he, ha]] at h; cases h
    | some l =>
      rw [polys_ok he ha]
      have ha' := ha
      rw [← List.take_length (l := rs)] at ha'
      obtain ⟨h1, h2⟩ := assign_good he (Nat.le_refl _) (by rwa [List.take_length] at ha' ⊢)
      rw [List.take_length] at h2
      show (∀ i, i < l.length → goodP rs (pyD l i)) ∧ cntP l l.length = rs.length
      refine ⟨h1, ?_⟩
      have hf := (assign_inv (k := rs.length) (by rw [List.take_length]; exact ha)).1
      rw [cntP_all, show l.length = (outersR rs).length by rw [← hf, List.length_map]]
      omega
theorem polys_bad {rs : Rings} (h : (polysR rs).2 ≠ 0) : (polysR rs).1 = [] := by
  unfold polysR at h ⊢
  split
  · rfl
  · rename_i he
    simp only [he] at h
    split
    · rename_i ha; simp only [ha] at h; exact absurd rfl h
    · rfl
end Go.Proofs.Ytaphjehkpdjolaa
