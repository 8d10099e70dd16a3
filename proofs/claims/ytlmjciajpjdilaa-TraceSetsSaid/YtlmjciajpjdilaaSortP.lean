/- Plain facts on lists of rings: the order of rings, exchanges, sorted stretches. No program is in sight. -/
import Derived.Test.YtlmjciajpjdilaaGeo
namespace Go.Proofs.Ytlmjciajpjdilaa
set_option linter.unusedVariables false

def lessR : Pts → Pts → Bool
  | [], [] => false
  | [], _ :: _ => true
  | _ :: _, [] => false
  | a :: as_, b :: bs => if a = b then lessR as_ bs else lessB a b
theorem lessB_irrefl (a : Pt) : lessB a a = false := by simp [lessB]
theorem lessB_total {a b : Pt} (h : a ≠ b) : lessB a b = !lessB b a := by
  unfold lessB
  by_cases h1 : a.1 = b.1
  · have h2 : a.2 ≠ b.2 := fun e => h (Prod.ext h1 e)
    simp only [h1, if_true]
    rw [← decide_not, decide_eq_decide]; omega
  · rw [if_neg h1, if_neg (fun e => h1 e.symm), ← decide_not, decide_eq_decide]; omega
theorem lessB_trans {a b c : Pt} (h1 : lessB a b = true) (h2 : lessB b c = true) : lessB a c = true := by
  unfold lessB at *
  split at h1 <;> split at h2 <;> simp at h1 h2 <;> split <;> simp <;> omega
theorem lessR_irrefl : ∀ a : Pts, lessR a a = false
  | [] => rfl
  | a :: as_ => by simp [lessR, lessR_irrefl as_]
theorem lessR_total : ∀ {a b : Pts}, a ≠ b → lessR a b = !lessR b a
  | [], [], h => absurd rfl h
  | [], _ :: _, _ => rfl
  | _ :: _, [], _ => rfl
  | a :: as_, b :: bs, h => by
    by_cases e : a = b
    · subst e
      simp only [lessR, if_true]
      exact lessR_total (fun e => h (by rw [e]))
    · rw [lessR, lessR, if_neg e, if_neg (fun x => e x.symm)]
      exact lessB_total e
theorem lessR_trans : ∀ {a b c : Pts}, lessR a b = true → lessR b c = true → lessR a c = true
  | [], [], _, h, _ => by simp [lessR] at h
  | [], _ :: _, [], _, h => by simp [lessR] at h
  | [], _ :: _, _ :: _, _, _ => rfl
  | _ :: _, [], _, h, _ => by simp [lessR] at h
  | _ :: _, _ :: _, [], _, h => by simp [lessR] at h
  | a :: as_, b :: bs, c :: cs, h1, h2 => by
    unfold lessR at *
    by_cases e1 : a = b
    · subst e1
      by_cases e2 : a = c
      · subst e2
        simp only [if_true] at *
        exact lessR_trans h1 h2
      · rw [if_neg e2] at h2 ⊢; exact h2
    · rw [if_neg e1] at h1
      by_cases e2 : b = c
      · subst e2
        rw [if_neg e1]; exact h1
      · rw [if_neg e2] at h2
        have h3 := lessB_trans h1 h2
        have e3 : a ≠ c := fun e => by subst e; rw [lessB_irrefl] at h3; cases h3
        rw [if_neg e3]; exact h3
/-- not greater -/
def leR (a b : Pts) : Prop := lessR b a = false
theorem leR_refl (a : Pts) : leR a a := lessR_irrefl a
theorem leR_of_less {a b : Pts} (h : lessR a b = true) : leR a b := by
  unfold leR
  have e : a ≠ b := fun e => by subst e; rw [lessR_irrefl] at h; cases h
  have := lessR_total e
  rw [h] at this
  cases hb : lessR b a
  · rfl
  · rw [hb] at this; cases this
theorem leR_trans {a b c : Pts} (h1 : leR a b) (h2 : leR b c) : leR a c := by
  unfold leR at *
  cases h : lessR c a
  · rfl
  · by_cases e1 : a = b
    · subst e1; rw [h2] at h; cases h
    · have h1' : lessR a b = true := by rw [lessR_total e1, h1]; rfl
      have := lessR_trans h h1'
      rw [h2] at this; cases this
theorem leR_antisymm {a b : Pts} (h1 : leR a b) (h2 : leR b a) : a = b := by
  by_cases e : a = b
  · exact e
  · have := lessR_total e
    unfold leR at h1 h2
    rw [h1, h2] at this; cases this

theorem lessR_step {a b : Pts} : ∀ {k : Nat}, a.take k = b.take k → k < a.length → k < b.length → a.getD k (0, 0) ≠ b.getD k (0, 0) → lessR a b = lessB (a.getD k (0, 0)) (b.getD k (0, 0)) := by
  induction a generalizing b with
  | nil => intro k _ h; simp at h
  | cons x xs ih =>
    cases b with
    | nil => intro k _ _ h; simp at h
    | cons y ys =>
      intro k ht ha hb hne
      cases k with
      | zero => simp at hne ⊢; rw [lessR, if_neg hne]
      | succ k =>
        simp only [List.take_succ_cons, List.cons.injEq] at ht
        rw [lessR, if_pos ht.1]
        simpa using ih ht.2 (by simpa using ha) (by simpa using hb) (by simpa using hne)
theorem lessR_end {a b : Pts} : a.take (min a.length b.length) = b.take (min a.length b.length) → lessR a b = decide (a.length < b.length) := by
  induction a generalizing b with
  | nil => cases b <;> simp [lessR]
  | cons x xs ih =>
    cases b with
    | nil => simp [lessR]
    | cons y ys =>
      intro h
      simp only [List.length_cons, Nat.succ_min_succ, List.take_succ_cons, List.cons.injEq] at h
      rw [lessR, if_pos h.1, ih h.2]
      simp

def swp {α : Type} (xs : List α) (i j : Nat) (d : α) : List α := (xs.set i (xs.getD j d)).set j (xs.getD i d)
section
variable {α : Type} {xs : List α} {i j k : Nat} {d : α}
theorem swp_len : (swp xs i j d).length = xs.length := by simp [swp]
theorem swp_get (hi : i < xs.length) (hj : j < xs.length) (k : Nat) : (swp xs i j d).getD k d = if k = j then xs.getD i d else if k = i then xs.getD j d else xs.getD k d := by
  unfold swp
  simp only [List.getD_eq_getElem?_getD, List.getElem?_set]
  by_cases h1 : k = j
  · subst h1; simp [hj]
  · have h1' : ¬ j = k := fun e => h1 e.symm
    by_cases h2 : k = i
    · subst h2; simp [hi, h1, h1']
    · have h2' : ¬ i = k := fun e => h2 e.symm
      simp [h1, h1', h2, h2']
theorem swp_perm [DecidableEq α] (hi : i < xs.length) (hj : j < xs.length) : (swp xs i j d).Perm xs := by
  rw [List.perm_iff_count]
  intro a
  unfold swp
  have hi' : xs.getD i d = xs[i] := by simp [hi]
  have hj' : xs.getD j d = xs[j] := by simp [hj]
  rw [hi', hj', List.count_set (by simpa using hj), List.count_set hi]
  have h1 : xs[i] = a → 0 < xs.count a := fun e => List.count_pos_iff.2 (e ▸ List.getElem_mem hi)
  by_cases hij : i = j
  · subst hij
    simp only [List.getElem_set_self, beq_iff_eq]
    split
    · rename_i e; have := h1 e; omega
    · omega
  · rw [List.getElem_set_ne hij]
    simp only [beq_iff_eq]
    by_cases e1 : xs[i] = a <;> by_cases e2 : xs[j] = a
    · simp [e1, e2]; have := h1 e1; omega
    · simp [e1, e2]; have := h1 e1; omega
    · simp [e1, e2]
    · simp [e1, e2]
end
def rg (xs : List Pts) (k : Nat) : Pts := xs.getD k []
def SortedOn (xs : List Pts) (a b : Nat) : Prop := ∀ i j, a ≤ i → i < j → j < b → leR (rg xs i) (rg xs j)
/-- the state of an insertion: the element at j is on its way down; the others of a .. i are sorted, and those behind j are not below it -/
def Inserting (xs : List Pts) (a i j : Nat) : Prop :=
  (∀ p q, a ≤ p → p < q → q ≤ i → p ≠ j → q ≠ j → leR (rg xs p) (rg xs q)) ∧ (∀ q, j < q → q ≤ i → leR (rg xs j) (rg xs q))
theorem inserting_start {xs : List Pts} {a i : Nat} (h : SortedOn xs a i) : Inserting xs a i i := ⟨fun p q h1 h2 h3 h4 h5 => h p q h1 h2 (by omega), fun q h1 h2 => by omega⟩
theorem inserting_step {xs : List Pts} {a i j : Nat} (h : Inserting xs a i j) (ha : a < j) (hji : j ≤ i) (hi : i < xs.length) (hl : lessR (rg xs j) (rg xs (j - 1)) = true) : Inserting (swp xs j (j - 1) []) a i (j - 1) := by
  have g : ∀ k, rg (swp xs j (j - 1) []) k = if k = j - 1 then rg xs j else if k = j then rg xs (j - 1) else rg xs k := fun k => swp_get (by omega) (by omega) k
  refine ⟨fun p q h1 h2 h3 h4 h5 => ?_, fun q h1 h2 => ?_⟩
  · rw [g, g, if_neg h4, if_neg h5]
    by_cases e1 : p = j
    · rw [if_pos e1, if_neg (by omega)]
      exact h.1 (j - 1) q (by omega) (by omega) h3 (by omega) (by omega)
    · rw [if_neg e1]
      by_cases e2 : q = j
      · rw [if_pos e2]
        exact h.1 p (j - 1) h1 (by omega) (by omega) e1 (by omega)
      · rw [if_neg e2]
        exact h.1 p q h1 h2 h3 e1 e2
  · rw [g, g, if_pos rfl, if_neg (by omega)]
    by_cases e : q = j
    · rw [if_pos e]; exact leR_of_less hl
    · rw [if_neg e]; exact h.2 q (by omega) h2
theorem inserting_end {xs : List Pts} {a i j : Nat} (h : Inserting xs a i j) (ha : a ≤ j) (hji : j ≤ i) (hl : a = j ∨ leR (rg xs (j - 1)) (rg xs j)) : SortedOn xs a (i + 1) := by
  intro p q h1 h2 h3
  by_cases e1 : p = j
  · subst e1; exact h.2 q h2 (by omega)
  · by_cases e2 : q = j
    · subst e2
      rcases hl with hl | hl
      · omega
      · by_cases e3 : p = q - 1
        · subst e3; exact hl
        · exact leR_trans (h.1 p (q - 1) h1 (by omega) (by omega) e1 (by omega)) hl
    · exact h.1 p q h1 h2 (by omega) e1 e2
/-- two sorted lists with the same elements are one -/
theorem sorted_unique : ∀ {xs ys : List Pts}, xs.Perm ys → SortedOn xs 0 xs.length → SortedOn ys 0 ys.length → xs = ys
  | [], ys, h, _, _ => h.symm.eq_nil.symm
  | x :: xs, [], h, _, _ => by simpa using h.length_eq
  | x :: xs, y :: ys, h, h1, h2 => by
    have tail : ∀ {z : Pts} {zs : List Pts}, SortedOn (z :: zs) 0 (z :: zs).length → SortedOn zs 0 zs.length := fun {z zs} hs i j _ h2 h3 => by
      have := hs (i + 1) (j + 1) (by omega) (by omega) (by simpa using h3)
      simpa [rg] using this
    have least : ∀ {z u : Pts} {zs : List Pts}, SortedOn (z :: zs) 0 (z :: zs).length → u ∈ z :: zs → leR z u := fun {z u zs} hs hu => by
      rcases List.mem_cons.1 hu with rfl | hu
      · exact leR_refl _
      · obtain ⟨i, hi, e⟩ := List.getElem_of_mem hu
        have := hs 0 (i + 1) (by omega) (by omega) (by simpa using hi)
        simpa [rg, hi, e] using this
    have e : x = y := leR_antisymm (least h1 (h.symm.subset (List.mem_cons_self))) (least h2 (h.subset (List.mem_cons_self)))
    subst e
    rw [sorted_unique (List.Perm.cons_inv h) (tail h1) (tail h2)]
end Go.Proofs.Ytlmjciajpjdilaa
