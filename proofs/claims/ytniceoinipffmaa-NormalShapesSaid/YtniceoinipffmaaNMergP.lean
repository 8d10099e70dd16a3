/- Words of this session's own: the groups of places that share their point, plainly. -/
import Derived.Test.YtniceoinipffmaaNSort
namespace Go.Proofs.Ytniceoinipffmaa
open Go.RowKit
set_option linter.unusedVariables false
set_option linter.unusedSimpArgs false

def dk (l : List Pt) : List Pt := l.foldl (fun d p => if p ∈ d then d else d ++ [p]) []
theorem dk_snoc (l : List Pt) (p : Pt) : dk (l ++ [p]) = if p ∈ dk l then dk l else dk l ++ [p] := by
  unfold dk
  rw [List.foldl_append]
  simp only [List.foldl_cons, List.foldl_nil]
theorem snoc_ind {α : Type} {P : List α → Prop} (h0 : P []) (h1 : ∀ l x, P l → P (l ++ [x])) : ∀ l, P l := by
  intro l
  have : ∀ n, ∀ l : List α, l.length = n → P l := by
    intro n
    induction n with
    | zero => intro l h; rw [List.eq_nil_of_length_eq_zero h]; exact h0
    | succ n ih =>
      intro l h
      have hne : l ≠ [] := fun e => by rw [e] at h; simp at h
      rw [← List.dropLast_concat_getLast hne]
      exact h1 _ _ (ih _ (by rw [List.length_dropLast]; omega))
  exact this _ l rfl
theorem dk_mem (l : List Pt) : ∀ p, p ∈ dk l ↔ p ∈ l := by
  refine snoc_ind (P := fun l => ∀ p, p ∈ dk l ↔ p ∈ l) (fun p => by simp [dk]) (fun l x ih p => ?_) l
  rw [dk_snoc]
  split
  · rename_i h
    rw [ih, List.mem_append, List.mem_singleton]
    constructor
    · exact .inl
    · rintro (h1 | rfl)
      · exact h1
      · exact (ih _).1 h
  · rw [List.mem_append, List.mem_append, ih]
theorem dk_nodup (l : List Pt) : (dk l).Nodup := by
  refine snoc_ind (P := fun l => (dk l).Nodup) (by simp [dk]) (fun l x ih => ?_) l
  rw [dk_snoc]
  split
  · exact ih
  · rename_i h
    rw [List.nodup_append]
    refine ⟨ih, by simp, fun a ha b hb => ?_⟩
    rw [List.mem_singleton.1 hb]
    exact fun e => h (e ▸ ha)
def gi (l : List Place) (p : Pt) : List Int := (l.filter (fun x => decide (x.2.1 = p))).map (·.1)
def atL (l : List Place) : List Pt := l.map (·.2.1)
theorem gi_snoc (l : List Place) (x : Place) (p : Pt) : gi (l ++ [x]) p = if x.2.1 = p then gi l p ++ [x.1] else gi l p := by
  unfold gi
  rw [List.filter_append, List.map_append]
  by_cases h : x.2.1 = p
  · simp [h]
  · simp [h]
theorem gi_none {l : List Place} {p : Pt} (h : p ∉ atL l) : gi l p = [] := by
  unfold gi
  rw [List.map_eq_nil_iff, List.filter_eq_nil_iff]
  intro x hx
  simp only [decide_eq_true_eq]
  exact fun e => h (List.mem_map.2 ⟨x, hx, e⟩)
theorem atL_snoc (l : List Place) (x : Place) : atL (l ++ [x]) = atL l ++ [x.2.1] := by simp [atL]
def big (s : List Int) : Bool := decide (2 ≤ s.length)
def mergedZ (l : List Place) : Sets := ((dk (atL l)).map (gi l)).filter big
theorem countP_one {α : Type} [BEq α] [LawfulBEq α] (l : List α) (p q : α → Bool) (a : α) (h : ∀ x, q x = true → p x = true ∨ x = a) : l.countP q ≤ l.countP p + l.count a := by
  induction l with
  | nil => simp
  | cons x l ih =>
    rw [List.countP_cons, List.countP_cons, List.count_cons]
    have h1 := h x
    by_cases hq : q x = true
    · rcases h1 hq with hp | rfl
      · simp [hq, hp]; omega
      · simp [hq]; omega
    · simp [hq]; omega
theorem merged_len (l : List Place) : (mergedZ l).length * 2 ≤ l.length := by
  have key : ∀ l : List Place, (dk (atL l)).countP (fun p => big (gi l p)) + (dk (atL l)).length ≤ l.length := by
    intro l
    refine snoc_ind (P := fun l => (dk (atL l)).countP (fun p => big (gi l p)) + (dk (atL l)).length ≤ l.length) (by simp [dk, atL]) (fun l x ih => ?_) l
    try simp only at ih ⊢
    rw [atL_snoc, dk_snoc, List.length_append]
    simp only [List.length_cons, List.length_nil]
    split
    · rename_i hm
      have h1 := countP_one (dk (atL l)) (fun p => big (gi l p)) (fun p => big (gi (l ++ [x]) p)) x.2.1 (fun p hp => by
        simp only [gi_snoc] at hp
        by_cases e : x.2.1 = p
        · exact .inr e.symm
        · rw [if_neg e] at hp; exact .inl hp)
      have h2 : (dk (atL l)).count x.2.1 ≤ 1 := List.nodup_iff_count.1 (dk_nodup _) _
      omega
    · rename_i hm
      rw [List.countP_append, List.length_append]
      have h1 : [x.2.1].countP (fun p => big (gi (l ++ [x]) p)) = 0 := by
        have : gi (l ++ [x]) x.2.1 = [x.1] := by rw [gi_snoc, if_pos rfl, gi_none (fun h => hm ((dk_mem _ _).2 h))]; rfl
        simp [this, big]
      have h2 : (dk (atL l)).countP (fun p => big (gi (l ++ [x]) p)) = (dk (atL l)).countP (fun p => big (gi l p)) := by
        apply List.countP_congr
        intro p hp
        have e : ¬ x.2.1 = p := fun e => hm (e ▸ hp)
        rw [gi_snoc, if_neg e]
      rw [h1, h2]
      simp only [List.length_cons, List.length_nil]
      omega
  have h1 : (mergedZ l).length = (dk (atL l)).countP (fun p => big (gi l p)) := by
    rw [mergedZ, ← List.countP_eq_length_filter, List.countP_map]; rfl
  have h2 := key l
  have h3 : (dk (atL l)).countP (fun p => big (gi l p)) ≤ (dk (atL l)).length := List.countP_le_length
  omega
theorem merged_pos {l : List Place} : ∀ x ∈ mergedZ l, 0 < x.length := fun x hx => by
  have := (List.mem_filter.1 hx).2
  simp [big] at this; omega
/-- Places' IDs increase. -/
def Incr (l : List Place) : Prop := ∀ i j, i < j → j < l.length → (ndD l i).1 < (ndD l j).1
theorem gi_first {l : List Place} {p : Pt} {k : Nat} (hk : k < l.length) (h0 : ∀ j, j < k → (ndD l j).2.1 ≠ p) (h1 : (ndD l k).2.1 = p) : inD (gi l p) 0 = (ndD l k).1 := by
  have e1 : l = l.take k ++ (ndD l k :: l.drop (k + 1)) := by
    have h2 := List.take_append_drop k l
    rw [List.drop_eq_getElem_cons hk] at h2
    have h3 : ndD l k = l[k] := by simp [ndD, hk]
    rw [h3]; exact h2.symm
  have e2 : (l.take k).filter (fun x => decide (x.2.1 = p)) = [] := by
    rw [List.filter_eq_nil_iff]
    intro x hx
    obtain ⟨j, hj, rfl⟩ := List.getElem_of_mem hx
    have hj' : j < k := by rw [List.length_take] at hj; omega
    have := h0 j hj'
    simp only [ndD, List.getD_eq_getElem?_getD, List.getElem?_eq_getElem (show j < l.length by omega), Option.getD_some] at this
    simpa using this
  have e3 : gi l p = gi (l.take k ++ (ndD l k :: l.drop (k + 1))) p := by rw [← e1]
  rw [e3, gi, List.filter_append, e2, List.nil_append, List.filter_cons_of_pos (by simpa using h1)]
  rfl
theorem first_ix {l : List Place} {p : Pt} {k : Nat} (hk : k ≤ l.length) (h : p ∈ atL (l.take k)) : ∃ j, j < k ∧ (ndD l j).2.1 = p ∧ ∀ i, i < j → (ndD l i).2.1 ≠ p := by
  induction k with
  | zero => simp [atL] at h
  | succ k ih =>
    by_cases h1 : p ∈ atL (l.take k)
    · obtain ⟨j, hj, e, hf⟩ := ih (by omega) h1
      exact ⟨j, by omega, e, hf⟩
    · rw [take_snoc l k (0, ((0, 0), [])) (by omega), atL_snoc, List.mem_append] at h
      rcases h with h | h
      · exact absurd h h1
      · refine ⟨k, by omega, (List.mem_singleton.1 h).symm, fun i hi e => h1 ?_⟩
        refine List.mem_map.2 ⟨ndD l i, ?_, e⟩
        have hi' : i < (l.take k).length := by rw [List.length_take]; omega
        have : (l.take k)[i] = ndD l i := by simp [ndD, show i < l.length by omega]
        rw [← this]; exact List.getElem_mem hi'
theorem dk_sorted {l : List Place} (hl : Incr l) : ∀ k, k ≤ l.length → (dk (atL (l.take k))).Pairwise (fun p q => inD (gi l p) 0 < inD (gi l q) 0) := by
  intro k
  induction k with
  | zero => intro _; simp [atL, dk]
  | succ k ih =>
    intro hk
    rw [take_snoc l k (0, ((0, 0), [])) (by omega), atL_snoc, dk_snoc]
    split
    · exact ih (by omega)
    · rename_i hm
      rw [List.pairwise_append]
      refine ⟨ih (by omega), by simp, fun p hp q hq => ?_⟩
      rw [List.mem_singleton.1 hq]
      rw [dk_mem] at hp hm
      obtain ⟨j, hj, e, hf⟩ := first_ix (by omega) hp
      have h1 := gi_first (show j < l.length by omega) (fun i hi => hf i hi) e
      have h2 := gi_first (p := (l.getD k (0, ((0, 0), []))).2.1) (show k < l.length by omega) (fun i hi e' => hm (by
        refine List.mem_map.2 ⟨ndD l i, ?_, e'⟩
        have hi' : i < (l.take k).length := by rw [List.length_take]; omega
        have : (l.take k)[i] = ndD l i := by simp [ndD, show i < l.length by omega]
        rw [← this]; exact List.getElem_mem hi')) rfl
      rw [h1, h2]
      exact hl j k hj (by omega)
theorem merged_sorted {l : List Place} (hl : Incr l) : (mergedZ l).Pairwise (fun a b => inD a 0 < inD b 0) := by
  have := dk_sorted hl l.length (Nat.le_refl _)
  rw [List.take_length] at this
  have h : ((dk (atL l)).map (gi l)).Pairwise (fun a b => inD a 0 < inD b 0) := List.pairwise_map.2 this
  exact h.filter _
theorem perm_range {ds : List Nat} {n : Nat} (hn : ds.Nodup) (hl : ∀ i ∈ ds, i < n) (h : ds.length = n) : ds.Perm (List.range n) := by
  rw [List.perm_iff_count]
  intro a
  have h1 : a ∈ ds ↔ a < n := ⟨hl a, fun ha => by
    by_cases hm : a ∈ ds
    · exact hm
    · have h2 := nodup_sub (m := (List.range n).erase a) hn (fun x hx => (List.mem_erase_of_ne (fun e => hm (by rw [← e]; exact hx))).2 (List.mem_range.2 (hl x hx)))
      rw [List.length_erase_of_mem (List.mem_range.2 ha), List.length_range] at h2
      omega⟩
  by_cases ha : a < n
  · rw [List.Nodup.count hn, List.Nodup.count List.nodup_range, if_pos (h1.2 ha), if_pos (List.mem_range.2 ha)]
  · rw [List.count_eq_zero.2 (fun hm => ha (h1.1 hm)), List.count_eq_zero.2 (fun hm => ha (List.mem_range.1 hm))]
end Go.Proofs.Ytniceoinipffmaa
