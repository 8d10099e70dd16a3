/- Plain words: a set of segments does not hang on order, direction, or a segment told twice. -/
import Derived.Test.YtlmjciajpjdilaaTLives
namespace Go.Proofs.Ytlmjciajpjdilaa
open Go.RowKit Go.Proofs.YtlmjciajpjdilaaW.PrintLast
set_option linter.unusedVariables false
set_option linter.unusedSimpArgs false

theorem ofB_symm (a b : Pt) : ofB a b = ofB b a := by
  unfold ofB
  cases h1 : lessB a b <;> cases h2 : lessB b a
  · rw [totB.antisymm h1 h2]
  · rfl
  · rfl
  · exact absurd (totB.asymm h1) (by simp [h2])
def revS (s : Sg) : Sg := (s.2, s.1)
theorem ofS_rev (s : Sg) : ofS (revS s) = ofS s := ofB_symm _ _
theorem good_rev (s : Sg) : goodB (revS s) = goodB s := by
  unfold goodB revS
  rw [Bool.and_comm (validB s.2)]
  congr 1
  exact decide_eq_decide.2 ⟨fun h e => h e.symm, fun h e => h e.symm⟩
theorem mem_uniq {l : Sgs} {x : Sg} : x ∈ uniqZ l ↔ ∃ s ∈ l, goodB s = true ∧ ofS s = x := by
  unfold uniqZ sortZ canonZ
  rw [mem_compact, mem_sortG, List.mem_map]
  constructor
  · rintro ⟨s, hs, rfl⟩
    exact ⟨s, (List.mem_filter.1 hs).1, (List.mem_filter.1 hs).2, rfl⟩
  · rintro ⟨s, hs, hg, rfl⟩
    exact ⟨s, List.mem_filter.2 ⟨hs, hg⟩, rfl⟩
theorem uniq_inc (l : Sgs) : Inc lessS (uniqZ l) := compact_inc totS (sortG_srt totS _)
theorem uniq_congr {l m : Sgs} (h1 : ∀ s ∈ l, s ∈ m ∨ revS s ∈ m) (h2 : ∀ s ∈ m, s ∈ l ∨ revS s ∈ l) : uniqZ l = uniqZ m := by
  have key : ∀ {l m : Sgs}, (∀ s ∈ l, s ∈ m ∨ revS s ∈ m) → ∀ x ∈ uniqZ l, x ∈ uniqZ m := by
    intro l m h x hx
    obtain ⟨s, hs, hg, rfl⟩ := mem_uniq.1 hx
    rcases h s hs with h | h
    · exact mem_uniq.2 ⟨s, h, hg, rfl⟩
    · exact mem_uniq.2 ⟨revS s, h, (good_rev s).trans hg, ofS_rev s⟩
  exact inc_unique totS (fun x => ⟨key h1 x, key h2 x⟩) (uniq_inc l) (uniq_inc m)
def rotS (l : Sgs) (k i : Nat) : Sg := if i % 2 = 0 then revS (sgD l ((i + k) % l.length)) else sgD l ((i + k) % l.length)
def mixZ (l : Sgs) (k : Nat) : Sgs := (List.range l.length).map (rotS l k) ++ [sgD l k]
theorem sgD_mem {l : Sgs} {k : Nat} (h : k < l.length) : sgD l k ∈ l := by rw [sgD_eq h]; exact List.getElem_mem h
theorem revS_rev (s : Sg) : revS (revS s) = s := rfl
theorem uniq_mix {l : Sgs} {k : Nat} (hk : k < l.length) : uniqZ (mixZ l k) = uniqZ l := by
  refine uniq_congr ?_ ?_
  · intro s hs
    rcases List.mem_append.1 hs with hs | hs
    · obtain ⟨i, hi, rfl⟩ := List.mem_map.1 hs
      have hm := sgD_mem (l := l) (k := (i + k) % l.length) (Nat.mod_lt _ (by omega))
      unfold rotS
      split
      · right; exact hm
      · left; exact hm
    · left
      rw [List.mem_singleton.1 hs]
      exact sgD_mem hk
  · intro s hs
    obtain ⟨j, hj, rfl⟩ := List.getElem_of_mem hs
    have h1 : ((j + (l.length - k)) % l.length + k) % l.length = j := by
      rw [Nat.mod_add_mod, show j + (l.length - k) + k = j + l.length by omega, Nat.add_mod_right, Nat.mod_eq_of_lt hj]
    have h2 : rotS l k ((j + (l.length - k)) % l.length) ∈ mixZ l k := List.mem_append_left _ (List.mem_map.2 ⟨_, List.mem_range.2 (Nat.mod_lt _ (by omega)), rfl⟩)
    unfold rotS at h2
    rw [h1, sgD_eq hj] at h2
    split at h2
    · right; exact h2
    · left; exact h2
theorem mix_check {l : Sgs} {k : Nat} (hk : k < l.length) : checkZ (mixZ l k) = checkZ l := by unfold checkZ; rw [uniq_mix hk]
theorem mix_rings {l : Sgs} {k : Nat} (hk : k < l.length) : ringsZ (mixZ l k) = ringsZ l := by unfold ringsZ; rw [mix_check hk, uniq_mix hk]
theorem mix_len (l : Sgs) (k : Nat) : (mixZ l k).length = l.length + 1 := by simp [mixZ]
def mixTo (l : Sgs) (k i : Nat) : Sgs := (List.range i).map (rotS l k)
theorem mixTo_snoc (l : Sgs) (k i : Nat) : mixTo l k (i + 1) = mixTo l k i ++ [rotS l k i] := by unfold mixTo; rw [List.range_succ, List.map_append]; rfl
theorem mixTo_len (l : Sgs) (k i : Nat) : (mixTo l k i).length = i := by simp [mixTo]
end Go.Proofs.Ytlmjciajpjdilaa
