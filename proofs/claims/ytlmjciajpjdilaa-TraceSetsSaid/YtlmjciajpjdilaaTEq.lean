/- '==' of points and of segments as one test; slices of the call's own read at an index. -/
import Derived.Test.YtlmjciajpjdilaaTOwn
import Derived.Laws.StructEq
import Derived.Test.YtlmjciajpjdilaaWEqStruct
namespace Go.Proofs.Ytlmjciajpjdilaa
open Go.RowKit Go.Proofs.YtlmjciajpjdilaaW.PrintWords
set_option linter.unusedVariables false
set_option linter.unusedSimpArgs false
set_option linter.unusedSectionVars false

theorem eqPt0 (d : Nat) (w : World) (x0 y0 x1 y1 : Int) :
    (Op.equalIn (d + 2) 25 (.agg #[.int .i64 x0, .int .i64 x1]) (.agg #[.int .i64 y0, .int .i64 y1])).run Try.prog w = .ok (x0 == y0 && (x1 == y1)) w := by
  refine eqA_of Try.underlying25 (by kernel_rfl) ?_
  refine eqf_cons (by rfl) (by go_simp; rfl) (by go_simp; rfl) (by go_simp) ?_
  exact eqf_last (by rfl) (by go_simp; rfl) (by go_simp; rfl) (by go_simp)
theorem eqSg0 (d : Nat) (w : World) (x0 y0 x1 y1 x2 y2 x3 y3 : Int) :
    (Op.equalIn (d + 3) 27 (.agg #[.int .i64 x0, .int .i64 x1, .int .i64 x2, .int .i64 x3]) (.agg #[.int .i64 y0, .int .i64 y1, .int .i64 y2, .int .i64 y3])).run Try.prog w = .ok ((x0 == y0 && (x1 == y1)) && ((x2 == y2 && (x3 == y3)))) w := by
  refine eqA_of Try.underlying27 (by kernel_rfl) ?_
  refine eqf_cons (by rfl) (by go_simp) (by go_simp) (eqPt0 (d + 0) w _ _ _ _) ?_
  exact eqf_last (by rfl) (by go_simp) (by go_simp) (eqPt0 (d + 0) w _ _ _ _)
theorem eqPt (d : Nat) (w : World) (x0 y0 x1 y1 : Int) :
    (Op.equalIn (d + 2) 25 (.agg #[.int .i64 x0, .int .i64 x1]) (.agg #[.int .i64 y0, .int .i64 y1])).run Try.prog w = .ok (decide (((x0, x1) : Pt) = (y0, y1))) w := by
  rw [eqPt0]; congr 1; rw [Bool.eq_iff_iff]; simp
theorem eqSg (d : Nat) (w : World) (x0 y0 x1 y1 x2 y2 x3 y3 : Int) :
    (Op.equalIn (d + 3) 27 (.agg #[.int .i64 x0, .int .i64 x1, .int .i64 x2, .int .i64 x3]) (.agg #[.int .i64 y0, .int .i64 y1, .int .i64 y2, .int .i64 y3])).run Try.prog w = .ok (decide ((((x0, x1), (x2, x3)) : Sg) = ((y0, y1), (y2, y3)))) w := by
  rw [eqSg0]; congr 1; rw [Bool.eq_iff_iff]; simp [and_assoc]
section
variable {α : Type} {k : Nat} {hn : 0 < k} {enc : α → List Value} {hk : ∀ x, (enc x).length = k} {h1 : ∀ x, ∀ u ∈ enc x, u.oneCell' = true}
theorem OwnR.flat_at {e : TypeId} {base g n c : Nat} {M : Nat → Prop} {w : World} {xs : List α} (h : OwnR (Ty.flat k hn enc hk h1) e base M w (.slice (some ⟨g, 0, none⟩) n c) xs) (i : Nat) (hi : i < xs.length) (j : Nat) (u : Value) (hu : (enc xs[i])[j]? = some u) :
    w.cell? ⟨g, i * k + j, none⟩ = some u := by
  obtain ⟨h0, inner, ho, hr⟩ := h
  obtain ⟨cs, hcs, hc⟩ := hr.get i xs[i] (by simp [hi])
  obtain rfl : cs = enc xs[i] := hcs
  have := ho.cells (g := g) rfl _ u (hc j u hu)
  rw [add_at, Nat.zero_add] at this
  exact this
end
theorem OwnR.sg_at {e : TypeId} {base g n c : Nat} {M : Nat → Prop} {w : World} {xs : Sgs} (h : OwnR Ty.sg e base M w (.slice (some ⟨g, 0, none⟩) n c) xs) (i : Nat) (hi : i < xs.length) :
    w.cell? ⟨g, i * 4, none⟩ = some (.int .i64 (sgD xs i).1.1) ∧ w.cell? ⟨g, i * 4 + 1, none⟩ = some (.int .i64 (sgD xs i).1.2) ∧ w.cell? ⟨g, i * 4 + 2, none⟩ = some (.int .i64 (sgD xs i).2.1) ∧ w.cell? ⟨g, i * 4 + 3, none⟩ = some (.int .i64 (sgD xs i).2.2) := by
  rw [sgD_eq hi]
  exact ⟨OwnR.flat_at h i hi 0 _ rfl, OwnR.flat_at h i hi 1 _ rfl, OwnR.flat_at h i hi 2 _ rfl, OwnR.flat_at h i hi 3 _ rfl⟩
theorem OwnR.pt_at {e : TypeId} {base g n c : Nat} {M : Nat → Prop} {w : World} {xs : Pts} (h : OwnR Ty.pt e base M w (.slice (some ⟨g, 0, none⟩) n c) xs) (i : Nat) (hi : i < xs.length) :
    w.cell? ⟨g, i * 2, none⟩ = some (.int .i64 (ptD xs i).1) ∧ w.cell? ⟨g, i * 2 + 1, none⟩ = some (.int .i64 (ptD xs i).2) := by
  rw [ptD_eq hi]
  exact ⟨OwnR.flat_at h i hi 0 _ rfl, OwnR.flat_at h i hi 1 _ rfl⟩
theorem Own1.form {α : Type} {T : Ty α} {e : TypeId} {base : Nat} {w : World} {v : Value} {xs : List α} (h : Own1 T e base w v xs) (hn : 0 < xs.length) : ∃ g c, v = .slice (some ⟨g, 0, none⟩) xs.length c ∧ xs.length ≤ c := by
  obtain ⟨A, c, e, hl, _, h2⟩ := OwnR.reads h
  obtain ⟨g, rfl, _⟩ := h2 hn
  exact ⟨g, c, e, hl⟩
/-! ### compactZ, step by step -/
section
variable {α : Type} [DecidableEq α]
theorem compA_snoc (x : α) : ∀ (l : List α) (p : α), compA p (l ++ [x]) = if x = (p :: l).getLast (by simp) then compA p l else compA p l ++ [x]
  | [], p => by
    show (if x = p then compA p [] else x :: compA x []) = if x = p then compA p [] else compA p [] ++ [x]
    split <;> rfl
  | y :: ys, p => by
    have ih := compA_snoc x ys y
    simp only [List.cons_append, compA]
    have e : (p :: y :: ys).getLast (by simp) = (y :: ys).getLast (by simp) := by simp
    rw [e]
    by_cases h : y = p
    · subst h; rw [if_pos rfl, if_pos rfl, ih]
    · rw [if_neg h, if_neg h, ih]
      split <;> rfl
theorem compact_take (xs : List α) (d : α) (k : Nat) (hk : 0 < k) (h : k < xs.length) : compactZ (xs.take (k + 1)) = if xs.getD k d = xs.getD (k - 1) d then compactZ (xs.take k) else compactZ (xs.take k) ++ [xs.getD k d] := by
  rw [take_snoc xs k d h]
  have hne : xs.take k ≠ [] := by intro e; have := congrArg List.length e; rw [List.length_take, List.length_nil] at this; omega
  obtain ⟨y, ys, hy⟩ := List.exists_cons_of_ne_nil hne
  have hl : (y :: ys).getLast (by simp) = xs.getD (k - 1) d := by
    have : (y :: ys).getLast (by simp) = (xs.take k).getLast hne := by simp [hy]
    rw [this, List.getLast_eq_getElem, List.getElem_take]
    simp only [List.length_take, Nat.min_eq_left (Nat.le_of_lt h)]
    simp [show k - 1 < xs.length by omega]
  rw [hy]
  show y :: compA y (ys ++ [_]) = _
  rw [compA_snoc, hl]
  simp only [compactZ]
  split <;> rfl
theorem compact_eq (xs : List α) (d : α) (k : Nat) (hk : 0 < k) (h : k < xs.length) (hq : xs.getD k d = xs.getD (k - 1) d) : compactZ (xs.take (k + 1)) = compactZ (xs.take k) := by
  rw [compact_take xs d k hk h, if_pos hq]
theorem compact_ne (xs : List α) (d : α) (k : Nat) (hk : 0 < k) (h : k < xs.length) (hq : ¬ xs.getD k d = xs.getD (k - 1) d) : compactZ (xs.take (k + 1)) = compactZ (xs.take k) ++ [xs.getD k d] := by
  rw [compact_take xs d k hk h, if_neg hq]
theorem compact_one {xs : List α} (h : xs.length < 2) : compactZ xs = xs := by
  match xs, h with
  | [], _ => rfl
  | [x], _ => rfl
theorem compact_take_len (xs : List α) : ∀ k, k ≤ xs.length → (compactZ (xs.take k)).length ≤ k := fun k hk => by
  have := compact_len (xs.take k)
  rw [List.length_take] at this; omega
theorem set_take_snoc {ys : List α} {i : Nat} (x : α) (h : i < ys.length) : (ys.set i x).take (i + 1) = ys.take i ++ [x] := by
  rw [List.take_succ_eq_append_getElem (by rw [List.length_set]; omega), List.take_set, List.set_eq_of_length_le (by rw [List.length_take]; omega), List.getElem_set_self]
end
theorem sgB (a b : Sg) : (decide (a.1.1 = b.1.1) && decide (a.1.2 = b.1.2) && (decide (a.2.1 = b.2.1) && decide (a.2.2 = b.2.2))) = decide (a = b) := by
  obtain ⟨⟨a1, a2⟩, ⟨a3, a4⟩⟩ := a
  obtain ⟨⟨b1, b2⟩, ⟨b3, b4⟩⟩ := b
  rw [Bool.eq_iff_iff]; simp [and_assoc]
theorem ptB (a b : Pt) : (decide (a.1 = b.1) && decide (a.2 = b.2)) = decide (a = b) := by
  obtain ⟨a1, a2⟩ := a
  obtain ⟨b1, b2⟩ := b
  rw [Bool.eq_iff_iff]; simp
end Go.Proofs.Ytlmjciajpjdilaa
