/- Plain facts on sorted lists under a total order: insertion sort, neighbours that repeat taken out, uniqueness. No program is in sight. -/
import Derived.Test.YtlmjciajpjdilaaSortP
namespace Go.Proofs.Ytlmjciajpjdilaa
set_option linter.unusedVariables false
set_option linter.unusedSectionVars false

structure Tot {α : Type} (less : α → α → Bool) : Prop where
  irr : ∀ a, less a a = false
  trans : ∀ {a b c}, less a b = true → less b c = true → less a c = true
  total : ∀ {a b}, a ≠ b → less a b = !less b a
def insZ {α : Type} (less : α → α → Bool) (x : α) : List α → List α
  | [] => [x]
  | y :: ys => if less x y then x :: y :: ys else y :: insZ less x ys
def sortG {α : Type} (less : α → α → Bool) (l : List α) : List α := l.foldl (fun acc x => insZ less x acc) []
def Srt {α : Type} (less : α → α → Bool) (l : List α) : Prop := l.Pairwise (fun a b => less b a = false)
def Inc {α : Type} (less : α → α → Bool) (l : List α) : Prop := l.Pairwise (fun a b => less a b = true)
section
variable {α : Type} {less : α → α → Bool}
theorem Tot.asymm (T : Tot less) {a b : α} (h : less a b = true) : less b a = false := by
  have e : a ≠ b := fun e => by subst e; rw [T.irr] at h; cases h
  have := T.total e
  rw [h] at this
  cases hb : less b a
  · rfl
  · rw [hb] at this; cases this
theorem Tot.antisymm (T : Tot less) {a b : α} (h1 : less a b = false) (h2 : less b a = false) : a = b := by
  by_cases e : a = b
  · exact e
  · have := T.total e
    rw [h1, h2] at this; cases this
theorem Tot.ntrans (T : Tot less) {a b c : α} (h1 : less b a = false) (h2 : less c b = false) : less c a = false := by
  cases h : less c a
  · rfl
  · by_cases e : b = a
    · subst e; rw [h2] at h; cases h
    · have h3 : less a b = true := by
        have := T.total (fun x => e x.symm : a ≠ b)
        rw [h1] at this; exact this
      have := T.trans h h3
      rw [h2] at this; cases this
theorem insZ_perm (x : α) : ∀ l : List α, (insZ less x l).Perm (x :: l)
  | [] => List.Perm.refl _
  | y :: ys => by
    unfold insZ
    split
    · exact List.Perm.refl _
    · exact ((insZ_perm x ys).cons y).trans (List.Perm.swap x y ys)
theorem fold_perm : ∀ (l acc : List α), (l.foldl (fun acc x => insZ less x acc) acc).Perm (l ++ acc)
  | [], acc => List.Perm.refl _
  | x :: l, acc => by
    refine (fold_perm l (insZ less x acc)).trans ?_
    exact (List.Perm.append_left l (insZ_perm x acc)).trans List.perm_middle
theorem sortG_perm (l : List α) : (sortG less l).Perm l := by
  have := fold_perm (less := less) l []
  rwa [List.append_nil] at this
theorem insZ_srt (T : Tot less) (x : α) : ∀ {l : List α}, Srt less l → Srt less (insZ less x l)
  | [], _ => List.pairwise_singleton _ _
  | y :: ys, h => by
    have h1 := List.pairwise_cons.1 h
    unfold insZ
    split
    · rename_i hx
      refine List.pairwise_cons.2 ⟨fun z hz => ?_, h⟩
      rcases List.mem_cons.1 hz with rfl | hz
      · exact T.asymm hx
      · exact T.ntrans (T.asymm hx) (h1.1 z hz)
    · rename_i hx
      refine List.pairwise_cons.2 ⟨fun z hz => ?_, insZ_srt T x h1.2⟩
      rcases List.mem_cons.1 ((insZ_perm x ys).subset hz) with rfl | hz
      · simpa using hx
      · exact h1.1 z hz
theorem fold_srt (T : Tot less) : ∀ (l : List α) {acc : List α}, Srt less acc → Srt less (l.foldl (fun acc x => insZ less x acc) acc)
  | [], _, h => h
  | x :: l, _, h => fold_srt T l (insZ_srt T x h)
theorem sortG_srt (T : Tot less) (l : List α) : Srt less (sortG less l) := fold_srt T l List.Pairwise.nil
theorem srt_unique (T : Tot less) : ∀ {a b : List α}, a.Perm b → Srt less a → Srt less b → a = b
  | [], b, h, _, _ => h.symm.eq_nil.symm
  | x :: xs, [], h, _, _ => by simpa using h.length_eq
  | x :: xs, y :: ys, h, h1, h2 => by
    have k1 := List.pairwise_cons.1 h1
    have k2 := List.pairwise_cons.1 h2
    have e : x = y := by
      rcases List.mem_cons.1 (h.subset (List.mem_cons_self)) with e | hx
      · exact e
      · rcases List.mem_cons.1 (h.symm.subset (List.mem_cons_self)) with e | hy
        · exact e.symm
        · exact T.antisymm (k2.1 x hx) (k1.1 y hy)
    subst e
    rw [srt_unique T (List.Perm.cons_inv h) k1.2 k2.2]
theorem sortG_eq (T : Tot less) {a b : List α} (h : b.Perm a) (hs : Srt less b) : b = sortG less a := srt_unique T (h.trans (sortG_perm a).symm) hs (sortG_srt T a)
theorem sortG_congr (T : Tot less) {a b : List α} (h : a.Perm b) : sortG less a = sortG less b := sortG_eq T ((sortG_perm a).trans h) (sortG_srt T a)
theorem mem_sortG {l : List α} {x : α} : x ∈ sortG less l ↔ x ∈ l := (sortG_perm l).mem_iff
theorem sortG_len (l : List α) : (sortG less l).length = l.length := (sortG_perm l).length_eq

theorem inc_unique (T : Tot less) : ∀ {a b : List α}, (∀ x, x ∈ a ↔ x ∈ b) → Inc less a → Inc less b → a = b
  | [], [], _, _, _ => rfl
  | [], y :: ys, h, _, _ => absurd ((h y).2 List.mem_cons_self) (by simp)
  | x :: xs, [], h, _, _ => absurd ((h x).1 List.mem_cons_self) (by simp)
  | x :: xs, y :: ys, h, h1, h2 => by
    have k1 := List.pairwise_cons.1 h1
    have k2 := List.pairwise_cons.1 h2
    have e : x = y := by
      rcases List.mem_cons.1 ((h x).1 List.mem_cons_self) with e | hx
      · exact e
      · rcases List.mem_cons.1 ((h y).2 List.mem_cons_self) with e | hy
        · exact e.symm
        · have := T.asymm (k2.1 x hx)
          rw [k1.1 y hy] at this; cases this
    subst e
    refine congrArg _ (inc_unique T (fun z => ?_) k1.2 k2.2)
    have hz := h z
    simp only [List.mem_cons] at hz
    constructor
    · intro hm
      rcases hz.1 (.inr hm) with rfl | h'
      · have := k1.1 _ hm; rw [T.irr] at this; cases this
      · exact h'
    · intro hm
      rcases hz.2 (.inr hm) with rfl | h'
      · have := k2.1 _ hm; rw [T.irr] at this; cases this
      · exact h'
end
/-! ### neighbours that repeat, taken out -/
section
variable {α : Type} [DecidableEq α] {less : α → α → Bool}
def compA (p : α) : List α → List α
  | [] => []
  | y :: ys => if y = p then compA p ys else y :: compA y ys
def compactZ : List α → List α
  | [] => []
  | x :: xs => x :: compA x xs
theorem mem_compA {x : α} : ∀ {p : α} {l : List α}, x = p ∨ x ∈ compA p l ↔ x = p ∨ x ∈ l
  | p, [] => by simp [compA]
  | p, y :: ys => by
    unfold compA
    split
    · rename_i h; subst h
      rw [mem_compA (p := y) (l := ys)]; simp
    · have := mem_compA (x := x) (p := y) (l := ys)
      simp only [List.mem_cons]
      rw [this]
theorem mem_compact {x : α} {l : List α} : x ∈ compactZ l ↔ x ∈ l := by
  cases l with
  | nil => simp [compactZ]
  | cons y ys => simp only [compactZ, List.mem_cons]; exact mem_compA
theorem compA_sub {p : α} {l : List α} : ∀ {x : α}, x ∈ compA p l → x ∈ l := by
  induction l generalizing p with
  | nil => simp [compA]
  | cons y ys ih =>
    intro x hx
    unfold compA at hx
    split at hx
    · exact List.mem_cons_of_mem _ (ih hx)
    · rcases List.mem_cons.1 hx with rfl | h
      · exact List.mem_cons_self
      · exact List.mem_cons_of_mem _ (ih h)
theorem compA_inc (T : Tot less) : ∀ {p : α} {l : List α}, Srt less (p :: l) → Inc less (p :: compA p l)
  | p, [], _ => List.pairwise_singleton _ _
  | p, y :: ys, h => by
    have h1 := List.pairwise_cons.1 h
    have h2 := List.pairwise_cons.1 h1.2
    unfold compA
    split
    · rename_i e; subst e
      exact compA_inc T h1.2
    · rename_i e
      refine List.pairwise_cons.2 ⟨fun z hz => ?_, compA_inc T h1.2⟩
      have hp : less p y = true := by
        have := T.total (fun x => e x.symm : p ≠ y)
        rw [h1.1 y List.mem_cons_self] at this; exact this
      rcases List.mem_cons.1 hz with rfl | hz
      · exact hp
      · have := (List.pairwise_cons.1 (compA_inc T h1.2)).1 z hz
        exact T.trans hp this
theorem compact_inc (T : Tot less) {l : List α} (h : Srt less l) : Inc less (compactZ l) := by
  cases l with
  | nil => exact List.Pairwise.nil
  | cons x xs => exact compA_inc T h
theorem Inc.srt (T : Tot less) {l : List α} (h : Inc less l) : Srt less l := h.imp (fun hx => T.asymm hx)
theorem Inc.nodup (T : Tot less) {l : List α} (h : Inc less l) : l.Nodup := h.imp (fun {a b} hx e => by subst e; rw [T.irr] at hx; cases hx)
theorem compact_len (l : List α) : (compactZ l).length ≤ l.length := by
  cases l with
  | nil => simp [compactZ]
  | cons x xs =>
    have : ∀ (l : List α) (p : α), (compA p l).length ≤ l.length := by
      intro l
      induction l with
      | nil => intro p; simp [compA]
      | cons y ys ih =>
        intro p
        unfold compA
        split
        · have := ih p; simp; omega
        · have := ih y; simp; omega
    have := this xs x
    simp [compactZ]; omega
end
theorem totB : Tot lessB := ⟨lessB_irrefl, lessB_trans, lessB_total⟩
theorem totR : Tot lessR := ⟨lessR_irrefl, lessR_trans, lessR_total⟩
def lessS (a b : Sg) : Bool := if a.1 = b.1 then lessB a.2 b.2 else lessB a.1 b.1
theorem totS : Tot lessS where
  irr := fun a => by unfold lessS; rw [if_pos rfl]; exact lessB_irrefl _
  trans := fun {a b c} h1 h2 => by
    unfold lessS at *
    by_cases e1 : a.1 = b.1
    · rw [if_pos e1] at h1
      by_cases e2 : b.1 = c.1
      · rw [if_pos e2] at h2
        rw [if_pos (e1.trans e2)]
        exact lessB_trans h1 h2
      · rw [if_neg e2] at h2
        rw [if_neg (fun e => e2 (e1.symm.trans e)), e1]
        exact h2
    · rw [if_neg e1] at h1
      by_cases e2 : b.1 = c.1
      · rw [if_neg (fun e => e1 (e.trans e2.symm)), ← e2]
        exact h1
      · rw [if_neg e2] at h2
        have h3 := lessB_trans h1 h2
        have e3 : a.1 ≠ c.1 := fun e => by rw [e, lessB_irrefl] at h3; cases h3
        rw [if_neg e3]; exact h3
  total := fun {a b} h => by
    unfold lessS
    by_cases e1 : a.1 = b.1
    · have e2 : a.2 ≠ b.2 := fun e => h (Prod.ext e1 e)
      rw [if_pos e1, if_pos e1.symm]
      exact lessB_total e2
    · rw [if_neg e1, if_neg (fun e => e1 e.symm)]
      exact lessB_total e1
end Go.Proofs.Ytlmjciajpjdilaa
