/- Contracts of the comparison of normal.Merged, of slices.insertionSortCmpFunc, pdqsortCmpFunc and SortFunc over at most twelve lists of whole numbers. -/
import Derived.Test.YtniceoinipffmaaNMap2
namespace Go.Proofs.Ytniceoinipffmaa
open Go.RowKit Go.Proofs.YtniceoinipffmaaW.PrintLast
set_option linter.unusedVariables false
set_option linter.unusedSimpArgs false

abbrev Sets := List (List Int)
abbrev Ty.ids : Ty (List Int) := Ty.slice Ty.i64
def lessR (a b : List Int) : Bool := decide (inD a 0 < inD b 0)
def leR (a b : List Int) : Prop := lessR b a = false
theorem leR_refl (a : List Int) : leR a a := by simp [leR, lessR]
theorem leR_of_less {a b : List Int} (h : lessR a b = true) : leR a b := by simp [leR, lessR] at h ⊢; omega
theorem leR_trans {a b c : List Int} (h1 : leR a b) (h2 : leR b c) : leR a c := by simp [leR, lessR] at h1 h2 ⊢; omega
def swp {α : Type} (xs : List α) (i j : Nat) (d : α) : List α := (xs.set i (xs.getD j d)).set j (xs.getD i d)
section
variable {α : Type} {xs : List α} {i j k : Nat} {d : α}
theorem swp_len : (swp xs i j d).length = xs.length := by simp [swp]
theorem swp_get (hi : i < xs.length) (hj : j < xs.length) (k : Nat) : (swp xs i j d).getD k d = if k = j then xs.getD i d else if k = i then xs.getD j d else xs.getD k d := by
  unfold swp
  simp only [List.getD_eq_getElem?_getD, List.getElem?_set]
  by_cases h1 : k = j
  · subst h1; simp [hj]
  · have h1' : ¬ j = k := fun e => h1 e.symm
    by_cases h2 : k = i
    · subst h2; simp [hi, h1, h1']
    · have h2' : ¬ i = k := fun e => h2 e.symm
      simp [h1, h1', h2, h2']
theorem swp_perm [DecidableEq α] (hi : i < xs.length) (hj : j < xs.length) : (swp xs i j d).Perm xs := by
  rw [List.perm_iff_count]
  intro a
  unfold swp
  have hi' : xs.getD i d = xs[i] := by simp [hi]
  have hj' : xs.getD j d = xs[j] := by simp [hj]
  rw [hi', hj', List.count_set (by simpa using hj), List.count_set hi]
  have h1 : xs[i] = a → 0 < xs.count a := fun e => List.count_pos_iff.2 (e ▸ List.getElem_mem hi)
  by_cases hij : i = j
  · subst hij
    simp only [List.getElem_set_self, beq_iff_eq]
    split
    · rename_i e; have := h1 e; omega
    · omega
  · rw [List.getElem_set_ne hij]
    simp only [beq_iff_eq]
    by_cases e1 : xs[i] = a <;> by_cases e2 : xs[j] = a
    · simp [e1, e2]; have := h1 e1; omega
    · simp [e1, e2]; have := h1 e1; omega
    · simp [e1, e2]
    · simp [e1, e2]
end
def rg (xs : List (List Int)) (k : Nat) : List Int := xs.getD k []
def SortedOn (xs : List (List Int)) (a b : Nat) : Prop := ∀ i j, a ≤ i → i < j → j < b → leR (rg xs i) (rg xs j)
/-- the state of an insertion: the element at j is on its way down; the others of a .. i are sorted, and those behind j are not below it -/
def Inserting (xs : List (List Int)) (a i j : Nat) : Prop :=
  (∀ p q, a ≤ p → p < q → q ≤ i → p ≠ j → q ≠ j → leR (rg xs p) (rg xs q)) ∧ (∀ q, j < q → q ≤ i → leR (rg xs j) (rg xs q))
theorem inserting_start {xs : List (List Int)} {a i : Nat} (h : SortedOn xs a i) : Inserting xs a i i := ⟨fun p q h1 h2 h3 h4 h5 => h p q h1 h2 (by omega), fun q h1 h2 => by omega⟩
theorem inserting_step {xs : List (List Int)} {a i j : Nat} (h : Inserting xs a i j) (ha : a < j) (hji : j ≤ i) (hi : i < xs.length) (hl : lessR (rg xs j) (rg xs (j - 1)) = true) : Inserting (swp xs j (j - 1) []) a i (j - 1) := by
  have g : ∀ k, rg (swp xs j (j - 1) []) k = if k = j - 1 then rg xs j else if k = j then rg xs (j - 1) else rg xs k := fun k => swp_get (by omega) (by omega) k
  refine ⟨fun p q h1 h2 h3 h4 h5 => ?_, fun q h1 h2 => ?_⟩
  · rw [g, g, if_neg h4, if_neg h5]
    by_cases e1 : p = j
    · rw [if_pos e1, if_neg (by omega)]
      exact h.1 (j - 1) q (by omega) (by omega) h3 (by omega) (by omega)
    · rw [if_neg e1]
      by_cases e2 : q = j
      · rw [if_pos e2]
        exact h.1 p (j - 1) h1 (by omega) (by omega) e1 (by omega)
      · rw [if_neg e2]
        exact h.1 p q h1 h2 h3 e1 e2
  · rw [g, g, if_pos rfl, if_neg (by omega)]
    by_cases e : q = j
    · rw [if_pos e]; exact leR_of_less hl
    · rw [if_neg e]; exact h.2 q (by omega) h2
theorem inserting_end {xs : List (List Int)} {a i j : Nat} (h : Inserting xs a i j) (ha : a ≤ j) (hji : j ≤ i) (hl : a = j ∨ leR (rg xs (j - 1)) (rg xs j)) : SortedOn xs a (i + 1) := by
  intro p q h1 h2 h3
  by_cases e1 : p = j
  · subst e1; exact h.2 q h2 (by omega)
  · by_cases e2 : q = j
    · subst e2
      rcases hl with hl | hl
      · omega
      · by_cases e3 : p = q - 1
        · subst e3; exact hl
        · exact leR_trans (h.1 p (q - 1) h1 (by omega) (by omega) e1 (by omega)) hl
    · exact h.1 p q h1 h2 (by omega) e1 e2
theorem sorted_is : ∀ {xs ms : Sets}, xs.Perm ms → SortedOn xs 0 xs.length → ms.Pairwise (fun a b => inD a 0 < inD b 0) → xs = ms
  | [], ms, h, _, _ => h.symm.eq_nil.symm
  | x :: xs, [], h, _, _ => by simpa using h.length_eq
  | x :: xs, m :: ms, h, h1, h2 => by
    have h3 := List.pairwise_cons.1 h2
    have tail : SortedOn xs 0 xs.length := fun i j _ h2 h3 => by
      have := h1 (i + 1) (j + 1) (by omega) (by omega) (by simpa using h3)
      simpa [rg] using this
    have e : x = m := by
      rcases List.mem_cons.1 (h.subset (List.mem_cons_self)) with e | hx
      · exact e
      · have h4 := h3.1 x hx
        rcases List.mem_cons.1 (h.symm.subset (List.mem_cons_self)) with e | hm
        · exact e.symm
        · obtain ⟨i, hi, e⟩ := List.getElem_of_mem hm
          have := h1 0 (i + 1) (by omega) (by omega) (by simpa using hi)
          simp [rg, hi, e, leR, lessR] at this
          omega
    subst e
    rw [sorted_is (List.Perm.cons_inv h) tail h3.2]
theorem cmp_isNaN (x : Int) (w : World) : Calls Try.prog 65 #[.int .i64 x] w fun e w' => e = .returned (.bool false) ∧ Below w.heap.size w w' := by
  have q : (x != x) = false := by simp
  go_enter Try.func65, Try.ntmps65
  go_wp2
  go_ret
  exact ⟨rfl, (by repeat (first | exact Below.refl _ _ | apply below_alloc | apply below_drewN | apply below_drew | (refine below_set2 ?_ ?_; (first | (simp; done) | (simp; omega)))))⟩
def cmpZ (x y : Int) : Int := if x < y then -1 else if y < x then 1 else 0
theorem cmp_Compare (x y : Int) (w : World) : Calls Try.prog 44 #[.int .i64 x, .int .i64 y] w fun e w' => e = .returned (.int .i64 (cmpZ x y)) ∧ Below w.heap.size w w' := by
  go_enter Try.func44, Try.ntmps44
  go_wp2_with fail
  refine (cmp_isNaN x _).mono ?_
  rintro e w1 ⟨rfl, hb1⟩
  go_wp2_with fail
  refine (cmp_isNaN y _).mono ?_
  rintro e w2 ⟨rfl, hb2⟩
  by_cases h1 : x < y
  · have q1 : decide (x < y) = true := decide_eq_true h1
    have HZ : Hid (cmpZ x y = -1) := by show _ = _; simp [cmpZ, h1]
    clear h1
    go_wp2
    go_ret
    exact ⟨ret_int HZ.out.symm, (by repeat (first | exact Below.refl _ _ | apply below_alloc | apply below_drewN | apply below_drew | (refine below_set2 ?_ ?_; (first | (simp; done) | (simp; omega))) | (refine below_step ?_ hb2) | (refine below_step ?_ hb1)))⟩
  · have q1 : decide (x < y) = false := decide_eq_false h1
    by_cases h2 : y < x
    · have q2 : decide (y < x) = true := decide_eq_true h2
      have HZ : Hid (cmpZ x y = 1) := by show _ = _; simp [cmpZ, h1, h2]
      clear h1 h2
      go_wp2
      go_ret
      exact ⟨ret_int HZ.out.symm, (by repeat (first | exact Below.refl _ _ | apply below_alloc | apply below_drewN | apply below_drew | (refine below_set2 ?_ ?_; (first | (simp; done) | (simp; omega))) | (refine below_step ?_ hb2) | (refine below_step ?_ hb1)))⟩
    · have q2 : decide (y < x) = false := decide_eq_false h2
      have HZ : Hid (cmpZ x y = 0) := by show _ = _; simp [cmpZ, h1, h2]
      clear h1 h2
      go_wp2
      go_ret
      exact ⟨ret_int HZ.out.symm, (by repeat (first | exact Below.refl _ _ | apply below_alloc | apply below_drewN | apply below_drew | (refine below_set2 ?_ ?_; (first | (simp; done) | (simp; omega))) | (refine below_step ?_ hb2) | (refine below_step ?_ hb1)))⟩
set_option maxRecDepth 20000 in
theorem normalMerged1 {ok ok' : Nat → Prop} (a b : List Int) (A B : Option Addr) (n m c d : Nat) (w : World) (ha : Row Ty.i64 ok w A a) (hb : Row Ty.i64 ok' w B b) (hn : n = a.length) (hm : m = b.length) (h0 : 0 < a.length) (h1 : 0 < b.length) :
    Calls Try.prog 43 #[.slice A n c, .slice B m d] w fun e w' => e = .returned (.int .i64 (cmpZ (inD a 0) (inD b 0))) ∧ Below w.heap.size w w' := by
  obtain ⟨ad, rfl, g0⟩ := ha.int_at 0 h0
  obtain ⟨bd, rfl, g1⟩ := hb.int_at 0 h1
  have g0' : w.cell? ad = some (.int .i64 (inD a 0)) := g0
  have g1' : w.cell? bd = some (.int .i64 (inD b 0)) := g1
  have q0 : (0 : Int) < (n : Int) := by omega
  have q1 : (0 : Int) < (m : Int) := by omega
  have q2 : 0 < n := by omega
  have q3 : 0 < m := by omega
  clear g0 g1
  go_enter Try.func43, Try.ntmps43
  go_wp2_with fail
  refine start_ (n := 8) (S := fun w' => w'.cell? ad = some (.int .i64 (inD a 0)) ∧ w'.cell? bd = some (.int .i64 (inD b 0))) (ds := [6]) #[false, false, false, false, false, false, false, false] (by kernel_rfl) rfl rfl ⟨g0', g1'⟩ (fun hHeld => ?_)
  refine pure_ (i := 0) (N := some 5) (v := ?_) (a' := ?_) #[true, false, false, false, false, false, false, false] rfl rfl (by kernel_rfl) (fun _ _ _ h => h) (Or.inl ⟨by rfl, ?_⟩) ?_ ?_
  rotate_left
  · intro w'
    go_simp
    with_reducible rfl
  rotate_left
  · simp only [Act.put, List.setIfInBounds_toArray, List.set_cons_zero, List.set_cons_succ, i64_w, i32_w]
    rfl
  refine pure_ (i := 1) (N := some 6) (v := ?_) (a' := ?_) #[true, true, false, false, false, false, false, false] rfl rfl (by kernel_rfl) (fun _ _ _ h => h) (Or.inl ⟨by rfl, ?_⟩) ?_ ?_
  rotate_left
  · intro w'
    go_simp
    with_reducible rfl
  rotate_left
  · simp only [Act.put, List.setIfInBounds_toArray, List.set_cons_zero, List.set_cons_succ, i64_w, i32_w]
    rfl
  refine pure_ (i := 3) (N := some 8) (v := ?_) (a' := ?_) #[true, true, false, true, false, false, false, false] rfl rfl (by kernel_rfl) (fun _ _ _ h => h) (Or.inl ⟨by rfl, ?_⟩) ?_ ?_
  rotate_left
  · intro w'
    go_simp
    with_reducible rfl
  rotate_left
  · simp only [Act.put, List.setIfInBounds_toArray, List.set_cons_zero, List.set_cons_succ, i64_w, i32_w]
    rfl
  refine pure_ (i := 4) (N := some 9) (v := ?_) (a' := ?_) #[true, true, false, true, true, false, false, false] rfl rfl (by kernel_rfl) (fun _ _ _ h => h) (Or.inl ⟨by rfl, ?_⟩) ?_ ?_
  rotate_left
  · intro w'
    go_simp
    with_reducible rfl
  rotate_left
  · simp only [Act.put, List.setIfInBounds_toArray, List.set_cons_zero, List.set_cons_succ, i64_w, i32_w]
    rfl
  refine take_ (i := 2) (N := some 7) (v := ?_) (a' := ?_) #[true, true, true, true, true, false, false, false] rfl rfl (by kernel_rfl) (fun _ _ _ h => h) (Or.inl ⟨by rfl, ?_⟩) hHeld ?_ ?_
  rotate_left
  · rintro w' ⟨s0, s1⟩
    go_simp
    with_reducible rfl
  rotate_left
  · simp only [Act.put, List.setIfInBounds_toArray, List.set_cons_zero, List.set_cons_succ, i64_w, i32_w]
    rfl
  refine take_ (i := 5) (N := some 10) (v := ?_) (a' := ?_) #[true, true, true, true, true, true, false, false] rfl rfl (by kernel_rfl) (fun _ _ _ h => h) (Or.inl ⟨by rfl, ?_⟩) hHeld ?_ ?_
  rotate_left
  · rintro w' ⟨s0, s1⟩
    go_simp
    with_reducible rfl
  rotate_left
  · simp only [Act.put, List.setIfInBounds_toArray, List.set_cons_zero, List.set_cons_succ, i64_w, i32_w]
    rfl
  refine last_ (i := 6) (N := some 11) #[true, true, true, true, true, true, true, false] rfl rfl (by kernel_rfl) (by decide) (fun K hK => ?_)
  refine goes_ Try.func44 (by kernel_rfl) rfl #[.int .i64 (inD a 0), .int .i64 (inD b 0)] (by rfl) rfl rfl (by simp only [List.map_toArray, List.map_cons, List.map_nil]; rfl) ?_
  with_reducible refine (cmp_Compare (inD a 0) (inD b 0) _).mono ?_
  rintro e w1 ⟨rfl, hb1⟩
  refine ⟨_, rfl, ?_⟩
  refine hK.out _ _ ?_
  clear hK K
  refine norm_ (a' := ?_) ?_ ?_
  rotate_left
  · show Act.put _ (some 11) _ = _
    simp only [Act.put, List.setIfInBounds_toArray, List.set_cons_zero, List.set_cons_succ, i64_w, i32_w]
    rfl
  refine pure_ (i := 7) (N := some 4) (v := ?_) (a' := ?_) #[true, true, true, true, true, true, true, true] rfl rfl (by kernel_rfl) (fun _ _ _ h => h) (Or.inl ⟨by rfl, ?_⟩) ?_ ?_
  rotate_left
  · intro w'
    go_simp
    with_reducible rfl
  rotate_left
  · simp only [Act.put, List.setIfInBounds_toArray, List.set_cons_zero, List.set_cons_succ, i64_w, i32_w]
    rfl
  refine done_ (by kernel_rfl) ?_
  go_wp2
  go_ret
  exact ⟨rfl, (by repeat (first | exact Below.refl _ _ | apply below_alloc | apply below_drewN | apply below_drew | (refine below_set2 ?_ ?_; (first | (simp; done) | (simp; omega))) | (refine below_step ?_ hb1)))⟩
theorem Reps.set1 {α : Type} {T : Ty α} {ok : Nat → Prop} {w : World} (hsz : T.sz = 1) : ∀ {xs : List α} {cs : List Value} (i : Nat) {y : α} {c : Value}, Reps T ok w xs cs → T.R ok w y [c] → Reps T ok w (xs.set i y) (cs.set i c)
  | [], cs, i, y, c, h, _ => by rw [show cs = [] from h]; rfl
  | x :: xs, cs, 0, y, c, ⟨d, e, he, hd, hr⟩, hy => by
    have := T.len hd
    rw [hsz] at this
    obtain ⟨u, rfl⟩ := List.length_eq_one_iff.1 this
    rw [he]
    exact ⟨[c], e, rfl, hy, hr⟩
  | x :: xs, cs, i + 1, y, c, ⟨d, e, he, hd, hr⟩, hy => by
    have := T.len hd
    rw [hsz] at this
    obtain ⟨u, rfl⟩ := List.length_eq_one_iff.1 this
    rw [he]
    exact ⟨[u], e.set i c, rfl, hd, Reps.set1 hsz i hr hy⟩
/-- A store into a row of the call's own. -/
theorem OwnR.store1 {α : Type} {T : Ty α} {e : TypeId} {base : Nat} {M : Nat → Prop} {w : World} {g n cap : Nat} {xs : List α} (h : OwnR T e base M w (.slice (some ⟨g, 0, none⟩) n cap) xs) (hsz : T.sz = 1) (i : Nat) {y : α} {c : Value} (hy : T.R (fun k => ¬ M k) w y [c]) :
    OwnR T e base M (w.setCell ⟨g, i, none⟩ c) (.slice (some ⟨g, 0, none⟩) n cap) (xs.set i y) := by
  obtain ⟨A', c', e', _⟩ := OwnR.reads h
  injection e' with e1 e2 e3
  subst e2
  obtain ⟨h0, inner, ho, hr⟩ := h
  have hg : M g := h0 g rfl
  refine ⟨h0, inner.set i c, ?_, ?_⟩
  · have := (ho.stored i c).1
    rwa [List.length_set]
  · exact (Reps.set1 hsz i hr hy).imp (fun x d hd => T.step hd (fun k hk _ => Below.heap_setCell w _ c k (fun e => hk (by rw [e]; exact hg))))
theorem OwnR.ids_cell {base : Nat} {e : TypeId} {M : Nat → Prop} {w : World} {g n cap : Nat} {xs : Sets} (h : OwnR Ty.ids e base M w (.slice (some ⟨g, 0, none⟩) n cap) xs) (k : Nat) (hk : k < xs.length) :
    ∃ A0 c0, w.cell? ⟨g, k, none⟩ = some (.slice A0 (rg xs k).length c0) ∧ Ty.ids.R (fun k => ¬ M k) w (rg xs k) [.slice A0 (rg xs k).length c0] ∧ w.frozen? ⟨g, k, none⟩ = false := by
  obtain ⟨h0, inner, ho, hr⟩ := h
  obtain ⟨c, ⟨A0, c0, rfl, hl, hrow⟩, hc⟩ := hr.get k xs[k] (by simp [hk])
  have e2 : rg xs k = xs[k] := by simp [rg, hk]
  rw [e2]
  refine ⟨A0, c0, ?_, ⟨A0, c0, rfl, hl, hrow⟩, ?_⟩
  · have := ho.cells (g := g) rfl k (.slice A0 xs[k].length c0) (by have := hc 0 _ rfl; rwa [show Ty.ids.sz = 1 from rfl, Nat.mul_one, Nat.add_zero] at this)
    rwa [add_at, Nat.zero_add] at this
  · rcases ho.2 with ⟨h1, _⟩ | ⟨g', cap', cur, h1, _, hh, _⟩
    · cases h1
    · injection h1 with h1; injection h1 with h1; injection h1 with h1
      subst h1
      simp [World.frozen?, hh]
theorem idsR_row {ok : Nat → Prop} {w : World} {A : Option Addr} {xs : List Int} {n c : Nat} (h : Ty.ids.R ok w xs [.slice A n c]) : n = xs.length ∧ Row Ty.i64 ok w A xs := by
  obtain ⟨A', c', e, hl, hr⟩ := h
  injection e with e; injection e with e1 e2 e3
  subst e1
  exact ⟨e2, hr⟩
theorem OwnR.lenN {α : Type} {T : Ty α} {e : TypeId} {base : Nat} {M : Nat → Prop} {w : World} {A : Option Addr} {n cap : Nat} {xs : List α} (h : OwnR T e base M w (.slice A n cap) xs) : n = xs.length := by
  obtain ⟨A', c', e, _⟩ := OwnR.reads h
  injection e

set_option maxRecDepth 20000 in
set_option maxHeartbeats 1000000 in
theorem insertionSort_ids (xs : Sets) (g n cap a b base : Nat) (M : Nat → Prop) (w : World) (ai bi : Int) (hai : ai = (a : Int)) (hbi : bi = (b : Int)) (h : OwnR Ty.ids 39 base M w (.slice (some ⟨g, 0, none⟩) n cap) xs) (hab : a ≤ b) (hb : b ≤ xs.length) (hlen : xs.length ≤ 1048576) (hpos : ∀ x ∈ xs, 0 < x.length) :
    Calls Try.prog 81 #[.slice (some ⟨g, 0, none⟩) n cap, .int .i64 ai, .int .i64 bi, .func (.func 43) #[] #[]] w fun e w' =>
      e = .returned (.tuple #[]) ∧ ∃ ys : Sets, OwnR Ty.ids 39 base M w' (.slice (some ⟨g, 0, none⟩) n cap) ys ∧ ys.Perm xs ∧ SortedOn ys a b ∧ (∀ k, (k < a ∨ b ≤ k) → rg ys k = rg xs k) ∧ KeptS (fun k => k = g) w w' := by
  subst hai hbi
  have hm := h.len
  have HPOS := Lib.hid hpos
  clear hpos
  have HN := Lib.hid h.lenN
  have hnle : xs.length ≤ n := by rw [HN.out]; exact Nat.le_refl _
  go_enter Try.func81, Try.ntmps81
  go_wp2
  go_loopw [8] (fun i wr => ∃ k : Nat, a + 1 ≤ k ∧ (k ≤ b ∨ k = a + 1) ∧ i = .int .i64 k ∧ ∃ ys : Sets, OwnR Ty.ids 39 base M wr (.slice (some ⟨g, 0, none⟩) n cap) ys ∧ ys.Perm xs ∧ SortedOn ys a k ∧ (∀ q, (q < a ∨ b ≤ q) → rg ys q = rg xs q) ∧ KeptS (fun k => k = g) w wr) (fun i _ => b - (intOf i).toNat)
  case atStart => exact ⟨a + 1, Nat.le_refl _, .inr rfl, by go_num, xs, h, List.Perm.refl _, fun p q h1 h2 h3 => by omega, fun _ _ => rfl, kept_refl _ _⟩
  case round =>
    obtain ⟨i, hi1, hi2, rfl, ys, ho, hp, hs, hk, hkt⟩ := hrel
    have hyl := hp.length_eq
    by_cases hlt : i < b
    · have HO := Lib.hid ho
      have HP := Lib.hid hp
      have HS := Lib.hid hs
      have HK := Lib.hid hk
      clear ho hp hs hk hyl
      go_wp2_with fail
      obtain ⟨wo, rfl⟩ : ∃ wo : World, wo = wr := ⟨_, rfl⟩
      go_loopw [9] (fun jv wr => ∃ j : Nat, a ≤ j ∧ j ≤ i ∧ jv = .int .i64 j ∧ ∃ zs : Sets, OwnR Ty.ids 39 base M wr (.slice (some ⟨g, 0, none⟩) n cap) zs ∧ zs.Perm xs ∧ Inserting zs a i j ∧ (∀ q, (q < a ∨ b ≤ q) → rg zs q = rg xs q) ∧ KeptS (fun k => k = g) w wr) (fun jv _ => (intOf jv).toNat)
      case atStart => exact ⟨i, by omega, Nat.le_refl _, rfl, ys, HO.out, HP.out, inserting_start HS.out, HK.out, hkt⟩
      case round =>
        obtain ⟨j, hj1, hj2, rfl, zs, ho, hp, hins, hk, hkt'⟩ := hrel
        have hzl : zs.length = xs.length := hp.length_eq
        by_cases hja : a < j
        · obtain ⟨j', rfl⟩ : ∃ j', j = j' + 1 := ⟨j - 1, by omega⟩
          obtain ⟨A0, c0, hc0, hr0, hf0⟩ := ho.ids_cell (j' + 1) (by omega)
          obtain ⟨A1, c1, hc1, hr1, hf1⟩ := ho.ids_cell j' (by omega)
          have R0 := Lib.hid hr0
          have R1 := Lib.hid hr1
          have HO2 := Lib.hid ho
          have HP2 := Lib.hid hp
          have HI := Lib.hid hins
          have HK2 := Lib.hid hk
          clear ho hp hins hk hr0 hr1
          have ec : ((j' + 1 : Nat) : Int) = (j' : Int) + 1 := by omega
          rw [ec]
          clear ec
          have qg : decide ((a : Int) < (j' : Int) + 1) = true := decide_eq_true (by omega)
          have qw : IntKind.i64.wrap (j' : Int) = (j' : Int) := IntWalk.i64_in _ (by omega)
          have qb3 : j' < n := by omega
          have qn : ((j' : Int) + 1).toNat = j' + 1 := by omega
          have qb0 : (0 : Int) ≤ (j' : Int) + 1 := by omega
          have qb1 : (j' : Int) + 1 < (n : Int) := by omega
          have qb2 : (j' : Int) < (n : Int) := by omega
          go_wp2_with fail
          go_still_tail 14, (by kernel_rfl)
          change wpList _ _ _ _ _ wr.drew
          clear qw qg qn qb0 qb1 qb2 qb3
          go_wp2_with fail
          have hq0 : 0 < (rg zs (j' + 1)).length := HPOS.out _ (HP2.out.subset (by rw [rg, List.getD_eq_getElem?_getD, List.getElem?_eq_getElem (by omega)]; exact List.getElem_mem _))
          have hq1 : 0 < (rg zs j').length := HPOS.out _ (HP2.out.subset (by rw [rg, List.getD_eq_getElem?_getD, List.getElem?_eq_getElem (by omega)]; exact List.getElem_mem _))
          refine (normalMerged1 (rg zs (j' + 1)) (rg zs j') _ _ _ _ _ _ _ ((idsR_row R0.out).2.below (below_drew (Below.refl _ _))) ((idsR_row R1.out).2.below (below_drew (Below.refl _ _))) rfl rfl hq0 hq1).mono ?_
          rintro e w1 ⟨rfl, hb1⟩
          have hc0' := cell_below (below_step (below_drew (Below.refl _ _)) hb1) hc0
          have hc1' := cell_below (below_step (below_drew (Below.refl _ _)) hb1) hc1
          have B1 : Below wr.heap.size wr w1 := below_step (below_drew (Below.refl _ _)) hb1
          have hf0' : w1.frozen? ⟨g, j' + 1, none⟩ = false := (B1.frozen (p := ⟨g, j' + 1, none⟩) (World.block_lt_of_cell? wr _ hc0)).trans hf0
          have hf1' : w1.frozen? ⟨g, j', none⟩ = false := (B1.frozen (p := ⟨g, j', none⟩) (World.block_lt_of_cell? wr _ hc1)).trans hf1
          have HO3 := HO2.out.below B1
          have S0 := Ty.ids.below R0.out B1
          have S1 := Ty.ids.below R1.out B1
          clear hc0 hc1 hf0 hf1
          have qg : decide ((a : Int) < (j' : Int) + 1) = true := decide_eq_true (by omega)
          cases hcmp : lessR (rg zs (j' + 1)) (rg zs j')
          · have HCMP := Lib.hid hcmp
            have hlt0 : ¬ (cmpZ (inD (rg zs (j' + 1)) 0) (inD (rg zs j') 0) < 0) := by simp [lessR] at hcmp; unfold cmpZ; split <;> (try split) <;> omega
            clear hcmp
            go_wp2
            go_roundw
            case rel => exact ⟨i + 1, by omega, .inl (by omega), by go_num, zs, HO3, HP2.out, inserting_end HI.out hj1 hj2 (.inr (by show leR (rg zs (j' + 1 - 1)) _; rw [Nat.add_sub_cancel]; exact HCMP.out)), HK2.out, (by repeat (with_reducible first | exact kept_refl _ _ | apply kept_alloc | apply kept_drewN | apply kept_drew | (refine kept_set ?_ ?_; (first | exact rfl | exact Or.inl rfl | exact Or.inr rfl | exact Or.inr (Or.inl rfl) | exact Or.inr (Or.inr rfl))) | (refine kept_setnew ?_ ?_; (first | (simp; done) | (simp; omega))) | (refine kept_below ?_ B1) | (refine kept_step ?_ B1) | (refine kept_below ?_ hkt') | (refine kept_step ?_ hkt')))⟩
            case measure => simp [intOf]; omega
          · have HCMP := Lib.hid hcmp
            have hlt0 : cmpZ (inD (rg zs (j' + 1)) 0) (inD (rg zs j') 0) < 0 := by simp [lessR] at hcmp; unfold cmpZ; rw [if_pos hcmp]; decide
            clear hcmp
            go_wp2_with fail
            have qb3 : j' < n := by omega
            go_region
            go_wp2
            have hMg : M g := HO3.1 g rfl
            have S0' : Ty.ids.R (fun k => ¬ M k) (w1.setCell ⟨g, j' + 1, none⟩ (.slice A1 (rg zs j').length c1)) (rg zs (j' + 1)) [.slice A0 (rg zs (j' + 1)).length c0] := Ty.ids.step S0 (fun k hk _ => Below.heap_setCell w1 _ _ k (fun e => hk (by rw [e]; exact hMg)))
            have HO5 := Lib.hid (((HO3.store1 rfl (j' + 1) S1).store1 rfl j' S0').drew)
            have HSW : Hid (swp zs (j' + 1) j' [] = (zs.set (j' + 1) (rg zs j')).set j' (rg zs (j' + 1))) := rfl
            go_roundw
            case rel =>
              refine ⟨j', by omega, by omega, rfl, swp zs (j' + 1) j' [], HO5.out, (swp_perm (by omega) (by omega)).trans HP2.out, ?_, ?_, ?_⟩
              · have := inserting_step HI.out hja hj2 (by omega) (by show lessR _ (rg zs (j' + 1 - 1)) = true; rw [Nat.add_sub_cancel]; exact HCMP.out)
                rwa [Nat.add_sub_cancel] at this
              · intro q hq
                rw [← HK2.out q hq]
                show (swp zs (j' + 1) j' []).getD q [] = _
                rw [swp_get (by omega) (by omega), if_neg (by omega), if_neg (by omega)]; rfl
              · exact kept_drew (kept_set (a := ⟨g, j', none⟩) rfl (kept_set (a := ⟨g, j' + 1, none⟩) rfl (kept_below hkt' B1)))
            case measure => simp [intOf] <;> omega
        · obtain rfl : j = a := by omega
          have HO2 := Lib.hid ho
          have HP2 := Lib.hid hp
          have HI := Lib.hid hins
          have HK2 := Lib.hid hk
          clear ho hp hins hk
          have qg : decide ((j : Int) < (j : Int)) = false := decide_eq_false (by omega)
          go_wp2_with fail
          go_quiet (fail)
          go_wp2
          go_roundw
          case rel => exact ⟨i + 1, by omega, .inl (by omega), by go_num, zs, HO2.out.drewN _, HP2.out, inserting_end HI.out hj1 hj2 (.inl rfl), HK2.out, (by repeat (with_reducible first | exact kept_refl _ _ | apply kept_alloc | apply kept_drewN | apply kept_drew | (refine kept_set ?_ ?_; (first | exact rfl | exact Or.inl rfl | exact Or.inr rfl | exact Or.inr (Or.inl rfl) | exact Or.inr (Or.inr rfl))) | (refine kept_setnew ?_ ?_; (first | (simp; done) | (simp; omega))) | (refine kept_below ?_ hkt') | (refine kept_step ?_ hkt')))⟩
          case measure => simp [intOf]; omega
    · have HO := Lib.hid ho
      have HP := Lib.hid hp
      have HS := Lib.hid hs
      have HK := Lib.hid hk
      clear ho hp hs hk
      go_wp2
      exact bodyPost_end (results_none rfl _ _ _) rfl ⟨rfl, ys, HO.out, HP.out, fun p q h1 h2 h3 => HS.out p q h1 h2 (by omega), HK.out, hkt⟩
set_option maxRecDepth 20000 in
set_option maxHeartbeats 1000000 in
theorem pdq_small (xs : Sets) (g n cap base : Nat) (M : Nat → Prop) (w : World) (ni li : Int) (hni : ni = (n : Int)) (h : OwnR Ty.ids 39 base M w (.slice (some ⟨g, 0, none⟩) n cap) xs) (hlen : xs.length ≤ 12) (hpos : ∀ x ∈ xs, 0 < x.length) :
    Calls Try.prog 63 #[.slice (some ⟨g, 0, none⟩) n cap, .int .i64 0, .int .i64 ni, .int .i64 li, .func (.func 43) #[] #[]] w fun e w' =>
      e = .returned (.tuple #[]) ∧ ∃ ys : Sets, OwnR Ty.ids 39 base M w' (.slice (some ⟨g, 0, none⟩) n cap) ys ∧ ys.Perm xs ∧ SortedOn ys 0 ys.length ∧ KeptS (fun k => k = g) w w' := by
  subst hni
  have HN := Lib.hid h.lenN
  have hnle : n ≤ 12 := by rw [HN.out]; exact hlen
  have H := Lib.hid h
  clear h
  have qw : wrap64 (n : Int) = n := by unfold wrap64; omega
  have q1 : decide ((n : Int) ≤ 12) = true := decide_eq_true (by omega)
  go_enter Try.func63, Try.ntmps63
  go_wp2
  refine wp_loop_rounds 1 ?_
  rw [rounds_succ]
  go_wp2_with fail
  refine (insertionSort_ids xs g n cap 0 n base M w _ _ rfl rfl H.out (Nat.zero_le _) (by rw [HN.out]; exact Nat.le_refl _) (by omega) hpos).mono ?_
  rintro e w1 ⟨rfl, ys, ho, hp, hs, hk, hkt⟩
  have HO := Lib.hid ho
  have HP := Lib.hid hp
  have HS := Lib.hid hs
  clear ho hp hs hk
  go_wp2
  exact bodyPost_ret (v := .tuple #[]) (results_none rfl _ _ _) rfl ⟨rfl, ys, HO.out, HP.out, by rw [HP.out.length_eq, ← HN.out]; exact HS.out, hkt⟩
set_option maxRecDepth 20000 in
theorem bits_Len64 (n : Nat) (w : World) (hn : n ≤ 12) : Calls Try.prog 90 #[.int .u64 n] w fun e w' => (∃ z : Int, e = .returned (.int .i64 z)) ∧ Below w.heap.size w w' := by
  have key : ∀ m : Fin 13, Calls Try.prog 90 #[.int .u64 m.val] w fun e w' => (∃ z : Int, e = .returned (.int .i64 z)) ∧ Below w.heap.size w w' := by
    intro m
    match m with
    | ⟨0, _⟩ =>
      go_enter Try.func90, Try.ntmps90
      go_wp2
      go_ret
      exact ⟨⟨_, rfl⟩, (by repeat (first | exact Below.refl _ _ | apply below_alloc | apply below_drewN | apply below_drew | (refine below_set2 ?_ ?_; (first | (simp; done) | (simp; omega)))))⟩
    | ⟨1, _⟩ =>
      go_enter Try.func90, Try.ntmps90
      go_wp2
      go_ret
      exact ⟨⟨_, rfl⟩, (by repeat (first | exact Below.refl _ _ | apply below_alloc | apply below_drewN | apply below_drew | (refine below_set2 ?_ ?_; (first | (simp; done) | (simp; omega)))))⟩
    | ⟨2, _⟩ =>
      go_enter Try.func90, Try.ntmps90
      go_wp2
      go_ret
      exact ⟨⟨_, rfl⟩, (by repeat (first | exact Below.refl _ _ | apply below_alloc | apply below_drewN | apply below_drew | (refine below_set2 ?_ ?_; (first | (simp; done) | (simp; omega)))))⟩
    | ⟨3, _⟩ =>
      go_enter Try.func90, Try.ntmps90
      go_wp2
      go_ret
      exact ⟨⟨_, rfl⟩, (by repeat (first | exact Below.refl _ _ | apply below_alloc | apply below_drewN | apply below_drew | (refine below_set2 ?_ ?_; (first | (simp; done) | (simp; omega)))))⟩
    | ⟨4, _⟩ =>
      go_enter Try.func90, Try.ntmps90
      go_wp2
      go_ret
      exact ⟨⟨_, rfl⟩, (by repeat (first | exact Below.refl _ _ | apply below_alloc | apply below_drewN | apply below_drew | (refine below_set2 ?_ ?_; (first | (simp; done) | (simp; omega)))))⟩
    | ⟨5, _⟩ =>
      go_enter Try.func90, Try.ntmps90
      go_wp2
      go_ret
      exact ⟨⟨_, rfl⟩, (by repeat (first | exact Below.refl _ _ | apply below_alloc | apply below_drewN | apply below_drew | (refine below_set2 ?_ ?_; (first | (simp; done) | (simp; omega)))))⟩
    | ⟨6, _⟩ =>
      go_enter Try.func90, Try.ntmps90
      go_wp2
      go_ret
      exact ⟨⟨_, rfl⟩, (by repeat (first | exact Below.refl _ _ | apply below_alloc | apply below_drewN | apply below_drew | (refine below_set2 ?_ ?_; (first | (simp; done) | (simp; omega)))))⟩
    | ⟨7, _⟩ =>
      go_enter Try.func90, Try.ntmps90
      go_wp2
      go_ret
      exact ⟨⟨_, rfl⟩, (by repeat (first | exact Below.refl _ _ | apply below_alloc | apply below_drewN | apply below_drew | (refine below_set2 ?_ ?_; (first | (simp; done) | (simp; omega)))))⟩
    | ⟨8, _⟩ =>
      go_enter Try.func90, Try.ntmps90
      go_wp2
      go_ret
      exact ⟨⟨_, rfl⟩, (by repeat (first | exact Below.refl _ _ | apply below_alloc | apply below_drewN | apply below_drew | (refine below_set2 ?_ ?_; (first | (simp; done) | (simp; omega)))))⟩
    | ⟨9, _⟩ =>
      go_enter Try.func90, Try.ntmps90
      go_wp2
      go_ret
      exact ⟨⟨_, rfl⟩, (by repeat (first | exact Below.refl _ _ | apply below_alloc | apply below_drewN | apply below_drew | (refine below_set2 ?_ ?_; (first | (simp; done) | (simp; omega)))))⟩
    | ⟨10, _⟩ =>
      go_enter Try.func90, Try.ntmps90
      go_wp2
      go_ret
      exact ⟨⟨_, rfl⟩, (by repeat (first | exact Below.refl _ _ | apply below_alloc | apply below_drewN | apply below_drew | (refine below_set2 ?_ ?_; (first | (simp; done) | (simp; omega)))))⟩
    | ⟨11, _⟩ =>
      go_enter Try.func90, Try.ntmps90
      go_wp2
      go_ret
      exact ⟨⟨_, rfl⟩, (by repeat (first | exact Below.refl _ _ | apply below_alloc | apply below_drewN | apply below_drew | (refine below_set2 ?_ ?_; (first | (simp; done) | (simp; omega)))))⟩
    | ⟨12, _⟩ =>
      go_enter Try.func90, Try.ntmps90
      go_wp2
      go_ret
      exact ⟨⟨_, rfl⟩, (by repeat (first | exact Below.refl _ _ | apply below_alloc | apply below_drewN | apply below_drew | (refine below_set2 ?_ ?_; (first | (simp; done) | (simp; omega)))))⟩
  exact key ⟨n, by omega⟩
theorem bits_Len (n : Nat) (w : World) (hn : n ≤ 12) : Calls Try.prog 64 #[.int .u64 n] w fun e w' => (∃ z : Int, e = .returned (.int .i64 z)) ∧ Below w.heap.size w w' := by
  go_enter Try.func64, Try.ntmps64
  go_wp2_with fail
  refine (bits_Len64 n _ hn).mono ?_
  rintro e w1 ⟨⟨z, rfl⟩, hb1⟩
  go_wp2
  go_ret
  exact ⟨⟨z, rfl⟩, (by repeat (first | exact Below.refl _ _ | apply below_alloc | apply below_drewN | apply below_drew | (refine below_set2 ?_ ?_; (first | (simp; done) | (simp; omega))) | (refine below_step ?_ hb1)))⟩
set_option maxHeartbeats 1000000 in
theorem SortFunc_ids (xs : Sets) (g n cap base : Nat) (M : Nat → Prop) (w : World) (h : OwnR Ty.ids 39 base M w (.slice (some ⟨g, 0, none⟩) n cap) xs) (hlen : xs.length ≤ 12) (hpos : ∀ x ∈ xs, 0 < x.length) :
    Calls Try.prog 42 #[.slice (some ⟨g, 0, none⟩) n cap, .func (.func 43) #[] #[]] w fun e w' =>
      e = .returned (.tuple #[]) ∧ ∃ ys : Sets, OwnR Ty.ids 39 base M w' (.slice (some ⟨g, 0, none⟩) n cap) ys ∧ ys.Perm xs ∧ SortedOn ys 0 ys.length ∧ KeptS (fun k => k = g) w w' := by
  have HN := Lib.hid h.lenN
  have hnle : n ≤ 12 := by rw [HN.out]; exact hlen
  have H := Lib.hid h
  have HP := Lib.hid hpos
  have HL := Lib.hid hlen
  clear h hpos hlen
  have qu : IntKind.u64.wrap (n : Int) = n := by simp [IntKind.wrap, IntKind.signed, IntKind.bits]; omega
  go_enter Try.func42, Try.ntmps42
  go_wp2_with fail
  refine (bits_Len n _ hnle).mono ?_
  rintro e w1 ⟨⟨z, rfl⟩, hb1⟩
  go_wp2_with fail
  refine (pdq_small xs g n cap base M w1 _ _ rfl (H.out.below hb1) HL.out HP.out).mono ?_
  rintro e w2 ⟨rfl, ys, ho, hp, hs, hkt⟩
  have HO := Lib.hid ho
  have HPP := Lib.hid hp
  have HS := Lib.hid hs
  clear ho hp hs
  go_wp2
  exact bodyPost_end (results_none rfl _ _ _) rfl ⟨rfl, ys, HO.out, HPP.out, HS.out, (by repeat (with_reducible first | exact kept_refl _ _ | apply kept_alloc | apply kept_drewN | apply kept_drew | (refine kept_set ?_ ?_; (first | exact rfl | exact Or.inl rfl | exact Or.inr rfl | exact Or.inr (Or.inl rfl) | exact Or.inr (Or.inr rfl))) | (refine kept_setnew ?_ ?_; (first | (simp; done) | (simp; omega))) | (refine kept_below ?_ hkt) | (refine kept_step ?_ hkt) | (refine kept_below ?_ hb1) | (refine kept_step ?_ hb1)))⟩
end Go.Proofs.Ytniceoinipffmaa
