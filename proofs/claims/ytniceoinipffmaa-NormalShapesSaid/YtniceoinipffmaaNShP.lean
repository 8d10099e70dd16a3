/- Words of this session's own: what holds of lines and of groups of places, plainly. -/
import Derived.Test.YtniceoinipffmaaNMerg
import Derived.Test.YtniceoinipffmaaNLin2
namespace Go.Proofs.Ytniceoinipffmaa
open Go.RowKit
set_option linter.unusedVariables false
set_option linter.unusedSimpArgs false

/-- The points of a line are those of its nodes; consecutive ones differ. -/
def LineOk (f : Int → Option Pt) (ps : Pts) (is : List Int) : Prop := ps.length = is.length ∧ (∀ k, k < ps.length → f (inD is k) = some (ptD ps k)) ∧ ∀ k, 0 < k → k < ps.length → ptD ps k ≠ ptD ps (k - 1)
theorem ptD_left {ps : Pts} {p : Pt} {k : Nat} (h : k < ps.length) : ptD (ps ++ [p]) k = ptD ps k := by
  simp [ptD, List.getD_eq_getElem?_getD, List.getElem?_append_left h]
theorem ptD_right (ps : Pts) (p : Pt) : ptD (ps ++ [p]) ps.length = p := by simp [ptD]
theorem inD_left {is : List Int} {n : Int} {k : Nat} (h : k < is.length) : inD (is ++ [n]) k = inD is k := by
  simp [inD, List.getD_eq_getElem?_getD, List.getElem?_append_left h]
theorem inD_right (is : List Int) (n : Int) : inD (is ++ [n]) is.length = n := by simp [inD]
theorem run_ok {f : Int → Option Pt} : ∀ {l : List Int} {ps ps' : Pts} {is is' : List Int}, LineOk f ps is → runL f l (ps, is) = some (ps', is') → LineOk f ps' is'
  | [], ps, ps', is, is', h, hr => by
    simp only [runL] at hr
    injection hr with hr
    injection hr with h1 h2
    subst h1 h2; exact h
  | n :: l, ps, ps', is, is', h, hr => by
    simp only [runL] at hr
    cases hf : f n with
    | none => rw [hf] at hr; cases hr
    | some p =>
      rw [hf] at hr
      simp only at hr
      by_cases hl : ps.getLast? = some p
      · rw [stepL_skip hl] at hr
        exact run_ok h hr
      · rw [stepL_add hl] at hr
        refine run_ok ?_ hr
        obtain ⟨h1, h2, h3⟩ := h
        refine ⟨by simp [h1], fun k hk => ?_, fun k hk0 hk => ?_⟩
        · rw [List.length_append] at hk
          simp only [List.length_cons, List.length_nil] at hk
          by_cases e : k < ps.length
          · rw [ptD_left e, inD_left (by omega)]; exact h2 k e
          · obtain rfl : k = ps.length := by omega
            rw [ptD_right]
            rw [h1, inD_right]; exact hf
        · rw [List.length_append] at hk
          simp only [List.length_cons, List.length_nil] at hk
          by_cases e : k < ps.length
          · rw [ptD_left e, ptD_left (by omega)]; exact h3 k hk0 e
          · obtain rfl : k = ps.length := by omega
            rw [ptD_right, ptD_left (by omega)]
            intro e2
            exact hl (by rw [last_at hk0, e2])
theorem line_ok {f : Int → Option Pt} {x : Way} {l : Line} (h : lineZ f x = some l) : 2 ≤ l.2.1.length ∧ LineOk f l.2.1 l.2.2.1 := by
  unfold lineZ at h
  split at h
  · cases h
  · rename_i a ha
    split at h
    · cases h
    · rename_i h2
      injection h with h
      subst h
      obtain ⟨ps, is⟩ := a
      exact ⟨by simp only at h2 ⊢; omega, run_ok (ps := []) (is := []) ⟨rfl, fun k hk => absurd hk (Nat.not_lt_zero _), fun k _ hk => absurd hk (Nat.not_lt_zero _)⟩ ha⟩
theorem lines_ok {f : Int → Option Pt} {ws : List Way} {k : Nat} (hk : k < (linesZ f ws).length) : 2 ≤ (lnD (linesZ f ws) k).2.1.length ∧ LineOk f (lnD (linesZ f ws) k).2.1 (lnD (linesZ f ws) k).2.2.1 := by
  have e : lnD (linesZ f ws) k = (linesZ f ws)[k] := by simp [lnD, hk]
  have hm : (linesZ f ws)[k] ∈ linesZ f ws := List.getElem_mem hk
  rw [← e] at hm
  obtain ⟨x, _, hx⟩ := List.mem_filterMap.1 hm
  exact line_ok hx
def atZ (pl : List Place) (id : Int) : Option Pt := (pl.find? (fun x => x.1 == id)).map (fun x => x.2.1)
theorem atZ_ptF (ns : List Node) (ws : List Way) (rs : List Rel) (id : Int) : atZ (placesZ ns ws rs) id = ptF ns ws rs id := by
  unfold atZ placesZ ptF
  split
  · rw [List.find?_map]
    simp only [nodeF, Option.map_map]
    congr 1
  · rfl
theorem atZ_hit {pl : List Place} (h : Incr pl) {k : Nat} (hk : k < pl.length) : atZ pl (ndD pl k).1 = some (ndD pl k).2.1 := by
  have : pl.find? (fun x => x.1 == (ndD pl k).1) = some (ndD pl k) := by
    rw [List.find?_eq_some_iff_getElem]
    refine ⟨by simp, k, hk, by simp [ndD, hk], fun j hj => ?_⟩
    have := h j k hj hk
    simp only [ndD, List.getD_eq_getElem?_getD, List.getElem?_eq_getElem hk, List.getElem?_eq_getElem (show j < pl.length by omega), Option.getD_some] at this ⊢
    simp; omega
  rw [atZ, this]; rfl
theorem gi_at {pl : List Place} (h : Incr pl) {p : Pt} {n : Int} (hn : n ∈ gi pl p) : atZ pl n = some p := by
  obtain ⟨x, hx, rfl⟩ := List.mem_map.1 hn
  obtain ⟨hx1, hx2⟩ := List.mem_filter.1 hx
  obtain ⟨k, hk, rfl⟩ := List.getElem_of_mem hx1
  have e : ndD pl k = pl[k] := by simp [ndD, hk]
  have := atZ_hit h hk
  rw [e] at this
  rw [this]
  simpa using hx2
theorem merged_at {pl : List Place} (h : Incr pl) {s : List Int} (hs : s ∈ mergedZ pl) : 2 ≤ s.length ∧ ∃ p, ∀ n ∈ s, atZ pl n = some p := by
  obtain ⟨h1, h2⟩ := List.mem_filter.1 hs
  obtain ⟨p, _, rfl⟩ := List.mem_map.1 h1
  exact ⟨by simpa [big] using h2, p, fun n hn => gi_at h hn⟩
/-- How many places share their point. -/
def twinB (pl : List Place) (x : Place) : Bool := big (gi pl x.2.1)
theorem sum_one {D : List Pt} (hd : D.Nodup) (q : Pt → Bool) (p : Pt) (g g' : Pt → Nat) (hg : ∀ r, g' r = if r = p then g r + 1 else g r) :
    ((D.filter q).map g').sum = ((D.filter q).map g).sum + (if p ∈ D ∧ q p = true then 1 else 0) := by
  induction D with
  | nil => simp
  | cons r D ih =>
    obtain ⟨h1, h2⟩ := List.nodup_cons.1 hd
    have := ih h2
    by_cases hq : q r = true
    · rw [List.filter_cons_of_pos hq, List.map_cons, List.map_cons, List.sum_cons, List.sum_cons, this, hg]
      by_cases e : r = p
      · subst e
        rw [if_pos rfl, if_neg (fun h => h1 h.1), if_pos ⟨List.mem_cons_self, hq⟩]; omega
      · rw [if_neg e]
        have : (p ∈ r :: D ∧ q p = true) ↔ (p ∈ D ∧ q p = true) := by
          rw [List.mem_cons]
          constructor
          · rintro ⟨h | h, h'⟩
            · exact absurd h.symm e
            · exact ⟨h, h'⟩
          · rintro ⟨h, h'⟩; exact ⟨.inr h, h'⟩
        simp only [this]; omega
    · rw [List.filter_cons_of_neg hq, this]
      congr 1
      have : (p ∈ r :: D ∧ q p = true) ↔ (p ∈ D ∧ q p = true) := by
        rw [List.mem_cons]
        constructor
        · rintro ⟨h | h, h'⟩
          · subst h; exact absurd h' hq
          · exact ⟨h, h'⟩
        · rintro ⟨h, h'⟩; exact ⟨.inr h, h'⟩
      simp only [this]
theorem sum_gi {D : List Pt} (hd : D.Nodup) (q : Pt → Bool) : ∀ l : List Place, (∀ x ∈ l, x.2.1 ∈ D) → ((D.filter q).map (fun p => (gi l p).length)).sum = l.countP (fun x => q x.2.1) := by
  intro l
  refine snoc_ind (P := fun l => (∀ x ∈ l, x.2.1 ∈ D) → ((D.filter q).map (fun p => (gi l p).length)).sum = l.countP (fun x => q x.2.1)) ?_ ?_ l
  · intro _
    have : (fun p => (gi [] p).length) = fun _ => 0 := by funext p; rfl
    rw [this]
    induction D.filter q with
    | nil => rfl
    | cons a l ih => rw [List.map_cons, List.sum_cons, Nat.zero_add]; exact ih
  · intro l x ih h
    rw [sum_one hd q x.2.1 (fun p => (gi l p).length) (fun p => (gi (l ++ [x]) p).length) (fun r => by
      simp only [gi_snoc]
      by_cases e : r = x.2.1
      · rw [if_pos e, if_pos e.symm]; simp
      · rw [if_neg e, if_neg (fun e' => e e'.symm)]), ih (fun y hy => h y (List.mem_append_left _ hy)), List.countP_append]
    have hx := h x (List.mem_append_right _ List.mem_cons_self)
    by_cases hq : q x.2.1 = true
    · simp [hq, hx]
    · simp [hq]
theorem merged_count (pl : List Place) : ((mergedZ pl).map List.length).sum = pl.countP (twinB pl) := by
  have h1 : (mergedZ pl).map List.length = ((dk (atL pl)).filter (fun p => big (gi pl p))).map (fun p => (gi pl p).length) := by
    rw [mergedZ, List.filter_map, List.map_map]; rfl
  rw [h1]
  exact sum_gi (dk_nodup _) (fun p => big (gi pl p)) pl (fun x hx => (dk_mem _ _).2 (List.mem_map.2 ⟨x, hx, rfl⟩))
theorem gi_len (l : List Place) (p : Pt) : (gi l p).length = l.countP (fun x => decide (x.2.1 = p)) := by
  rw [gi, List.length_map, List.countP_eq_length_filter]
/-- A place has a twin iff its group is big. -/
theorem twin_iff {pl : List Place} {i : Nat} (hi : i < pl.length) : twinB pl (ndD pl i) = true ↔ ∃ k, k < pl.length ∧ k ≠ i ∧ (ndD pl k).2.1 = (ndD pl i).2.1 := by
  have e1 : pl = pl.take i ++ (ndD pl i :: pl.drop (i + 1)) := by
    have h2 := List.take_append_drop i pl
    rw [List.drop_eq_getElem_cons hi] at h2
    have h3 : ndD pl i = pl[i] := by simp [ndD, hi]
    rw [h3]; exact h2.symm
  obtain ⟨p, hp⟩ : ∃ p, p = (ndD pl i).2.1 := ⟨_, rfl⟩
  have hc : (gi pl p).length = (pl.take i).countP (fun x => decide (x.2.1 = p)) + (1 + (pl.drop (i + 1)).countP (fun x => decide (x.2.1 = p))) := by
    rw [gi_len]
    have : pl.countP (fun x => decide (x.2.1 = p)) = (pl.take i ++ (ndD pl i :: pl.drop (i + 1))).countP (fun x => decide (x.2.1 = p)) := by rw [← e1]
    rw [this, List.countP_append, List.countP_cons_of_pos (by simp [hp])]; omega
  have hat : ∀ k, k < pl.length → ndD pl k = pl.getD k (0, ((0, 0), [])) := fun k _ => rfl
  rw [← hp]
  unfold twinB big
  rw [← hp, decide_eq_true_eq, hc]
  constructor
  · intro h
    by_cases h0 : 0 < (pl.take i).countP (fun x => decide (x.2.1 = p))
    · obtain ⟨x, hx, hxp⟩ := List.countP_pos_iff.1 h0
      obtain ⟨k, hk, rfl⟩ := List.getElem_of_mem hx
      rw [List.length_take] at hk
      refine ⟨k, by omega, by omega, ?_⟩
      have : ndD pl k = (pl.take i)[k]'(by rw [List.length_take]; exact hk) := by simp [ndD, show k < pl.length by omega]
      rw [this]; simpa using hxp
    · have h1 : 0 < (pl.drop (i + 1)).countP (fun x => decide (x.2.1 = p)) := by omega
      obtain ⟨x, hx, hxp⟩ := List.countP_pos_iff.1 h1
      obtain ⟨k, hk, rfl⟩ := List.getElem_of_mem hx
      rw [List.length_drop] at hk
      refine ⟨i + 1 + k, by omega, by omega, ?_⟩
      have : ndD pl (i + 1 + k) = (pl.drop (i + 1))[k]'(by rw [List.length_drop]; exact hk) := by simp [ndD, show i + 1 + k < pl.length by omega]
      rw [this]; simpa using hxp
  · rintro ⟨k, hk, hne, he⟩
    by_cases h : k < i
    · have : 0 < (pl.take i).countP (fun x => decide (x.2.1 = p)) := List.countP_pos_iff.2 ⟨ndD pl k, by
        have hk' : k < (pl.take i).length := by rw [List.length_take]; omega
        have : (pl.take i)[k] = ndD pl k := by simp [ndD, hk]
        rw [← this]; exact List.getElem_mem hk', by simpa using he⟩
      omega
    · have : 0 < (pl.drop (i + 1)).countP (fun x => decide (x.2.1 = p)) := List.countP_pos_iff.2 ⟨ndD pl k, by
        have hk' : k - (i + 1) < (pl.drop (i + 1)).length := by rw [List.length_drop]; omega
        have : (pl.drop (i + 1))[k - (i + 1)] = ndD pl k := by simp [ndD, hk, show i + 1 + (k - (i + 1)) = k by omega]
        rw [← this]; exact List.getElem_mem hk', by simpa using he⟩
      omega
end Go.Proofs.Ytniceoinipffmaa
