/- Contracts of tags.good, tags.Check, mapmakerref06.inTag, mapmakerref06.Check. -/
import Derived.Test.YtniceoinipffmaaProg
import Derived.Test.YtniceoinipffmaaNTy
import Derived.Test.YtniceoinipffmaaWLast
import Derived.Lib.Strings
namespace Go.Proofs.Ytniceoinipffmaa
open Go.RowKit Go.Proofs.YtniceoinipffmaaW.PrintLast
set_option linter.unusedVariables false
set_option linter.unusedSimpArgs false

def goodT (t : Tag) : Bool := decide (0 < t.1.size) && (decide (t.1.size ≤ 64) && decide (t.2.size ≤ 64))
theorem str_empty (k : ByteArray) : k.toList = [] ↔ k.size = 0 := by
  rw [Lib.toList_data, Lib.size_eq, List.length_eq_zero_iff]
/-- The first error of n places. -/
def scan (n : Nat) (f : Nat → Option Int) : Int := ((List.range n).findSome? f).getD 0
theorem scan_none {n : Nat} {f : Nat → Option Int} (h : ∀ j, j < n → f j = none) : scan n f = 0 := by
  unfold scan
  rw [List.findSome?_eq_none_iff.2 (fun j hj => h j (List.mem_range.1 hj))]; rfl
theorem scan_hit {n : Nat} {f : Nat → Option Int} {k : Nat} {e : Int} (h : ∀ j, j < k → f j = none) (hk : k < n) (he : f k = some e) : scan n f = e := by
  unfold scan
  have e1 : List.range n = List.range k ++ k :: (List.range' (k + 1) (n - k - 1)) := by
    rw [List.range_eq_range', show n = k + (n - k - 1 + 1) by omega, ← List.range'_append_1, List.range'_succ, List.range_eq_range']
    simp
  rw [e1, List.findSome?_append, List.findSome?_eq_none_iff.2 (fun j hj => h j (List.mem_range.1 hj)), List.findSome?_cons, he]; rfl
theorem below_succ {f : Nat → Option Int} {k : Nat} (h : ∀ j, j < k → f j = none) (hk : f k = none) : ∀ j, j < k + 1 → f j = none := fun j hj => by
  by_cases e : j = k
  · rw [e]; exact hk
  · exact h j (by omega)
theorem bytes_total : ∀ a b : List UInt8, (Op.bytesLess b a || b == a) = !Op.bytesLess a b
  | [], [] => by simp [Op.bytesLess]
  | [], _ :: _ => by simp [Op.bytesLess]
  | _ :: _, [] => by simp [Op.bytesLess]
  | a :: x, b :: y => by
    have ih := bytes_total x y
    simp only [Op.bytesLess]
    rcases Nat.lt_trichotomy a.toNat b.toNat with h | h | h
    · have h1 : a < b := h
      have h2 : ¬ b < a := fun h' => by have : b.toNat < a.toNat := h'; omega
      have h3 : b ≠ a := fun e => by rw [e] at h; omega
      simp [h1, h2, h3]
    · have e : a = b := UInt8.toNat.inj h
      subst e
      have h1 : ¬ a < a := fun h' => by have : a.toNat < a.toNat := h'; omega
      simp only [h1, decide_false, Bool.false_or, BEq.rfl, Bool.true_and]
      rw [← ih]
      simp
    · have h1 : b < a := h
      have h2 : ¬ a < b := fun h' => by have : a.toNat < b.toNat := h'; omega
      have h3 : a ≠ b := fun e => by rw [e] at h; omega
      simp [h1, h2, h3]
/-- b's key does not stand behind a's. -/
def badK (a b : Tag) : Bool := Op.bytesLess b.1.toList a.1.toList || b.1.toList == a.1.toList
def tagE (l : List Tag) (k : Nat) : Option Int := if goodT (tgD l k) then (if 0 < k ∧ badK (tgD l (k - 1)) (tgD l k) = true then some 6 else none) else some 10
def tagErr (l : List Tag) : Int := if 16 < l.length then 5 else scan l.length (tagE l)
theorem tagE_bad {l : List Tag} {k : Nat} (h : goodT (tgD l k) = false) : tagE l k = some 10 := by simp [tagE, h]
theorem tagE_zero {l : List Tag} (h : goodT (tgD l 0) = true) : tagE l 0 = none := by simp [tagE, h]
theorem tagE_ord {l : List Tag} {k : Nat} (h : goodT (tgD l (k + 1)) = true) (hb : badK (tgD l k) (tgD l (k + 1)) = true) : tagE l (k + 1) = some 6 := by simp [tagE, h, hb]
theorem tagE_ok {l : List Tag} {k : Nat} (h : goodT (tgD l (k + 1)) = true) (hb : badK (tgD l k) (tgD l (k + 1)) = false) : tagE l (k + 1) = none := by simp [tagE, h, hb]
theorem size_zero {k : ByteArray} (h : k.size = 0) : k = ByteArray.empty := by
  obtain ⟨d⟩ := k
  have : d.size = 0 := h
  rw [Array.eq_empty_of_size_eq_zero this]; rfl
theorem tags_good (k v : ByteArray) (w : World) : Calls Try.prog 91 #[.agg #[.string k, .string v]] w fun e w' => e = .returned (.bool (goodT (k, v))) ∧ Below w.heap.size w w' := by
  rcases Nat.eq_zero_or_pos k.size with h0 | h0
  · obtain rfl := size_zero h0
    clear h0
    go_enter Try.func91, Try.ntmps91
    go_wp2
    all_goals go_ret
    all_goals exact ⟨ret_bool (by simp [goodT]), (by repeat (first | exact Below.refl _ _ | apply below_alloc | apply below_drewN | apply below_drew | (refine below_set2 ?_ ?_; (first | (simp; done) | (simp; omega)))))⟩
  · have h1 : ¬ k.toList = [] := fun e => by have := (str_empty k).1 e; omega
    have h2 : k.toList.isEmpty = false := by simpa [List.isEmpty_iff] using h1
    have h3 : ¬ k = ByteArray.empty := fun e => by subst e; simp at h0
    by_cases h4 : k.size ≤ 64
    · have q4 : decide ((k.size : Int) ≤ 64) = true := decide_eq_true (by omega)
      by_cases h5 : v.size ≤ 64
      · have q5 : decide ((v.size : Int) ≤ 64) = true := decide_eq_true (by omega)
        go_enter Try.func91, Try.ntmps91
        go_wp2
        all_goals go_ret
        all_goals exact ⟨ret_bool (by simp [goodT, h0, h4, h5, h2]), (by repeat (first | exact Below.refl _ _ | apply below_alloc | apply below_drewN | apply below_drew | (refine below_set2 ?_ ?_; (first | (simp; done) | (simp; omega)))))⟩
      · have q5 : decide ((v.size : Int) ≤ 64) = false := decide_eq_false (by omega)
        go_enter Try.func91, Try.ntmps91
        go_wp2
        all_goals go_ret
        all_goals exact ⟨ret_bool (by simp [goodT, h0, h4, h5, h2]; try omega), (by repeat (first | exact Below.refl _ _ | apply below_alloc | apply below_drewN | apply below_drew | (refine below_set2 ?_ ?_; (first | (simp; done) | (simp; omega)))))⟩
    · have q4 : decide ((k.size : Int) ≤ 64) = false := decide_eq_false (by omega)
      go_enter Try.func91, Try.ntmps91
      go_wp2
      all_goals go_ret
      all_goals exact ⟨ret_bool (by simp [goodT, h0, h4, h2]; try omega), (by repeat (first | exact Below.refl _ _ | apply below_alloc | apply below_drewN | apply below_drew | (refine below_set2 ?_ ?_; (first | (simp; done) | (simp; omega)))))⟩
theorem ref06_inTag (k v : ByteArray) (w : World) : Calls Try.prog 94 #[.agg #[.string k, .string v]] w fun e w' => e = .returned (.bool (goodT (k, v))) ∧ Below w.heap.size w w' := by
  by_cases h0 : 0 < k.size
  · have q0 : decide ((1 : Int) ≤ (k.size : Int)) = true := decide_eq_true (by omega)
    by_cases h4 : k.size ≤ 64
    · have q4 : decide ((k.size : Int) ≤ 64) = true := decide_eq_true (by omega)
      by_cases h5 : v.size ≤ 64
      · have q5 : decide ((v.size : Int) ≤ 64) = true := decide_eq_true (by omega)
        go_enter Try.func94, Try.ntmps94
        go_wp2
        all_goals go_ret
        all_goals exact ⟨ret_bool (by simp [goodT, h0, h4, h5]), (by repeat (first | exact Below.refl _ _ | apply below_alloc | apply below_drewN | apply below_drew | (refine below_set2 ?_ ?_; (first | (simp; done) | (simp; omega)))))⟩
      · have q5 : decide ((v.size : Int) ≤ 64) = false := decide_eq_false (by omega)
        go_enter Try.func94, Try.ntmps94
        go_wp2
        all_goals go_ret
        all_goals exact ⟨ret_bool (by simp [goodT, h0, h4, h5]; try omega), (by repeat (first | exact Below.refl _ _ | apply below_alloc | apply below_drewN | apply below_drew | (refine below_set2 ?_ ?_; (first | (simp; done) | (simp; omega)))))⟩
    · have q4 : decide ((k.size : Int) ≤ 64) = false := decide_eq_false (by omega)
      go_enter Try.func94, Try.ntmps94
      go_wp2
      all_goals go_ret
      all_goals exact ⟨ret_bool (by simp [goodT, h0, h4]; try omega), (by repeat (first | exact Below.refl _ _ | apply below_alloc | apply below_drewN | apply below_drew | (refine below_set2 ?_ ?_; (first | (simp; done) | (simp; omega)))))⟩
  · have q0 : decide ((1 : Int) ≤ (k.size : Int)) = false := decide_eq_false (by omega)
    go_enter Try.func94, Try.ntmps94
    go_wp2
    all_goals go_ret
    all_goals exact ⟨ret_bool (by simp [goodT, h0]; try omega), (by repeat (first | exact Below.refl _ _ | apply below_alloc | apply below_drewN | apply below_drew | (refine below_set2 ?_ ?_; (first | (simp; done) | (simp; omega)))))⟩

set_option maxHeartbeats 1000000 in
theorem tags_Check {ok : Nat → Prop} (l : List Tag) (A : Option Addr) (n c : Nat) (w : World) (hr : Row Ty.tag ok w A l) (hn : n = l.length) :
    Calls Try.prog 68 #[.slice A n c] w fun e w' => e = .returned (.int .i64 (tagErr l)) ∧ Below w.heap.size w w' := by
  subst hn
  have hl := hr.len
  have HR := Lib.hid hr
  clear hr
  by_cases h16 : 16 < l.length
  · have q1 : decide ((16 : Int) < (l.length : Int)) = true := decide_eq_true (by omega)
    have HE : Hid (tagErr l = 5) := by show tagErr l = 5; rw [tagErr, if_pos h16]
    go_enter Try.func68, Try.ntmps68
    go_wp2
    go_ret
    exact ⟨ret_int HE.out.symm, (by repeat (first | exact Below.refl _ _ | apply below_alloc | apply below_drewN | apply below_drew | (refine below_set2 ?_ ?_; (first | (simp; done) | (simp; omega)))))⟩
  · have q1 : decide ((16 : Int) < (l.length : Int)) = false := decide_eq_false (by omega)
    have HE : Hid (tagErr l = scan l.length (tagE l)) := by show tagErr l = _; rw [tagErr, if_neg h16]
    go_enter Try.func68, Try.ntmps68
    go_wp2
    go_loopw [10] (fun i wr => ∃ k : Nat, k ≤ l.length ∧ i = .int .i64 k ∧ Below w.heap.size w wr ∧ Hid (∀ j, j < k → tagE l j = none)) (fun i _ => l.length - (intOf i).toNat)
    case atStart => exact ⟨0, Nat.zero_le _, rfl, Below.refl _ _, fun j hj => absurd hj (Nat.not_lt_zero _)⟩
    case round =>
      obtain ⟨k, hk, rfl, hb, HS⟩ := hrel
      by_cases hlt : k < l.length
      · obtain ⟨ad, rfl, hc1, hc2⟩ := (HR.out.below hb).tag_at k hlt
        cases hg : goodT (tgD l k)
        · have HH := Lib.hid (scan_hit HS.out hlt (tagE_bad hg))
          have qg : goodT ((tgD l k).1, (tgD l k).2) = false := hg
          clear hg
          go_wp2_with fail
          (refine (tags_good (tgD l k).1 (tgD l k).2 _).mono ?_; rintro e w1 ⟨rfl, hb1⟩)
          go_wp2
          go_ret
          exact ⟨ret_int (by rw [HE.out]; exact HH.out.symm), (by repeat (first | exact Below.refl _ _ | apply below_alloc | apply below_drewN | apply below_drew | (refine below_set2 ?_ ?_; (first | (simp; done) | (simp; omega))) | (refine below_step ?_ hb1) | (refine below_step ?_ hb)))⟩
        · have HG := Lib.hid hg
          have qg : goodT ((tgD l k).1, (tgD l k).2) = true := hg
          clear hg
          rcases Nat.eq_zero_or_pos k with h0 | h0
          · subst h0
            have q4 : decide ((0 : Int) < ((0 : Nat) : Int)) = false := by simp
            have hx1 : wr.cell? ad = some (.string (tgD l 0).1) := by simpa [Addr.add] using hc1
            have hx2 : wr.cell? ⟨ad.block, ad.off + 1, none⟩ = some (.string (tgD l 0).2) := by simpa [Addr.add] using hc2
            go_wp2_with fail
            (refine (tags_good (tgD l 0).1 (tgD l 0).2 _).mono ?_; rintro e w1 ⟨rfl, hb1⟩)
            go_wp2_with fail
            go_quiet (fail)
            go_wp2
            go_roundw
            case rel => exact ⟨1, by omega, by go_num, (by repeat (first | exact Below.refl _ _ | apply below_alloc | apply below_drewN | apply below_drew | (refine below_set2 ?_ ?_; (first | (simp; done) | (simp; omega))) | (refine below_step ?_ hb1) | (refine below_step ?_ hb))), below_succ HS.out (tagE_zero HG.out)⟩
            case measure => simp [intOf]; omega
          · obtain ⟨k', rfl⟩ : ∃ k', k = k' + 1 := ⟨k - 1, by omega⟩
            obtain ⟨_, e, hd1, _⟩ := (HR.out.below hb).tag_at k' (by omega)
            cases e
            have ec : ((k' + 1 : Nat) : Int) = (k' : Int) + 1 := by omega
            rw [ec]
            clear ec
            have qi0 : (0 : Int) ≤ (k' : Int) + 1 := by omega
            have qi1 : (k' : Int) + 1 < (l.length : Int) := by omega
            have qi2 : ((k' : Int) + 1).toNat = k' + 1 := by omega
            have qi3 : decide ((k' : Int) + 1 < (l.length : Int)) = true := decide_eq_true (by omega)
            have q4 : decide ((0 : Int) < (k' : Int) + 1) = true := decide_eq_true (by omega)
            have qw : IntKind.i64.wrap (k' : Int) = (k' : Int) := IntWalk.i64_in _ (by omega)
            have qb0 : k' < l.length := by omega
            have qb1 : k' + 1 < l.length := by omega
            go_wp2_with fail
            (refine (tags_good (tgD l (k' + 1)).1 (tgD l (k' + 1)).2 _).mono ?_; rintro e w1 ⟨rfl, hb1⟩)
            have hp1 : w1.cell? ⟨wr.heap.size, 0, none⟩ = some (.string (tgD l (k' + 1)).1) := cell_below hb1 (by go_simp)
            have hd2 := cell_below hb1 (cell_below (below_alloc (Below.refl _ _) _) hd1)
            have qw' : wrap64 (k' : Int) = (k' : Int) := by unfold wrap64; omega
            go_wp2_with fail
            refine start_ (n := 14) (S := fun w' => w'.cell? ⟨wr.heap.size, 0, none⟩ = some (.string (tgD l (k' + 1)).1) ∧ w'.cell? (ad.add (k' * 2)) = some (.string (tgD l k').1)) (ds := []) #[false, false, false, false, false, false, false, false, false, false, false, false, false, false] (by kernel_rfl) rfl rfl ⟨hp1, hd2⟩ (fun hHeld => ?_)
            refine pure_ (i := 0) (N := some 20) (v := ?_) (a' := ?_) #[true, false, false, false, false, false, false, false, false, false, false, false, false, false] rfl rfl (by kernel_rfl) (fun _ _ _ h => h) (Or.inl ⟨by rfl, ?_⟩) ?_ ?_
            rotate_left
            · intro w'
              go_simp
              with_reducible rfl
            rotate_left
            · simp only [Act.put, List.setIfInBounds_toArray, List.set_cons_zero, List.set_cons_succ, i64_w, i32_w]
              rfl
            refine pure_ (i := 1) (N := some 21) (v := ?_) (a' := ?_) #[true, true, false, false, false, false, false, false, false, false, false, false, false, false] rfl rfl (by kernel_rfl) (fun _ _ _ h => h) (Or.inl ⟨by rfl, ?_⟩) ?_ ?_
            rotate_left
            · intro w'
              go_simp
              with_reducible rfl
            rotate_left
            · simp only [Act.put, List.setIfInBounds_toArray, List.set_cons_zero, List.set_cons_succ, i64_w, i32_w]
              rfl
            refine pure_ (i := 2) (N := some 22) (v := ?_) (a' := ?_) #[true, true, true, false, false, false, false, false, false, false, false, false, false, false] rfl rfl (by kernel_rfl) (fun _ _ _ h => h) (Or.inl ⟨by rfl, ?_⟩) ?_ ?_
            rotate_left
            · intro w'
              go_simp
              with_reducible rfl
            rotate_left
            · simp only [Act.put, List.setIfInBounds_toArray, List.set_cons_zero, List.set_cons_succ, i64_w, i32_w]
              rfl
            refine pure_ (i := 3) (N := some 23) (v := ?_) (a' := ?_) #[true, true, true, true, false, false, false, false, false, false, false, false, false, false] rfl rfl (by kernel_rfl) (fun _ _ _ h => h) (Or.inl ⟨by rfl, ?_⟩) ?_ ?_
            rotate_left
            · intro w'
              go_simp
              with_reducible rfl
            rotate_left
            · simp only [Act.put, List.setIfInBounds_toArray, List.set_cons_zero, List.set_cons_succ, i64_w, i32_w]
              rfl
            refine pure_ (i := 5) (N := some 25) (v := ?_) (a' := ?_) #[true, true, true, true, false, true, false, false, false, false, false, false, false, false] rfl rfl (by kernel_rfl) (fun _ _ _ h => h) (Or.inl ⟨by rfl, ?_⟩) ?_ ?_
            rotate_left
            · intro w'
              go_simp
              with_reducible rfl
            rotate_left
            · simp only [Act.put, List.setIfInBounds_toArray, List.set_cons_zero, List.set_cons_succ, i64_w, i32_w]
              rfl
            refine pure_ (i := 6) (N := some 26) (v := ?_) (a' := ?_) #[true, true, true, true, false, true, true, false, false, false, false, false, false, false] rfl rfl (by kernel_rfl) (fun _ _ _ h => h) (Or.inl ⟨by rfl, ?_⟩) ?_ ?_
            rotate_left
            · intro w'
              go_simp
              with_reducible rfl
            rotate_left
            · simp only [Act.put, List.setIfInBounds_toArray, List.set_cons_zero, List.set_cons_succ, i64_w, i32_w]
              rfl
            refine pure_ (i := 7) (N := some 27) (v := ?_) (a' := ?_) #[true, true, true, true, false, true, true, true, false, false, false, false, false, false] rfl rfl (by kernel_rfl) (fun _ _ _ h => h) (Or.inl ⟨by rfl, ?_⟩) ?_ ?_
            rotate_left
            · intro w'
              go_simp
              with_reducible rfl
            rotate_left
            · simp only [Act.put, List.setIfInBounds_toArray, List.set_cons_zero, List.set_cons_succ, i64_w, i32_w]
              rfl
            refine pure_ (i := 8) (N := some 28) (v := ?_) (a' := ?_) #[true, true, true, true, false, true, true, true, true, false, false, false, false, false] rfl rfl (by kernel_rfl) (fun _ _ _ h => h) (Or.inl ⟨by rfl, ?_⟩) ?_ ?_
            rotate_left
            · intro w'
              go_simp
              with_reducible rfl
            rotate_left
            · simp only [Act.put, List.setIfInBounds_toArray, List.set_cons_zero, List.set_cons_succ, i64_w, i32_w]
              rfl
            refine pure_ (i := 9) (N := some 29) (v := ?_) (a' := ?_) #[true, true, true, true, false, true, true, true, true, true, false, false, false, false] rfl rfl (by kernel_rfl) (fun _ _ _ h => h) (Or.inl ⟨by rfl, ?_⟩) ?_ ?_
            rotate_left
            · intro w'
              go_simp
              with_reducible rfl
            rotate_left
            · simp only [Act.put, List.setIfInBounds_toArray, List.set_cons_zero, List.set_cons_succ, i64_w, i32_w]
              rfl
            refine take_ (i := 4) (N := some 24) (v := ?_) (a' := ?_) #[true, true, true, true, true, true, true, true, true, true, false, false, false, false] rfl rfl (by kernel_rfl) (fun _ _ _ h => h) (Or.inl ⟨by rfl, ?_⟩) hHeld ?_ ?_
            rotate_left
            · rintro w' ⟨s0, s1⟩
              go_simp
              with_reducible rfl
            rotate_left
            · simp only [Act.put, List.setIfInBounds_toArray, List.set_cons_zero, List.set_cons_succ, i64_w, i32_w]
              rfl
            refine take_ (i := 10) (N := some 30) (v := ?_) (a' := ?_) #[true, true, true, true, true, true, true, true, true, true, true, false, false, false] rfl rfl (by kernel_rfl) (fun _ _ _ h => h) (Or.inl ⟨by rfl, ?_⟩) hHeld ?_ ?_
            rotate_left
            · rintro w' ⟨s0, s1⟩
              go_simp
              with_reducible rfl
            rotate_left
            · simp only [Act.put, List.setIfInBounds_toArray, List.set_cons_zero, List.set_cons_succ, i64_w, i32_w]
              rfl
            refine pure_ (i := 11) (N := some 31) (v := ?_) (a' := ?_) #[true, true, true, true, true, true, true, true, true, true, true, true, false, false] rfl rfl (by kernel_rfl) (fun _ _ _ h => h) (Or.inl ⟨by rfl, ?_⟩) ?_ ?_
            rotate_left
            · intro w'
              go_simp
              with_reducible rfl
            rotate_left
            · simp only [Act.put, List.setIfInBounds_toArray, List.set_cons_zero, List.set_cons_succ, i64_w, i32_w]
              rfl
            refine pure_ (i := 12) (N := some 32) (v := ?_) (a' := ?_) #[true, true, true, true, true, true, true, true, true, true, true, true, true, false] rfl rfl (by kernel_rfl) (fun _ _ _ h => h) (Or.inl ⟨by rfl, ?_⟩) ?_ ?_
            rotate_left
            · intro w'
              go_simp
              with_reducible rfl
            rotate_left
            · simp only [Act.put, List.setIfInBounds_toArray, List.set_cons_zero, List.set_cons_succ, i64_w, i32_w]
              rfl
            refine pure_ (i := 13) (N := some 19) (v := ?_) (a' := ?_) #[true, true, true, true, true, true, true, true, true, true, true, true, true, true] rfl rfl (by kernel_rfl) (fun _ _ _ h => h) (Or.inl ⟨by rfl, ?_⟩) ?_ ?_
            rotate_left
            · intro w'
              go_simp
              with_reducible rfl
            rotate_left
            · simp only [Act.put, List.setIfInBounds_toArray, List.set_cons_zero, List.set_cons_succ, i64_w, i32_w]
              rfl
            refine done_ (by kernel_rfl) ?_
            clear qi0 qi1 qi2 qi3 q4 qw qw' qb0 qb1
            cases hbk : badK (tgD l k') (tgD l (k' + 1))
            · have HB := Lib.hid hbk
              have hq : (Op.bytesLess (tgD l (k' + 1)).1.toList (tgD l k').1.toList || (tgD l (k' + 1)).1.toList == (tgD l k').1.toList) = false := hbk
              simp only [hq]
              clear hbk
              go_wp2
              go_roundw
              case rel => exact ⟨k' + 2, by omega, by go_num, (by repeat (first | exact Below.refl _ _ | apply below_alloc | apply below_drewN | apply below_drew | (refine below_set2 ?_ ?_; (first | (simp; done) | (simp; omega))) | (refine below_step ?_ hb1) | (refine below_step ?_ hb))), below_succ HS.out (tagE_ok HG.out HB.out)⟩
              case measure => simp [intOf]; omega
            · have HH := Lib.hid (scan_hit HS.out hlt (tagE_ord HG.out hbk))
              have hq : (Op.bytesLess (tgD l (k' + 1)).1.toList (tgD l k').1.toList || (tgD l (k' + 1)).1.toList == (tgD l k').1.toList) = true := hbk
              simp only [hq]
              clear hbk
              go_wp2
              go_ret
              exact ⟨ret_int (by rw [HE.out]; exact HH.out.symm), (by repeat (first | exact Below.refl _ _ | apply below_alloc | apply below_drewN | apply below_drew | (refine below_set2 ?_ ?_; (first | (simp; done) | (simp; omega))) | (refine below_step ?_ hb1) | (refine below_step ?_ hb)))⟩
      · obtain rfl : k = l.length := by omega
        go_wp2
        go_ret
        exact ⟨ret_int (by rw [HE.out]; exact (scan_none HS.out).symm), hb⟩

set_option maxHeartbeats 1000000 in
theorem ref06_Check {ok : Nat → Prop} (l : List Tag) (A : Option Addr) (n c : Nat) (w : World) (hr : Row Ty.tag ok w A l) (hn : n = l.length) :
    Calls Try.prog 76 #[.slice A n c] w fun e w' => e = .returned (.int .i64 (tagErr l)) ∧ Below w.heap.size w w' := by
  subst hn
  have hl := hr.len
  have HR := Lib.hid hr
  clear hr
  by_cases h16 : 16 < l.length
  · have q1 : decide ((16 : Int) < (l.length : Int)) = true := decide_eq_true (by omega)
    have HE : Hid (tagErr l = 5) := by show tagErr l = 5; rw [tagErr, if_pos h16]
    go_enter Try.func76, Try.ntmps76
    go_wp2
    go_ret
    exact ⟨ret_int HE.out.symm, (by repeat (first | exact Below.refl _ _ | apply below_alloc | apply below_drewN | apply below_drew | (refine below_set2 ?_ ?_; (first | (simp; done) | (simp; omega)))))⟩
  · have q1 : decide ((16 : Int) < (l.length : Int)) = false := decide_eq_false (by omega)
    have HE : Hid (tagErr l = scan l.length (tagE l)) := by show tagErr l = _; rw [tagErr, if_neg h16]
    go_enter Try.func76, Try.ntmps76
    go_wp2
    go_loopw [3] (fun i wr => ∃ k : Nat, k ≤ l.length ∧ i = .int .i64 k ∧ Below w.heap.size w wr ∧ Hid (∀ j, j < k → tagE l j = none)) (fun i _ => l.length - (intOf i).toNat)
    case atStart => exact ⟨0, Nat.zero_le _, rfl, Below.refl _ _, fun j hj => absurd hj (Nat.not_lt_zero _)⟩
    case round =>
      obtain ⟨k, hk, rfl, hb, HS⟩ := hrel
      by_cases hlt : k < l.length
      · obtain ⟨ad, rfl, hc1, hc2⟩ := (HR.out.below hb).tag_at k hlt
        cases hg : goodT (tgD l k)
        · have HH := Lib.hid (scan_hit HS.out hlt (tagE_bad hg))
          have qg : goodT ((tgD l k).1, (tgD l k).2) = false := hg
          clear hg
          go_wp2_with fail
          (refine (ref06_inTag (tgD l k).1 (tgD l k).2 _).mono ?_; rintro e w1 ⟨rfl, hb1⟩)
          go_wp2
          go_ret
          exact ⟨ret_int (by rw [HE.out]; exact HH.out.symm), (by repeat (first | exact Below.refl _ _ | apply below_alloc | apply below_drewN | apply below_drew | (refine below_set2 ?_ ?_; (first | (simp; done) | (simp; omega))) | (refine below_step ?_ hb1) | (refine below_step ?_ hb)))⟩
        · have HG := Lib.hid hg
          have qg : goodT ((tgD l k).1, (tgD l k).2) = true := hg
          clear hg
          rcases Nat.eq_zero_or_pos k with h0 | h0
          · subst h0
            have q4 : decide ((0 : Int) < ((0 : Nat) : Int)) = false := by simp
            have hx1 : wr.cell? ad = some (.string (tgD l 0).1) := by simpa [Addr.add] using hc1
            have hx2 : wr.cell? ⟨ad.block, ad.off + 1, none⟩ = some (.string (tgD l 0).2) := by simpa [Addr.add] using hc2
            go_wp2_with fail
            (refine (ref06_inTag (tgD l 0).1 (tgD l 0).2 _).mono ?_; rintro e w1 ⟨rfl, hb1⟩)
            go_wp2_with fail
            go_quiet (fail)
            go_wp2
            go_roundw
            case rel => exact ⟨1, by omega, by go_num, (by repeat (first | exact Below.refl _ _ | apply below_alloc | apply below_drewN | apply below_drew | (refine below_set2 ?_ ?_; (first | (simp; done) | (simp; omega))) | (refine below_step ?_ hb1) | (refine below_step ?_ hb))), below_succ HS.out (tagE_zero HG.out)⟩
            case measure => simp [intOf]; omega
          · obtain ⟨k', rfl⟩ : ∃ k', k = k' + 1 := ⟨k - 1, by omega⟩
            obtain ⟨_, e, hd1, _⟩ := (HR.out.below hb).tag_at k' (by omega)
            cases e
            have ec : ((k' + 1 : Nat) : Int) = (k' : Int) + 1 := by omega
            rw [ec]
            clear ec
            have qi0 : (0 : Int) ≤ (k' : Int) + 1 := by omega
            have qi1 : (k' : Int) + 1 < (l.length : Int) := by omega
            have qi2 : ((k' : Int) + 1).toNat = k' + 1 := by omega
            have qi3 : decide ((k' : Int) + 1 < (l.length : Int)) = true := decide_eq_true (by omega)
            have q4 : decide ((0 : Int) < (k' : Int) + 1) = true := decide_eq_true (by omega)
            have qw : IntKind.i64.wrap (k' : Int) = (k' : Int) := IntWalk.i64_in _ (by omega)
            have qb0 : k' < l.length := by omega
            have qb1 : k' + 1 < l.length := by omega
            go_wp2_with fail
            (refine (ref06_inTag (tgD l (k' + 1)).1 (tgD l (k' + 1)).2 _).mono ?_; rintro e w1 ⟨rfl, hb1⟩)
            have hp1 := cell_below hb1 hc1
            have hd2 := cell_below hb1 hd1
            have qw' : wrap64 (k' : Int) = (k' : Int) := by unfold wrap64; omega
            go_wp2_with fail
            refine start_ (n := 16) (S := fun w' => w'.cell? (ad.add (k' * 2)) = some (.string (tgD l k').1) ∧ w'.cell? (ad.add ((k' + 1) * 2)) = some (.string (tgD l (k' + 1)).1)) (ds := []) #[false, false, false, false, false, false, false, false, false, false, false, false, false, false, false, false] (by kernel_rfl) rfl rfl ⟨hd2, hp1⟩ (fun hHeld => ?_)
            refine pure_ (i := 0) (N := some 19) (v := ?_) (a' := ?_) #[true, false, false, false, false, false, false, false, false, false, false, false, false, false, false, false] rfl rfl (by kernel_rfl) (fun _ _ _ h => h) (Or.inl ⟨by rfl, ?_⟩) ?_ ?_
            rotate_left
            · intro w'
              go_simp
              with_reducible rfl
            rotate_left
            · simp only [Act.put, List.setIfInBounds_toArray, List.set_cons_zero, List.set_cons_succ, i64_w, i32_w]
              rfl
            refine pure_ (i := 1) (N := some 20) (v := ?_) (a' := ?_) #[true, true, false, false, false, false, false, false, false, false, false, false, false, false, false, false] rfl rfl (by kernel_rfl) (fun _ _ _ h => h) (Or.inl ⟨by rfl, ?_⟩) ?_ ?_
            rotate_left
            · intro w'
              go_simp
              with_reducible rfl
            rotate_left
            · simp only [Act.put, List.setIfInBounds_toArray, List.set_cons_zero, List.set_cons_succ, i64_w, i32_w]
              rfl
            refine pure_ (i := 2) (N := some 21) (v := ?_) (a' := ?_) #[true, true, true, false, false, false, false, false, false, false, false, false, false, false, false, false] rfl rfl (by kernel_rfl) (fun _ _ _ h => h) (Or.inl ⟨by rfl, ?_⟩) ?_ ?_
            rotate_left
            · intro w'
              go_simp
              with_reducible rfl
            rotate_left
            · simp only [Act.put, List.setIfInBounds_toArray, List.set_cons_zero, List.set_cons_succ, i64_w, i32_w]
              rfl
            refine pure_ (i := 3) (N := some 22) (v := ?_) (a' := ?_) #[true, true, true, true, false, false, false, false, false, false, false, false, false, false, false, false] rfl rfl (by kernel_rfl) (fun _ _ _ h => h) (Or.inl ⟨by rfl, ?_⟩) ?_ ?_
            rotate_left
            · intro w'
              go_simp
              with_reducible rfl
            rotate_left
            · simp only [Act.put, List.setIfInBounds_toArray, List.set_cons_zero, List.set_cons_succ, i64_w, i32_w]
              rfl
            refine pure_ (i := 4) (N := some 23) (v := ?_) (a' := ?_) #[true, true, true, true, true, false, false, false, false, false, false, false, false, false, false, false] rfl rfl (by kernel_rfl) (fun _ _ _ h => h) (Or.inl ⟨by rfl, ?_⟩) ?_ ?_
            rotate_left
            · intro w'
              go_simp
              with_reducible rfl
            rotate_left
            · simp only [Act.put, List.setIfInBounds_toArray, List.set_cons_zero, List.set_cons_succ, i64_w, i32_w]
              rfl
            refine pure_ (i := 5) (N := some 24) (v := ?_) (a' := ?_) #[true, true, true, true, true, true, false, false, false, false, false, false, false, false, false, false] rfl rfl (by kernel_rfl) (fun _ _ _ h => h) (Or.inl ⟨by rfl, ?_⟩) ?_ ?_
            rotate_left
            · intro w'
              go_simp
              with_reducible rfl
            rotate_left
            · simp only [Act.put, List.setIfInBounds_toArray, List.set_cons_zero, List.set_cons_succ, i64_w, i32_w]
              rfl
            refine pure_ (i := 6) (N := some 25) (v := ?_) (a' := ?_) #[true, true, true, true, true, true, true, false, false, false, false, false, false, false, false, false] rfl rfl (by kernel_rfl) (fun _ _ _ h => h) (Or.inl ⟨by rfl, ?_⟩) ?_ ?_
            rotate_left
            · intro w'
              go_simp
              with_reducible rfl
            rotate_left
            · simp only [Act.put, List.setIfInBounds_toArray, List.set_cons_zero, List.set_cons_succ, i64_w, i32_w]
              rfl
            refine pure_ (i := 7) (N := some 26) (v := ?_) (a' := ?_) #[true, true, true, true, true, true, true, true, false, false, false, false, false, false, false, false] rfl rfl (by kernel_rfl) (fun _ _ _ h => h) (Or.inl ⟨by rfl, ?_⟩) ?_ ?_
            rotate_left
            · intro w'
              go_simp
              with_reducible rfl
            rotate_left
            · simp only [Act.put, List.setIfInBounds_toArray, List.set_cons_zero, List.set_cons_succ, i64_w, i32_w]
              rfl
            refine pure_ (i := 9) (N := some 28) (v := ?_) (a' := ?_) #[true, true, true, true, true, true, true, true, false, true, false, false, false, false, false, false] rfl rfl (by kernel_rfl) (fun _ _ _ h => h) (Or.inl ⟨by rfl, ?_⟩) ?_ ?_
            rotate_left
            · intro w'
              go_simp
              with_reducible rfl
            rotate_left
            · simp only [Act.put, List.setIfInBounds_toArray, List.set_cons_zero, List.set_cons_succ, i64_w, i32_w]
              rfl
            refine pure_ (i := 10) (N := some 29) (v := ?_) (a' := ?_) #[true, true, true, true, true, true, true, true, false, true, true, false, false, false, false, false] rfl rfl (by kernel_rfl) (fun _ _ _ h => h) (Or.inl ⟨by rfl, ?_⟩) ?_ ?_
            rotate_left
            · intro w'
              go_simp
              with_reducible rfl
            rotate_left
            · simp only [Act.put, List.setIfInBounds_toArray, List.set_cons_zero, List.set_cons_succ, i64_w, i32_w]
              rfl
            refine pure_ (i := 11) (N := some 30) (v := ?_) (a' := ?_) #[true, true, true, true, true, true, true, true, false, true, true, true, false, false, false, false] rfl rfl (by kernel_rfl) (fun _ _ _ h => h) (Or.inl ⟨by rfl, ?_⟩) ?_ ?_
            rotate_left
            · intro w'
              go_simp
              with_reducible rfl
            rotate_left
            · simp only [Act.put, List.setIfInBounds_toArray, List.set_cons_zero, List.set_cons_succ, i64_w, i32_w]
              rfl
            refine pure_ (i := 12) (N := some 31) (v := ?_) (a' := ?_) #[true, true, true, true, true, true, true, true, false, true, true, true, true, false, false, false] rfl rfl (by kernel_rfl) (fun _ _ _ h => h) (Or.inl ⟨by rfl, ?_⟩) ?_ ?_
            rotate_left
            · intro w'
              go_simp
              with_reducible rfl
            rotate_left
            · simp only [Act.put, List.setIfInBounds_toArray, List.set_cons_zero, List.set_cons_succ, i64_w, i32_w]
              rfl
            refine take_ (i := 8) (N := some 27) (v := ?_) (a' := ?_) #[true, true, true, true, true, true, true, true, true, true, true, true, true, false, false, false] rfl rfl (by kernel_rfl) (fun _ _ _ h => h) (Or.inl ⟨by rfl, ?_⟩) hHeld ?_ ?_
            rotate_left
            · rintro w' ⟨s0, s1⟩
              go_simp
              with_reducible rfl
            rotate_left
            · simp only [Act.put, List.setIfInBounds_toArray, List.set_cons_zero, List.set_cons_succ, i64_w, i32_w]
              rfl
            refine take_ (i := 13) (N := some 32) (v := ?_) (a' := ?_) #[true, true, true, true, true, true, true, true, true, true, true, true, true, true, false, false] rfl rfl (by kernel_rfl) (fun _ _ _ h => h) (Or.inl ⟨by rfl, ?_⟩) hHeld ?_ ?_
            rotate_left
            · rintro w' ⟨s0, s1⟩
              go_simp
              with_reducible rfl
            rotate_left
            · simp only [Act.put, List.setIfInBounds_toArray, List.set_cons_zero, List.set_cons_succ, i64_w, i32_w]
              rfl
            refine pure_ (i := 14) (N := some 33) (v := ?_) (a' := ?_) #[true, true, true, true, true, true, true, true, true, true, true, true, true, true, true, false] rfl rfl (by kernel_rfl) (fun _ _ _ h => h) (Or.inl ⟨by rfl, ?_⟩) ?_ ?_
            rotate_left
            · intro w'
              go_simp
              with_reducible rfl
            rotate_left
            · simp only [Act.put, List.setIfInBounds_toArray, List.set_cons_zero, List.set_cons_succ, i64_w, i32_w]
              rfl
            refine pure_ (i := 15) (N := some 34) (v := ?_) (a' := ?_) #[true, true, true, true, true, true, true, true, true, true, true, true, true, true, true, true] rfl rfl (by kernel_rfl) (fun _ _ _ h => h) (Or.inl ⟨by rfl, ?_⟩) ?_ ?_
            rotate_left
            · intro w'
              go_simp
              with_reducible rfl
            rotate_left
            · simp only [Act.put, List.setIfInBounds_toArray, List.set_cons_zero, List.set_cons_succ, i64_w, i32_w]
              rfl
            refine done_ (by kernel_rfl) ?_
            clear qi0 qi1 qi2 qi3 q4 qw qw' qb0 qb1
            cases hbk : badK (tgD l k') (tgD l (k' + 1))
            · have HB := Lib.hid hbk
              have hq : (!Op.bytesLess (tgD l k').1.toList (tgD l (k' + 1)).1.toList) = false := (bytes_total _ _).symm.trans hbk
              simp only [hq]
              clear hbk
              go_wp2
              go_roundw
              case rel => exact ⟨k' + 2, by omega, by go_num, (by repeat (first | exact Below.refl _ _ | apply below_alloc | apply below_drewN | apply below_drew | (refine below_set2 ?_ ?_; (first | (simp; done) | (simp; omega))) | (refine below_step ?_ hb1) | (refine below_step ?_ hb))), below_succ HS.out (tagE_ok HG.out HB.out)⟩
              case measure => simp [intOf]; omega
            · have HH := Lib.hid (scan_hit HS.out hlt (tagE_ord HG.out hbk))
              have hq : (!Op.bytesLess (tgD l k').1.toList (tgD l (k' + 1)).1.toList) = true := (bytes_total _ _).symm.trans hbk
              simp only [hq]
              clear hbk
              go_wp2
              go_ret
              exact ⟨ret_int (by rw [HE.out]; exact HH.out.symm), (by repeat (first | exact Below.refl _ _ | apply below_alloc | apply below_drewN | apply below_drew | (refine below_set2 ?_ ?_; (first | (simp; done) | (simp; omega))) | (refine below_step ?_ hb1) | (refine below_step ?_ hb)))⟩
      · obtain rfl : k = l.length := by omega
        go_wp2
        go_ret
        exact ⟨ret_int (by rw [HE.out]; exact (scan_none HS.out).symm), hb⟩
end Go.Proofs.Ytniceoinipffmaa
