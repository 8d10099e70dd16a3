/- Contracts of slices.IndexFunc and slices.ContainsFunc at whole numbers and at members; sets in maps. -/
import Derived.Test.YtniceoinipffmaaNNodes
import Derived.Test.YtniceoinipffmaaMapO
namespace Go.Proofs.Ytniceoinipffmaa
open Go.RowKit Go.Proofs.YtniceoinipffmaaW.PrintLast
set_option linter.unusedVariables false
set_option linter.unusedSimpArgs false

theorem idxP_any {α : Type} (xs : List α) (p : α → Bool) : decide (0 ≤ idxP xs p) = xs.any p := by
  by_cases h : xs.findIdx p < xs.length
  · rw [idxP, if_pos h]
    have : xs.any p = true := by rw [List.any_eq_true]; exact ⟨xs[xs.findIdx p], List.getElem_mem h, List.findIdx_getElem (w := h)⟩
    rw [this]; exact decide_eq_true (by omega)
  · rw [idxP, if_neg h]
    have e : xs.findIdx p = xs.length := Nat.le_antisymm List.findIdx_le_length (Nat.le_of_not_lt h)
    rw [List.findIdx_eq_length] at e
    have : xs.any p = false := by rw [List.any_eq_false]; intro x hx; simp [e x hx]
    rw [this]; rfl
section
variable {κ : Type} [DecidableEq κ]
theorem mapGet_put (vs : List (κ × Value)) (k j : κ) (v : Value) : mapGet (mapPut vs k v) j = if j = k then some v else mapGet vs j := by
  unfold mapPut
  by_cases hi : mapIx vs k < vs.length
  · rw [if_pos hi]
    have hk : (vs.set (mapIx vs k) (k, v)).map Prod.fst = vs.map Prod.fst := by
      rw [List.map_set]
      apply List.ext_getElem?
      intro m
      rw [List.getElem?_set]
      split
      · rename_i hj; subst hj
        rw [if_pos (by rw [List.length_map]; exact hi), List.getElem?_map, List.getElem?_eq_getElem hi]
        simp [mapIx_lt hi]
      · rfl
    have hx : mapIx (vs.set (mapIx vs k) (k, v)) j = mapIx vs j := by rw [mapIx, hk]; rfl
    rw [mapGet, hx, List.getElem?_set]
    by_cases hj : j = k
    · subst hj; rw [if_pos rfl, if_pos rfl, if_pos hi]; rfl
    · rw [if_neg hj]
      split
      · rename_i e
        have h1 := mapIx_lt hi
        have h2 : mapIx vs j < vs.length := by omega
        have h3 := mapIx_lt h2
        exact absurd (by simp only [← e] at h3; rw [← h3, h1]) hj
      · rfl
  · rw [if_neg hi]
    have hnk : k ∉ vs.map Prod.fst := fun hm => hi (by have := List.idxOf_lt_length_of_mem hm; rwa [List.length_map] at this)
    by_cases hj : j = k
    · subst hj
      rw [if_pos rfl, mapGet, mapIx, List.map_append, List.idxOf_append, if_neg hnk]
      simp
    · rw [if_neg hj]
      unfold mapGet mapIx
      rw [List.map_append, List.idxOf_append]
      by_cases hm : j ∈ vs.map Prod.fst
      · rw [if_pos hm, List.getElem?_append_left (by have := List.idxOf_lt_length_of_mem hm; rwa [List.length_map] at this)]
      · rw [if_neg hm]
        have e1 : List.idxOf j (vs.map Prod.fst) = vs.length := by rw [List.idxOf_eq_length hm, List.length_map]
        rw [e1]
        have e2 : List.idxOf j (List.map Prod.fst [(k, v)]) = 1 := by
          simp [List.idxOf_cons, show (k == j) = false by simpa using fun e : k = j => hj e.symm]
        rw [e2]
        simp
        omega
/-- The entries of a map[..]bool in which every key of a list was put. -/
def setM (ids : List κ) : List (κ × Value) := ids.foldl (fun m i => mapPut m i (.bool true)) []
theorem setM_snoc (ids : List κ) (i : κ) : setM (ids ++ [i]) = mapPut (setM ids) i (.bool true) := by simp [setM]
theorem setM_get (ids : List κ) (k : κ) : mapGet (setM ids) k = if k ∈ ids then some (.bool true) else none := by
  have key : ∀ (ids : List κ) (m : List (κ × Value)), mapGet (ids.foldl (fun m i => mapPut m i (.bool true)) m) k = if k ∈ ids then some (.bool true) else mapGet m k := by
    intro ids
    induction ids with
    | nil => intro m; simp
    | cons x xs ih =>
      intro m
      rw [List.foldl_cons, ih, mapGet_put]
      by_cases h1 : k ∈ xs
      · simp [h1]
      · by_cases h2 : k = x <;> simp [h1, h2]
  rw [setM, key]; rfl
theorem setM_val (ids : List κ) (k : κ) : (mapGet (setM ids) k).getD (.bool false) = .bool (decide (k ∈ ids)) := by
  rw [setM_get]; by_cases h : k ∈ ids <;> simp [h]
end

/-- A function value that answers p at every number of a list, in every later world, and leaves old memory alone. -/
def PredI (K : Nat) (cap : Array Value) (w : World) (xs : List Int) (p : Int → Bool) : Prop :=
  ∀ W : World, Below w.heap.size w W → ∀ k, k < xs.length → Calls Try.prog K (#[.int .i64 (inD xs k)] ++ cap) W fun e w' => e = .returned (.bool (p (inD xs k))) ∧ Below W.heap.size W w'
theorem IndexFunc_int {ok : Nat → Prop} (xs : List Int) (A : Option Addr) (n c : Nat) (w : World) (K : Nat) (cap : Array Value) (p : Int → Bool) (hr : Row Ty.i64 ok w A xs) (hn : n = xs.length) (hp : PredI K cap w xs p) (hK : EntersP K) :
    Calls Try.prog 92 #[.slice A n c, .func (.func K) #[] cap] w fun e w' => e = .returned (.int .i64 (idxP xs p)) ∧ Below w.heap.size w w' := by
  subst hn
  have hm := hr.len
  have HP := Lib.hid hp
  clear hp
  unfold EntersP at hK
  go_enter Try.func92, Try.ntmps92
  go_wp2
  go_loopw [8] (fun i wr => ∃ k : Nat, k ≤ xs.length ∧ i = .int .i64 k ∧ Below w.heap.size w wr ∧ Hid (∀ j, j < k → p (inD xs j) = false)) (fun i _ => xs.length - (intOf i).toNat)
  case atStart => exact ⟨0, Nat.zero_le _, rfl, Below.refl _ _, fun j hj => absurd hj (Nat.not_lt_zero _)⟩
  case round =>
    obtain ⟨k, hk, rfl, hb, hall⟩ := hrel
    by_cases hlt : k < xs.length
    · obtain ⟨ad, rfl, hc1⟩ := (hr.below hb).int_at k hlt
      have hz := hb.size
      cases hv : p (inD xs k)
      · have HV := Lib.hid hv
        go_wp2_with fail
        (refine (HP.out _ hb k hlt).mono ?_; rintro e w1 ⟨rfl, hb1⟩)
        go_wp2
        go_roundw
        case rel => exact ⟨k + 1, by omega, by go_num, (by repeat (first | exact Below.refl _ _ | apply below_alloc | apply below_drewN | apply below_drew | (refine below_set2 ?_ ?_; (first | (simp; done) | (simp; omega))) | (refine below_step ?_ hb1) | (refine below_step ?_ hb))), all_succ hall.out HV.out⟩
        case measure => simp [intOf]; omega
      · have HV := Lib.hid hv
        go_wp2_with fail
        (refine (HP.out _ hb k hlt).mono ?_; rintro e w1 ⟨rfl, hb1⟩)
        go_wp2
        go_ret
        exact ⟨ret_int (idxP_hit (0 : Int) hlt hall.out HV.out).symm, (by repeat (first | exact Below.refl _ _ | apply below_alloc | apply below_drewN | apply below_drew | (refine below_set2 ?_ ?_; (first | (simp; done) | (simp; omega))) | (refine below_step ?_ hb1) | (refine below_step ?_ hb)))⟩
    · obtain rfl : k = xs.length := by omega
      go_wp2
      go_ret
      exact ⟨ret_int (idxP_none (0 : Int) hall.out).symm, hb⟩
theorem ContainsFunc_int {ok : Nat → Prop} (xs : List Int) (A : Option Addr) (n c : Nat) (w : World) (K : Nat) (cap : Array Value) (p : Int → Bool) (hr : Row Ty.i64 ok w A xs) (hn : n = xs.length) (hp : PredI K cap w xs p) (hK : EntersP K) :
    Calls Try.prog 70 #[.slice A n c, .func (.func K) #[] cap] w fun e w' => e = .returned (.bool (xs.any p)) ∧ Below w.heap.size w w' := by
  have HC := Lib.hid (IndexFunc_int xs A n c w K cap p hr hn hp hK)
  have HQ := Lib.hid (idxP_any xs p)
  clear hr hp hK
  obtain ⟨z, hz⟩ : ∃ z, z = idxP xs p := ⟨_, rfl⟩
  rw [← hz] at HC HQ
  clear hz hn
  go_enter Try.func70, Try.ntmps70
  go_wp2_with fail
  (refine (HC.out).mono ?_; rintro e w1 ⟨rfl, hb1⟩)
  go_wp2
  go_ret
  exact ⟨ret_bool HQ.out, hb1⟩

/-- A function value that answers p at every member of a list, in every later world, and leaves old memory alone. -/
def PredM (K : Nat) (pre : Array Value) (cap : Array Value) (w : World) (xs : List Mem) (p : Mem → Bool) : Prop :=
  ∀ W : World, Below w.heap.size w W → ∀ k, k < xs.length → Calls Try.prog K (pre ++ #[.agg #[.int .i64 (meD xs k).1.1, .int .i64 (meD xs k).1.2, .string (meD xs k).2]] ++ cap) W fun e w' => e = .returned (.bool (p (meD xs k))) ∧ Below W.heap.size W w'
theorem IndexFunc_mem {ok : Nat → Prop} (xs : List Mem) (A : Option Addr) (n c : Nat) (w : World) (K : Nat) (pre : Array Value) (cap : Array Value) (p : Mem → Bool) (hr : Row Ty.mem ok w A xs) (hn : n = xs.length) (hp : PredM K pre cap w xs p) (hK : EntersP K) :
    Calls Try.prog 93 #[.slice A n c, .func (.func K) pre cap] w fun e w' => e = .returned (.int .i64 (idxP xs p)) ∧ Below w.heap.size w w' := by
  subst hn
  have hm := hr.len
  have HP := Lib.hid hp
  clear hp
  unfold EntersP at hK
  go_enter Try.func93, Try.ntmps93
  go_wp2
  go_loopw [8] (fun i wr => ∃ k : Nat, k ≤ xs.length ∧ i = .int .i64 k ∧ Below w.heap.size w wr ∧ Hid (∀ j, j < k → p (meD xs j) = false)) (fun i _ => xs.length - (intOf i).toNat)
  case atStart => exact ⟨0, Nat.zero_le _, rfl, Below.refl _ _, fun j hj => absurd hj (Nat.not_lt_zero _)⟩
  case round =>
    obtain ⟨k, hk, rfl, hb, hall⟩ := hrel
    by_cases hlt : k < xs.length
    · obtain ⟨ad, rfl, hc1, hc2, hc3⟩ := (hr.below hb).mem_at k hlt
      have hz := hb.size
      cases hv : p (meD xs k)
      · have HV := Lib.hid hv
        go_wp2_with fail
        (refine (HP.out _ hb k hlt).mono ?_; rintro e w1 ⟨rfl, hb1⟩)
        go_wp2
        go_roundw
        case rel => exact ⟨k + 1, by omega, by go_num, (by repeat (first | exact Below.refl _ _ | apply below_alloc | apply below_drewN | apply below_drew | (refine below_set2 ?_ ?_; (first | (simp; done) | (simp; omega))) | (refine below_step ?_ hb1) | (refine below_step ?_ hb))), all_succ hall.out HV.out⟩
        case measure => simp [intOf]; omega
      · have HV := Lib.hid hv
        go_wp2_with fail
        (refine (HP.out _ hb k hlt).mono ?_; rintro e w1 ⟨rfl, hb1⟩)
        go_wp2
        go_ret
        exact ⟨ret_int (idxP_hit ((0, 0), ByteArray.empty) hlt hall.out HV.out).symm, (by repeat (first | exact Below.refl _ _ | apply below_alloc | apply below_drewN | apply below_drew | (refine below_set2 ?_ ?_; (first | (simp; done) | (simp; omega))) | (refine below_step ?_ hb1) | (refine below_step ?_ hb)))⟩
    · obtain rfl : k = xs.length := by omega
      go_wp2
      go_ret
      exact ⟨ret_int (idxP_none ((0, 0), ByteArray.empty) hall.out).symm, hb⟩
theorem ContainsFunc_mem {ok : Nat → Prop} (xs : List Mem) (A : Option Addr) (n c : Nat) (w : World) (K : Nat) (pre : Array Value) (cap : Array Value) (p : Mem → Bool) (hr : Row Ty.mem ok w A xs) (hn : n = xs.length) (hp : PredM K pre cap w xs p) (hK : EntersP K) :
    Calls Try.prog 73 #[.slice A n c, .func (.func K) pre cap] w fun e w' => e = .returned (.bool (xs.any p)) ∧ Below w.heap.size w w' := by
  have HC := Lib.hid (IndexFunc_mem xs A n c w K pre cap p hr hn hp hK)
  have HQ := Lib.hid (idxP_any xs p)
  clear hr hp hK
  obtain ⟨z, hz⟩ : ∃ z, z = idxP xs p := ⟨_, rfl⟩
  rw [← hz] at HC HQ
  clear hz hn
  go_enter Try.func73, Try.ntmps73
  go_wp2_with fail
  (refine (HC.out).mono ?_; rintro e w1 ⟨rfl, hb1⟩)
  go_wp2
  go_ret
  exact ⟨ret_bool HQ.out, hb1⟩
end Go.Proofs.Ytniceoinipffmaa
