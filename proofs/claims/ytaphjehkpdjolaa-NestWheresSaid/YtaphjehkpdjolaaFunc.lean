/- Contracts of slices.IndexFunc, slices.ContainsFunc at points; poly.valid, poly.visit. -/
import Derived.Test.YtaphjehkpdjolaaRing
namespace Go.Proofs.Ytaphjehkpdjolaa
open Go.RowKit
set_option linter.unusedVariables false
set_option linter.unusedSimpArgs false

/-- A function value that answers p at every point of a list, in every later world, and leaves old memory alone. -/
def PredAt (K : Nat) (cap : Array Value) (w : World) (xs : Pts) (p : Pt → Bool) : Prop :=
  ∀ W : World, Below w.heap.size w W → ∀ k, k < xs.length → Calls Try.prog K (#[.agg #[.int .i64 (ptD xs k).1, .int .i64 (ptD xs k).2]] ++ cap) W fun e w' => e = .returned (.bool (p (ptD xs k))) ∧ Below W.heap.size W w'

def EntersP (K : Nat) : Prop := ∀ (args : Array Value) (w : World), (callFunc K args).run Try.prog w = .ok (.enter K args) w
theorem enters_num {K : Nat} {fn : Func} {c : Code} (hf : Try.prog.funcs[K]? = some fn) (hname : (fn.name == "runtime.NumGoroutine") = false) (hb : fn.body = some c) : EntersP K := by
  intro args w
  have h1 : fn.name ≠ "runtime.NumGoroutine" := by simpa using hname
  simp [callFunc, hf, h1, hb]

theorem IndexFunc_pt {ok : Nat → Prop} (xs : Pts) (A : Option Addr) (n c : Nat) (w : World) (K : Nat) (cap : Array Value) (p : Pt → Bool) (hr : Row Ty.pt ok w A xs) (hn : n = xs.length) (hp : PredAt K cap w xs p) (hK : EntersP K) :
    Calls Try.prog 42 #[.slice A n c, .func (.func K) #[] cap] w fun e w' => ∃ i : Int, e = .returned (.int .i64 i) ∧ decide (0 ≤ i) = xs.any p ∧ Below w.heap.size w w' := by
  subst hn
  have hm := hr.len
  have HP := Lib.hid hp
  clear hp
  unfold EntersP at hK
  go_enter Try.func42, Try.ntmps42
  go_wp2
  go_loopw [8] (fun i wr => ∃ k : Nat, k ≤ xs.length ∧ i = .int .i64 k ∧ Below w.heap.size w wr ∧ Hid ((xs.take k).any p = false)) (fun i _ => xs.length - (intOf i).toNat)
  case atStart => exact ⟨0, Nat.zero_le _, rfl, Below.refl _ _, by simp [Hid]⟩
  case round =>
    obtain ⟨k, hk, rfl, hb, hall⟩ := hrel
    by_cases hlt : k < xs.length
    · obtain ⟨ad, rfl, hc1, hc2⟩ := (hr.below hb).pt_at k hlt
      have hz := hb.size
      cases hv : p (ptD xs k)
      · have HV := Lib.hid hv
        go_wp2_with fail
        (refine (HP.out _ hb k hlt).mono ?_; rintro e w1 ⟨rfl, hb1⟩)
        go_wp2
        go_roundw
        case rel => exact ⟨k + 1, by omega, by go_num, (by repeat (first | exact Below.refl _ _ | apply below_alloc | apply below_drewN | apply below_drew | (refine below_set2 ?_ ?_; (first | (simp; done) | (simp; omega))) | (refine below_step ?_ hb1) | (refine below_step ?_ hb))), by show _ = false; rw [take_snoc _ _ (0, 0) hlt, List.any_append, hall.out]; simpa [ptD] using HV.out⟩
        case measure => simp [intOf]; omega
      · have HV := Lib.hid hv
        go_wp2_with fail
        (refine (HP.out _ hb k hlt).mono ?_; rintro e w1 ⟨rfl, hb1⟩)
        go_wp2
        go_ret
        refine ⟨k, rfl, ?_, (by repeat (first | exact Below.refl _ _ | apply below_alloc | apply below_drewN | apply below_drew | (refine below_set2 ?_ ?_; (first | (simp; done) | (simp; omega))) | (refine below_step ?_ hb1) | (refine below_step ?_ hb)))⟩
        have h := HV.out
        rw [ptD_eq hlt] at h
        rw [List.any_eq_true.2 ⟨_, List.getElem_mem hlt, h⟩]; simp
    · obtain rfl : k = xs.length := by omega
      go_wp2
      go_ret
      refine ⟨-1, rfl, ?_, hb⟩
      have := hall.out
      rw [List.take_length] at this
      rw [this]; rfl

theorem ContainsFunc_pt {ok : Nat → Prop} (xs : Pts) (A : Option Addr) (n c : Nat) (w : World) (K : Nat) (cap : Array Value) (p : Pt → Bool) (hr : Row Ty.pt ok w A xs) (hn : n = xs.length) (hp : PredAt K cap w xs p) (hK : EntersP K) :
    Calls Try.prog 29 #[.slice A n c, .func (.func K) #[] cap] w fun e w' => e = .returned (.bool (xs.any p)) ∧ Below w.heap.size w w' := by
  have HR := Lib.hid hr
  have HP := Lib.hid hp
  have HK := Lib.hid hK
  have HN := Lib.hid hn
  clear hp hK hr hn
  go_enter Try.func29, Try.ntmps29
  go_wp2_with fail
  refine (IndexFunc_pt xs A n c w K cap p HR.out HN.out HP.out HK.out).mono ?_
  rintro e w1 ⟨i, rfl, hi, hb1⟩
  have HI := Lib.hid hi
  clear hi
  by_cases h0 : 0 ≤ i
  all_goals
    go_wp2
    go_ret
    exact ⟨ret_bool (by rw [← HI.out] <;> simp [h0]), (by repeat (first | exact Below.refl _ _ | apply below_alloc | apply below_drewN | apply below_drew | (refine below_set2 ?_ ?_; (first | (simp; done) | (simp; omega))) | (refine below_step ?_ hb1)))⟩

theorem polyvalid1 (ax ay : Int) (w : World) :
    Calls Try.prog 53 #[.agg #[.int .i64 ax, .int .i64 ay]] w fun e w' => e = .returned (.bool (!validB (ax, ay))) ∧ Below w.heap.size w w' := by
  go_enter Try.func53, Try.ntmps53
  go_wp2_with (go_at_call 43; (refine (grid_Valid _ _ _).mono ?_; rintro e w1 ⟨rfl, hb1⟩))
  go_ret
  exact ⟨rfl, (by repeat (first | exact Below.refl _ _ | apply below_alloc | apply below_drewN | apply below_drew | (refine below_set2 ?_ ?_; (first | (simp; done) | (simp; omega))) | (refine below_step ?_ hb1)))⟩
theorem any_not {xs : Pts} (p : Pt → Bool) : (!xs.any fun x => !p x) = xs.all p := by
  rw [List.any_eq_not_all_not]; simp

theorem poly_valid {ok : Nat → Prop} (xs : Pts) (A : Option Addr) (n c : Nat) (w : World) (hr : Row Ty.pt ok w A xs) (hn : n = xs.length) :
    Calls Try.prog 39 #[.slice A n c] w fun e w' => e = .returned (.bool (xs.all validB)) ∧ Below w.heap.size w w' := by
  have hp : PredAt 53 #[] w xs (fun x => !validB x) := fun W _ k _ => polyvalid1 _ _ _
  have hK : EntersP 53 := enters_num Try.func53 (by kernel_rfl) rfl
  have HR := Lib.hid hr
  have HP := Lib.hid hp
  have HK := Lib.hid hK
  have HN := Lib.hid hn
  clear hp hK hr hn
  go_enter Try.func39, Try.ntmps39
  go_wp2_with fail
  (refine (ContainsFunc_pt xs A n c w _ _ _ HR.out HN.out HP.out HK.out).mono ?_; rintro e w1 ⟨rfl, hb1⟩)
  go_wp2
  go_ret
  exact ⟨ret_bool (any_not _), (by repeat (first | exact Below.refl _ _ | apply below_alloc | apply below_drewN | apply below_drew | (refine below_set2 ?_ ?_; (first | (simp; done) | (simp; omega))) | (refine below_step ?_ hb1)))⟩

def OnOff (p q : Prop) (b : Bool) : Prop := (b = true ∧ p) ∨ (b = false ∧ q)
/-- visit: a function that is called at each point and its successor while it answers true. -/
theorem poly_visit {ok : Nat → Prop} (xs : Pts) (A : Option Addr) (n c : Nat) (w : World) (K : Nat) (cap : Array Value) (Inv : Nat → World → Prop) (Stop : World → Prop) (hn : n = xs.length) (hK : EntersP K)
    (h0 : Inv 0 w) (hrow : ∀ k W, Inv k W → Row Ty.pt ok W A xs) (hdrew : ∀ k W, Inv k W → Inv k W.drew)
    (hstep : ∀ k W, k < xs.length → Inv k W → Calls Try.prog K (#[.agg #[.int .i64 (ptD xs k).1, .int .i64 (ptD xs k).2], .agg #[.int .i64 (nx xs k).1, .int .i64 (nx xs k).2]] ++ cap) W fun e w' =>
      ∃ b : Bool, e = .returned (.bool b) ∧ OnOff (Inv (k + 1) w') (Stop w') b) :
    Calls Try.prog 40 #[.slice A n c, .func (.func K) #[] cap] w fun e w' => e = .returned (.tuple #[]) ∧ (Inv xs.length w' ∨ Stop w') := by
  subst hn
  have hm := (hrow 0 w h0).len
  have HS := Lib.hid hstep
  have HR := Lib.hid hrow
  have HD := Lib.hid hdrew
  clear hstep hrow hdrew
  unfold EntersP at hK
  go_enter Try.func40, Try.ntmps40
  go_wp2
  go_loopw [7] (fun i wr => ∃ k : Nat, k ≤ xs.length ∧ i = .int .i64 k ∧ Inv k wr) (fun i _ => xs.length - (intOf i).toNat)
  case atStart => exact ⟨0, Nat.zero_le _, rfl, h0⟩
  case round =>
    obtain ⟨k, hk, rfl, hI⟩ := hrel
    by_cases hlt : k < xs.length
    · have hlast : (k + 1) % xs.length < xs.length := Nat.mod_lt _ (by omega)
      obtain ⟨ad, rfl, hc1, hc2⟩ := (HR.out _ _ hI).pt_at k hlt
      obtain ⟨ad', e', he1, he2⟩ := (HR.out _ _ hI).pt_at _ hlast
      cases e'
      have qt : ((k : Int) + 1).tmod (xs.length : Int) = ((k : Int) + 1) % (xs.length : Int) := Int.tmod_eq_emod_of_nonneg (by omega)
      have q1 : 0 ≤ ((k : Int) + 1) % (xs.length : Int) := Int.emod_nonneg _ (by omega)
      have q2 : ((k : Int) + 1) % (xs.length : Int) < (xs.length : Int) := Int.emod_lt_of_pos _ (by omega)
      have q0 : ¬ xs = [] := fun h => by rw [h] at hlt; simp at hlt
      have HI := Lib.hid (HD.out _ _ hI)
      clear hI q1 q2
      have qw : IntKind.i64.wrap ((k : Int) + 1) = (k : Int) + 1 := IntWalk.i64_in _ (by omega)
      have qt : ((k : Int) + 1).tmod (xs.length : Int) = ((k : Int) + 1) % (xs.length : Int) := Int.tmod_eq_emod_of_nonneg (by omega)
      have q1 : 0 ≤ ((k : Int) + 1) % (xs.length : Int) := Int.emod_nonneg _ (by omega)
      have q2 : ((k : Int) + 1) % (xs.length : Int) < (xs.length : Int) := Int.emod_lt_of_pos _ (by omega)
      have qn : (((k : Int) + 1) % (xs.length : Int)).toNat = (k + 1) % xs.length := rfl
      go_wp2_with fail
      go_still_tail 13, (by kernel_rfl)
      change wpList _ _ _ _ _ wr.drew
      clear qw qt q1 q2 qn
      go_wp2_with fail
      refine (HS.out _ _ hlt HI.out).mono ?_
      rintro e w1 ⟨b, rfl, hOO⟩
      rcases hOO with ⟨rfl, hI1⟩ | ⟨rfl, hS1⟩
      · go_wp2
        go_roundw
        case rel => exact ⟨k + 1, by omega, by go_num, hI1⟩
        case measure => simp [intOf]; omega
      · go_wp2
        refine bodyPost_ret (results_none rfl _ _ _) rfl ⟨rfl, .inr hS1⟩
    · obtain rfl : k = xs.length := by omega
      go_wp2
      refine bodyPost_end (results_none rfl _ _ _) rfl ⟨rfl, .inl hI⟩

/-! ### poly.Area2 -/
theorem polyArea1 (px py qx qy s : Int) (g : Nat) (w : World) (hs : OneC w g 3 (.int .i64 s)) (hv : (validB (px, py) && validB (qx, qy)) = true) (hb : -1125899906842624 ≤ s ∧ s ≤ 1125899906842624) :
    Calls Try.prog 41 #[.agg #[.int .i64 px, .int .i64 py], .agg #[.int .i64 qx, .int .i64 qy], .pointer (some ⟨g, 0, none⟩)] w fun e w' => e = .returned (.bool true) ∧ w.grownBy w' (some g) ∧ OneC w' g 3 (.int .i64 (s + side (px, py) (qx, qy))) := by
  have hg := hs.lt
  have hc := hs.cell
  have hf := hs.free
  have HS := Lib.hid hs
  clear hs
  simp only [Bool.and_eq_true] at hv
  obtain ⟨va, vb⟩ := hv
  have hsd := side_bd va vb
  obtain ⟨a1, a2, a3, a4⟩ := valid_bd va
  obtain ⟨b1, b2, b3, b4⟩ := valid_bd vb
  clear va vb
  have HW : Hid (wrap64 (s + wrap64 (wrap64 (px * qy) - wrap64 (py * qx))) = s + side (px, py) (qx, qy)) := by
    show _ = _
    rw [cross_wrap (mul_bd (a := px) (b := qy) (by omega) (by omega) (by omega) (by omega)) (mul_bd (a := py) (b := qx) (by omega) (by omega) (by omega) (by omega))]
    unfold side at *
    simp only at hsd ⊢
    generalize px * qy - py * qx = m at *
    unfold wrap64; omega
  go_enter Try.func41, Try.ntmps41
  go_wp2
  go_ret
  refine ⟨rfl, (by repeat (first | exact grown_refl _ _ | apply grown_alloc | apply grown_drewN | apply grown_drew | exact grown_set (grown_refl _ _) | apply grown_set | (refine grown_setnew ?_ ?_; (first | (simp; done) | (simp; omega))))), ?_⟩
  rw [HW.out]
  have h := HS.out
  exact (by repeat (first | assumption | apply OneC.set | apply OneC.alloc | apply OneC.drewN | apply OneC.drew | exact OneC.new _ _ _ | (refine OneC.other ?_ (by simp; omega) _)))

theorem poly_Area2 {ok : Nat → Prop} (xs : Pts) (A : Option Addr) (n c : Nat) (w : World) (hr : Row Ty.pt ok w A xs) (hn : n = xs.length) (hlen : xs.length ≤ 1048576) :
    Calls Try.prog 26 #[.slice A n c] w fun e w' => e = .returned (.int .i64 (area2 xs)) ∧ Below w.heap.size w w' := by
  have HR := Lib.hid hr
  have HN := Lib.hid hn
  cases hv : xs.all validB
  · have HV := Lib.hid hv
    clear hr hn
    go_enter Try.func26, Try.ntmps26
    go_wp2_with fail
    (refine (poly_valid xs A n c w HR.out HN.out).mono ?_; rintro e w1 ⟨rfl, hb1⟩)
    go_wp2
    go_ret
    exact ⟨ret_int (by simp [area2, HV.out]), (by repeat (first | exact Below.refl _ _ | apply below_alloc | apply below_drewN | apply below_drew | (refine below_set2 ?_ ?_; (first | (simp; done) | (simp; omega))) | (refine below_step ?_ hb1)))⟩
  · have HV := Lib.hid hv
    have hK : EntersP 41 := enters_num Try.func41 (by kernel_rfl) rfl
    have hvis : ∀ w1 : World, Below w.heap.size w w1 → ∀ g, g = w1.heap.size → Calls Try.prog 40 #[.slice A n c, .func (.func 41) #[] #[.pointer (some ⟨g, 0, none⟩)]] (w1.alloc (.cells #[.int .i64 0] 3)) fun e w' => e = .returned (.tuple #[]) ∧ Below w.heap.size w w' ∧ OneC w' g 3 (.int .i64 (sumTo xs xs.length)) := by
      intro w1 hb1 g hg
      subst hg
      refine (poly_visit xs A n c _ _ _ (fun k W => Below w.heap.size w W ∧ OneC W w1.heap.size 3 (.int .i64 (sumTo xs k))) (fun _ => False) HN.out hK ⟨(by repeat (first | exact Below.refl _ _ | apply below_alloc | apply below_drewN | apply below_drew | (refine below_set2 ?_ ?_; (first | (simp; done) | (simp; omega))) | (refine below_step ?_ hb1))), OneC.new _ _ _⟩ (fun k W h => HR.out.below h.1) (fun k W h => ⟨below_drew h.1, h.2⟩) ?_).mono ?_
      · rintro k W hk ⟨hb, hs⟩
        refine (polyArea1 _ _ _ _ _ _ _ hs (by rw [Bool.and_eq_true]; exact ⟨ptD_valid HV.out k, ptD_valid HV.out _⟩) (by have := sumTo_bd HV.out k; omega)).mono ?_
        rintro e w2 ⟨rfl, hg2, hs2⟩
        refine ⟨true, rfl, .inl ⟨rfl, below_grown hb hg2 (fun b e => ?_), hs2⟩⟩
        injection e with e
        subst e
        exact hb1.size
      · rintro e w2 ⟨rfl, h | h⟩
        · exact ⟨rfl, h⟩
        · exact h.elim
    have HVI := Lib.hid hvis
    clear hr hn hvis hK
    go_enter Try.func26, Try.ntmps26
    go_wp2_with fail
    (refine (poly_valid xs A n c w HR.out HN.out).mono ?_; rintro e w1 ⟨rfl, hb1⟩)
    go_wp2_with fail
    refine (HVI.out w1 hb1 _ (by simp)).mono ?_
    rintro e w2 ⟨rfl, hb2, hs2⟩
    have hc2 := hs2.cell
    clear hs2
    go_wp2
    go_ret
    exact ⟨ret_int (by simp [area2, HV.out]), hb2⟩
end Go.Proofs.Ytaphjehkpdjolaa
