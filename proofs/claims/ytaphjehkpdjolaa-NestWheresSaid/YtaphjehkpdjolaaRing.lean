/- Contracts of ref08.All, ref11.Area2. -/
import Derived.Test.YtaphjehkpdjolaaGeo3
namespace Go.Proofs.Ytaphjehkpdjolaa
open Go.RowKit
set_option linter.unusedVariables false
set_option linter.unusedSimpArgs false

theorem ref08_All {ok : Nat → Prop} (xs : Pts) (A : Option Addr) (n c : Nat) (w : World) (hr : Row Ty.pt ok w A xs) (hn : n = xs.length) :
    Calls Try.prog 38 #[.slice A n c] w fun e w' => e = .returned (.bool (xs.all validB)) ∧ Below w.heap.size w w' := by
  subst hn
  have hm := hr.len
  go_enter Try.func38, Try.ntmps38
  go_wp2
  go_loopw [3] (fun i wr => ∃ k : Nat, k ≤ xs.length ∧ i = .int .i64 k ∧ Below w.heap.size w wr ∧ Hid ((xs.take k).all validB = true)) (fun i _ => xs.length - (intOf i).toNat)
  case atStart => exact ⟨0, Nat.zero_le _, rfl, Below.refl _ _, by simp [Hid]⟩
  case round =>
    obtain ⟨k, hk, rfl, hb, hall⟩ := hrel
    by_cases hlt : k < xs.length
    · obtain ⟨ad, rfl, hc1, hc2⟩ := (hr.below hb).pt_at k hlt
      have hz := hb.size
      cases hv : validB (ptD xs k)
      · have hv' : validB ((ptD xs k).1, (ptD xs k).2) = false := hv
        have HV := Lib.hid hv
        clear hv
        go_wp2_with (go_at_call 47; (refine (ref08_Valid _ _ _).mono ?_; rintro e w1 ⟨rfl, hb1⟩))
        go_ret
        exact ⟨ret_bool (all_false _ hlt HV.out).symm, (by repeat (first | exact Below.refl _ _ | apply below_alloc | apply below_drewN | apply below_drew | (refine below_set2 ?_ ?_; (first | (simp; done) | (simp; omega))) | (refine below_step ?_ hb1) | (refine below_step ?_ hb)))⟩
      · have hv' : validB ((ptD xs k).1, (ptD xs k).2) = true := hv
        have HV := Lib.hid hv
        clear hv
        go_wp2_with (go_at_call 47; (refine (ref08_Valid _ _ _).mono ?_; rintro e w1 ⟨rfl, hb1⟩))
        go_roundw
        case rel => exact ⟨k + 1, by omega, by go_num, (by repeat (first | exact Below.refl _ _ | apply below_alloc | apply below_drewN | apply below_drew | (refine below_set2 ?_ ?_; (first | (simp; done) | (simp; omega))) | (refine below_step ?_ hb1) | (refine below_step ?_ hb))), by show _ = true; rw [take_snoc _ _ (0, 0) hlt, List.all_append, hall.out]; simpa [ptD] using HV.out⟩
        case measure => simp [intOf]; omega
    · go_wp2
      go_ret
      exact ⟨ret_bool (by rw [List.take_of_length_le (by omega)] at hall; exact hall.out.symm), hb⟩

theorem cell_al {w : World} {a : Addr} {v : Value} (h : w.cell? a = some v) : (∀ o, (w.alloc o).cell? a = some v) ∧ (∀ o o', ((w.alloc o).alloc o').cell? a = some v) :=
  ⟨fun o => cell_below (below_alloc (Below.refl _ _) _) h, fun o o' => cell_below (below_alloc (below_alloc (Below.refl _ _) _) _) h⟩
/-- twice the signed area: the sum over the ring's sides -/
def side (p q : Pt) : Int := p.1 * q.2 - p.2 * q.1
def nx (xs : Pts) (k : Nat) : Pt := ptD xs ((k + 1) % xs.length)
def sumTo (xs : Pts) : Nat → Int
  | 0 => 0
  | k + 1 => sumTo xs k + side (ptD xs k) (nx xs k)
def area2 (xs : Pts) : Int := if xs.all validB then sumTo xs xs.length else 0
theorem ptD_valid {xs : Pts} (h : xs.all validB = true) (k : Nat) : validB (ptD xs k) = true := by
  unfold ptD
  rw [List.getD_eq_getElem?_getD]
  cases e : xs[k]? with
  | none => rfl
  | some x => exact List.all_eq_true.1 h x (List.mem_of_getElem? e)
theorem side_bd {p q : Pt} (hp : validB p = true) (hq : validB q = true) : -1073741824 ≤ side p q ∧ side p q ≤ 1073741824 := by
  obtain ⟨a1, a2, a3, a4⟩ := valid_bd hp
  obtain ⟨b1, b2, b3, b4⟩ := valid_bd hq
  have h1 := mul_bd (a := p.1) (b := q.2) (by omega) (by omega) (by omega) (by omega)
  have h2 := mul_bd (a := p.2) (b := q.1) (by omega) (by omega) (by omega) (by omega)
  have h3 : 0 ≤ p.1 * q.2 := Int.mul_nonneg a1 b3
  have h4 : 0 ≤ p.2 * q.1 := Int.mul_nonneg a3 b1
  unfold side; omega
theorem sumTo_bd {xs : Pts} (h : xs.all validB = true) (k : Nat) : -1073741824 * (k : Int) ≤ sumTo xs k ∧ sumTo xs k ≤ 1073741824 * (k : Int) := by
  induction k with
  | zero => simp [sumTo]
  | succ k ih =>
    have := side_bd (ptD_valid h k) (ptD_valid h ((k + 1) % xs.length))
    simp only [sumTo, nx]
    omega

theorem sumTo_step {xs : Pts} (h : xs.all validB = true) {k : Nat} (hk : k < xs.length) (hl : xs.length ≤ 1048576) :
    wrap64 (wrap64 (sumTo xs k + wrap64 ((ptD xs k).1 * (ptD xs ((k + 1) % xs.length)).2)) - wrap64 ((ptD xs k).2 * (ptD xs ((k + 1) % xs.length)).1)) = sumTo xs (k + 1) := by
  have hp := ptD_valid h k
  have hq := ptD_valid h ((k + 1) % xs.length)
  obtain ⟨a1, a2, a3, a4⟩ := valid_bd hp
  obtain ⟨b1, b2, b3, b4⟩ := valid_bd hq
  have h1 := mul_bd (a := (ptD xs k).1) (b := (ptD xs ((k + 1) % xs.length)).2) (by omega) (by omega) (by omega) (by omega)
  have h2 := mul_bd (a := (ptD xs k).2) (b := (ptD xs ((k + 1) % xs.length)).1) (by omega) (by omega) (by omega) (by omega)
  have h3 := sumTo_bd h k
  simp only [sumTo, nx, side]
  generalize (ptD xs k).1 * (ptD xs ((k + 1) % xs.length)).2 = m at *
  generalize (ptD xs k).2 * (ptD xs ((k + 1) % xs.length)).1 = n at *
  generalize sumTo xs k = s at *
  have e1 : wrap64 m = m := by unfold wrap64; omega
  have e2 : wrap64 n = n := by unfold wrap64; omega
  have e3 : wrap64 (s + m) = s + m := by unfold wrap64; omega
  rw [e1, e2, e3]
  unfold wrap64; omega

set_option maxHeartbeats 400000 in
theorem ref11_Area2 {ok : Nat → Prop} (xs : Pts) (A : Option Addr) (n c : Nat) (w : World) (hr : Row Ty.pt ok w A xs) (hn : n = xs.length) (hlen : xs.length ≤ 1048576) :
    Calls Try.prog 23 #[.slice A n c] w fun e w' => e = .returned (.int .i64 (area2 xs)) ∧ Below w.heap.size w w' := by
  subst hn
  have hm := hr.len
  cases hv : xs.all validB
  · have HV := Lib.hid hv
    by_cases h0 : 0 < xs.length
    · go_enter Try.func23, Try.ntmps23
      go_wp2
      refine wp_loop_rounds 1 ?_
      rw [rounds_succ]
      go_wp2_with (go_at_call 38; (refine (ref08_All _ _ _ _ _ hr rfl).mono ?_; rintro e w1 ⟨rfl, hb1⟩))
      go_ret
      exact ⟨ret_int (by simp [area2, HV.out]), (by repeat (first | exact Below.refl _ _ | apply below_alloc | apply below_drewN | apply below_drew | (refine below_set2 ?_ ?_; (first | (simp; done) | (simp; omega))) | (refine below_step ?_ hb1)))⟩
    · obtain rfl : xs = [] := List.length_eq_zero_iff.1 (by omega)
      simp at hv
  · have HV := Lib.hid hv
    go_enter Try.func23, Try.ntmps23
    go_wp2
    go_loopw [3, 4] (fun s i wr => ∃ k : Nat, k ≤ xs.length ∧ i = .int .i64 k ∧ s = .int .i64 (sumTo xs k) ∧ Below w.heap.size w wr) (fun _ i _ => xs.length - (intOf i).toNat)
    case atStart => exact ⟨0, Nat.zero_le _, rfl, rfl, Below.refl _ _⟩
    case round =>
      obtain ⟨k, hk, rfl, rfl, hb⟩ := hrel
      by_cases hlt : k < xs.length
      · have hlast : (k + 1) % xs.length < xs.length := Nat.mod_lt _ (by omega)
        obtain ⟨ad, rfl, hc1, hc2⟩ := (hr.below hb).pt_at k hlt
        have hz := hb.size
        go_wp2_with fail
        (refine (ref08_All _ _ _ _ _ (hr.below hb) rfl).mono ?_; rintro e w1 ⟨rfl, hb1⟩; obtain ⟨c_hb1, f_hb1⟩ := bcell hb1; have z_hb1 := hb1.size; (try simp at z_hb1); (try have y0_hb1 : w.heap.size < w1.heap.size := by omega); (try have y1_hb1 : w.heap.size + 1 < w1.heap.size := by omega); (try have y2_hb1 : w.heap.size + 1 + 1 < w1.heap.size := by omega); (try have y3_hb1 : w.heap.size + 1 + 1 + 1 < w1.heap.size := by omega); (try have y4_hb1 : w.heap.size + 1 + 1 + 1 + 1 < w1.heap.size := by omega))
        go_wp2_with fail
        obtain ⟨hd1, hd2⟩ : w1.cell? (ad.add (k * 2)) = some (.int .i64 (ptD xs k).1) ∧ w1.cell? ⟨(ad.add (k * 2)).block, (ad.add (k * 2)).off + 1, none⟩ = some (.int .i64 (ptD xs k).2) := ⟨cell_below hb1 hc1, cell_below hb1 hc2⟩
        obtain ⟨ad', e', he1, he2⟩ := ((hr.below hb).below hb1).pt_at _ hlast
        cases e'
        have q1 : 0 ≤ ((k : Int) + 1) % (xs.length : Int) := Int.emod_nonneg _ (by omega)
        have q2 : ((k : Int) + 1) % (xs.length : Int) < (xs.length : Int) := Int.emod_lt_of_pos _ (by omega)
        have q0 : ¬ xs = [] := fun h => by rw [h] at hlt; simp at hlt
        obtain ⟨ha1, ha2⟩ := cell_al hd1
        obtain ⟨ha3, ha4⟩ := cell_al hd2
        obtain ⟨ha5, ha6⟩ := cell_al he1
        obtain ⟨ha7, ha8⟩ := cell_al he2
        clear c_hb1 f_hb1
        have HS := Lib.hid (sumTo_step HV.out hlt hlen)
        go_region
        all_goals
          go_wp2
          go_roundw
          case rel => exact ⟨k + 1, by omega, by go_num, congrArg (Value.int .i64) HS.out, (by repeat (first | exact Below.refl _ _ | apply below_alloc | apply below_drewN | apply below_drew | (refine below_set2 ?_ ?_; (first | (simp; done) | (simp; omega))) | (refine below_step ?_ hb1) | (refine below_step ?_ hb)))⟩
          case measure => simp [intOf]; omega
      · obtain rfl : k = xs.length := by omega
        by_cases h0 : 0 < xs.length
        · go_wp2
          go_ret
          exact ⟨ret_int (by simp [area2, HV.out]), hb⟩
        · go_wp2
          go_ret
          exact ⟨ret_int (by simp [area2, HV.out]), hb⟩
end Go.Proofs.Ytaphjehkpdjolaa
