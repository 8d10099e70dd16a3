/- Contracts of normal.Places and mapmakerref19.Places: the places of the theme Settle. -/
import Derived.Test.YtniceoinipffmaaNDel
namespace Go.Proofs.Ytniceoinipffmaa
open Go.RowKit Go.Proofs.YtniceoinipffmaaW.PrintLast
set_option linter.unusedVariables false
set_option linter.unusedSimpArgs false

def settleP (x : Place) : Bool := themeZ x.2.2 == 6
def settleZ (ns : List Node) (ws : List Way) (rs : List Rel) : List Place := (placesZ ns ws rs).filter settleP
theorem placesZ_len (ns : List Node) (ws : List Way) (rs : List Rel) : (placesZ ns ws rs).length ≤ ns.length := by
  unfold placesZ; split <;> simp
set_option maxRecDepth 20000 in
theorem normal_Places1 : PredL 36 (fun x => themeZ x.2.2 != 6) := by
  intro ok W x A c hr
  have HR := Lib.hid hr
  clear hr
  obtain ⟨W0, hW⟩ : ∃ W0, W0 = W.alloc (.cells #[.int .i64 x.1, .int .i64 x.2.1.1, .int .i64 x.2.1.2, .slice A x.2.2.length c] 48) := ⟨_, rfl⟩
  have B0 : Below W.heap.size W W0 := by rw [hW]; exact (by repeat (first | exact Below.refl _ _ | apply below_alloc | apply below_drewN | apply below_drew | (refine below_set2 ?_ ?_; (first | (simp; done) | (simp; omega)))))
  subst hW
  go_enter Try.func36, Try.ntmps36
  go_wp2_with fail
  refine (classify_Theme x.2.2 A _ c _ (HR.out.below B0) rfl).mono ?_
  rintro e w1 ⟨rfl, hb1⟩
  go_wp2
  go_ret
  exact ⟨rfl, (by repeat (first | exact Below.refl _ _ | apply below_alloc | apply below_drewN | apply below_drew | (refine below_set2 ?_ ?_; (first | (simp; done) | (simp; omega))) | (refine below_step ?_ hb1)))⟩
theorem enters_places1 : EntersP 36 := enters_num Try.func36 (by kernel_rfl) rfl
set_option maxRecDepth 20000 in
set_option maxHeartbeats 4000000 in
theorem normal_Places {ok : Nat → Prop} (ns : List Node) (ws : List Way) (rs : List Rel) (A1 A2 A3 : Option Addr) (c1 c2 c3 : Nat) (w : World) (h1 : Row Ty.node ok w A1 ns) (h2 : Row Ty.way ok w A2 ws) (h3 : Row Ty.rel ok w A3 rs)
    (q1 : ns.length ≤ 10000) (q2 : ws.length ≤ 10000) (q3 : rs.length ≤ 10000) :
    Calls Try.prog 14 #[.agg #[.slice A1 ns.length c1, .slice A2 ws.length c2, .slice A3 rs.length c3]] w fun e w' => ∃ v, e = .returned v ∧ Own1 Ty.place 48 w.heap.size w' v (settleZ ns ws rs) ∧ Below w.heap.size w w' := by
  have HR1 := Lib.hid h1
  have HR2 := Lib.hid h2
  have HR3 := Lib.hid h3
  clear h1 h2 h3
  have B0 : Below w.heap.size w (w.alloc (.cells #[.slice A1 ns.length c1, .slice A2 ws.length c2, .slice A3 rs.length c3] 26)) := (by repeat (first | exact Below.refl _ _ | apply below_alloc | apply below_drewN | apply below_drew | (refine below_set2 ?_ ?_; (first | (simp; done) | (simp; omega)))))
  go_enter Try.func14, Try.ntmps14
  go_wp2_with fail
  refine (normal_Points ns ws rs A1 A2 A3 c1 c2 c3 _ (HR1.out.below B0) (HR2.out.below B0) (HR3.out.below B0) q1 q2 q3).mono ?_
  rintro e w1 ⟨v, rfl, ho, hb1⟩
  have HO := Lib.hid ho
  have B1 : Below w.heap.size w w1 := (by repeat (first | exact Below.refl _ _ | apply below_alloc | apply below_drewN | apply below_drew | (refine below_set2 ?_ ?_; (first | (simp; done) | (simp; omega))) | (refine below_step ?_ hb1)))
  clear ho hb1
  go_wp2_with fail
  refine (DeleteFunc_place (placesZ ns ws rs) v _ w1 _ _ HO.out normal_Places1 enters_places1).mono ?_
  rintro e w2 ⟨v2, rfl, ho, hk⟩
  have HF : Hid (Own1 Ty.place 48 w.heap.size w2 v2 (settleZ ns ws rs)) := by
    have e1 : (fun x : Place => !(themeZ x.2.2 != 6)) = settleP := by funext x; simp [settleP, bne]
    show Own1 _ _ _ _ _ _
    rw [settleZ, ← e1]
    exact ho.base B0.size
  have B2 : Below w.heap.size w w2 := below_kept B1 hk (fun b hb => by have := (OwnR.lt HO.out b hb).1; have := B0.size; omega)
  clear ho hk
  go_wp2
  go_ret
  exact ⟨_, rfl, HF.out, B2⟩
theorem settle_snoc (l : List Place) (k : Nat) (hk : k < l.length) (h : themeZ (ndD l k).2.2 = 6) : (l.take (k + 1)).filter settleP = (l.take k).filter settleP ++ [ndD l k] := by
  have e2 : [ndD l k].filter settleP = [ndD l k] := by rw [List.filter_cons_of_pos (by simp [settleP, h])]; rfl
  rw [take_snoc l k (0, ((0, 0), [])) hk, List.filter_append]
  exact congrArg _ e2
theorem settle_skip (l : List Place) (k : Nat) (hk : k < l.length) (h : ¬ themeZ (ndD l k).2.2 = 6) : (l.take (k + 1)).filter settleP = (l.take k).filter settleP := by
  have e2 : [ndD l k].filter settleP = [] := by rw [List.filter_cons_of_neg (by simp [settleP, h])]; rfl
  rw [take_snoc l k (0, ((0, 0), [])) hk, List.filter_append, show [l.getD k (0, ((0, 0), []))] = [ndD l k] from rfl, e2, List.append_nil]
set_option maxRecDepth 20000 in
set_option maxHeartbeats 4000000 in
theorem ref19_Places {ok : Nat → Prop} (ns : List Node) (ws : List Way) (rs : List Rel) (A1 A2 A3 : Option Addr) (c1 c2 c3 : Nat) (w : World) (h1 : Row Ty.node ok w A1 ns) (h2 : Row Ty.way ok w A2 ws) (h3 : Row Ty.rel ok w A3 rs)
    (q1 : ns.length ≤ 10000) (q2 : ws.length ≤ 10000) (q3 : rs.length ≤ 10000) :
    Calls Try.prog 15 #[.agg #[.slice A1 ns.length c1, .slice A2 ws.length c2, .slice A3 rs.length c3]] w fun e w' => ∃ v, e = .returned v ∧ Own1 Ty.place 48 w.heap.size w' v (settleZ ns ws rs) ∧ Below w.heap.size w w' := by
  have HR1 := Lib.hid h1
  have HR2 := Lib.hid h2
  have HR3 := Lib.hid h3
  clear h1 h2 h3
  have B0 : Below w.heap.size w (w.alloc (.cells #[.slice A1 ns.length c1, .slice A2 ws.length c2, .slice A3 rs.length c3] 26)) := (by repeat (first | exact Below.refl _ _ | apply below_alloc | apply below_drewN | apply below_drew | (refine below_set2 ?_ ?_; (first | (simp; done) | (simp; omega)))))
  go_enter Try.func15, Try.ntmps15
  go_wp2_with fail
  refine (ref19_Points ns ws rs A1 A2 A3 c1 c2 c3 _ (HR1.out.below B0) (HR2.out.below B0) (HR3.out.below B0) q1 q2 q3).mono ?_
  rintro e w1 ⟨v, rfl, ho, hb1⟩
  have B1 : Below w.heap.size w w1 := (by repeat (first | exact Below.refl _ _ | apply below_alloc | apply below_drewN | apply below_drew | (refine below_set2 ?_ ?_; (first | (simp; done) | (simp; omega))) | (refine below_step ?_ hb1)))
  have hpl := placesZ_len ns ws rs
  have HS : Hid (settleZ ns ws rs = (placesZ ns ws rs).filter settleP) := rfl
  obtain ⟨A, c, rfl, hlc, hr⟩ := ho.reads
  obtain ⟨l, hl⟩ : ∃ l, l = placesZ ns ws rs := ⟨_, rfl⟩
  rw [← hl] at hr hlc hpl HS ⊢
  clear hl ho hb1 HR1 HR2 HR3
  have HL : Hid (Row Ty.place (fun b => b < w1.heap.size) w1 A l) := hr.bnd.mono (fun b hb => hb.2)
  clear hr
  go_wp2
  go_loopw [3, 5] (fun v i wr => ∃ k : Nat, k ≤ l.length ∧ i = .int .i64 k ∧ Below w1.heap.size w1 wr ∧ Own1 Ty.place 48 w1.heap.size wr v ((l.take k).filter settleP)) (fun _ i _ => l.length - (intOf i).toNat)
  case atStart => exact ⟨0, Nat.zero_le _, rfl, Below.refl _ _, OwnR.nil _ _ _ _ _⟩
  case round =>
    obtain ⟨k, hk, rfl, hb, ho⟩ := hrel
    by_cases hlt : k < l.length
    · obtain ⟨ad, A4, c4, rfl, hx1, hx2, hx3, hx4, hl4, hr4⟩ := (HL.out.below hb).node_at k hlt
      have R4 := Lib.hid hr4
      have HO := Lib.hid ho
      have hsz := hb.size
      clear hr4 ho
      go_wp2_with fail
      refine (ref18_Theme (ndD l k).2.2 A4 _ c4 _ R4.out rfl).mono ?_
      rintro e w2 ⟨rfl, hb2⟩
      have hy1 := cell_below hb2 hx1
      have hy2 := cell_below hb2 hx2
      have hy3 := cell_below hb2 hx3
      have hy4 := cell_below hb2 hx4
      have B2 : Below w1.heap.size w1 w2 := (by repeat (first | exact Below.refl _ _ | apply below_alloc | apply below_drewN | apply below_drew | (refine below_set2 ?_ ?_; (first | (simp; done) | (simp; omega))) | (refine below_step ?_ hb2) | (refine below_step ?_ hb)))
      have R42 := Lib.hid (R4.out.below hb2)
      have HO2 := Lib.hid (Own1.below HO.out hb2)
      have hz2 := B2.size
      clear hx1 hx2 hx3 hx4 R4 HO hb2 hb
      by_cases h6 : themeZ (ndD l k).2.2 = 6
      · have RP : Hid (Ty.place.R (fun j => ¬ u3.ownBlock = some j) w2 (ndD l k) #[.int .i64 (ndD l k).1, .int .i64 (ndD l k).2.1.1, .int .i64 (ndD l k).2.1.2, .slice A4 (ndD l k).2.2.length c4].toList) :=
          placeR4 hl4 (R42.out.mono (fun b hb' e => by have := (OwnR.lt HO2.out b e).1; omega))
        have H6 := Lib.hid h6
        have hlen : (((l.take k).filter settleP).length + 1) * 48 ≤ 140737488355328 := by have := List.length_filter_le settleP (l.take k); rw [List.length_take] at this; omega
        have q6 : (themeZ (ndD l k).2.2 == 6) = true := by simp [h6]
        clear h6
        go_wp2_with (first | (at_builtin; refine app_one Ty.place (W := w2) w1.heap.size rfl _ _ 30 48 _ 48 rfl Try.underlying30 infoPlace rfl (by decide) u3 ((l.take k).filter settleP) (ndD l k) [.int .i64 (ndD l k).1, .int .i64 (ndD l k).2.1.1, .int .i64 (ndD l k).2.1.2, .slice A4 (ndD l k).2.2.length c4] _ rfl rfl (by simp) RP.out HO2.out hz2 hlen ?_; intro v1 w4 HO1 hg1 hat1))
        have BZ : Below w1.heap.size w1 w4 := below_own B2 hg1 (fun b e => (HO2.out.lt b e).1)
        have HO4 : Hid (Own1 Ty.place 48 w1.heap.size w4 v1 ((l.take (k + 1)).filter settleP)) := by show Own1 _ _ _ _ _ _; rw [settle_snoc l k hlt H6.out]; exact Own1.of HO1
        clear HO1 hg1 hat1
        go_wp2
        go_roundw
        case rel => exact ⟨k + 1, by omega, by go_num, BZ, HO4.out⟩
        case measure => simp [intOf]; omega
      · have H6 := Lib.hid h6
        have q6 : (themeZ (ndD l k).2.2 == 6) = false := by simp [h6]
        clear h6
        go_wp2
        go_roundw
        case rel => exact ⟨k + 1, by omega, by go_num, B2, by rw [settle_skip l k hlt H6.out]; exact HO2.out⟩
        case measure => simp [intOf]; omega
    · obtain rfl : k = l.length := by omega
      have HO : Hid (Own1 Ty.place 48 w.heap.size wr u3 (settleZ ns ws rs)) := by show Own1 _ _ _ _ _ _; rw [HS.out]; rw [List.take_length] at ho; exact ho.base B1.size
      clear ho
      go_wp2
      go_ret
      exact ⟨_, rfl, HO.out, (by repeat (first | exact Below.refl _ _ | apply below_alloc | apply below_drewN | apply below_drew | (refine below_set2 ?_ ?_; (first | (simp; done) | (simp; omega))) | (refine below_step ?_ hb) | (refine below_step ?_ B1)))⟩
end Go.Proofs.Ytniceoinipffmaa
