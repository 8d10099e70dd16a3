/- Contract of noding.canon. -/
import Derived.Test.YtlmjciajpjdilaaTOwn
namespace Go.Proofs.Ytlmjciajpjdilaa
open Go.RowKit Go.Proofs.YtlmjciajpjdilaaW.PrintLast
set_option linter.unusedVariables false
set_option linter.unusedSimpArgs false

theorem canon_snoc (l : Sgs) (k : Nat) (h : k < l.length) : canonZ (l.take (k + 1)) = canonZ (l.take k) ++ (if goodB (sgD l k) = true then [ofS (sgD l k)] else []) := by
  unfold canonZ
  rw [take_snoc l k ((0, 0), (0, 0)) h, List.filter_append, List.map_append]
  congr 1
  show List.map ofS ([sgD l k].filter goodB) = _
  by_cases hg : goodB (sgD l k) = true
  · rw [if_pos hg, List.filter_cons_of_pos hg]; rfl
  · rw [if_neg hg, List.filter_cons_of_neg hg]; rfl
theorem canon_le (l : Sgs) : (canonZ l).length ≤ l.length := by unfold canonZ; rw [List.length_map]; exact List.length_filter_le _ _
set_option maxHeartbeats 1000000 in
theorem noding_canon {ok : Nat → Prop} (l : Sgs) (A : Option Addr) (n c : Nat) (w : World) (hr : Row Ty.sg ok w A l) (hn : n = l.length) (hlen : l.length ≤ 1000000) :
    Calls Try.prog 43 #[.slice A n c] w fun e w' => ∃ v, e = .returned v ∧ Own1 Ty.sg 27 w.heap.size w' v (canonZ l) ∧ Below w.heap.size w w' := by
  subst hn
  have HR := Lib.hid hr
  clear hr
  go_enter Try.func43, Try.ntmps43
  go_wp2
  go_loopw [3, 8] (fun v i wr => ∃ k : Nat, k ≤ l.length ∧ i = .int .i64 k ∧ Below w.heap.size w wr ∧ Own1 Ty.sg 27 w.heap.size wr v (canonZ (l.take k))) (fun _ i _ => l.length - (intOf i).toNat)
  case atStart => exact ⟨0, Nat.zero_le _, rfl, Below.refl _ _, OwnR.nil _ _ _ _ _⟩
  case round =>
    obtain ⟨k, hk, rfl, BW, ho⟩ := hrel
    by_cases hlt : k < l.length
    · have HRk := Lib.hid (HR.out.below BW)
      obtain ⟨ad, rfl, hx0, hx1, hx2, hx3⟩ := HRk.out.sg_at k hlt
      have HO := Lib.hid ho
      have HS := Lib.hid (canon_snoc l k hlt)
      have HL : Hid (((canonZ (l.take k)).length + 1) * 32 ≤ 140737488355328) := by
        have := canon_le (l.take k)
        rw [List.length_take] at this
        show _ ≤ _
        omega
      have hsz := BW.size
      clear ho HRk
      obtain ⟨s, hs⟩ : ∃ s, s = sgD l k := ⟨_, rfl⟩
      rw [← hs] at hx0 hx1 hx2 hx3 HS
      clear hs
      obtain ⟨⟨a1, a2⟩, ⟨b1, b2⟩⟩ := s
      simp only at hx0 hx1 hx2 hx3
      by_cases e0 : (a1, a2) = (b1, b2)
      · obtain ⟨e1, e2⟩ := Prod.mk.inj e0
        subst e1 e2
        have HS2 : Hid (canonZ (l.take (k + 1)) = canonZ (l.take k)) := Lib.hid (by rw [HS.out, if_neg (by simp [goodB]), List.append_nil])
        clear HS e0
        go_wp2
        go_roundw
        case rel => exact ⟨k + 1, by omega, by go_num, (by repeat (first | exact Below.refl _ _ | apply below_alloc | apply below_drewN | apply below_drew | (refine below_set2 ?_ ?_; (first | (simp; done) | (simp; omega))) | (refine below_step ?_ BW))), by rw [HS2.out]; exact Own1.below HO.out (by repeat (first | exact Below.refl _ _ | apply below_alloc | apply below_drewN | apply below_drew | (refine below_set2 ?_ ?_; (first | (simp; done) | (simp; omega)))))⟩
        case measure => simp [intOf]; omega
      · have HN : Hid (¬ ((a1, a2) : Pt) = (b1, b2)) := e0
        by_cases e1 : a1 = b1
        · have e2 : ¬ a2 = b2 := fun e => e0 (by rw [e1, e])
          clear e0
          subst e1
          cases va : validB (a1, a2)
          · have HS2 : Hid (canonZ (l.take (k + 1)) = canonZ (l.take k)) := Lib.hid (by rw [HS.out, if_neg (by simp [goodB, va]), List.append_nil])
            clear HS
            go_wp2_with fail
            refine (grid_Valid _ _ _).mono ?_
            rintro e w1 ⟨rfl, hb1⟩
            rw [va]
            go_wp2
            go_roundw
            case rel => exact ⟨k + 1, by omega, by go_num, (by repeat (first | exact Below.refl _ _ | apply below_alloc | apply below_drewN | apply below_drew | (refine below_set2 ?_ ?_; (first | (simp; done) | (simp; omega))) | (refine below_step ?_ hb1) | (refine below_step ?_ BW))), by rw [HS2.out]; exact Own1.below HO.out (by repeat (first | exact Below.refl _ _ | apply below_alloc | apply below_drewN | apply below_drew | (refine below_set2 ?_ ?_; (first | (simp; done) | (simp; omega))) | (refine below_step ?_ hb1)))⟩
            case measure => simp [intOf]; omega
          · cases vb : validB (a1, b2)
            · have HS2 : Hid (canonZ (l.take (k + 1)) = canonZ (l.take k)) := Lib.hid (by rw [HS.out, if_neg (by simp [goodB, vb]), List.append_nil])
              clear HS
              go_wp2_with fail
              (refine (grid_Valid _ _ _).mono ?_; rintro e w1 ⟨rfl, hb1⟩; obtain ⟨c_hb1, f_hb1⟩ := bcell hb1; have z_hb1 := hb1.size; (try simp at z_hb1); (try have y0_hb1 : wr.heap.size < w1.heap.size := by omega); (try have y1_hb1 : wr.heap.size + 1 < w1.heap.size := by omega); (try have y2_hb1 : wr.heap.size + 1 + 1 < w1.heap.size := by omega); (try have y3_hb1 : wr.heap.size + 1 + 1 + 1 < w1.heap.size := by omega); (try have y4_hb1 : wr.heap.size + 1 + 1 + 1 + 1 < w1.heap.size := by omega))
              rw [va]
              go_wp2_with fail
              (refine (grid_Valid _ _ _).mono ?_; rintro e w2 ⟨rfl, hb2⟩; obtain ⟨c_hb2, f_hb2⟩ := bcell hb2; have z_hb2 := hb2.size; (try simp at z_hb2); (try have y0_hb2 : wr.heap.size < w2.heap.size := by omega); (try have y1_hb2 : wr.heap.size + 1 < w2.heap.size := by omega); (try have y2_hb2 : wr.heap.size + 1 + 1 < w2.heap.size := by omega); (try have y3_hb2 : wr.heap.size + 1 + 1 + 1 < w2.heap.size := by omega); (try have y4_hb2 : wr.heap.size + 1 + 1 + 1 + 1 < w2.heap.size := by omega))
              rw [vb]
              go_wp2
              go_roundw
              case rel => exact ⟨k + 1, by omega, by go_num, (by repeat (first | exact Below.refl _ _ | apply below_alloc | apply below_drewN | apply below_drew | (refine below_set2 ?_ ?_; (first | (simp; done) | (simp; omega))) | (refine below_step ?_ hb2) | (refine below_step ?_ hb1) | (refine below_step ?_ BW))), by rw [HS2.out]; exact Own1.below HO.out (by repeat (first | exact Below.refl _ _ | apply below_alloc | apply below_drewN | apply below_drew | (refine below_set2 ?_ ?_; (first | (simp; done) | (simp; omega))) | (refine below_step ?_ hb2) | (refine below_step ?_ hb1)))⟩
              case measure => simp [intOf]; omega
            · have HS2 : Hid (canonZ (l.take (k + 1)) = canonZ (l.take k) ++ [ofS ((a1, a2), (a1, b2))]) := Lib.hid (by rw [HS.out, if_pos (by show (decide (_ ≠ _) && (validB (a1, a2) && validB (a1, b2))) = true; rw [va, vb, Bool.and_true, Bool.and_true]; exact decide_eq_true HN.out)])
              clear HS
              go_wp2_with fail
              (refine (grid_Valid _ _ _).mono ?_; rintro e w1 ⟨rfl, hb1⟩; obtain ⟨c_hb1, f_hb1⟩ := bcell hb1; have z_hb1 := hb1.size; (try simp at z_hb1); (try have y0_hb1 : wr.heap.size < w1.heap.size := by omega); (try have y1_hb1 : wr.heap.size + 1 < w1.heap.size := by omega); (try have y2_hb1 : wr.heap.size + 1 + 1 < w1.heap.size := by omega); (try have y3_hb1 : wr.heap.size + 1 + 1 + 1 < w1.heap.size := by omega); (try have y4_hb1 : wr.heap.size + 1 + 1 + 1 + 1 < w1.heap.size := by omega))
              rw [va]
              go_wp2_with fail
              (refine (grid_Valid _ _ _).mono ?_; rintro e w2 ⟨rfl, hb2⟩; obtain ⟨c_hb2, f_hb2⟩ := bcell hb2; have z_hb2 := hb2.size; (try simp at z_hb2); (try have y0_hb2 : wr.heap.size < w2.heap.size := by omega); (try have y1_hb2 : wr.heap.size + 1 < w2.heap.size := by omega); (try have y2_hb2 : wr.heap.size + 1 + 1 < w2.heap.size := by omega); (try have y3_hb2 : wr.heap.size + 1 + 1 + 1 < w2.heap.size := by omega); (try have y4_hb2 : wr.heap.size + 1 + 1 + 1 + 1 < w2.heap.size := by omega))
              rw [vb]
              go_wp2_with fail
              (refine (seg_Of _ _ _ _ _).mono ?_; rintro e w3 ⟨rfl, hb3⟩; obtain ⟨c_hb3, f_hb3⟩ := bcell hb3; have z_hb3 := hb3.size; (try simp at z_hb3); (try have y0_hb3 : wr.heap.size < w3.heap.size := by omega); (try have y1_hb3 : wr.heap.size + 1 < w3.heap.size := by omega); (try have y2_hb3 : wr.heap.size + 1 + 1 < w3.heap.size := by omega); (try have y3_hb3 : wr.heap.size + 1 + 1 + 1 < w3.heap.size := by omega); (try have y4_hb3 : wr.heap.size + 1 + 1 + 1 + 1 < w3.heap.size := by omega))
              have B3 : Below wr.heap.size wr w3 := (by repeat (first | exact Below.refl _ _ | apply below_alloc | apply below_drewN | apply below_drew | (refine below_set2 ?_ ?_; (first | (simp; done) | (simp; omega))) | (refine below_step ?_ hb3) | (refine below_step ?_ hb2) | (refine below_step ?_ hb1)))
              have HO3 := Lib.hid (Own1.below HO.out B3)
              have hs3 := B3.size
              clear c_hb1 c_hb2 c_hb3 f_hb1 f_hb2 f_hb3 HO
              go_wp2_with (at_builtin; refine app_one Ty.sg (W := w3) w.heap.size rfl _ _ 22 27 _ 32 rfl Try.underlying22 infoSg rfl (by decide) u3 (canonZ (l.take k)) (ofS ((a1, a2), (a1, b2))) _ _ rfl rfl rfl rfl HO3.out (by omega) HL.out ?_; intro v1 w4 HO1 hg1 hat1)
              have BZ : Below w.heap.size w w4 := below_own (by repeat (first | exact Below.refl _ _ | apply below_alloc | apply below_drewN | apply below_drew | (refine below_set2 ?_ ?_; (first | (simp; done) | (simp; omega))) | (refine below_step ?_ B3) | (refine below_step ?_ BW))) hg1 (fun b e => (OwnR.lt HO3.out b e).1)
              have HO4 := Lib.hid (Own1.of HO1)
              clear HO1 hg1 hat1
              go_wp2
              go_roundw
              case rel => exact ⟨k + 1, by omega, by go_num, BZ, by rw [HS2.out]; exact HO4.out⟩
              case measure => simp [intOf]; omega
        · clear e0
          cases va : validB (a1, a2)
          · have HS2 : Hid (canonZ (l.take (k + 1)) = canonZ (l.take k)) := Lib.hid (by rw [HS.out, if_neg (by simp [goodB, va]), List.append_nil])
            clear HS
            go_wp2_with fail
            refine (grid_Valid _ _ _).mono ?_
            rintro e w1 ⟨rfl, hb1⟩
            rw [va]
            go_wp2
            go_roundw
            case rel => exact ⟨k + 1, by omega, by go_num, (by repeat (first | exact Below.refl _ _ | apply below_alloc | apply below_drewN | apply below_drew | (refine below_set2 ?_ ?_; (first | (simp; done) | (simp; omega))) | (refine below_step ?_ hb1) | (refine below_step ?_ BW))), by rw [HS2.out]; exact Own1.below HO.out (by repeat (first | exact Below.refl _ _ | apply below_alloc | apply below_drewN | apply below_drew | (refine below_set2 ?_ ?_; (first | (simp; done) | (simp; omega))) | (refine below_step ?_ hb1)))⟩
            case measure => simp [intOf]; omega
          · cases vb : validB (b1, b2)
            · have HS2 : Hid (canonZ (l.take (k + 1)) = canonZ (l.take k)) := Lib.hid (by rw [HS.out, if_neg (by simp [goodB, vb]), List.append_nil])
              clear HS
              go_wp2_with fail
              (refine (grid_Valid _ _ _).mono ?_; rintro e w1 ⟨rfl, hb1⟩; obtain ⟨c_hb1, f_hb1⟩ := bcell hb1; have z_hb1 := hb1.size; (try simp at z_hb1); (try have y0_hb1 : wr.heap.size < w1.heap.size := by omega); (try have y1_hb1 : wr.heap.size + 1 < w1.heap.size := by omega); (try have y2_hb1 : wr.heap.size + 1 + 1 < w1.heap.size := by omega); (try have y3_hb1 : wr.heap.size + 1 + 1 + 1 < w1.heap.size := by omega); (try have y4_hb1 : wr.heap.size + 1 + 1 + 1 + 1 < w1.heap.size := by omega))
              rw [va]
              go_wp2_with fail
              (refine (grid_Valid _ _ _).mono ?_; rintro e w2 ⟨rfl, hb2⟩; obtain ⟨c_hb2, f_hb2⟩ := bcell hb2; have z_hb2 := hb2.size; (try simp at z_hb2); (try have y0_hb2 : wr.heap.size < w2.heap.size := by omega); (try have y1_hb2 : wr.heap.size + 1 < w2.heap.size := by omega); (try have y2_hb2 : wr.heap.size + 1 + 1 < w2.heap.size := by omega); (try have y3_hb2 : wr.heap.size + 1 + 1 + 1 < w2.heap.size := by omega); (try have y4_hb2 : wr.heap.size + 1 + 1 + 1 + 1 < w2.heap.size := by omega))
              rw [vb]
              go_wp2
              go_roundw
              case rel => exact ⟨k + 1, by omega, by go_num, (by repeat (first | exact Below.refl _ _ | apply below_alloc | apply below_drewN | apply below_drew | (refine below_set2 ?_ ?_; (first | (simp; done) | (simp; omega))) | (refine below_step ?_ hb2) | (refine below_step ?_ hb1) | (refine below_step ?_ BW))), by rw [HS2.out]; exact Own1.below HO.out (by repeat (first | exact Below.refl _ _ | apply below_alloc | apply below_drewN | apply below_drew | (refine below_set2 ?_ ?_; (first | (simp; done) | (simp; omega))) | (refine below_step ?_ hb2) | (refine below_step ?_ hb1)))⟩
              case measure => simp [intOf]; omega
            · have HS2 : Hid (canonZ (l.take (k + 1)) = canonZ (l.take k) ++ [ofS ((a1, a2), (b1, b2))]) := Lib.hid (by rw [HS.out, if_pos (by show (decide (_ ≠ _) && (validB (a1, a2) && validB (b1, b2))) = true; rw [va, vb, Bool.and_true, Bool.and_true]; exact decide_eq_true HN.out)])
              clear HS
              go_wp2_with fail
              (refine (grid_Valid _ _ _).mono ?_; rintro e w1 ⟨rfl, hb1⟩; obtain ⟨c_hb1, f_hb1⟩ := bcell hb1; have z_hb1 := hb1.size; (try simp at z_hb1); (try have y0_hb1 : wr.heap.size < w1.heap.size := by omega); (try have y1_hb1 : wr.heap.size + 1 < w1.heap.size := by omega); (try have y2_hb1 : wr.heap.size + 1 + 1 < w1.heap.size := by omega); (try have y3_hb1 : wr.heap.size + 1 + 1 + 1 < w1.heap.size := by omega); (try have y4_hb1 : wr.heap.size + 1 + 1 + 1 + 1 < w1.heap.size := by omega))
              rw [va]
              go_wp2_with fail
              (refine (grid_Valid _ _ _).mono ?_; rintro e w2 ⟨rfl, hb2⟩; obtain ⟨c_hb2, f_hb2⟩ := bcell hb2; have z_hb2 := hb2.size; (try simp at z_hb2); (try have y0_hb2 : wr.heap.size < w2.heap.size := by omega); (try have y1_hb2 : wr.heap.size + 1 < w2.heap.size := by omega); (try have y2_hb2 : wr.heap.size + 1 + 1 < w2.heap.size := by omega); (try have y3_hb2 : wr.heap.size + 1 + 1 + 1 < w2.heap.size := by omega); (try have y4_hb2 : wr.heap.size + 1 + 1 + 1 + 1 < w2.heap.size := by omega))
              rw [vb]
              go_wp2_with fail
              (refine (seg_Of _ _ _ _ _).mono ?_; rintro e w3 ⟨rfl, hb3⟩; obtain ⟨c_hb3, f_hb3⟩ := bcell hb3; have z_hb3 := hb3.size; (try simp at z_hb3); (try have y0_hb3 : wr.heap.size < w3.heap.size := by omega); (try have y1_hb3 : wr.heap.size + 1 < w3.heap.size := by omega); (try have y2_hb3 : wr.heap.size + 1 + 1 < w3.heap.size := by omega); (try have y3_hb3 : wr.heap.size + 1 + 1 + 1 < w3.heap.size := by omega); (try have y4_hb3 : wr.heap.size + 1 + 1 + 1 + 1 < w3.heap.size := by omega))
              have B3 : Below wr.heap.size wr w3 := (by repeat (first | exact Below.refl _ _ | apply below_alloc | apply below_drewN | apply below_drew | (refine below_set2 ?_ ?_; (first | (simp; done) | (simp; omega))) | (refine below_step ?_ hb3) | (refine below_step ?_ hb2) | (refine below_step ?_ hb1)))
              have HO3 := Lib.hid (Own1.below HO.out B3)
              have hs3 := B3.size
              clear c_hb1 c_hb2 c_hb3 f_hb1 f_hb2 f_hb3 HO
              go_wp2_with (at_builtin; refine app_one Ty.sg (W := w3) w.heap.size rfl _ _ 22 27 _ 32 rfl Try.underlying22 infoSg rfl (by decide) u3 (canonZ (l.take k)) (ofS ((a1, a2), (b1, b2))) _ _ rfl rfl rfl rfl HO3.out (by omega) HL.out ?_; intro v1 w4 HO1 hg1 hat1)
              have BZ : Below w.heap.size w w4 := below_own (by repeat (first | exact Below.refl _ _ | apply below_alloc | apply below_drewN | apply below_drew | (refine below_set2 ?_ ?_; (first | (simp; done) | (simp; omega))) | (refine below_step ?_ B3) | (refine below_step ?_ BW))) hg1 (fun b e => (OwnR.lt HO3.out b e).1)
              have HO4 := Lib.hid (Own1.of HO1)
              clear HO1 hg1 hat1
              go_wp2
              go_roundw
              case rel => exact ⟨k + 1, by omega, by go_num, BZ, by rw [HS2.out]; exact HO4.out⟩
              case measure => simp [intOf]; omega
    · obtain rfl : k = l.length := by omega
      rw [List.take_length] at ho
      have HO := Lib.hid ho
      clear ho
      go_wp2
      go_ret
      exact ⟨_, rfl, HO.out, BW⟩
end Go.Proofs.Ytlmjciajpjdilaa
