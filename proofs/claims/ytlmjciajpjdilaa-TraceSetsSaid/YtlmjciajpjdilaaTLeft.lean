/- Contracts of trace.left, trace.directed and trace.Where, of slices.Index and Contains at segments, of slices.Equal at segments. -/
import Derived.Test.YtlmjciajpjdilaaTCross
import Derived.Test.YtlmjciajpjdilaaTSort
namespace Go.Proofs.Ytlmjciajpjdilaa
open Go.RowKit Go.Proofs.YtlmjciajpjdilaaW.PrintLast
set_option linter.unusedVariables false
set_option linter.unusedSimpArgs false

attribute [local go_sem high] eqPt eqSg
theorem odd_eq (n : Nat) : ((n : Int) % 2 == 1) = decide (n % 2 = 1) := by
  rw [Bool.eq_iff_iff]; simp; omega
theorem trace_left {ok : Nat → Prop} (u : Sgs) (A : Option Addr) (n c : Nat) (s : Sg) (w : World) (hr : Row Ty.sg ok w A u) (hn : n = u.length) (hv : segsV u) (hs : (validB s.1 && validB s.2) = true) :
    Calls Try.prog 24 #[.slice A n c, sgA s] w fun e w' => e = .returned (.bool (leftZ u s)) ∧ Below w.heap.size w w' := by
  have HE : Hid (leftZ u s = if s.2.2 > s.1.2 then !(decide (crossN u (s.1.1 + s.2.1, s.1.2 + s.2.2) s % 2 = 1)) else decide (crossN u (s.1.1 + s.2.1, s.1.2 + s.2.2) s % 2 = 1)) := rfl
  generalize leftZ u s = r at *
  obtain ⟨⟨s1, s2⟩, ⟨s3, s4⟩⟩ := s
  rw [Bool.and_eq_true] at hs
  obtain ⟨v1, v2, v3, v4⟩ := valid_bd hs.1
  obtain ⟨v5, v6, v7, v8⟩ := valid_bd hs.2
  simp only at v1 v2 v3 v4 v5 v6 v7 v8 HE
  clear hs
  have w1 := wr_in (x := s1 + s3) (by omega) (by omega)
  have w2 := wr_in (x := s2 + s4) (by omega) (by omega)
  subst hn
  have HV := Lib.hid hv
  have HR := Lib.hid hr
  clear hr hv
  simp only [sgA]
  by_cases hq : s4 > s2
  · have HE1 : Hid (r = !decide (crossN u (s1 + s3, s2 + s4) ((s1, s2), (s3, s4)) % 2 = 1)) := HE.out.trans (if_pos hq)
    have q : decide (s2 < s4) = true := decide_eq_true hq
    clear HE hq
    go_enter Try.func24, Try.ntmps24
    go_wp2_with fail
    (refine (trace_crossings u A _ c (s1 + s3) (s2 + s4) s1 s2 s3 s4 _ ((HR.out.alloc _).alloc _) rfl HV.out (by omega) (by omega)).mono ?_; rintro e w3 ⟨rfl, hb3⟩; obtain ⟨c_hb3, f_hb3⟩ := bcell hb3; have z_hb3 := hb3.size; (try simp at z_hb3); (try have y0_hb3 : w.heap.size < w3.heap.size := by omega); (try have y1_hb3 : w.heap.size + 1 < w3.heap.size := by omega); (try have y2_hb3 : w.heap.size + 1 + 1 < w3.heap.size := by omega); (try have y3_hb3 : w.heap.size + 1 + 1 + 1 < w3.heap.size := by omega); (try have y4_hb3 : w.heap.size + 1 + 1 + 1 + 1 < w3.heap.size := by omega))
    go_wp2
    go_ret
    exact ⟨ret_bool (by rw [HE1.out, odd_eq]), (by repeat (first | exact Below.refl _ _ | apply below_alloc | apply below_drewN | apply below_drew | (refine below_set2 ?_ ?_; (first | (simp; done) | (simp; omega))) | (refine below_step ?_ hb3)))⟩
  · have HE1 : Hid (r = decide (crossN u (s1 + s3, s2 + s4) ((s1, s2), (s3, s4)) % 2 = 1)) := HE.out.trans (if_neg hq)
    have q : decide (s2 < s4) = false := decide_eq_false hq
    clear HE hq
    go_enter Try.func24, Try.ntmps24
    go_wp2_with fail
    (refine (trace_crossings u A _ c (s1 + s3) (s2 + s4) s1 s2 s3 s4 _ ((HR.out.alloc _).alloc _) rfl HV.out (by omega) (by omega)).mono ?_; rintro e w3 ⟨rfl, hb3⟩; obtain ⟨c_hb3, f_hb3⟩ := bcell hb3; have z_hb3 := hb3.size; (try simp at z_hb3); (try have y0_hb3 : w.heap.size < w3.heap.size := by omega); (try have y1_hb3 : w.heap.size + 1 < w3.heap.size := by omega); (try have y2_hb3 : w.heap.size + 1 + 1 < w3.heap.size := by omega); (try have y3_hb3 : w.heap.size + 1 + 1 + 1 < w3.heap.size := by omega); (try have y4_hb3 : w.heap.size + 1 + 1 + 1 + 1 < w3.heap.size := by omega))
    go_wp2
    go_ret
    exact ⟨ret_bool (by rw [HE1.out, odd_eq]), (by repeat (first | exact Below.refl _ _ | apply below_alloc | apply below_drewN | apply below_drew | (refine below_set2 ?_ ?_; (first | (simp; done) | (simp; omega))) | (refine below_step ?_ hb3)))⟩
def dirF (u : Sgs) (s : Sg) : Sg := if leftZ u s = true then s else (s.2, s.1)
theorem dir_eq (u : Sgs) : dirZ u = u.map (dirF u) := rfl
theorem dir_snoc (u : Sgs) (k : Nat) (h : k < u.length) : (u.take (k + 1)).map (dirF u) = (u.take k).map (dirF u) ++ [dirF u (sgD u k)] := by
  rw [take_snoc u k ((0, 0), (0, 0)) h, List.map_append]; rfl
set_option maxHeartbeats 1000000 in
theorem trace_directed {ok : Nat → Prop} (u : Sgs) (A : Option Addr) (n c : Nat) (w : World) (hr : Row Ty.sg ok w A u) (hn : n = u.length) (hv : segsV u) (hlen : u.length ≤ 1000000) :
    Calls Try.prog 13 #[.slice A n c] w fun e w' => ∃ v, e = .returned v ∧ Own1 Ty.sg 27 w.heap.size w' v (dirZ u) ∧ Below w.heap.size w w' := by
  subst hn
  have HR := Lib.hid hr
  have HV := Lib.hid hv
  clear hr hv
  rw [dir_eq]
  go_enter Try.func13, Try.ntmps13
  go_wp2
  go_loopw [3, 8] (fun v i wr => ∃ k : Nat, k ≤ u.length ∧ i = .int .i64 k ∧ Below w.heap.size w wr ∧ Own1 Ty.sg 27 w.heap.size wr v ((u.take k).map (dirF u))) (fun _ i _ => u.length - (intOf i).toNat)
  case atStart => exact ⟨0, Nat.zero_le _, rfl, Below.refl _ _, OwnR.nil _ _ _ _ _⟩
  case round =>
    obtain ⟨k, hk, rfl, BW, ho⟩ := hrel
    by_cases hlt : k < u.length
    · have HRw := Lib.hid (HR.out.below BW)
      obtain ⟨ad, rfl, hx0, hx1, hx2, hx3⟩ := HRw.out.sg_at k hlt
      have HO := Lib.hid ho
      have HS := Lib.hid (dir_snoc u k hlt)
      have HL : Hid ((((u.take k).map (dirF u)).length + 1) * 32 ≤ 140737488355328) := by
        show _ ≤ _
        rw [List.length_map, List.length_take]; omega
      have hsz := BW.size
      have HVS := Lib.hid (HV.out (sgD u k) (by rw [sgD_eq hlt]; exact List.getElem_mem hlt))
      clear ho
      obtain ⟨s, hs⟩ : ∃ s, s = sgD u k := ⟨_, rfl⟩
      rw [← hs] at hx0 hx1 hx2 hx3 HS HVS
      clear hs
      cases hl : leftZ u s
      · have HD : Hid (dirF u s = (s.2, s.1)) := if_neg (by rw [hl]; decide)
        have HLS := Lib.hid hl
        clear hl
        go_wp2_with fail
        (refine (trace_left u _ _ c s _ (HRw.out.alloc _) rfl HV.out HVS.out).mono ?_; rintro e w3 ⟨rfl, hb3⟩; obtain ⟨c_hb3, f_hb3⟩ := bcell hb3; have z_hb3 := hb3.size; (try simp at z_hb3); (try have y0_hb3 : wr.heap.size < w3.heap.size := by omega); (try have y1_hb3 : wr.heap.size + 1 < w3.heap.size := by omega); (try have y2_hb3 : wr.heap.size + 1 + 1 < w3.heap.size := by omega); (try have y3_hb3 : wr.heap.size + 1 + 1 + 1 < w3.heap.size := by omega); (try have y4_hb3 : wr.heap.size + 1 + 1 + 1 + 1 < w3.heap.size := by omega))
        rw [HLS.out]
        have HO3 := Lib.hid (Own1.below HO.out (by repeat (first | exact Below.refl _ _ | apply below_alloc | apply below_drewN | apply below_drew | (refine below_set2 ?_ ?_; (first | (simp; done) | (simp; omega))) | (refine below_step ?_ hb3))) : Own1 Ty.sg 27 w.heap.size w3 u3 _)
        have B3 : Below wr.heap.size wr w3 := (by repeat (first | exact Below.refl _ _ | apply below_alloc | apply below_drewN | apply below_drew | (refine below_set2 ?_ ?_; (first | (simp; done) | (simp; omega))) | (refine below_step ?_ hb3)))
        have hs3 := B3.size
        clear HRw HO
        go_wp2_with (at_builtin; refine app_one Ty.sg (W := w3) w.heap.size rfl _ _ 22 27 _ 32 rfl Try.underlying22 infoSg rfl (by decide) u3 _ (s.2, s.1) _ _ rfl rfl rfl rfl HO3.out (by omega) HL.out ?_; intro v1 w4 HO1 hg1 hat1)
        have BZ : Below w.heap.size w w4 := below_own (by repeat (first | exact Below.refl _ _ | apply below_alloc | apply below_drewN | apply below_drew | (refine below_set2 ?_ ?_; (first | (simp; done) | (simp; omega))) | (refine below_step ?_ B3) | (refine below_step ?_ BW))) hg1 (fun b e => (OwnR.lt HO3.out b e).1)
        have HO4 := Lib.hid (Own1.of HO1)
        clear HO1 hg1 hat1 hb3
        go_wp2
        go_roundw
        case rel => exact ⟨k + 1, by omega, by go_num, BZ, by rw [HS.out, HD.out]; exact HO4.out⟩
        case measure => simp [intOf]; omega
      · have HD : Hid (dirF u s = s) := if_pos hl
        have HLS := Lib.hid hl
        clear hl
        go_wp2_with fail
        (refine (trace_left u _ _ c s _ (HRw.out.alloc _) rfl HV.out HVS.out).mono ?_; rintro e w3 ⟨rfl, hb3⟩; obtain ⟨c_hb3, f_hb3⟩ := bcell hb3; have z_hb3 := hb3.size; (try simp at z_hb3); (try have y0_hb3 : wr.heap.size < w3.heap.size := by omega); (try have y1_hb3 : wr.heap.size + 1 < w3.heap.size := by omega); (try have y2_hb3 : wr.heap.size + 1 + 1 < w3.heap.size := by omega); (try have y3_hb3 : wr.heap.size + 1 + 1 + 1 < w3.heap.size := by omega); (try have y4_hb3 : wr.heap.size + 1 + 1 + 1 + 1 < w3.heap.size := by omega))
        rw [HLS.out]
        have HO3 := Lib.hid (Own1.below HO.out (by repeat (first | exact Below.refl _ _ | apply below_alloc | apply below_drewN | apply below_drew | (refine below_set2 ?_ ?_; (first | (simp; done) | (simp; omega))) | (refine below_step ?_ hb3))) : Own1 Ty.sg 27 w.heap.size w3 u3 _)
        have B3 : Below wr.heap.size wr w3 := (by repeat (first | exact Below.refl _ _ | apply below_alloc | apply below_drewN | apply below_drew | (refine below_set2 ?_ ?_; (first | (simp; done) | (simp; omega))) | (refine below_step ?_ hb3)))
        have hs3 := B3.size
        clear HRw HO
        go_wp2_with (at_builtin; refine app_one Ty.sg (W := w3) w.heap.size rfl _ _ 22 27 _ 32 rfl Try.underlying22 infoSg rfl (by decide) u3 _ s _ _ rfl rfl rfl rfl HO3.out (by omega) HL.out ?_; intro v1 w4 HO1 hg1 hat1)
        have BZ : Below w.heap.size w w4 := below_own (by repeat (first | exact Below.refl _ _ | apply below_alloc | apply below_drewN | apply below_drew | (refine below_set2 ?_ ?_; (first | (simp; done) | (simp; omega))) | (refine below_step ?_ B3) | (refine below_step ?_ BW))) hg1 (fun b e => (OwnR.lt HO3.out b e).1)
        have HO4 := Lib.hid (Own1.of HO1)
        clear HO1 hg1 hat1 hb3
        go_wp2
        go_roundw
        case rel => exact ⟨k + 1, by omega, by go_num, BZ, by rw [HS.out, HD.out]; exact HO4.out⟩
        case measure => simp [intOf]; omega
    · obtain rfl : k = u.length := by omega
      rw [List.take_length] at ho
      have HO := Lib.hid ho
      clear ho
      go_wp2
      go_ret
      exact ⟨_, rfl, HO.out, BW⟩
end Go.Proofs.Ytlmjciajpjdilaa
