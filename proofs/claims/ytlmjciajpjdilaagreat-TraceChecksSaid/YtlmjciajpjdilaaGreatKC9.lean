/- Contracts of trace.left, trace.directed and trace.Where, of slices.Index and Contains at segments, of slices.Equal at segments. Contracts of trace.Where, of slices.Equal, Index and Contains at segments. Contracts of slices.Index at segments and points, of Contains and Equal at segments, of Clone at points; append of a row at a step of a region. Contract of noding.Split. -/
import Derived.Test.YtlmjciajpjdilaaGreatKC8
import Derived.Test.YtlmjciajpjdilaaGreatKC6

section
namespace Go.Proofs.YtlmjciajpjdilaaGreat
open Go.RowKit Go.Proofs.YtlmjciajpjdilaaGreatW.PrintLast
set_option linter.unusedVariables false
set_option linter.unusedSimpArgs false

attribute [local go_sem high] eqPt eqSg
theorem odd_eq (n : Nat) : ((n : Int) % 2 == 1) = decide (n % 2 = 1) := by
  rw [Bool.eq_iff_iff]; simp; omega
theorem trace_left {ok : Nat → Prop} (u : Sgs) (A : Option Addr) (n c : Nat) (s : Sg) (w : World) (hr : Row Ty.sg ok w A u) (hn : n = u.length) (hv : segsV u) (hs : (validB s.1 && validB s.2) = true) :
    Calls Tryz.prog 55 #[.slice A n c, sgA s] w fun e w' => e = .returned (.bool (leftZ u s)) ∧ Below w.heap.size w w' := by
  have HE : Hid (leftZ u s = if s.2.2 > s.1.2 then !(decide (crossN u (s.1.1 + s.2.1, s.1.2 + s.2.2) s % 2 = 1)) else decide (crossN u (s.1.1 + s.2.1, s.1.2 + s.2.2) s % 2 = 1)) := rfl
  generalize leftZ u s = r at *
  obtain ⟨⟨s1, s2⟩, ⟨s3, s4⟩⟩ := s
  rw [Bool.and_eq_true] at hs
  obtain ⟨v1, v2, v3, v4⟩ := valid_bd hs.1
  obtain ⟨v5, v6, v7, v8⟩ := valid_bd hs.2
  simp only at v1 v2 v3 v4 v5 v6 v7 v8 HE
  clear hs
  have w1 := wr_in (x := s1 + s3) (by omega) (by omega)
  have w2 := wr_in (x := s2 + s4) (by omega) (by omega)
  subst hn
  have HV := Lib.hid hv
  have HR := Lib.hid hr
  clear hr hv
  simp only [sgA]
  by_cases hq : s4 > s2
  · have HE1 : Hid (r = !decide (crossN u (s1 + s3, s2 + s4) ((s1, s2), (s3, s4)) % 2 = 1)) := HE.out.trans (if_pos hq)
    have q : decide (s2 < s4) = true := decide_eq_true hq
    clear HE hq
    go_enter Tryz.func55, Tryz.ntmps55
    go_wp2_with fail
    (refine (trace_crossings u A _ c (s1 + s3) (s2 + s4) s1 s2 s3 s4 _ ((HR.out.alloc _).alloc _) rfl HV.out (by omega) (by omega)).mono ?_; rintro e w3 ⟨rfl, hb3⟩; obtain ⟨c_hb3, f_hb3⟩ := bcell hb3; have z_hb3 := hb3.size; (try simp at z_hb3); (try have y0_hb3 : w.heap.size < w3.heap.size := by omega); (try have y1_hb3 : w.heap.size + 1 < w3.heap.size := by omega); (try have y2_hb3 : w.heap.size + 1 + 1 < w3.heap.size := by omega); (try have y3_hb3 : w.heap.size + 1 + 1 + 1 < w3.heap.size := by omega); (try have y4_hb3 : w.heap.size + 1 + 1 + 1 + 1 < w3.heap.size := by omega))
    go_wp2
    go_ret
    exact ⟨ret_bool (by rw [HE1.out, odd_eq]), (by repeat (first | exact Below.refl _ _ | apply below_alloc | apply below_drewN | apply below_drew | (refine below_set2 ?_ ?_; (first | (simp; done) | (simp; omega))) | (refine below_step ?_ hb3)))⟩
  · have HE1 : Hid (r = decide (crossN u (s1 + s3, s2 + s4) ((s1, s2), (s3, s4)) % 2 = 1)) := HE.out.trans (if_neg hq)
    have q : decide (s2 < s4) = false := decide_eq_false hq
    clear HE hq
    go_enter Tryz.func55, Tryz.ntmps55
    go_wp2_with fail
    (refine (trace_crossings u A _ c (s1 + s3) (s2 + s4) s1 s2 s3 s4 _ ((HR.out.alloc _).alloc _) rfl HV.out (by omega) (by omega)).mono ?_; rintro e w3 ⟨rfl, hb3⟩; obtain ⟨c_hb3, f_hb3⟩ := bcell hb3; have z_hb3 := hb3.size; (try simp at z_hb3); (try have y0_hb3 : w.heap.size < w3.heap.size := by omega); (try have y1_hb3 : w.heap.size + 1 < w3.heap.size := by omega); (try have y2_hb3 : w.heap.size + 1 + 1 < w3.heap.size := by omega); (try have y3_hb3 : w.heap.size + 1 + 1 + 1 < w3.heap.size := by omega); (try have y4_hb3 : w.heap.size + 1 + 1 + 1 + 1 < w3.heap.size := by omega))
    go_wp2
    go_ret
    exact ⟨ret_bool (by rw [HE1.out, odd_eq]), (by repeat (first | exact Below.refl _ _ | apply below_alloc | apply below_drewN | apply below_drew | (refine below_set2 ?_ ?_; (first | (simp; done) | (simp; omega))) | (refine below_step ?_ hb3)))⟩
def dirF (u : Sgs) (s : Sg) : Sg := if leftZ u s = true then s else (s.2, s.1)
theorem dir_eq (u : Sgs) : dirZ u = u.map (dirF u) := rfl
theorem dir_snoc (u : Sgs) (k : Nat) (h : k < u.length) : (u.take (k + 1)).map (dirF u) = (u.take k).map (dirF u) ++ [dirF u (sgD u k)] := by
  rw [take_snoc u k ((0, 0), (0, 0)) h, List.map_append]; rfl
set_option maxHeartbeats 1000000 in
theorem trace_directed {ok : Nat → Prop} (u : Sgs) (A : Option Addr) (n c : Nat) (w : World) (hr : Row Ty.sg ok w A u) (hn : n = u.length) (hv : segsV u) (hlen : u.length ≤ 1000000) :
    Calls Tryz.prog 46 #[.slice A n c] w fun e w' => ∃ v, e = .returned v ∧ Own1 Ty.sg 32 w.heap.size w' v (dirZ u) ∧ Below w.heap.size w w' := by
  subst hn
  have HR := Lib.hid hr
  have HV := Lib.hid hv
  clear hr hv
  rw [dir_eq]
  go_enter Tryz.func46, Tryz.ntmps46
  go_wp2
  go_loopw [3, 8] (fun v i wr => ∃ k : Nat, k ≤ u.length ∧ i = .int .i64 k ∧ Below w.heap.size w wr ∧ Own1 Ty.sg 32 w.heap.size wr v ((u.take k).map (dirF u))) (fun _ i _ => u.length - (intOf i).toNat)
  case atStart => exact ⟨0, Nat.zero_le _, rfl, Below.refl _ _, OwnR.nil _ _ _ _ _⟩
  case round =>
    obtain ⟨k, hk, rfl, BW, ho⟩ := hrel
    by_cases hlt : k < u.length
    · have HRw := Lib.hid (HR.out.below BW)
      obtain ⟨ad, rfl, hx0, hx1, hx2, hx3⟩ := HRw.out.sg_at k hlt
      have HO := Lib.hid ho
      have HS := Lib.hid (dir_snoc u k hlt)
      have HL : Hid ((((u.take k).map (dirF u)).length + 1) * 32 ≤ 140737488355328) := by
        show _ ≤ _
        rw [List.length_map, List.length_take]; omega
      have hsz := BW.size
      have HVS := Lib.hid (HV.out (sgD u k) (by rw [sgD_eq hlt]; exact List.getElem_mem hlt))
      clear ho
      obtain ⟨s, hs⟩ : ∃ s, s = sgD u k := ⟨_, rfl⟩
      rw [← hs] at hx0 hx1 hx2 hx3 HS HVS
      clear hs
      cases hl : leftZ u s
      · have HD : Hid (dirF u s = (s.2, s.1)) := if_neg (by rw [hl]; decide)
        have HLS := Lib.hid hl
        clear hl
        go_wp2_with fail
        (refine (trace_left u _ _ c s _ (HRw.out.alloc _) rfl HV.out HVS.out).mono ?_; rintro e w3 ⟨rfl, hb3⟩; obtain ⟨c_hb3, f_hb3⟩ := bcell hb3; have z_hb3 := hb3.size; (try simp at z_hb3); (try have y0_hb3 : wr.heap.size < w3.heap.size := by omega); (try have y1_hb3 : wr.heap.size + 1 < w3.heap.size := by omega); (try have y2_hb3 : wr.heap.size + 1 + 1 < w3.heap.size := by omega); (try have y3_hb3 : wr.heap.size + 1 + 1 + 1 < w3.heap.size := by omega); (try have y4_hb3 : wr.heap.size + 1 + 1 + 1 + 1 < w3.heap.size := by omega))
        rw [HLS.out]
        have HO3 := Lib.hid (Own1.below HO.out (by repeat (first | exact Below.refl _ _ | apply below_alloc | apply below_drewN | apply below_drew | (refine below_set2 ?_ ?_; (first | (simp; done) | (simp; omega))) | (refine below_step ?_ hb3))) : Own1 Ty.sg 32 w.heap.size w3 u3 _)
        have B3 : Below wr.heap.size wr w3 := (by repeat (first | exact Below.refl _ _ | apply below_alloc | apply below_drewN | apply below_drew | (refine below_set2 ?_ ?_; (first | (simp; done) | (simp; omega))) | (refine below_step ?_ hb3)))
        have hs3 := B3.size
        clear HRw HO
        go_wp2_with (at_builtin; refine app_one Ty.sg (W := w3) w.heap.size rfl _ _ 22 32 _ 32 rfl Tryz.underlying22 infoSg rfl (by decide) u3 _ (s.2, s.1) _ _ rfl rfl rfl rfl HO3.out (by omega) HL.out ?_; intro v1 w4 HO1 hg1 hat1)
        have BZ : Below w.heap.size w w4 := below_own (by repeat (first | exact Below.refl _ _ | apply below_alloc | apply below_drewN | apply below_drew | (refine below_set2 ?_ ?_; (first | (simp; done) | (simp; omega))) | (refine below_step ?_ B3) | (refine below_step ?_ BW))) hg1 (fun b e => (OwnR.lt HO3.out b e).1)
        have HO4 := Lib.hid (Own1.of HO1)
        clear HO1 hg1 hat1 hb3
        go_wp2
        go_roundw
        case rel => exact ⟨k + 1, by omega, by go_num, BZ, by rw [HS.out, HD.out]; exact HO4.out⟩
        case measure => simp [intOf]; omega
      · have HD : Hid (dirF u s = s) := if_pos hl
        have HLS := Lib.hid hl
        clear hl
        go_wp2_with fail
        (refine (trace_left u _ _ c s _ (HRw.out.alloc _) rfl HV.out HVS.out).mono ?_; rintro e w3 ⟨rfl, hb3⟩; obtain ⟨c_hb3, f_hb3⟩ := bcell hb3; have z_hb3 := hb3.size; (try simp at z_hb3); (try have y0_hb3 : wr.heap.size < w3.heap.size := by omega); (try have y1_hb3 : wr.heap.size + 1 < w3.heap.size := by omega); (try have y2_hb3 : wr.heap.size + 1 + 1 < w3.heap.size := by omega); (try have y3_hb3 : wr.heap.size + 1 + 1 + 1 < w3.heap.size := by omega); (try have y4_hb3 : wr.heap.size + 1 + 1 + 1 + 1 < w3.heap.size := by omega))
        rw [HLS.out]
        have HO3 := Lib.hid (Own1.below HO.out (by repeat (first | exact Below.refl _ _ | apply below_alloc | apply below_drewN | apply below_drew | (refine below_set2 ?_ ?_; (first | (simp; done) | (simp; omega))) | (refine below_step ?_ hb3))) : Own1 Ty.sg 32 w.heap.size w3 u3 _)
        have B3 : Below wr.heap.size wr w3 := (by repeat (first | exact Below.refl _ _ | apply below_alloc | apply below_drewN | apply below_drew | (refine below_set2 ?_ ?_; (first | (simp; done) | (simp; omega))) | (refine below_step ?_ hb3)))
        have hs3 := B3.size
        clear HRw HO
        go_wp2_with (at_builtin; refine app_one Ty.sg (W := w3) w.heap.size rfl _ _ 22 32 _ 32 rfl Tryz.underlying22 infoSg rfl (by decide) u3 _ s _ _ rfl rfl rfl rfl HO3.out (by omega) HL.out ?_; intro v1 w4 HO1 hg1 hat1)
        have BZ : Below w.heap.size w w4 := below_own (by repeat (first | exact Below.refl _ _ | apply below_alloc | apply below_drewN | apply below_drew | (refine below_set2 ?_ ?_; (first | (simp; done) | (simp; omega))) | (refine below_step ?_ B3) | (refine below_step ?_ BW))) hg1 (fun b e => (OwnR.lt HO3.out b e).1)
        have HO4 := Lib.hid (Own1.of HO1)
        clear HO1 hg1 hat1 hb3
        go_wp2
        go_roundw
        case rel => exact ⟨k + 1, by omega, by go_num, BZ, by rw [HS.out, HD.out]; exact HO4.out⟩
        case measure => simp [intOf]; omega
    · obtain rfl : k = u.length := by omega
      rw [List.take_length] at ho
      have HO := Lib.hid ho
      clear ho
      go_wp2
      go_ret
      exact ⟨_, rfl, HO.out, BW⟩
end Go.Proofs.YtlmjciajpjdilaaGreat
end

section
namespace Go.Proofs.YtlmjciajpjdilaaGreat
open Go.RowKit Go.Proofs.YtlmjciajpjdilaaGreatW.PrintLast
set_option linter.unusedVariables false
set_option linter.unusedSimpArgs false

attribute [local go_sem high] eqPt eqSg
theorem ofB_valid {a b : Pt} (h : (validB a && validB b) = true) : (validB (ofB a b).1 && validB (ofB a b).2) = true := by
  rw [Bool.and_eq_true] at h
  unfold ofB
  split <;> simp [h.1, h.2]
theorem canon_V (l : Sgs) : segsV (canonZ l) := by
  intro s hs
  obtain ⟨x, hx, rfl⟩ := List.mem_map.1 hs
  have := (List.mem_filter.1 hx).2
  unfold goodB at this
  rw [Bool.and_eq_true] at this
  exact ofB_valid this.2
theorem sort_V (l : Sgs) : segsV (sortZ l) := fun s hs => canon_V l s (mem_sortG.1 hs)
theorem uniq_V (l : Sgs) : segsV (uniqZ l) := fun s hs => sort_V l s (mem_compact.1 hs)
theorem uniq_len (l : Sgs) : (uniqZ l).length ≤ l.length := by
  have h1 := compact_len (sortZ l)
  have h2 := canon_le l
  unfold uniqZ
  have h3 : (sortZ l).length = (canonZ l).length := sortG_len _
  omega
theorem any_snoc {α : Type} (xs : List α) (d : α) (f : α → Bool) (k : Nat) (h : k < xs.length) : (xs.take (k + 1)).any f = ((xs.take k).any f || f (xs.getD k d)) := by
  rw [take_snoc xs k d h, List.any_append]; simp
theorem any_hit {α : Type} {xs : List α} {d : α} {f : α → Bool} {k : Nat} (h : k < xs.length) (hf : f (xs.getD k d) = true) : xs.any f = true := by
  rw [List.any_eq_true]
  refine ⟨xs[k], List.getElem_mem h, ?_⟩
  simpa [h] using hf
set_option maxHeartbeats 1000000 in
theorem trace_Where {ok : Nat → Prop} (l : Sgs) (A : Option Addr) (n c : Nat) (p : Pt) (w : World) (hr : Row Ty.sg ok w A l) (hn : n = l.length) (hlen : l.length ≤ 1000000) :
    Calls Tryz.prog 11 #[.slice A n c, ptA p] w fun e w' => e = .returned (.int .i64 (whereT l p)) ∧ Below w.heap.size w w' := by
  subst hn
  have HE : Hid (whereT l p = if validB p = false then 0 else whereU (uniqZ l) p) := rfl
  generalize whereT l p = r at *
  obtain ⟨p1, p2⟩ := p
  have HR := Lib.hid hr
  clear hr
  simp only [ptA]
  cases hv : validB (p1, p2)
  · have HE1 : Hid (r = 0) := HE.out.trans (if_pos hv)
    have HV := Lib.hid hv
    clear HE hv
    go_enter Tryz.func11, Tryz.ntmps11
    go_wp2_with fail
    (refine (grid_Valid p1 p2 _).mono ?_; rintro e w1 ⟨rfl, hb1⟩; obtain ⟨c_hb1, f_hb1⟩ := bcell hb1; have z_hb1 := hb1.size; (try simp at z_hb1); (try have y0_hb1 : w.heap.size < w1.heap.size := by omega); (try have y1_hb1 : w.heap.size + 1 < w1.heap.size := by omega); (try have y2_hb1 : w.heap.size + 1 + 1 < w1.heap.size := by omega); (try have y3_hb1 : w.heap.size + 1 + 1 + 1 < w1.heap.size := by omega); (try have y4_hb1 : w.heap.size + 1 + 1 + 1 + 1 < w1.heap.size := by omega))
    rw [HV.out]
    go_wp2
    go_ret
    exact ⟨ret_int HE1.out.symm, (by repeat (first | exact Below.refl _ _ | apply below_alloc | apply below_drewN | apply below_drew | (refine below_set2 ?_ ?_; (first | (simp; done) | (simp; omega))) | (refine below_step ?_ hb1)))⟩
  · have HE1 : Hid (r = whereU (uniqZ l) (p1, p2)) := HE.out.trans (if_neg (by rw [hv]; decide))
    have HV := Lib.hid hv
    obtain ⟨v1, v2, v3, v4⟩ := valid_bd hv
    simp only at v1 v2 v3 v4
    clear HE hv
    have hul := uniq_len l
    have HUV := Lib.hid (uniq_V l)
    have CU := Lib.hid (fun W h => noding_Unique (ok := ok) l A l.length c W h rfl hlen)
    generalize uniqZ l = u at *
    go_enter Tryz.func11, Tryz.ntmps11
    go_wp2_with fail
    refine (grid_Valid p1 p2 _).mono ?_
    rintro e w1 ⟨rfl, hb1⟩
    rw [HV.out]
    have HP1 := blk_below (heap_alloc_new w (.cells #[.int .i64 p1, .int .i64 p2] 24)) hb1
    have HB1 : Hid (Below w.heap.size w w1) := (by repeat (first | exact Below.refl _ _ | apply below_alloc | apply below_drewN | apply below_drew | (refine below_set2 ?_ ?_; (first | (simp; done) | (simp; omega))) | (refine below_step ?_ hb1)))
    clear hb1
    go_wp2_with fail
    refine Calls.mono (CU.out _ (HR.out.below HB1.out)) ?_
    rintro e w2 ⟨v, rfl, ho, hb2⟩
    obtain ⟨A1, c1, rfl, hl1, hr1⟩ := ho.reads
    have HU := Lib.hid hr1
    have HP2 := blk_below HP1 hb2
    have HB2 : Hid (Below w.heap.size w w2) := below_step HB1.out hb2
    clear ho hr1 hb2 HP1 HB1
    go_wp2
    go_loopw [15] (fun i wr => ∃ k : Nat, k ≤ u.length ∧ i = .int .i64 k ∧ wr.heap[w.heap.size]? = some (.cells #[.int .i64 p1, .int .i64 p2] 24 (0, 0)) ∧ Hid (Below w.heap.size w wr) ∧ Hid (Row Ty.sg (fun _ => True) wr A1 u) ∧ Hid ((u.take k).any (fun s => onB (p1, p2) s.1 s.2) = false)) (fun i _ => u.length - (intOf i).toNat)
    case atStart => exact ⟨0, Nat.zero_le _, rfl, HP2, HB2, HU, by simp [Hid]⟩
    case round =>
      obtain ⟨k, hk, rfl, HP, HB, HUr, HN⟩ := hrel
      clear HU HP2 HB2
      by_cases hlt : k < u.length
      · obtain ⟨ad, rfl, hx0, hx1, hx2, hx3⟩ := HUr.out.sg_at k hlt
        have hp0 := blk_cell HP 0 rfl
        have hp1 := blk_cell HP 1 rfl
        have hsz := lt_of_block HP
        have HPa := blk_alloc HP (.cells #[.int .i64 (sgD u k).1.1, .int .i64 (sgD u k).1.2, .int .i64 (sgD u k).2.1, .int .i64 (sgD u k).2.2] 32)
        cases hon : onB (p1, p2) (sgD u k).1 (sgD u k).2
        · have HN2 : Hid ((u.take (k + 1)).any (fun s => onB (p1, p2) s.1 s.2) = false) := by show _ = _; rw [any_snoc u ((0, 0), (0, 0)) _ k hlt, HN.out]; exact hon
          have HO : Hid (onB (p1, p2) ((sgD u k).1.1, (sgD u k).1.2) ((sgD u k).2.1, (sgD u k).2.2) = false) := hon
          clear hon
          go_wp2_with fail
          refine (seg_On _ _ _ _ _ _ _).mono ?_
          rintro e w4 ⟨rfl, hb4⟩
          rw [HO.out]
          have HP4 := blk_below HPa hb4
          go_wp2
          go_roundw
          case rel => exact ⟨k + 1, by omega, by go_num, HP4, (by repeat (first | exact Below.refl _ _ | apply below_alloc | apply below_drewN | apply below_drew | (refine below_set2 ?_ ?_; (first | (simp; done) | (simp; omega))) | (refine below_step ?_ hb4) | (refine below_step ?_ HB.out))), HUr.out.below (by repeat (first | exact Below.refl _ _ | apply below_alloc | apply below_drewN | apply below_drew | (refine below_set2 ?_ ?_; (first | (simp; done) | (simp; omega))) | (refine below_step ?_ hb4))), HN2⟩
          case measure => simp [intOf]; omega
        · have HW : Hid (r = 1) := by show r = _; rw [HE1.out]; unfold whereU; rw [if_pos (any_hit (d := ((0, 0), (0, 0))) hlt hon)]
          have HO : Hid (onB (p1, p2) ((sgD u k).1.1, (sgD u k).1.2) ((sgD u k).2.1, (sgD u k).2.2) = true) := hon
          clear hon HE1
          go_wp2_with fail
          refine (seg_On _ _ _ _ _ _ _).mono ?_
          rintro e w4 ⟨rfl, hb4⟩
          rw [HO.out]
          go_wp2
          go_ret
          exact ⟨ret_int HW.out.symm, (by repeat (first | exact Below.refl _ _ | apply below_alloc | apply below_drewN | apply below_drew | (refine below_set2 ?_ ?_; (first | (simp; done) | (simp; omega))) | (refine below_step ?_ hb4) | (refine below_step ?_ HB.out)))⟩
      · obtain rfl : k = u.length := by omega
        rw [List.take_length] at HN
        have HW : Hid (r = if crossN u (2 * p1, 2 * p2) ((0, 0), (0, 0)) % 2 = 1 then 2 else 0) := by show r = _; rw [HE1.out]; unfold whereU; rw [HN.out]; rfl
        clear HE1 HN
        have hp0 := blk_cell HP 0 rfl
        have hp1 := blk_cell HP 1 rfl
        have w5 := wr_in (x := 2 * p1) (by omega) (by omega)
        have w6 := wr_in (x := 2 * p2) (by omega) (by omega)
        by_cases ho : crossN u (2 * p1, 2 * p2) ((0, 0), (0, 0)) % 2 = 1
        · have hq : ((crossN u (2 * p1, 2 * p2) ((0, 0), (0, 0)) : Int) % 2 == 1) = true := (odd_eq _).trans (decide_eq_true ho)
          have HW2 : Hid (r = 2) := HW.out.trans (if_pos ho)
          clear HW ho
          go_wp2_with fail
          refine (trace_crossings u A1 _ c1 (2 * p1) (2 * p2) 0 0 0 0 _ HUr.out rfl HUV.out (by omega) (by omega)).mono ?_
          rintro e w7 ⟨rfl, hb7⟩
          go_wp2
          go_ret
          exact ⟨ret_int HW2.out.symm, (by repeat (first | exact Below.refl _ _ | apply below_alloc | apply below_drewN | apply below_drew | (refine below_set2 ?_ ?_; (first | (simp; done) | (simp; omega))) | (refine below_step ?_ hb7) | (refine below_step ?_ HB.out)))⟩
        · have hq : ((crossN u (2 * p1, 2 * p2) ((0, 0), (0, 0)) : Int) % 2 == 1) = false := (odd_eq _).trans (decide_eq_false ho)
          have HW2 : Hid (r = 0) := HW.out.trans (if_neg ho)
          clear HW ho
          go_wp2_with fail
          refine (trace_crossings u A1 _ c1 (2 * p1) (2 * p2) 0 0 0 0 _ HUr.out rfl HUV.out (by omega) (by omega)).mono ?_
          rintro e w7 ⟨rfl, hb7⟩
          go_wp2
          go_ret
          exact ⟨ret_int HW2.out.symm, (by repeat (first | exact Below.refl _ _ | apply below_alloc | apply below_drewN | apply below_drew | (refine below_set2 ?_ ?_; (first | (simp; done) | (simp; omega))) | (refine below_step ?_ hb7) | (refine below_step ?_ HB.out)))⟩
end Go.Proofs.YtlmjciajpjdilaaGreat
end

section
namespace Go.Proofs.YtlmjciajpjdilaaGreat
open Go.RowKit Go.Proofs.YtlmjciajpjdilaaGreatW.PrintLast
set_option linter.unusedVariables false
set_option linter.unusedSimpArgs false

attribute [local go_sem high] eqPt eqSg
/-- append(v, ys...) at a step of a region that draws its order. -/
theorem step_row {P : Program} {ops : Array Oper} {o : Oper} {a : Act} {Q : Exit → Act → World → Prop} {K : Act → World → Prop} {E : Prop} {α : Type} (T : Ty α) {W : World} (base : Nat) (hgd : o.guard = none) (s x : Operand) (t e : TypeId) (z : Value) (bytes : Nat)
    (ho : o.op = .call { callee := .builtin .append, args := #[s, x], argTypes := #[t, t] })
    (ht : P.underlying t = some (.slice e)) (hinfo : (P.info? e).map (fun i => (i.zero, i.size, i.bytes)) = some (some z, T.sz, bytes)) (hz : z.cells.size = T.sz) (hb0 : 0 < bytes)
    (v : Value) (xs ys : List α) (A : Option Addr) (m c : Nat) (M : Nat → Prop) (hs : a.eval s = v) (hx : a.eval x = .slice A m c) (hm : m = ys.length)
    (hp : Row T (fun k => ¬ M k) W A ys) (HO : OwnR T e base M W v xs) (hbase : base ≤ W.heap.size) (hl : (xs.length + m) * bytes ≤ 140737488355328)
    (h : ∀ v1 w1, OwnR T e base (fun k => M k ∨ v1.ownBlock = some k) w1 v1 (xs ++ ys) → W.grownBy w1 v.ownBlock → (v1.ownBlock = v.ownBlock ∨ ∃ b, v1.ownBlock = some b ∧ W.heap.size ≤ b) → K (a.put o.dst v1) w1) :
    if Region.wanted o (yielded ops a.tmps) = true then Oper.wp P o a W K Q else E := by
  subst hm
  obtain ⟨h0, inner, hown, hr⟩ := HO
  obtain ⟨i0, hi, hzz⟩ := Option.map_eq_some_iff.1 hinfo
  simp only [Prod.mk.injEq] at hzz
  obtain ⟨hz0, hz1, hz2⟩ := hzz
  have hlen : xs.length + ys.length ≤ 140737488355328 := Nat.le_trans (Nat.le_mul_of_pos_right _ hb0) hl
  have hw : Region.wanted o (yielded ops a.tmps) = true := by simp [Region.wanted, hgd]
  rcases Nat.eq_zero_or_pos ys.length with hy | hy
  · have hy := List.eq_nil_of_length_eq_zero hy
    subst hy
    have hrun : (Builtin.append_ #[t, t] o.type #[v, .slice A 0 c]).run P W = .ok v W := by
      rcases hown.2 with ⟨rfl, hn⟩ | ⟨g, cap, cur, rfl, _, _, hnc, _⟩ <;> rcases A with _ | ad
      · simp [Builtin.append_, run_underlying ht, sizeOf, typeInfo, hi, Builtin.lenOf, Builtin.firstCells]
      · simp [Builtin.append_, run_underlying ht, sizeOf, typeInfo, hi, Builtin.lenOf, Builtin.firstCells, loadCells, loadCellsFrom]
      · simp [Builtin.append_, run_underlying ht, sizeOf, typeInfo, hi, Builtin.lenOf, Builtin.firstCells, hnc, storeCells]
      · simp [Builtin.append_, run_underlying ht, sizeOf, typeInfo, hi, Builtin.lenOf, Builtin.firstCells, hnc, storeCells, loadCells, loadCellsFrom]
    rw [if_pos hw]
    unfold Oper.wp execOp
    simp only [ho, resolve, invoke, builtin, Sem.run_bind, Sem.run_pure, Result.andThen_ok, List.map_toArray, List.map_cons, List.map_nil, hs, hx, hrun, List.length_nil]
    exact h v W (OwnR.appended (ys := []) hr rfl (by simpa using hown) h0 (grown_refl _ _) (.inl rfl)) (grown_refl _ _) (.inl rfl)
  · rcases A with _ | ad
    · obtain ⟨ad, e, _⟩ := hp.2 hy
      cases e
    obtain ⟨cs, hcs, hk⟩ := hp.reps
    refine step_append_lies (w := W) hgd s x t ho base e i0 z T.sz bytes ht hi hz0 hz1 hz2 hz T.pos v xs.length inner hs hown ad ys.length c cs hx hcs.len hk hcs.one hy (by simp only [maxLen]; omega) hl hbase _ rfl ?_
    intro g cap w1 hown1 hg hat _
    have hat' : (Value.slice (some ⟨g, 0, none⟩) (xs.length + ys.length) cap).ownBlock = v.ownBlock ∨ ∃ b, (Value.slice (some ⟨g, 0, none⟩) (xs.length + ys.length) cap).ownBlock = some b ∧ W.heap.size ≤ b := by
      rcases hat with hat | hat
      · exact .inl (by rw [hat]; rfl)
      · exact .inr ⟨_, rfl, by rw [hat]; exact Nat.le_refl _⟩
    exact h _ w1 (OwnR.appended hr hcs hown1 h0 hg hat') hg hat'
def ixZ {α : Type} [DecidableEq α] (xs : List α) (x : α) : Int := if x ∈ xs then (xs.idxOf x : Int) else -1
theorem ixZ_none {α : Type} [DecidableEq α] {xs : List α} {x : α} (h : x ∉ xs) : ixZ xs x = -1 := if_neg h
theorem ixZ_at {α : Type} [DecidableEq α] {xs : List α} {x d : α} {k : Nat} (hk : k < xs.length) (h0 : x ∉ xs.take k) (h : x = xs.getD k d) : ixZ xs x = k := by
  have e : xs = xs.take k ++ x :: xs.drop (k + 1) := by
    rw [h]
    have : xs.getD k d = xs[k] := by simp [hk]
    rw [this, ← List.drop_eq_getElem_cons hk, List.take_append_drop]
  have hm : x ∈ xs := by rw [e]; simp
  rw [ixZ, if_pos hm]
  have : xs.idxOf x = k := by
    rw [e, List.idxOf_append, if_neg h0]
    simp; omega
  rw [this]
theorem not_mem_snoc {α : Type} [DecidableEq α] {xs : List α} {x d : α} {k : Nat} (hk : k < xs.length) (h0 : x ∉ xs.take k) (h : ¬ x = xs.getD k d) : x ∉ xs.take (k + 1) := by
  rw [take_snoc xs k d hk]; simp [h0]; simpa using h
theorem ixZ_mem {α : Type} [DecidableEq α] (xs : List α) (x : α) : decide (0 ≤ ixZ xs x) = decide (x ∈ xs) := by
  unfold ixZ
  by_cases h : x ∈ xs
  · rw [if_pos h]; simp [h]
  · rw [if_neg h]; simp [h]
theorem Index_sg {ok : Nat → Prop} (xs : List Sg) (A : Option Addr) (n c : Nat) (x : Sg) (w : World) (hr : Row Ty.sg ok w A xs) (hn : n = xs.length) :
    Calls Tryz.prog 95 #[.slice A n c, sgA x] w fun e w' => e = .returned (.int .i64 (ixZ xs x)) ∧ Below w.heap.size w w' := by
  subst hn
  have HR := Lib.hid hr
  have hmx := hr.len
  clear hr
  go_enter Tryz.func95, Tryz.ntmps95
  go_wp2
  go_loopw [8] (fun i wr => ∃ k : Nat, k ≤ xs.length ∧ i = .int .i64 k ∧ wr.heap[w.heap.size]? = some (.cells #[.int .i64 x.1.1, .int .i64 x.1.2, .int .i64 x.2.1, .int .i64 x.2.2] 32 (0, 0)) ∧ Hid (Below w.heap.size w wr) ∧ Hid (x ∉ xs.take k)) (fun i _ => xs.length - (intOf i).toNat)
  case atStart => exact ⟨0, Nat.zero_le _, rfl, heap_alloc_new _ _, below_alloc (Below.refl _ _) _, by simp [Hid]⟩
  case round =>
    obtain ⟨k, hk, rfl, HX, HB, HN⟩ := hrel
    have hsz := lt_of_block HX
    by_cases hlt : k < xs.length
    · have HRk := Lib.hid (HR.out.below HB.out)
      obtain ⟨ad, rfl, hx0, hx1, hx2, hx3⟩ := HRk.out.sg_at k hlt
      have hc0 := blk_cell HX 0 rfl
      have hc1 := blk_cell HX 1 rfl
      have hc2 := blk_cell HX 2 rfl
      have hc3 := blk_cell HX 3 rfl
      by_cases hq : x = sgD xs k
      · have hd := (sgB x (sgD xs k)).trans (decide_eq_true hq)
        have HE : Hid (ixZ xs x = k) := ixZ_at (d := ((0, 0), (0, 0))) hlt HN.out hq
        clear hq HN
        go_wp2_with fail
        go_quiet (fail)
        go_wp2
        go_ret
        exact ⟨ret_int HE.out.symm, (by repeat (first | exact Below.refl _ _ | apply below_alloc | apply below_drewN | apply below_drew | (refine below_set2 ?_ ?_; (first | (simp; done) | (simp; omega))) | (refine below_step ?_ HB.out)))⟩
      · have hd := (sgB x (sgD xs k)).trans (decide_eq_false hq)
        have HN2 := Lib.hid (not_mem_snoc (d := ((0, 0), (0, 0))) hlt HN.out hq)
        clear hq HN
        go_wp2_with fail
        go_quiet (fail)
        go_wp2
        go_roundw
        case rel => exact ⟨k + 1, by omega, by go_num, HX, (by repeat (first | exact Below.refl _ _ | apply below_alloc | apply below_drewN | apply below_drew | (refine below_set2 ?_ ?_; (first | (simp; done) | (simp; omega))) | (refine below_step ?_ HB.out))), HN2⟩
        case measure => simp [intOf]; omega
    · obtain rfl : k = xs.length := by omega
      have HE : Hid (ixZ xs x = -1) := ixZ_none (by have := HN.out; rwa [List.take_length] at this)
      clear HN
      go_wp2
      go_ret
      exact ⟨ret_int HE.out.symm, HB.out⟩
theorem Index_pt {ok : Nat → Prop} (xs : List Pt) (A : Option Addr) (n c : Nat) (x : Pt) (w : World) (hr : Row Ty.pt ok w A xs) (hn : n = xs.length) :
    Calls Tryz.prog 86 #[.slice A n c, ptA x] w fun e w' => e = .returned (.int .i64 (ixZ xs x)) ∧ Below w.heap.size w w' := by
  subst hn
  have HR := Lib.hid hr
  have hmx := hr.len
  clear hr
  go_enter Tryz.func86, Tryz.ntmps86
  go_wp2
  go_loopw [8] (fun i wr => ∃ k : Nat, k ≤ xs.length ∧ i = .int .i64 k ∧ wr.heap[w.heap.size]? = some (.cells #[.int .i64 x.1, .int .i64 x.2] 24 (0, 0)) ∧ Hid (Below w.heap.size w wr) ∧ Hid (x ∉ xs.take k)) (fun i _ => xs.length - (intOf i).toNat)
  case atStart => exact ⟨0, Nat.zero_le _, rfl, heap_alloc_new _ _, below_alloc (Below.refl _ _) _, by simp [Hid]⟩
  case round =>
    obtain ⟨k, hk, rfl, HX, HB, HN⟩ := hrel
    have hsz := lt_of_block HX
    by_cases hlt : k < xs.length
    · have HRk := Lib.hid (HR.out.below HB.out)
      obtain ⟨ad, rfl, hx0, hx1⟩ := HRk.out.pt_at k hlt
      have hc0 := blk_cell HX 0 rfl
      have hc1 := blk_cell HX 1 rfl
      by_cases hq : x = ptD xs k
      · have hd := (ptB x (ptD xs k)).trans (decide_eq_true hq)
        have HE : Hid (ixZ xs x = k) := ixZ_at (d := (0, 0)) hlt HN.out hq
        clear hq HN
        go_wp2_with fail
        go_quiet (fail)
        go_wp2
        go_ret
        exact ⟨ret_int HE.out.symm, (by repeat (first | exact Below.refl _ _ | apply below_alloc | apply below_drewN | apply below_drew | (refine below_set2 ?_ ?_; (first | (simp; done) | (simp; omega))) | (refine below_step ?_ HB.out)))⟩
      · have hd := (ptB x (ptD xs k)).trans (decide_eq_false hq)
        have HN2 := Lib.hid (not_mem_snoc (d := (0, 0)) hlt HN.out hq)
        clear hq HN
        go_wp2_with fail
        go_quiet (fail)
        go_wp2
        go_roundw
        case rel => exact ⟨k + 1, by omega, by go_num, HX, (by repeat (first | exact Below.refl _ _ | apply below_alloc | apply below_drewN | apply below_drew | (refine below_set2 ?_ ?_; (first | (simp; done) | (simp; omega))) | (refine below_step ?_ HB.out))), HN2⟩
        case measure => simp [intOf]; omega
    · obtain rfl : k = xs.length := by omega
      have HE : Hid (ixZ xs x = -1) := ixZ_none (by have := HN.out; rwa [List.take_length] at this)
      clear HN
      go_wp2
      go_ret
      exact ⟨ret_int HE.out.symm, HB.out⟩
theorem Contains_sg {ok : Nat → Prop} (xs : Sgs) (A : Option Addr) (n c : Nat) (x : Sg) (w : World) (hr : Row Ty.sg ok w A xs) (hn : n = xs.length) :
    Calls Tryz.prog 54 #[.slice A n c, sgA x] w fun e w' => e = .returned (.bool (decide (x ∈ xs))) ∧ Below w.heap.size w w' := by
  subst hn
  have HR := Lib.hid hr
  clear hr
  go_enter Tryz.func54, Tryz.ntmps54
  go_wp2_with fail
  refine (Index_sg xs A _ c x _ (HR.out.alloc _) rfl).mono ?_
  rintro e w1 ⟨rfl, hb1⟩
  go_wp2
  go_ret
  exact ⟨ret_bool ((ixZ_mem xs x).trans (decide_eq_decide.2 Iff.rfl)), (by repeat (first | exact Below.refl _ _ | apply below_alloc | apply below_drewN | apply below_drew | (refine below_set2 ?_ ?_; (first | (simp; done) | (simp; omega))) | (refine below_step ?_ hb1)))⟩
theorem Equal_sg {ok ok' : Nat → Prop} (a b : Sgs) (A B : Option Addr) (n m c d : Nat) (w : World) (ha : Row Ty.sg ok w A a) (hb : Row Ty.sg ok' w B b) (hn : n = a.length) (hm : m = b.length) :
    Calls Tryz.prog 76 #[.slice A n c, .slice B m d] w fun e w' => e = .returned (.bool (decide (a = b))) ∧ Below w.heap.size w w' := by
  subst hn hm
  have hl1 := ha.len
  have hl2 := hb.len
  by_cases hl : a.length = b.length
  · have HL := Lib.hid hl
    have hlb : ((a.length : Int) != (b.length : Int)) = false := by simp [hl]
    have hlb2 : (a.length == b.length) = true := by simp [hl]
    clear hl
    go_enter Tryz.func76, Tryz.ntmps76
    go_wp2
    go_loopw [13] (fun i wr => ∃ k : Nat, k ≤ a.length ∧ i = .int .i64 k ∧ Below w.heap.size w wr ∧ Hid (a.take k = b.take k)) (fun i _ => a.length - (intOf i).toNat)
    case atStart => exact ⟨0, Nat.zero_le _, rfl, Below.refl _ _, by simp [Hid]⟩
    case round =>
      obtain ⟨k, hk, rfl, hbl, hall⟩ := hrel
      by_cases hlt : k < a.length
      · have hlt2 : k < b.length := by have := HL.out; omega
        obtain ⟨ad, rfl, hx0, hx1, hx2, hx3⟩ := (ha.below hbl).sg_at k hlt
        obtain ⟨bd, rfl, hy0, hy1, hy2, hy3⟩ := (hb.below hbl).sg_at k hlt2
        by_cases hq : sgD a k = sgD b k
        · have hd := (sgB (sgD a k) (sgD b k)).trans (decide_eq_true hq)
          have HQ := Lib.hid hq
          clear hq
          go_wp2_with fail
          go_quiet (fail)
          go_wp2
          go_roundw
          case rel => exact ⟨k + 1, by omega, by go_num, (by repeat (first | exact Below.refl _ _ | apply below_alloc | apply below_drewN | apply below_drew | (refine below_set2 ?_ ?_; (first | (simp; done) | (simp; omega))) | (refine below_step ?_ hbl))), take_eq_step ((0, 0), (0, 0)) hall.out hlt hlt2 HQ.out⟩
          case measure => simp [intOf]; omega
        · have hd := (sgB (sgD a k) (sgD b k)).trans (decide_eq_false hq)
          have HQ := Lib.hid hq
          clear hq
          go_wp2_with fail
          go_quiet (fail)
          go_wp2
          go_ret
          exact ⟨ret_bool (by rw [eq_comm, decide_eq_false_iff_not]; exact take_ne ((0, 0), (0, 0)) HQ.out), (by repeat (first | exact Below.refl _ _ | apply below_alloc | apply below_drewN | apply below_drew | (refine below_set2 ?_ ?_; (first | (simp; done) | (simp; omega))) | (refine below_step ?_ hbl)))⟩
      · go_wp2
        go_ret
        refine ⟨ret_bool ?_, hbl⟩
        have := hall.out
        rw [List.take_of_length_le (by omega), List.take_of_length_le (by have := HL.out; omega)] at this
        simp [this]
  · have HL := Lib.hid hl
    have hlb : ((a.length : Int) != (b.length : Int)) = true := by simp; omega
    have hlb2 : (a.length == b.length) = false := by simpa using hl
    clear hl
    go_enter Tryz.func76, Tryz.ntmps76
    go_wp2
    go_ret
    exact ⟨ret_bool (by rw [eq_comm, decide_eq_false_iff_not]; exact fun h => HL.out (by rw [h])), Below.refl _ _⟩
theorem Clone_pt {ok : Nat → Prop} (rs : Pts) (A : Option Addr) (n c : Nat) (w : World) (hr : Row Ty.pt ok w A rs) (hn : n = rs.length) (hlen : rs.length ≤ 1000000) :
    Calls Tryz.prog 88 #[.slice A n c] w fun e w' => ∃ v, e = .returned v ∧ Own1 Ty.pt 24 w.heap.size w' v rs ∧ Below w.heap.size w w' := by
  subst hn
  have hr0 : Row Ty.pt (fun k => k < w.heap.size) w A rs := hr.bnd.mono (fun k hk => hk.2)
  clear hr
  have heq : ∀ (w : World) (a : Option Addr) (n c n' c' : Nat), (binOp .eql 41 (.slice a n c) (.slice none n' c')).run Tryz.prog w = .ok (.bool a.isNone) w := fun w a n c n' c' => Lib.run_eql_slice_nil w _ _ a n c n' c' Tryz.underlying41
  go_enter Tryz.func88, Tryz.ntmps88
  rcases A with _ | ad
  · have hx : rs = [] := by
      rcases Nat.eq_zero_or_pos rs.length with hy | hy
      · exact List.eq_nil_of_length_eq_zero hy
      · obtain ⟨ad, e, _⟩ := hr0.2 hy
        cases e
    subst hx
    go_wp2
    go_ret
    exact ⟨_, rfl, OwnR.nil _ _ _ _ _, Below.refl _ _⟩
  · have H0 : OwnR Ty.pt 24 w.heap.size (fun k => k = w.heap.size) (w.alloc (.cells #[] 24)) (.slice (some ⟨w.heap.size, 0, none⟩) 0 0) [] :=
      ⟨fun k hk => by simp [Value.ownBlock] at hk; exact hk.symm, [], by have := World.ownsRow_made (base := w.heap.size) (size := 2) (e := 24) w #[] 0 (Nat.le_refl _) (by decide) rfl; simpa [show Ty.pt.sz = 2 from rfl] using this, rfl⟩
    have R0 : Row Ty.pt (fun k => ¬ k = w.heap.size) (w.alloc (.cells #[] 24)) (some ad) rs := (hr0.alloc _).mono (fun k hk e => by omega)
    have h1000 : (([] : Pts).length + rs.length) * 16 ≤ 140737488355328 := by simp; omega
    clear hr0
    go_wp2_with (first | (at_builtin; refine app_row Ty.pt (W := w.alloc (.cells #[] 24)) w.heap.size rfl _ _ 41 24 _ 16 rfl Tryz.underlying41 infoPt rfl (by decide) _ [] rs (some ad) _ c _ rfl rfl rfl R0 H0 (by simp) h1000 ?_; intro v1 w1 HO1 hg1 hat1))
    have hb1 : Below w.heap.size w w1 := below_grown (below_alloc (Below.refl _ _) _) hg1 (fun b e => by cases e; exact Nat.le_refl _)
    have HO2 := Lib.hid (Own1.of HO1)
    clear HO1 hg1 hat1
    go_ret
    exact ⟨_, rfl, HO2.out, hb1⟩
end Go.Proofs.YtlmjciajpjdilaaGreat
end

section
namespace Go.Proofs.YtlmjciajpjdilaaGreat
open Go.RowKit Go.Proofs.YtlmjciajpjdilaaGreatW.PrintLast
set_option linter.unusedVariables false
set_option linter.unusedSimpArgs false

theorem ends2_snoc (u : Sgs) (k : Nat) (h : k < u.length) : ends2 (u.take (k + 1)) = ends2 (u.take k) ++ [(sgD u k).1, (sgD u k).2] := by
  unfold ends2
  rw [take_snoc u k ((0, 0), (0, 0)) h, List.flatMap_append]; rfl
theorem ends2_len (u : Sgs) : (ends2 u).length = 2 * u.length := by
  unfold ends2
  induction u with
  | nil => rfl
  | cons x xs ih => rw [List.flatMap_cons, List.length_append, ih]; simp; omega
def cutSt (es : Pts) (s : Sg) (acc : Sgs) (j : Nat) : Sgs × Pt := (es.take j).foldl (cutsF s) (acc, s.1)
theorem cutSt_snoc (es : Pts) (s : Sg) (acc : Sgs) (j : Nat) (h : j < es.length) : cutSt es s acc (j + 1) = cutsF s (cutSt es s acc j) (ptD es j) := by
  unfold cutSt
  rw [take_snoc es j (0, 0) h, List.foldl_append]; rfl
theorem cutSt_in {es : Pts} {s : Sg} {acc : Sgs} {j : Nat} (h : j < es.length) (hw : withinB (ptD es j) s.1 s.2 = true) : cutSt es s acc (j + 1) = ((cutSt es s acc j).1 ++ [((cutSt es s acc j).2, ptD es j)], ptD es j) := by
  rw [cutSt_snoc es s acc j h]; unfold cutsF; rw [if_pos hw]
theorem cutSt_out {es : Pts} {s : Sg} {acc : Sgs} {j : Nat} (h : j < es.length) (hw : withinB (ptD es j) s.1 s.2 = false) : cutSt es s acc (j + 1) = cutSt es s acc j := by
  rw [cutSt_snoc es s acc j h]; unfold cutsF; rw [if_neg (by rw [hw]; decide)]
theorem cutSt_len (es : Pts) (s : Sg) (acc : Sgs) : ∀ j, (cutSt es s acc j).1.length ≤ acc.length + j
  | 0 => by simp [cutSt]
  | j + 1 => by
    have ih := cutSt_len es s acc j
    by_cases h : j < es.length
    · rw [cutSt_snoc es s acc j h]; unfold cutsF
      split <;> simp <;> omega
    · have : cutSt es s acc (j + 1) = cutSt es s acc j := by unfold cutSt; rw [List.take_of_length_le (by omega), List.take_of_length_le (by omega)]
      rw [this]; omega
def partsZ (es : Pts) (l : Sgs) : Sgs := l.foldl (fun acc s => cutsZ es s acc) []
theorem cutsZ_eq (es : Pts) (s : Sg) (acc : Sgs) : cutsZ es s acc = (cutSt es s acc es.length).1 ++ [((cutSt es s acc es.length).2, s.2)] := by
  unfold cutsZ cutSt; rw [List.take_length]
theorem parts_snoc (es : Pts) (l : Sgs) (k : Nat) (h : k < l.length) : partsZ es (l.take (k + 1)) = cutsZ es (sgD l k) (partsZ es (l.take k)) := by
  unfold partsZ
  rw [take_snoc l k ((0, 0), (0, 0)) h, List.foldl_append]; rfl
theorem parts_len (es : Pts) (l : Sgs) : ∀ k, (partsZ es (l.take k)).length ≤ k * (es.length + 1)
  | 0 => by simp [partsZ]
  | k + 1 => by
    have ih := parts_len es l k
    rw [Nat.add_mul, Nat.one_mul]
    by_cases h : k < l.length
    · rw [parts_snoc es l k h, cutsZ_eq, List.length_append]
      have := cutSt_len es (sgD l k) (partsZ es (l.take k)) es.length
      simp; omega
    · rw [List.take_of_length_le (by omega), ← List.take_of_length_le (show l.length ≤ k by omega)]; omega
theorem split_eq (l : Sgs) : splitZ l = sortZ (partsZ (endsZ l) (canonZ l)) := rfl
theorem parts_le {a b n : Nat} (h1 : a ≤ 600) (h2 : b ≤ 1200) (h3 : n ≤ a * (b + 1)) : n ≤ 720600 := Nat.le_trans h3 (Nat.mul_le_mul h1 (show b + 1 ≤ 1201 by omega))
theorem ends_len (l : Sgs) : (endsZ l).length ≤ 2 * l.length := by
  unfold endsZ
  have h1 := compact_len (sortG lessB (ends2 (uniqZ l)))
  have h2 := sortG_len (less := lessB) (ends2 (uniqZ l))
  have h3 := ends2_len (uniqZ l)
  have h4 := uniq_len l
  omega
set_option maxHeartbeats 2000000 in
theorem noding_Split {ok : Nat → Prop} (l : Sgs) (A : Option Addr) (n c : Nat) (w : World) (hr : Row Ty.sg ok w A l) (hn : n = l.length) (hlen : l.length ≤ 600) :
    Calls Tryz.prog 77 #[.slice A n c] w fun e w' => ∃ v, e = .returned v ∧ Own1 Ty.sg 32 w.heap.size w' v (splitZ l) ∧ Below w.heap.size w w' := by
  subst hn
  have HR := Lib.hid hr
  clear hr
  have hel := ends_len l
  have hul := uniq_len l
  have hcl := canon_le l
  have CU := Lib.hid (fun W h => noding_Unique (ok := ok) l A l.length c W h rfl (by omega))
  have CC := Lib.hid (fun W h => noding_canon (ok := ok) l A l.length c W h rfl (by omega))
  have HSP := Lib.hid (split_eq l)
  have HES : Hid (endsZ l = compactZ (sortG lessB (ends2 (uniqZ l)))) := rfl
  generalize splitZ l = res at *
  generalize endsZ l = es at *
  generalize uniqZ l = u at *
  generalize canonZ l = cl at *
  go_enter Tryz.func77, Tryz.ntmps77
  go_wp2_with fail
  refine Calls.mono (CU.out _ HR.out) ?_
  rintro e w1 ⟨v, rfl, ho, hb1⟩
  obtain ⟨A1, c1, rfl, hl1, hr1⟩ := ho.reads
  have HU := Lib.hid hr1
  have HB1 := Lib.hid hb1
  clear ho hr1 hb1
  go_wp2
  go_loopw [3, 15] (fun v i wr => ∃ k : Nat, k ≤ u.length ∧ i = .int .i64 k ∧ Hid (Below w1.heap.size w1 wr) ∧ Hid (Own1 Ty.pt 24 w1.heap.size wr v (ends2 (u.take k)))) (fun _ i _ => u.length - (intOf i).toNat)
  case atStart => exact ⟨0, Nat.zero_le _, rfl, Below.refl _ _, OwnR.nil _ _ _ _ _⟩
  case round =>
    obtain ⟨k, hk, rfl, HB, HO⟩ := hrel
    by_cases hlt : k < u.length
    · have HUr := Lib.hid (HU.out.below HB.out)
      obtain ⟨ad, rfl, hx0, hx1, hx2, hx3⟩ := HUr.out.sg_at k hlt
      have HS := Lib.hid (ends2_snoc u k hlt)
      have HL : Hid (((ends2 (u.take k)).length + 2) * 16 ≤ 140737488355328) := by
        show _ ≤ _
        rw [ends2_len, List.length_take]; omega
      have hsz := HB.out.size
      obtain ⟨s, hs⟩ : ∃ s, s = sgD u k := ⟨_, rfl⟩
      rw [← hs] at hx0 hx1 hx2 hx3 HS
      clear hs HUr
      have HRL : Hid (∀ (W : World) (M : Nat → Prop), ¬ M W.heap.size → Row Ty.pt (fun k => ¬ M k) (W.alloc (.cells #[.int .i64 s.1.1, .int .i64 s.1.2, .int .i64 s.2.1, .int .i64 s.2.2] 24)) (some ⟨W.heap.size, 0, none⟩) [s.1, s.2]) := fun W M hM => Row.pt_lit W [s.1, s.2] _ _ hM (by simp)
      go_wp2_with (at_builtin; refine app_row Ty.pt (W := (wr.alloc (.cells #[.int .i64 s.1.1, .int .i64 s.1.2, .int .i64 s.2.1, .int .i64 s.2.2] 32)).alloc (.cells #[.int .i64 s.1.1, .int .i64 s.1.2, .int .i64 s.2.1, .int .i64 s.2.2] 24)) w1.heap.size rfl _ _ 41 24 _ 16 rfl Tryz.underlying41 infoPt rfl (by decide) _ (ends2 (u.take k)) [s.1, s.2] _ 2 2 _ rfl (by simp; rfl) rfl (HRL.out _ _ (fun hm => absurd (OwnR.lt HO.out _ hm).2 (by first | (simp; done) | (simp; omega)))) (Own1.below HO.out (by repeat (first | exact Below.refl _ _ | apply below_alloc | apply below_drewN | apply below_drew | (refine below_set2 ?_ ?_; (first | (simp; done) | (simp; omega)))))) (by simp; omega) HL.out ?_; intro v1 w4 HO1 hg1 hat1)
      have BZ : Hid (Below w1.heap.size w1 w4) := below_own (by repeat (first | exact Below.refl _ _ | apply below_alloc | apply below_drewN | apply below_drew | (refine below_set2 ?_ ?_; (first | (simp; done) | (simp; omega))) | (refine below_step ?_ HB.out))) (World.grownBy.trans (World.grownBy_alloc _ _ _) (World.grownBy.trans (World.grownBy_alloc _ _ _) hg1)) (fun b e => (OwnR.lt HO.out b e).1)
      have HO4 := Lib.hid (Own1.of HO1)
      clear HO1 hg1 hat1
      go_wp2
      go_roundw
      case rel => exact ⟨k + 1, by omega, by go_num, BZ, by rw [HS.out]; exact HO4.out⟩
      case measure => simp [intOf]; omega
    · obtain rfl : k = u.length := by omega
      rw [List.take_length] at HO
      have hE2 := Nat.le_of_eq (ends2_len u)
      obtain ⟨A2, c2, rfl, hl2, hr2⟩ := HO.out.reads
      clear hr2
      go_wp2_with fail
      refine (SortFunc_pt A2 _ c2 (by omega) HO.out).mono ?_
      rintro e w2 ⟨rfl, ho2, hk2⟩
      have HO2 := Lib.hid ho2
      have HB2 : Hid (Below w1.heap.size w1 w2) := below_kept HB.out hk2 (fun b e => (OwnR.lt HO.out b e).1)
      clear ho2 hk2
      go_wp2_with fail
      refine (Compact_pt _ _ _ w2 HO2.out).mono ?_
      rintro e w3 ⟨v3, rfl, ho3, hk3⟩
      have HB3 : Hid (Below w1.heap.size w1 w3) := below_kept HB2.out hk3 (fun b e => (OwnR.lt HO2.out b e).1)
      rw [← HES.out] at ho3
      obtain ⟨A3, c3, rfl, hl3, hr3⟩ := ho3.reads
      have HE := Lib.hid hr3
      have HBw3 : Hid (Below w.heap.size w w3) := below_step HB1.out HB3.out
      clear ho3 hk3 hr3 HO HO2 HB2 HB HB3 HU HES
      go_wp2_with fail
      refine Calls.mono (CC.out _ (HR.out.below HBw3.out)) ?_
      rintro e w5 ⟨v5, rfl, ho5, hb5⟩
      obtain ⟨A5, c5, rfl, hl5, hr5⟩ := ho5.reads
      have HC := Lib.hid hr5
      have HE5 := Lib.hid (HE.out.below hb5)
      have HB5 : Hid (Below w.heap.size w w5) := below_step HBw3.out hb5
      clear ho5 hr5 hb5 HE HBw3 HB1 CU CC HR
      go_wp2
      go_loopw [6, 34] (fun v i wr => ∃ k : Nat, k ≤ cl.length ∧ i = .int .i64 k ∧ Hid (Below w5.heap.size w5 wr) ∧ Hid (Own1 Ty.sg 32 w5.heap.size wr v (partsZ es (cl.take k)))) (fun _ i _ => cl.length - (intOf i).toNat)
      case atStart => exact ⟨0, Nat.zero_le _, rfl, Below.refl _ _, OwnR.nil _ _ _ _ _⟩
      case round =>
        obtain ⟨k, hk, rfl, HB, HO⟩ := hrel
        by_cases hlt : k < cl.length
        · have HCr := Lib.hid (HC.out.below HB.out)
          obtain ⟨ad, rfl, hx0, hx1, hx2, hx3⟩ := HCr.out.sg_at k hlt
          have HS := Lib.hid ((parts_snoc es cl k hlt).trans (cutsZ_eq _ _ _))
          have hpl := parts_len es cl k
          have hpb := parts_le (n := (partsZ es (cl.take k)).length) (a := cl.length) (b := es.length) (by omega) (by omega) (Nat.le_trans hpl (Nat.mul_le_mul_right _ hk))
          obtain ⟨s, hs⟩ : ∃ s, s = sgD cl k := ⟨_, rfl⟩
          rw [← hs] at hx0 hx1 hx2 hx3 HS
          generalize partsZ es (cl.take k) = acc at *
          have hcl2 := cutSt_len es s acc
          have HCL := Lib.hid hcl2
          clear hs HCr hcl2 hpl
          obtain ⟨wo, rfl⟩ : ∃ wo : World, wo = wr := ⟨_, rfl⟩
          have HAo : ((wo.alloc (.cells #[.int .i64 s.1.1, .int .i64 s.1.2, .int .i64 s.2.1, .int .i64 s.2.2] 32)).alloc (.cells #[.int .i64 s.1.1, .int .i64 s.1.2] 24)).heap[wo.heap.size]? = some (.cells #[.int .i64 s.1.1, .int .i64 s.1.2, .int .i64 s.2.1, .int .i64 s.2.2] 32 (0, 0)) := (two_alloc wo _ _).1
          have HFo : ((wo.alloc (.cells #[.int .i64 s.1.1, .int .i64 s.1.2, .int .i64 s.2.1, .int .i64 s.2.2] 32)).alloc (.cells #[.int .i64 s.1.1, .int .i64 s.1.2] 24)).heap[wo.heap.size + 1]? = some (.cells #[.int .i64 s.1.1, .int .i64 s.1.2] 24 (0, 0)) := (two_alloc wo _ _).2
          go_wp2
          have hzo : w5.heap.size ≤ wo.heap.size := HB.out.size
          have hvb0 : ∀ b, u6.ownBlock = some b → b ≠ wo.heap.size ∧ b ≠ wo.heap.size + 1 := fun b e => by have := (OwnR.lt HO.out b e).2; omega
          go_loopw [6, 42] (fun v i wi => ∃ j : Nat, j ≤ es.length ∧ i = .int .i64 j ∧ wi.heap[wo.heap.size]? = some (.cells #[.int .i64 s.1.1, .int .i64 s.1.2, .int .i64 s.2.1, .int .i64 s.2.2] 32 (0, 0)) ∧ wi.heap[wo.heap.size + 1]? = some (.cells #[.int .i64 (cutSt es s acc j).2.1, .int .i64 (cutSt es s acc j).2.2] 24 (0, 0)) ∧
            Hid (Below w5.heap.size w5 wi) ∧ Hid (Own1 Ty.sg 32 w5.heap.size wi v (cutSt es s acc j).1) ∧ Hid (∀ b, v.ownBlock = some b → b ≠ wo.heap.size ∧ b ≠ wo.heap.size + 1)) (fun _ i _ => es.length - (intOf i).toNat)
          case atStart => exact ⟨0, Nat.zero_le _, rfl, HAo, HFo, (by repeat (first | exact Below.refl _ _ | apply below_alloc | apply below_drewN | apply below_drew | (refine below_set2 ?_ ?_; (first | (simp; done) | (simp; omega))) | (refine below_step ?_ HB.out))), Own1.below HO.out (by repeat (first | exact Below.refl _ _ | apply below_alloc | apply below_drewN | apply below_drew | (refine below_set2 ?_ ?_; (first | (simp; done) | (simp; omega))))), hvb0⟩
          case round =>
            obtain ⟨j, hj, rfl, HA, HF, HBi, HOi, HVB⟩ := hrel
            clear HAo HFo HO HB hvb0 hx0 hx1 hx2 hx3
            have hszi := lt_of_block HF
            have hszj : wo.heap.size < wr.heap.size := by omega
            have hs0 := blk_cell HA 0 rfl
            have hs1 := blk_cell HA 1 rfl
            have hs2 := blk_cell HA 2 rfl
            have hs3 := blk_cell HA 3 rfl
            have hf0 := blk_cell HF 0 rfl
            have hf1 := blk_cell HF 1 rfl
            by_cases hjt : j < es.length
            · have HEr := Lib.hid (HE5.out.below HBi.out)
              obtain ⟨bd, rfl, hp0, hp1⟩ := HEr.out.pt_at j hjt
              have HLi : Hid (((cutSt es s acc j).1.length + 1) * 32 ≤ 140737488355328) := by
                have := HCL.out j
                show _ ≤ _
                omega
              have HIN := Lib.hid (fun h => cutSt_in (es := es) (s := s) (acc := acc) hjt h)
              have HOUT := Lib.hid (fun h => cutSt_out (es := es) (s := s) (acc := acc) hjt h)
              generalize cutSt es s acc j = st at *
              generalize ptD es j = q at *
              have HA1 := blk_alloc HA (.cells #[.int .i64 q.1, .int .i64 q.2] 24)
              have HF1 := blk_alloc HF (.cells #[.int .i64 q.1, .int .i64 q.2] 24)
              have HQ1 := heap_alloc_new wr (.cells #[.int .i64 q.1, .int .i64 q.2] 24)
              clear HEr
              cases hw : withinB q s.1 s.2
              · have HW := Lib.hid hw
                clear hw
                go_wp2_with fail
                refine (seg_Within _ _ _ _).mono ?_
                rintro e w6 ⟨rfl, hb6⟩
                rw [HW.out]
                have HA6 := blk_below HA1 hb6
                have HF6 := blk_below HF1 hb6
                clear hs0 hs1 hs2 hs3 hf0 hf1 hp0 hp1 HA1 HF1 HQ1
                go_wp2
                go_roundw
                case rel => exact ⟨j + 1, by omega, by go_num, HA6, by rw [HOUT.out HW.out]; exact HF6, (by repeat (first | exact Below.refl _ _ | apply below_alloc | apply below_drewN | apply below_drew | (refine below_set2 ?_ ?_; (first | (simp; done) | (simp; omega))) | (refine below_step ?_ hb6) | (refine below_step ?_ HBi.out))), by rw [HOUT.out HW.out]; exact Own1.below HOi.out (by repeat (first | exact Below.refl _ _ | apply below_alloc | apply below_drewN | apply below_drew | (refine below_set2 ?_ ?_; (first | (simp; done) | (simp; omega))) | (refine below_step ?_ hb6))), HVB⟩
                case measure => simp [intOf]; omega
              · have HW := Lib.hid hw
                clear hw
                go_wp2_with fail
                refine (seg_Within _ _ _ _).mono ?_
                rintro e w6 ⟨rfl, hb6⟩
                rw [HW.out]
                have HA6 := blk_below HA1 hb6
                have HF6 := blk_below HF1 hb6
                have HQ6 := blk_below HQ1 hb6
                have HB6 : Hid (Below w5.heap.size w5 w6) := (by repeat (first | exact Below.refl _ _ | apply below_alloc | apply below_drewN | apply below_drew | (refine below_set2 ?_ ?_; (first | (simp; done) | (simp; omega))) | (refine below_step ?_ hb6) | (refine below_step ?_ HBi.out)))
                have HVW : Hid (∀ b, u6.ownBlock = some b → b < wr.heap.size) := fun b e => (OwnR.lt HOi.out b e).2
                have HO6 : Hid (Own1 Ty.sg 32 w5.heap.size w6 _ st.1) := Own1.below HOi.out (by repeat (first | exact Below.refl _ _ | apply below_alloc | apply below_drewN | apply below_drew | (refine below_set2 ?_ ?_; (first | (simp; done) | (simp; omega))) | (refine below_step ?_ hb6)))
                have hz6 := lt_of_block HQ6
                have hs6 := HB6.out.size
                clear hs0 hs1 hs2 hs3 hf0 hf1 hp0 hp1 HA1 HF1 HQ1 HA HF HOi hb6
                have hf0 := blk_cell HF6 0 rfl
                have hf1 := blk_cell HF6 1 rfl
                have hq0 := blk_cell HQ6 0 rfl
                have hq1 := blk_cell HQ6 1 rfl
                go_wp2_with (at_builtin; refine app_one Ty.sg (W := w6) w5.heap.size rfl _ _ 22 32 _ 32 rfl Tryz.underlying22 infoSg rfl (by decide) u6 st.1 (st.2, q) _ _ rfl rfl rfl rfl HO6.out (by omega) HLi.out ?_; intro v1 w7 HO1 hg1 hat1; have hq7 := (hg1.block _ hz6 (fun e => absurd (HVW.out _ e.symm) (Nat.lt_irrefl _))).trans HQ6; have hc7 := blk_cell hq7 0 rfl; have hc8 := blk_cell hq7 1 rfl; have hf7 := (hg1.block _ (lt_of_block HF6) (fun e => (HVB.out _ e.symm).2 rfl)).trans HF6; have hfr0 := blk_free hf7 0; have hfr1 := blk_free hf7 1; have hd0 := blk_cell hf7 0 rfl; have hd1 := blk_cell hf7 1 rfl)
                have HA7 := (hg1.block _ (lt_of_block HA6) (fun e => (HVB.out _ e.symm).1 rfl)).trans HA6
                have HO7 := Lib.hid (Own1.of HO1)
                have HB7 : Hid (Below w5.heap.size w5 w7) := below_own HB6.out hg1 (fun b e => (OwnR.lt HO6.out b e).1)
                have HVB7 : Hid (∀ b, v1.ownBlock = some b → b ≠ wo.heap.size ∧ b ≠ wo.heap.size + 1) := fun b e => by
                  rcases hat1 with h | ⟨b', h, hle⟩
                  · exact HVB.out b (h ▸ e)
                  · have : b' = b := by rw [h] at e; exact Option.some.inj e
                    omega
                clear HO1 hg1 hat1 HF6 HQ6 HA6 hq7 hf0 hf1 hq0 hq1 HB6 HO6
                have hne : ¬ wo.heap.size = wo.heap.size + 1 := by omega
                go_wp2
                go_roundw
                case rel => exact ⟨j + 1, by omega, by go_num, blk_far (blk_far HA7 hne _) hne _, by rw [HIN.out HW.out]; exact blk_set (blk_set hf7 _) _, below_set2 (by show _ ≤ wo.heap.size + 1; omega) (below_set2 (by show _ ≤ wo.heap.size + 1; omega) HB7.out), by rw [HIN.out HW.out]; exact HO7.out.flat_kept (S := fun b => b = wo.heap.size + 1) sg_flat (kept_set rfl (kept_set rfl (kept_refl _ _))) (fun b e => (HVB7.out b e).2), HVB7⟩
                case measure => simp [intOf]; omega
            · obtain rfl : j = es.length := by omega
              have HLi : Hid (((cutSt es s acc es.length).1.length + 1) * 32 ≤ 140737488355328) := by
                have := HCL.out es.length
                show _ ≤ _
                omega
              have HS2 : Hid (partsZ es (cl.take (k + 1)) = (cutSt es s acc es.length).1 ++ [((cutSt es s acc es.length).2, s.2)]) := HS.out
              generalize cutSt es s acc es.length = st at *
              have hs9 := HBi.out.size
              go_wp2_with (at_builtin; refine app_one Ty.sg (W := wr) w5.heap.size rfl _ _ 22 32 _ 32 rfl Tryz.underlying22 infoSg rfl (by decide) u6 st.1 (st.2, s.2) _ _ rfl rfl rfl rfl HOi.out (by omega) HLi.out ?_; intro v1 w7 HO1 hg1 hat1)
              have HO7 := Lib.hid (Own1.of HO1)
              have HB7 : Hid (Below w5.heap.size w5 w7) := below_own HBi.out hg1 (fun b e => (OwnR.lt HOi.out b e).1)
              clear HO1 hg1 hat1
              go_wp2
              go_roundw
              case rel => exact ⟨k + 1, by omega, by go_num, HB7, by rw [HS2.out]; exact HO7.out⟩
              case measure => simp [intOf]; omega
        · obtain rfl : k = cl.length := by omega
          have hpl := parts_len es cl cl.length
          rw [List.take_length] at HO hpl
          have hpb := parts_le (n := (partsZ es cl).length) (a := cl.length) (b := es.length) (by omega) (by omega) hpl
          obtain ⟨A7, c7, rfl, hl7, hr7⟩ := HO.out.reads
          have HR7 := Lib.hid hr7
          clear hr7 hpl
          go_wp2_with fail
          refine (noding_Sort (partsZ es cl) A7 _ c7 _ HR7.out rfl (by omega)).mono ?_
          rintro e w8 ⟨v8, rfl, ho8, hb8⟩
          have HO8 := Lib.hid ho8
          have HBz : Hid (Below w.heap.size w w8) := below_step (below_step HB5.out HB.out) hb8
          have hle := (below_step HB5.out HB.out).size
          rw [← HSP.out] at HO8
          clear ho8 hb8
          go_wp2
          go_ret
          exact ⟨_, rfl, Own1.base HO8.out hle, HBz.out⟩
end Go.Proofs.YtlmjciajpjdilaaGreat
end
