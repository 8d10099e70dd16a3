/- Contracts of trace.Where, of slices.Equal, Index and Contains at segments. -/
import Derived.Test.YtlmjciajpjdilaaTLeft
namespace Go.Proofs.Ytlmjciajpjdilaa
open Go.RowKit Go.Proofs.YtlmjciajpjdilaaW.PrintLast
set_option linter.unusedVariables false
set_option linter.unusedSimpArgs false

attribute [local go_sem high] eqPt eqSg
theorem ofB_valid {a b : Pt} (h : (validB a && validB b) = true) : (validB (ofB a b).1 && validB (ofB a b).2) = true := by
  rw [Bool.and_eq_true] at h
  unfold ofB
  split <;> simp [h.1, h.2]
theorem canon_V (l : Sgs) : segsV (canonZ l) := by
  intro s hs
  obtain ⟨x, hx, rfl⟩ := List.mem_map.1 hs
  have := (List.mem_filter.1 hx).2
  unfold goodB at this
  rw [Bool.and_eq_true] at this
  exact ofB_valid this.2
theorem sort_V (l : Sgs) : segsV (sortZ l) := fun s hs => canon_V l s (mem_sortG.1 hs)
theorem uniq_V (l : Sgs) : segsV (uniqZ l) := fun s hs => sort_V l s (mem_compact.1 hs)
theorem uniq_len (l : Sgs) : (uniqZ l).length ≤ l.length := by
  have h1 := compact_len (sortZ l)
  have h2 := canon_le l
  unfold uniqZ
  have h3 : (sortZ l).length = (canonZ l).length := sortG_len _
  omega
theorem any_snoc {α : Type} (xs : List α) (d : α) (f : α → Bool) (k : Nat) (h : k < xs.length) : (xs.take (k + 1)).any f = ((xs.take k).any f || f (xs.getD k d)) := by
  rw [take_snoc xs k d h, List.any_append]; simp
theorem any_hit {α : Type} {xs : List α} {d : α} {f : α → Bool} {k : Nat} (h : k < xs.length) (hf : f (xs.getD k d) = true) : xs.any f = true := by
  rw [List.any_eq_true]
  refine ⟨xs[k], List.getElem_mem h, ?_⟩
  simpa [h] using hf
set_option maxHeartbeats 1000000 in
theorem trace_Where {ok : Nat → Prop} (l : Sgs) (A : Option Addr) (n c : Nat) (p : Pt) (w : World) (hr : Row Ty.sg ok w A l) (hn : n = l.length) (hlen : l.length ≤ 1000000) :
    Calls Try.prog 9 #[.slice A n c, ptA p] w fun e w' => e = .returned (.int .i64 (whereT l p)) ∧ Below w.heap.size w w' := by
  subst hn
  have HE : Hid (whereT l p = if validB p = false then 0 else whereU (uniqZ l) p) := rfl
  generalize whereT l p = r at *
  obtain ⟨p1, p2⟩ := p
  have HR := Lib.hid hr
  clear hr
  simp only [ptA]
  cases hv : validB (p1, p2)
  · have HE1 : Hid (r = 0) := HE.out.trans (if_pos hv)
    have HV := Lib.hid hv
    clear HE hv
    go_enter Try.func9, Try.ntmps9
    go_wp2_with fail
    (refine (grid_Valid p1 p2 _).mono ?_; rintro e w1 ⟨rfl, hb1⟩; obtain ⟨c_hb1, f_hb1⟩ := bcell hb1; have z_hb1 := hb1.size; (try simp at z_hb1); (try have y0_hb1 : w.heap.size < w1.heap.size := by omega); (try have y1_hb1 : w.heap.size + 1 < w1.heap.size := by omega); (try have y2_hb1 : w.heap.size + 1 + 1 < w1.heap.size := by omega); (try have y3_hb1 : w.heap.size + 1 + 1 + 1 < w1.heap.size := by omega); (try have y4_hb1 : w.heap.size + 1 + 1 + 1 + 1 < w1.heap.size := by omega))
    rw [HV.out]
    go_wp2
    go_ret
    exact ⟨ret_int HE1.out.symm, (by repeat (first | exact Below.refl _ _ | apply below_alloc | apply below_drewN | apply below_drew | (refine below_set2 ?_ ?_; (first | (simp; done) | (simp; omega))) | (refine below_step ?_ hb1)))⟩
  · have HE1 : Hid (r = whereU (uniqZ l) (p1, p2)) := HE.out.trans (if_neg (by rw [hv]; decide))
    have HV := Lib.hid hv
    obtain ⟨v1, v2, v3, v4⟩ := valid_bd hv
    simp only at v1 v2 v3 v4
    clear HE hv
    have hul := uniq_len l
    have HUV := Lib.hid (uniq_V l)
    have CU := Lib.hid (fun W h => noding_Unique (ok := ok) l A l.length c W h rfl hlen)
    generalize uniqZ l = u at *
    go_enter Try.func9, Try.ntmps9
    go_wp2_with fail
    refine (grid_Valid p1 p2 _).mono ?_
    rintro e w1 ⟨rfl, hb1⟩
    rw [HV.out]
    have HP1 := blk_below (heap_alloc_new w (.cells #[.int .i64 p1, .int .i64 p2] 25)) hb1
    have HB1 : Hid (Below w.heap.size w w1) := (by repeat (first | exact Below.refl _ _ | apply below_alloc | apply below_drewN | apply below_drew | (refine below_set2 ?_ ?_; (first | (simp; done) | (simp; omega))) | (refine below_step ?_ hb1)))
    clear hb1
    go_wp2_with fail
    refine Calls.mono (CU.out _ (HR.out.below HB1.out)) ?_
    rintro e w2 ⟨v, rfl, ho, hb2⟩
    obtain ⟨A1, c1, rfl, hl1, hr1⟩ := ho.reads
    have HU := Lib.hid hr1
    have HP2 := blk_below HP1 hb2
    have HB2 : Hid (Below w.heap.size w w2) := below_step HB1.out hb2
    clear ho hr1 hb2 HP1 HB1
    go_wp2
    go_loopw [15] (fun i wr => ∃ k : Nat, k ≤ u.length ∧ i = .int .i64 k ∧ wr.heap[w.heap.size]? = some (.cells #[.int .i64 p1, .int .i64 p2] 25 (0, 0)) ∧ Hid (Below w.heap.size w wr) ∧ Hid (Row Ty.sg (fun _ => True) wr A1 u) ∧ Hid ((u.take k).any (fun s => onB (p1, p2) s.1 s.2) = false)) (fun i _ => u.length - (intOf i).toNat)
    case atStart => exact ⟨0, Nat.zero_le _, rfl, HP2, HB2, HU, by simp [Hid]⟩
    case round =>
      obtain ⟨k, hk, rfl, HP, HB, HUr, HN⟩ := hrel
      clear HU HP2 HB2
      by_cases hlt : k < u.length
      · obtain ⟨ad, rfl, hx0, hx1, hx2, hx3⟩ := HUr.out.sg_at k hlt
        have hp0 := blk_cell HP 0 rfl
        have hp1 := blk_cell HP 1 rfl
        have hsz := lt_of_block HP
        have HPa := blk_alloc HP (.cells #[.int .i64 (sgD u k).1.1, .int .i64 (sgD u k).1.2, .int .i64 (sgD u k).2.1, .int .i64 (sgD u k).2.2] 27)
        cases hon : onB (p1, p2) (sgD u k).1 (sgD u k).2
        · have HN2 : Hid ((u.take (k + 1)).any (fun s => onB (p1, p2) s.1 s.2) = false) := by show _ = _; rw [any_snoc u ((0, 0), (0, 0)) _ k hlt, HN.out]; exact hon
          have HO : Hid (onB (p1, p2) ((sgD u k).1.1, (sgD u k).1.2) ((sgD u k).2.1, (sgD u k).2.2) = false) := hon
          clear hon
          go_wp2_with fail
          refine (seg_On _ _ _ _ _ _ _).mono ?_
          rintro e w4 ⟨rfl, hb4⟩
          rw [HO.out]
          have HP4 := blk_below HPa hb4
          go_wp2
          go_roundw
          case rel => exact ⟨k + 1, by omega, by go_num, HP4, (by repeat (first | exact Below.refl _ _ | apply below_alloc | apply below_drewN | apply below_drew | (refine below_set2 ?_ ?_; (first | (simp; done) | (simp; omega))) | (refine below_step ?_ hb4) | (refine below_step ?_ HB.out))), HUr.out.below (by repeat (first | exact Below.refl _ _ | apply below_alloc | apply below_drewN | apply below_drew | (refine below_set2 ?_ ?_; (first | (simp; done) | (simp; omega))) | (refine below_step ?_ hb4))), HN2⟩
          case measure => simp [intOf]; omega
        · have HW : Hid (r = 1) := by show r = _; rw [HE1.out]; unfold whereU; rw [if_pos (any_hit (d := ((0, 0), (0, 0))) hlt hon)]
          have HO : Hid (onB (p1, p2) ((sgD u k).1.1, (sgD u k).1.2) ((sgD u k).2.1, (sgD u k).2.2) = true) := hon
          clear hon HE1
          go_wp2_with fail
          refine (seg_On _ _ _ _ _ _ _).mono ?_
          rintro e w4 ⟨rfl, hb4⟩
          rw [HO.out]
          go_wp2
          go_ret
          exact ⟨ret_int HW.out.symm, (by repeat (first | exact Below.refl _ _ | apply below_alloc | apply below_drewN | apply below_drew | (refine below_set2 ?_ ?_; (first | (simp; done) | (simp; omega))) | (refine below_step ?_ hb4) | (refine below_step ?_ HB.out)))⟩
      · obtain rfl : k = u.length := by omega
        rw [List.take_length] at HN
        have HW : Hid (r = if crossN u (2 * p1, 2 * p2) ((0, 0), (0, 0)) % 2 = 1 then 2 else 0) := by show r = _; rw [HE1.out]; unfold whereU; rw [HN.out]; rfl
        clear HE1 HN
        have hp0 := blk_cell HP 0 rfl
        have hp1 := blk_cell HP 1 rfl
        have w5 := wr_in (x := 2 * p1) (by omega) (by omega)
        have w6 := wr_in (x := 2 * p2) (by omega) (by omega)
        by_cases ho : crossN u (2 * p1, 2 * p2) ((0, 0), (0, 0)) % 2 = 1
        · have hq : ((crossN u (2 * p1, 2 * p2) ((0, 0), (0, 0)) : Int) % 2 == 1) = true := (odd_eq _).trans (decide_eq_true ho)
          have HW2 : Hid (r = 2) := HW.out.trans (if_pos ho)
          clear HW ho
          go_wp2_with fail
          refine (trace_crossings u A1 _ c1 (2 * p1) (2 * p2) 0 0 0 0 _ HUr.out rfl HUV.out (by omega) (by omega)).mono ?_
          rintro e w7 ⟨rfl, hb7⟩
          go_wp2
          go_ret
          exact ⟨ret_int HW2.out.symm, (by repeat (first | exact Below.refl _ _ | apply below_alloc | apply below_drewN | apply below_drew | (refine below_set2 ?_ ?_; (first | (simp; done) | (simp; omega))) | (refine below_step ?_ hb7) | (refine below_step ?_ HB.out)))⟩
        · have hq : ((crossN u (2 * p1, 2 * p2) ((0, 0), (0, 0)) : Int) % 2 == 1) = false := (odd_eq _).trans (decide_eq_false ho)
          have HW2 : Hid (r = 0) := HW.out.trans (if_neg ho)
          clear HW ho
          go_wp2_with fail
          refine (trace_crossings u A1 _ c1 (2 * p1) (2 * p2) 0 0 0 0 _ HUr.out rfl HUV.out (by omega) (by omega)).mono ?_
          rintro e w7 ⟨rfl, hb7⟩
          go_wp2
          go_ret
          exact ⟨ret_int HW2.out.symm, (by repeat (first | exact Below.refl _ _ | apply below_alloc | apply below_drewN | apply below_drew | (refine below_set2 ?_ ?_; (first | (simp; done) | (simp; omega))) | (refine below_step ?_ hb7) | (refine below_step ?_ HB.out)))⟩
end Go.Proofs.Ytlmjciajpjdilaa
