/- Contracts of trace.Rings and trace.LeftInside. -/
import Derived.Test.YtlmjciajpjdilaaTRing
import Derived.Test.YtlmjciajpjdilaaTCheck
import Derived.Test.YtlmjciajpjdilaaTLoops
import Derived.Test.YtlmjciajpjdilaaTLists
namespace Go.Proofs.Ytlmjciajpjdilaa
open Go.RowKit Go.Proofs.YtlmjciajpjdilaaW.PrintLast
set_option linter.unusedVariables false
set_option linter.unusedSimpArgs false

theorem dir_V {u : Sgs} (h : segsV u) : segsV (dirZ u) := by
  intro s hs
  obtain ⟨t, ht, rfl⟩ := List.mem_map.1 hs
  have := h t ht
  by_cases hl : leftZ u t = true
  · rw [if_pos hl]; exact this
  · rw [if_neg hl, Bool.and_comm]; exact this
theorem dir_len (u : Sgs) : (dirZ u).length = u.length := List.length_map ..
theorem walk_pos (dl : Sgs) (s : Sg) : ∀ (n : Nat) (t : Sg) (ring : Pts) (rest : Sgs), 0 < n ∨ 0 < ring.length → 0 < (walkZ dl s n t ring rest).1.length
  | 0, t, ring, rest, h => h.elim (fun h => absurd h (Nat.lt_irrefl 0)) id
  | n + 1, t, ring, rest, _ => by
    by_cases hs : succZ dl t = s ∨ succZ dl t ∉ dropS rest t
    · rw [walk_stop hs]; simp
    · have h1 : ¬ succZ dl t = s := fun e => hs (.inl e)
      have h2 : succZ dl t ∈ dropS rest t := Classical.byContradiction (fun e => hs (.inr e))
      rw [walkZ_on h1 h2]
      exact walk_pos dl s n _ _ _ (.inr (by simp))
theorem loopSt_rings (dl : Sgs) : ∀ k, ∀ r ∈ (loopSt dl k).1, 0 < r.length ∧ r.length ≤ dl.length
  | 0, r, h => absurd h (List.not_mem_nil)
  | k + 1, r, h => by
    by_cases hk : k < dl.length
    · rw [loopSt_snoc dl k hk] at h
      by_cases hm : sgD dl k ∈ (loopSt dl k).2
      · rw [loopF_in hm] at h
        rcases List.mem_append.1 h with h | h
        · exact loopSt_rings dl k r h
        · rw [List.mem_singleton.1 h]
          have h1 := walk_len dl (sgD dl k) (loopSt dl k).2.length (sgD dl k) [] (loopSt dl k).2 hm (Nat.le_refl _)
          have h2 := (loopSt_len dl k).2
          have h3 := List.length_pos_of_mem hm
          exact ⟨walk_pos dl _ _ _ _ _ (.inl h3), by simp at h1; omega⟩
      · rw [loopF_out hm] at h; exact loopSt_rings dl k r h
    · have : loopSt dl (k + 1) = loopSt dl k := by unfold loopSt; rw [List.take_of_length_le (by omega), List.take_of_length_le (by omega)]
      rw [this] at h; exact loopSt_rings dl k r h
theorem loops_eq (dl : Sgs) : loopsZ dl = (loopSt dl dl.length).1 := by unfold loopsZ loopSt; rw [List.take_length]
theorem loops_ok (dl : Sgs) : (loopsZ dl).length ≤ dl.length ∧ ∀ r ∈ loopsZ dl, 0 < r.length ∧ r.length ≤ dl.length := by
  rw [loops_eq]
  exact ⟨(loopSt_len dl dl.length).1, loopSt_rings dl dl.length⟩
theorem divided_len (rs : Rgs) (hb : ∀ r ∈ rs, r.length ≤ 1000000) : (dividedZ rs).length ≤ rs.length * 1000001 := by
  have := divTo_len rs hb rs.length (Nat.le_refl _)
  unfold divTo at this
  rwa [List.take_length] at this
set_option maxHeartbeats 1000000 in
theorem trace_Rings {ok : Nat → Prop} (l : Sgs) (A : Option Addr) (n c : Nat) (w : World) (hr : Row Ty.sg ok w A l) (hn : n = l.length) (hlen : l.length ≤ 600) :
    Calls Try.prog 5 #[.slice A n c] w fun e w' => ∃ v, e = .returned (.tuple #[v, .int .i64 (checkZ l)]) ∧ Own1 Ty.ring 36 w.heap.size w' v (ringsZ l) ∧ Below w.heap.size w w' := by
  subst hn
  have HR := Lib.hid hr
  clear hr
  have CC := Lib.hid (fun W h => trace_Check (ok := ok) l A l.length c W h rfl hlen)
  have CU := Lib.hid (fun W h => noding_Unique (ok := ok) l A l.length c W h rfl (by omega))
  have hV := Lib.hid (dir_V (uniq_V l))
  have hL : (dirZ (uniqZ l)).length ≤ 600 := by rw [dir_len]; exact Nat.le_trans (uniq_len l) hlen
  have hLu : (uniqZ l).length ≤ 600 := Nat.le_trans (uniq_len l) hlen
  have hLO := Lib.hid (loops_ok (dirZ (uniqZ l)))
  have hL1 : (loopsZ (dirZ (uniqZ l))).length ≤ 600 := Nat.le_trans (loops_ok (dirZ (uniqZ l))).1 hL
  have hDL : (dividedZ (loopsZ (dirZ (uniqZ l)))).length ≤ 1000000000 := by
    refine Nat.le_trans (divided_len _ (fun r h => by have := ((loops_ok (dirZ (uniqZ l))).2 r h).2; omega)) ?_
    refine Nat.le_trans (Nat.mul_le_mul_right _ hL1) (by decide)
  have HZ : Hid (ringsZ l = if checkZ l = 0 then sortG lessR (dividedZ (loopsZ (dirZ (uniqZ l)))) else []) := rfl
  have hUV := Lib.hid (uniq_V l)
  have hlb : l.length ≤ 600 := hlen
  clear hlen
  generalize checkZ l = r at *
  generalize ringsZ l = z at *
  generalize uniqZ l = u at *
  by_cases h0 : r = 0
  · subst h0
    have HZ1 : Hid (z = sortG lessR (dividedZ (loopsZ (dirZ u)))) := HZ.out.trans (if_pos rfl)
    clear HZ
    go_enter Try.func5, Try.ntmps5
    go_wp2_with fail
    refine Calls.mono (CC.out _ HR.out) ?_
    rintro e w1 ⟨rfl, hb1⟩
    have HR1 := Lib.hid (HR.out.below hb1)
    have HB1 := Lib.hid hb1
    clear hb1
    go_wp2_with fail
    refine Calls.mono (CU.out _ HR1.out) ?_
    rintro e w2 ⟨v2, rfl, ho2, hb2⟩
    obtain ⟨A2, c2, rfl, hl2, hr2⟩ := ho2.reads
    have HR2 := Lib.hid hr2
    have HB2 := Lib.hid (below_step HB1.out hb2)
    clear hb2 ho2 hr2
    go_wp2_with fail
    refine Calls.mono (trace_directed u A2 _ c2 _ HR2.out rfl hUV.out (by omega)) ?_
    rintro e w3 ⟨v3, rfl, ho3, hb3⟩
    obtain ⟨A3, c3, rfl, hl3, hr3⟩ := ho3.reads
    have HR3 := Lib.hid hr3
    have HB3 := Lib.hid (below_step HB2.out hb3)
    clear hb3 ho3 hr3
    go_wp2_with fail
    refine Calls.mono (trace_loops (dirZ u) A3 _ c3 _ HR3.out rfl hV.out (by omega)) ?_
    rintro e w4 ⟨v4, rfl, ho4, hb4⟩
    obtain ⟨A4, c4, rfl, hl4, hr4⟩ := ho4.reads
    have HR4 := Lib.hid hr4
    have HB4 := Lib.hid (below_step HB3.out hb4)
    clear hb4 ho4 hr4
    go_wp2_with fail
    refine Calls.mono (trace_divided (loopsZ (dirZ u)) A4 _ c4 _ HR4.out rfl (fun r h => (hLO.out.2 r h).1) (fun r h => Nat.le_trans (hLO.out.2 r h).2 (by omega)) (by omega)) ?_
    rintro e w5 ⟨v5, rfl, ho5, hb5⟩
    have HB5 := Lib.hid (below_step HB4.out hb5)
    have HO5 := Lib.hid (ho5.base (HB4.out.size))
    obtain ⟨A5, c5, rfl, hl5, hr5⟩ := ho5.reads
    clear hb5 ho5 hr5
    go_wp2_with fail
    refine Calls.mono (SortFunc_rings A5 _ c5 hDL HO5.out) ?_
    rintro e w6 ⟨rfl, ho6, hk6⟩
    have HB6 := Lib.hid (below_kept HB5.out hk6 (fun b e => (OwnR.lt HO5.out b e).1))
    have HO6 := Lib.hid ho6
    clear ho6 hk6
    go_wp2
    go_ret2
    have := HO6.out
    refine ⟨_, rfl, ?_, HB6.out⟩
    rw [HZ1.out]
    rwa [show (dividedZ (loopsZ (dirZ u))).length = (sortG lessR (dividedZ (loopsZ (dirZ u)))).length by rw [sortG_len]] at this ⊢
  · have HZ1 : Hid (z = []) := HZ.out.trans (if_neg h0)
    have q0 : (r == 0) = false := by simp [h0]
    clear HZ
    go_enter Try.func5, Try.ntmps5
    go_wp2_with fail
    refine Calls.mono (CC.out _ HR.out) ?_
    rintro e w1 ⟨rfl, hb1⟩
    have HB1 := Lib.hid hb1
    clear hb1
    go_wp2
    go_ret2
    exact ⟨_, rfl, by rw [HZ1.out]; exact OwnR.nil _ _ _ _ _, HB1.out⟩
set_option maxHeartbeats 1000000 in
theorem trace_LeftInside {ok : Nat → Prop} (l : Sgs) (A : Option Addr) (n c : Nat) (s : Sg) (w : World) (hr : Row Ty.sg ok w A l) (hn : n = l.length) (hlen : l.length ≤ 600) :
    Calls Try.prog 10 #[.slice A n c, sgA s] w fun e w' => e = .returned (.bool (leftIn l s)) ∧ Below w.heap.size w w' := by
  subst hn
  have HR := Lib.hid hr
  clear hr
  have CC := Lib.hid (fun W h => trace_Check (ok := ok) l A l.length c W h rfl hlen)
  have CU := Lib.hid (fun W h => noding_Unique (ok := ok) l A l.length c W h rfl (by omega))
  have HE : Hid (leftIn l s = (decide (s ∈ uniqZ l) && (decide (checkZ l = 0) && leftZ (uniqZ l) s))) := rfl
  have hUV := Lib.hid (uniq_V l)
  generalize leftIn l s = z at *
  generalize checkZ l = r at *
  generalize uniqZ l = u at *
  obtain ⟨⟨s1, s2⟩, ⟨s3, s4⟩⟩ := s
  simp only [sgA]
  by_cases hm : ((s1, s2), (s3, s4)) ∈ u
  · have HM := Lib.hid hm
    have HD := Lib.hid (decide_eq_true hm)
    have HV := Lib.hid (hUV.out _ hm)
    clear hm
    by_cases h0 : r = 0
    · subst h0
      have HZ : Hid (z = leftZ u ((s1, s2), (s3, s4))) := HE.out.trans (by rw [HD.out]; simp)
      clear HE
      go_enter Try.func10, Try.ntmps10
      go_wp2_with fail
      refine Calls.mono (CU.out _ (HR.out.alloc _)) ?_
      rintro e w2 ⟨v2, rfl, ho2, hb2⟩
      obtain ⟨A2, c2, rfl, hl2, hr2⟩ := ho2.reads
      have HR2 := Lib.hid hr2
      clear ho2 hr2
      obtain ⟨cb2, fb2⟩ := bcell hb2
      have z2 := hb2.size
      simp at z2
      have y2 : w.heap.size < w2.heap.size := by omega
      have HB2 : Hid (Below w.heap.size w w2) := (by repeat (first | exact Below.refl _ _ | apply below_alloc | apply below_drewN | apply below_drew | (refine below_set2 ?_ ?_; (first | (simp; done) | (simp; omega))) | (refine below_step ?_ hb2)))
      have HL2 := Lib.hid ((HR.out.alloc _).below hb2)
      go_wp2_with fail
      refine Calls.mono (Contains_sg u A2 _ c2 ((s1, s2), (s3, s4)) _ HR2.out rfl) ?_
      rintro e w3 ⟨rfl, hb3⟩
      rw [HD.out]
      obtain ⟨cb3, fb3⟩ := bcell hb3
      have z3 := hb3.size
      have y3 : w.heap.size < w3.heap.size := by omega
      have HB3 := Lib.hid (below_step HB2.out hb3)
      have HR3 := Lib.hid (HR2.out.below hb3)
      have HL3 := Lib.hid (HL2.out.below hb3)
      clear hb2 hb3
      go_wp2_with fail
      refine Calls.mono (CC.out _ HL3.out) ?_
      rintro e w4 ⟨rfl, hb4⟩
      obtain ⟨cb4, fb4⟩ := bcell hb4
      have z4 := hb4.size
      have y4 : w.heap.size < w4.heap.size := by omega
      have HB4 := Lib.hid (below_step HB3.out hb4)
      have HR4 := Lib.hid (HR3.out.below hb4)
      clear hb4
      go_wp2_with fail
      refine Calls.mono (trace_left u A2 _ c2 ((s1, s2), (s3, s4)) _ HR4.out rfl hUV.out HV.out) ?_
      rintro e w5 ⟨rfl, hb5⟩
      have HB5 := Lib.hid (below_step HB4.out hb5)
      clear hb5
      go_wp2
      go_ret
      exact ⟨ret_bool HZ.out.symm, HB5.out⟩
    · have HZ : Hid (z = false) := HE.out.trans (by simp [h0])
      have q0 : (r == 0) = false := by simp [h0]
      clear HE h0
      go_enter Try.func10, Try.ntmps10
      go_wp2_with fail
      refine Calls.mono (CU.out _ (HR.out.alloc _)) ?_
      rintro e w2 ⟨v2, rfl, ho2, hb2⟩
      obtain ⟨A2, c2, rfl, hl2, hr2⟩ := ho2.reads
      have HR2 := Lib.hid hr2
      clear ho2 hr2
      obtain ⟨cb2, fb2⟩ := bcell hb2
      have z2 := hb2.size
      simp at z2
      have y2 : w.heap.size < w2.heap.size := by omega
      have HB2 : Hid (Below w.heap.size w w2) := (by repeat (first | exact Below.refl _ _ | apply below_alloc | apply below_drewN | apply below_drew | (refine below_set2 ?_ ?_; (first | (simp; done) | (simp; omega))) | (refine below_step ?_ hb2)))
      have HL2 := Lib.hid ((HR.out.alloc _).below hb2)
      go_wp2_with fail
      refine Calls.mono (Contains_sg u A2 _ c2 ((s1, s2), (s3, s4)) _ HR2.out rfl) ?_
      rintro e w3 ⟨rfl, hb3⟩
      rw [HD.out]
      have HB3 := Lib.hid (below_step HB2.out hb3)
      have HL3 := Lib.hid (HL2.out.below hb3)
      clear hb2 hb3
      go_wp2_with fail
      refine Calls.mono (CC.out _ HL3.out) ?_
      rintro e w4 ⟨rfl, hb4⟩
      have HB4 := Lib.hid (below_step HB3.out hb4)
      clear hb4
      go_wp2
      go_ret
      exact ⟨ret_bool HZ.out.symm, HB4.out⟩
  · have HZ : Hid (z = false) := HE.out.trans (by rw [decide_eq_false hm]; rfl)
    have HD := Lib.hid (decide_eq_false hm)
    clear HE hm
    go_enter Try.func10, Try.ntmps10
    go_wp2_with fail
    refine Calls.mono (CU.out _ (HR.out.alloc _)) ?_
    rintro e w2 ⟨v2, rfl, ho2, hb2⟩
    obtain ⟨A2, c2, rfl, hl2, hr2⟩ := ho2.reads
    have HR2 := Lib.hid hr2
    clear ho2 hr2
    obtain ⟨cb2, fb2⟩ := bcell hb2
    have z2 := hb2.size
    simp at z2
    have HB2 : Hid (Below w.heap.size w w2) := (by repeat (first | exact Below.refl _ _ | apply below_alloc | apply below_drewN | apply below_drew | (refine below_set2 ?_ ?_; (first | (simp; done) | (simp; omega))) | (refine below_step ?_ hb2)))
    go_wp2_with fail
    refine Calls.mono (Contains_sg u A2 _ c2 ((s1, s2), (s3, s4)) _ HR2.out rfl) ?_
    rintro e w3 ⟨rfl, hb3⟩
    rw [HD.out]
    have HB3 := Lib.hid (below_step HB2.out hb3)
    clear hb2 hb3
    go_wp2
    go_ret
    exact ⟨ret_bool HZ.out.symm, HB3.out⟩
end Go.Proofs.Ytlmjciajpjdilaa
