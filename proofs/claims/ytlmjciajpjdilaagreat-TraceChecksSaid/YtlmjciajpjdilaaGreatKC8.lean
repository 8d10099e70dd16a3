/- Contract of trace.crossings: how many segments cross a ray. The library's sort over rows that a call owns: worlds that have grown, how a row of flat structs lies for the sort, what stands behind it. No program is in sight. Contract of noding.canon. Contracts of slices.SortFunc at segments and points, of noding.Sort and noding.Unique. -/
import Derived.Test.YtlmjciajpjdilaaGreatKC2
import Derived.Test.YtlmjciajpjdilaaGreatKC1
import Derived.Test.YtlmjciajpjdilaaGreatKC0
import Derived.Shelf.SlSortCmp.NoneTotal
import Derived.Test.YtlmjciajpjdilaaGreatTLay
import Derived.Test.YtlmjciajpjdilaaGreatKC3

section
namespace Go.Proofs.YtlmjciajpjdilaaGreat
open Go.RowKit Go.Proofs.YtlmjciajpjdilaaGreatW.PrintLast
set_option linter.unusedVariables false
set_option linter.unusedSimpArgs false

attribute [local go_sem high] eqPt eqSg
theorem mul_bd2 {a b : Int} (h1 : -65535 ≤ a) (h2 : a ≤ 65535) (h3 : -65535 ≤ b) (h4 : b ≤ 65535) : -4294836225 ≤ a * b ∧ a * b ≤ 4294836225 := by
  have h : (a * b).natAbs ≤ 65535 * 65535 := by rw [Int.natAbs_mul]; exact Nat.mul_le_mul (by omega) (by omega)
  omega
theorem wr_in {x : Int} (h1 : -1000000000000 ≤ x) (h2 : x ≤ 1000000000000) : IntKind.i64.wrap x = x := IntWalk.i64_in _ (by omega)
theorem crossN_snoc (u : Sgs) (m : Pt) (but : Sg) (k : Nat) (h : k < u.length) : crossN (u.take (k + 1)) m but = crossN (u.take k) m but + (if rayB m but (sgD u k) = true then 1 else 0) := by
  unfold crossN
  rw [take_snoc u k ((0, 0), (0, 0)) h, List.countP_append, List.countP_singleton]
  rfl
theorem rayB_of (m1 m2 : Int) (but s : Sg) (l1 l2 h1 h2 : Int) (e : (if s.1.2 > s.2.2 then s.2 else s.1) = (l1, l2) ∧ (if s.1.2 > s.2.2 then s.1 else s.2) = (h1, h2)) :
    rayB (m1, m2) but s = (!(decide (s = but) || (decide (2 * l2 > m2) || decide (2 * h2 ≤ m2))) && decide ((h1 - l1) * (m2 - 2 * l2) - (h2 - l2) * (m1 - 2 * l1) > 0)) := by
  unfold rayB
  rw [e.1, e.2]
def segsV (u : Sgs) : Prop := ∀ s ∈ u, (validB s.1 && validB s.2) = true
set_option maxRecDepth 100000 in
set_option maxHeartbeats 2000000 in
theorem trace_crossings {ok : Nat → Prop} (u : Sgs) (A : Option Addr) (n c : Nat) (m1 m2 b1 b2 b3 b4 : Int) (w : World) (hr : Row Ty.sg ok w A u) (hn : n = u.length) (hv : segsV u) (hm1 : 0 ≤ m1 ∧ m1 ≤ 65535) (hm2 : 0 ≤ m2 ∧ m2 ≤ 65535) :
    Calls Tryz.prog 40 #[.slice A n c, .agg #[.int .i64 m1, .int .i64 m2], .agg #[.int .i64 b1, .int .i64 b2, .int .i64 b3, .int .i64 b4]] w fun e w' => e = .returned (.int .i64 (crossN u (m1, m2) ((b1, b2), (b3, b4)))) ∧ Below w.heap.size w w' := by
  subst hn
  have HR := Lib.hid hr
  have HV := Lib.hid hv
  have hmx := hr.len
  clear hr hv
  go_enter Tryz.func40, Tryz.ntmps40
  go_wp2
  go_loopw [7, 14] (fun nv iv wr => ∃ k : Nat, k ≤ u.length ∧ iv = .int .i64 k ∧ nv = .int .i64 (crossN (u.take k) (m1, m2) ((b1, b2), (b3, b4)) : Nat) ∧ wr.heap[w.heap.size]? = some (.cells #[.int .i64 m1, .int .i64 m2] 24 (0, 0)) ∧
    wr.heap[w.heap.size + 1]? = some (.cells #[.int .i64 b1, .int .i64 b2, .int .i64 b3, .int .i64 b4] 32 (0, 0)) ∧ Hid (Below w.heap.size w wr)) (fun _ i _ => u.length - (intOf i).toNat)
  case atStart => exact ⟨0, Nat.zero_le _, rfl, rfl, (two_alloc w _ _).1, (two_alloc w _ _).2, below_alloc (below_alloc (Below.refl _ _) _) _⟩
  case round =>
    obtain ⟨k, hk, rfl, rfl, HM, HU, HB⟩ := hrel
    by_cases hlt : k < u.length
    · have HRk := Lib.hid (HR.out.below HB.out)
      obtain ⟨ad, rfl, hx0, hx1, hx2, hx3⟩ := HRk.out.sg_at k hlt
      have hvs := HV.out (sgD u k) (by rw [sgD_eq hlt]; exact List.getElem_mem hlt)
      have HS := Lib.hid (crossN_snoc u (m1, m2) ((b1, b2), (b3, b4)) k hlt)
      obtain ⟨s, hs⟩ : ∃ s, s = sgD u k := ⟨_, rfl⟩
      rw [← hs] at hx0 hx1 hx2 hx3 HS hvs
      clear hs HRk
      obtain ⟨⟨a1, a2⟩, ⟨a3, a4⟩⟩ := s
      simp only at hx0 hx1 hx2 hx3 hvs
      rw [Bool.and_eq_true] at hvs
      obtain ⟨v1, v2, v3, v4⟩ := valid_bd hvs.1
      obtain ⟨v5, v6, v7, v8⟩ := valid_bd hvs.2
      simp only at v1 v2 v3 v4 v5 v6 v7 v8
      clear hvs
      have hsz := lt_of_block HU
      have hcb : crossN (u.take k) (m1, m2) ((b1, b2), (b3, b4)) ≤ k := by unfold crossN; exact Nat.le_trans List.countP_le_length (by rw [List.length_take]; omega)
      generalize crossN (u.take k) (m1, m2) ((b1, b2), (b3, b4)) = cn at *
      go_wp2_with fail
      obtain ⟨W0, hW0⟩ : ∃ W0, W0 = wr.alloc (.cells #[.int .i64 a1, .int .i64 a2, .int .i64 a3, .int .i64 a4] 32) := ⟨_, rfl⟩
      have HA : W0.heap[wr.heap.size]? = some (.cells #[.int .i64 a1, .int .i64 a2, .int .i64 a3, .int .i64 a4] 32 (0, 0)) := by rw [hW0]; exact heap_alloc_new _ _
      have HM0 : W0.heap[w.heap.size]? = some (.cells #[.int .i64 m1, .int .i64 m2] 24 (0, 0)) := by rw [hW0]; exact blk_alloc HM _
      have HU0 : W0.heap[w.heap.size + 1]? = some (.cells #[.int .i64 b1, .int .i64 b2, .int .i64 b3, .int .i64 b4] 32 (0, 0)) := by rw [hW0]; exact blk_alloc HU _
      have HB0 : Below wr.heap.size wr W0 := by rw [hW0]; exact below_alloc (Below.refl _ _) _
      rw [← hW0]
      clear hW0 hx0 hx1 hx2 hx3
      refine start_ (n := 8) (S := fun w' => w'.cell? ⟨wr.heap.size, 0, none⟩ = some (.int .i64 a1) ∧ w'.cell? ⟨wr.heap.size, 1, none⟩ = some (.int .i64 a2) ∧ w'.cell? ⟨wr.heap.size, 2, none⟩ = some (.int .i64 a3) ∧ w'.cell? ⟨wr.heap.size, 3, none⟩ = some (.int .i64 a4)) (ds := [7]) #[false, false, false, false, false, false, false, false] (by kernel_rfl) rfl rfl ⟨blk_cell HA 0 rfl, blk_cell HA 1 rfl, blk_cell HA 2 rfl, blk_cell HA 3 rfl⟩ (fun hHeld => ?_)
      refine pure_ (i := 0) (N := some 18) (v := ?_) (a' := ?_) #[true, false, false, false, false, false, false, false] rfl rfl (by kernel_rfl) (fun _ _ _ h => h) (Or.inl ⟨by rfl, ?_⟩) ?_ ?_
      rotate_left
      · intro w'
        go_simp
        with_reducible rfl
      rotate_left
      · simp only [Act.put, List.setIfInBounds_toArray, List.set_cons_zero, List.set_cons_succ, i64_w, i32_w]
        rfl
      refine pure_ (i := 2) (N := some 20) (v := ?_) (a' := ?_) #[true, false, true, false, false, false, false, false] rfl rfl (by kernel_rfl) (fun _ _ _ h => h) (Or.inl ⟨by rfl, ?_⟩) ?_ ?_
      rotate_left
      · intro w'
        go_simp
        with_reducible rfl
      rotate_left
      · simp only [Act.put, List.setIfInBounds_toArray, List.set_cons_zero, List.set_cons_succ, i64_w, i32_w]
        rfl
      refine take_ (i := 1) (N := some 19) (v := ?_) (a' := ?_) #[true, true, true, false, false, false, false, false] rfl rfl (by kernel_rfl) (fun _ _ _ h => h) (Or.inl ⟨by rfl, ?_⟩) hHeld ?_ ?_
      rotate_left
      · rintro w' ⟨s0, s1, s2, s3⟩
        go_simp
        with_reducible rfl
      rotate_left
      · simp only [Act.put, List.setIfInBounds_toArray, List.set_cons_zero, List.set_cons_succ, i64_w, i32_w]
        rfl
      refine take_ (i := 3) (N := some 21) (v := ?_) (a' := ?_) #[true, true, true, true, false, false, false, false] rfl rfl (by kernel_rfl) (fun _ _ _ h => h) (Or.inl ⟨by rfl, ?_⟩) hHeld ?_ ?_
      rotate_left
      · rintro w' ⟨s0, s1, s2, s3⟩
        go_simp
        with_reducible rfl
      rotate_left
      · simp only [Act.put, List.setIfInBounds_toArray, List.set_cons_zero, List.set_cons_succ, i64_w, i32_w]
        rfl
      refine join_ (σ := Nat × Nat) 2 #[true, true, true, true, true, true, false, false] (fun s => [(10, .pointer (some ⟨s.1, 0, none⟩)), (11, .pointer (some ⟨s.2, 0, none⟩))]) (fun s w' => W0.heap.size ≤ s.1 ∧ W0.heap.size ≤ s.2 ∧ s.1 ≠ s.2 ∧ w'.heap[s.1]? = some (.cells #[.int .i64 0, .int .i64 0] 24 (0, 0)) ∧ w'.heap[s.2]? = some (.cells #[.int .i64 0, .int .i64 0] 24 (0, 0)) ∧ Below W0.heap.size W0 w') ?_ ?_
      rotate_left
      · intro hCont
        refine two_ (i := 4) (j := 5) (Ni := some 10) (Nj := some 11) #[true, true, true, true, true, false, false, false] #[true, true, true, true, false, true, false, false] rfl rfl rfl rfl (by kernel_rfl) (by decide) (by decide) (fun K hK => ?_) (fun K hK => ?_)
        · skip
          refine value_ (w1 := ?_) (v := ?_) (by rfl) rfl ?_ ?_
          rotate_left 2
          · go_simp
            constructor
            · rfl
            · rfl
          refine hK.out _ _ ⟨blk_cell (blk_alloc HA _) 0 rfl, blk_cell (blk_alloc HA _) 1 rfl, blk_cell (blk_alloc HA _) 2 rfl, blk_cell (blk_alloc HA _) 3 rfl⟩ (fun hHeld => ?_)
          clear hK K
          refine norm_ (a' := ?_) ?_ ?_
          rotate_left
          · show Act.put _ (some 10) _ = _
            simp only [Act.put, List.setIfInBounds_toArray, List.set_cons_zero, List.set_cons_succ, i64_w, i32_w]
            rfl
          refine one_ (i := 5) (N := some 11) #[true, true, true, true, true, true, false, false] rfl rfl (by kernel_rfl) (by decide) (fun K hK => ?_)
          refine value_ (w1 := ?_) (v := ?_) (by rfl) rfl ?_ ?_
          rotate_left 2
          · go_simp
            constructor
            · rfl
            · rfl
          refine hK.out _ _ ⟨blk_cell (blk_alloc (blk_alloc HA _) _) 0 rfl, blk_cell (blk_alloc (blk_alloc HA _) _) 1 rfl, blk_cell (blk_alloc (blk_alloc HA _) _) 2 rfl, blk_cell (blk_alloc (blk_alloc HA _) _) 3 rfl⟩ (fun hHeld => ?_)
          clear hK K
          refine norm_ (a' := ?_) ?_ ?_
          rotate_left
          · show Act.put _ (some 11) _ = _
            simp only [Act.put, List.setIfInBounds_toArray, List.set_cons_zero, List.set_cons_succ, i64_w, i32_w]
            rfl
          exact norm_ (by simp only [putAll, Act.put, List.setIfInBounds_toArray, List.set_cons_zero, List.set_cons_succ]) (hCont (W0.heap.size, W0.heap.size + 1) _ ⟨Nat.le_refl _, Nat.le_succ _, by simp, (two_alloc W0.drew _ _).1, (two_alloc W0.drew _ _).2, below_alloc (below_alloc (below_drew (Below.refl _ _)) _) _⟩)
        · skip
          refine value_ (w1 := ?_) (v := ?_) (by rfl) rfl ?_ ?_
          rotate_left 2
          · go_simp
            constructor
            · rfl
            · rfl
          refine hK.out _ _ ⟨blk_cell (blk_alloc HA _) 0 rfl, blk_cell (blk_alloc HA _) 1 rfl, blk_cell (blk_alloc HA _) 2 rfl, blk_cell (blk_alloc HA _) 3 rfl⟩ (fun hHeld => ?_)
          clear hK K
          refine norm_ (a' := ?_) ?_ ?_
          rotate_left
          · show Act.put _ (some 11) _ = _
            simp only [Act.put, List.setIfInBounds_toArray, List.set_cons_zero, List.set_cons_succ, i64_w, i32_w]
            rfl
          refine one_ (i := 4) (N := some 10) #[true, true, true, true, true, true, false, false] rfl rfl (by kernel_rfl) (by decide) (fun K hK => ?_)
          refine value_ (w1 := ?_) (v := ?_) (by rfl) rfl ?_ ?_
          rotate_left 2
          · go_simp
            constructor
            · rfl
            · rfl
          refine hK.out _ _ ⟨blk_cell (blk_alloc (blk_alloc HA _) _) 0 rfl, blk_cell (blk_alloc (blk_alloc HA _) _) 1 rfl, blk_cell (blk_alloc (blk_alloc HA _) _) 2 rfl, blk_cell (blk_alloc (blk_alloc HA _) _) 3 rfl⟩ (fun hHeld => ?_)
          clear hK K
          refine norm_ (a' := ?_) ?_ ?_
          rotate_left
          · show Act.put _ (some 10) _ = _
            simp only [Act.put, List.setIfInBounds_toArray, List.set_cons_zero, List.set_cons_succ, i64_w, i32_w]
            rfl
          exact norm_ (by simp only [putAll, Act.put, List.setIfInBounds_toArray, List.set_cons_zero, List.set_cons_succ]) (hCont (W0.heap.size + 1, W0.heap.size) _ ⟨Nat.le_succ _, Nat.le_refl _, by simp, (two_alloc W0.drew _ _).2, (two_alloc W0.drew _ _).1, below_alloc (below_alloc (below_drew (Below.refl _ _)) _) _⟩)
      rintro ⟨p, q⟩ w1 ⟨hp, hq, hpq, hP, hQ, hW1⟩
      have hAp : ¬ wr.heap.size = p := by have := lt_of_block HA; omega
      have hAq : ¬ wr.heap.size = q := by have := lt_of_block HA; omega
      have hpqn : ¬ p = q := hpq
      have hqpn : ¬ q = p := fun e => hpq e.symm
      have hA1 := blk_below HA hW1
      have hHeld := And.intro (blk_cell hA1 0 rfl) (And.intro (blk_cell hA1 1 rfl) (And.intro (blk_cell hA1 2 rfl) (blk_cell hA1 3 rfl)))
      have pf0 := blk_free hP 0
      have pc0 := blk_cell hP 0 rfl
      have pf1 := blk_free hP 1
      have pc1 := blk_cell hP 1 rfl
      have qf0 := blk_free hQ 0
      have qc0 := blk_cell hQ 0 rfl
      have qf1 := blk_free hQ 1
      have qc1 := blk_cell hQ 1 rfl
      refine norm_ (a' := ?_) ?_ ?_
      rotate_left
      · simp only [putAll, Act.put, List.setIfInBounds_toArray, List.set_cons_zero, List.set_cons_succ]
        rfl
      refine one_ (i := 6) (N := none) #[true, true, true, true, true, true, true, false] rfl rfl (by kernel_rfl) (by decide) (fun K hK => ?_)
      refine skip_ (w1 := ?_) (by rfl) rfl ?_ ?_
      rotate_left
      · go_simp
        rfl
      refine hK.out _ _ ⟨blk_cell (blk_far (blk_far hA1 hAp _) hAp _) 0 rfl, blk_cell (blk_far (blk_far hA1 hAp _) hAp _) 1 rfl, blk_cell (blk_far (blk_far hA1 hAp _) hAp _) 2 rfl, blk_cell (blk_far (blk_far hA1 hAp _) hAp _) 3 rfl⟩ (fun hHeld => ?_)
      clear hK K
      refine last_ (i := 7) (N := none) #[true, true, true, true, true, true, true, true] rfl rfl (by kernel_rfl) (by decide) (fun K hK => ?_)
      refine skip_ (w1 := ?_) (by rfl) rfl ?_ ?_
      rotate_left
      · go_simp
        rfl
      refine hK.out _ _ ?_
      clear hK K
      refine done_ (by kernel_rfl) ?_
      clear hHeld pf0 pf1 qf0 qf1 pc0 pc1 qc0 qc1
      obtain ⟨W3, hW3⟩ : ∃ W3, W3 = (((w1.setCell ⟨p, 0, none⟩ (.int .i64 a1)).setCell ⟨p, 1, none⟩ (.int .i64 a2)).setCell ⟨q, 0, none⟩ (.int .i64 a3)).setCell ⟨q, 1, none⟩ (.int .i64 a4) := ⟨_, rfl⟩
      have HP : W3.heap[p]? = some (.cells #[(.int .i64 a1), (.int .i64 a2)] 24 (0, 0)) := by rw [hW3]; exact blk_far (blk_far (blk_set (blk_set hP _) _) hpqn _) hpqn _
      have HQ : W3.heap[q]? = some (.cells #[(.int .i64 a3), (.int .i64 a4)] 24 (0, 0)) := by rw [hW3]; exact blk_set (blk_set (blk_far (blk_far hQ hqpn _) hqpn _) _) _
      have HA3 : W3.heap[wr.heap.size]? = some (.cells #[(.int .i64 a1), (.int .i64 a2), (.int .i64 a3), (.int .i64 a4)] 32 (0, 0)) := by rw [hW3]; exact blk_far (blk_far (blk_far (blk_far hA1 hAp _) hAp _) hAq _) hAq _
      have hbp : ¬ w.heap.size = p := by have := lt_of_block HM0; omega
      have hbq : ¬ w.heap.size = q := by have := lt_of_block HM0; omega
      have HM03 : W3.heap[w.heap.size]? = some (.cells #[.int .i64 m1, .int .i64 m2] 24 (0, 0)) := by rw [hW3]; exact blk_far (blk_far (blk_far (blk_far (blk_below HM0 hW1) hbp _) hbp _) hbq _) hbq _
      clear hbp hbq
      have hbp : ¬ w.heap.size + 1 = p := by have := lt_of_block HU0; omega
      have hbq : ¬ w.heap.size + 1 = q := by have := lt_of_block HU0; omega
      have HU03 : W3.heap[w.heap.size + 1]? = some (.cells #[.int .i64 b1, .int .i64 b2, .int .i64 b3, .int .i64 b4] 32 (0, 0)) := by rw [hW3]; exact blk_far (blk_far (blk_far (blk_far (blk_below HU0 hW1) hbp _) hbp _) hbq _) hbq _
      clear hbp hbq
      have HB3 : Below W0.heap.size W0 W3 := by rw [hW3]; exact below_set2 hq (below_set2 hq (below_set2 hp (below_set2 hp hW1)))
      rw [← hW3]
      clear hP hQ hA1 hW1 hAp hAq hW3
      have hs0 := lt_of_block HU0
      have hs1 := lt_of_block HA
      have HBr : Hid (Below w.heap.size w W3) := below_step HB.out (below_step HB0 HB3)
      clear HB HB0 HB3
      have pc0 := blk_cell HP 0 rfl
      have pc1 := blk_cell HP 1 rfl
      have qc0 := blk_cell HQ 0 rfl
      have qc1 := blk_cell HQ 1 rfl
      have ac0 := blk_cell HA3 0 rfl
      have ac1 := blk_cell HA3 1 rfl
      have ac2 := blk_cell HA3 2 rfl
      have ac3 := blk_cell HA3 3 rfl
      have mc0 := blk_cell HM03 0 rfl
      have mc1 := blk_cell HM03 1 rfl
      have uc0 := blk_cell HU03 0 rfl
      have uc1 := blk_cell HU03 1 rfl
      have uc2 := blk_cell HU03 2 rfl
      have uc3 := blk_cell HU03 3 rfl
      have pf0 := blk_free HP 0
      have pf1 := blk_free HP 1
      have qf0 := blk_free HQ 0
      have qf1 := blk_free HQ 1
      by_cases hsw : a2 > a4
      · have q0 : decide (a4 < a2) = true := decide_eq_true hsw
        have hwp : w.heap.size + 1 < p := by omega
        have hwq : w.heap.size + 1 < q := by omega
        have hrp : wr.heap.size < p := by omega
        have hrq : wr.heap.size < q := by omega
        have hHMp : ¬ w.heap.size = p := by omega
        have hHMq : ¬ w.heap.size = q := by omega
        have HM3 : Hid (((((W3.setCell ⟨p, 0, none⟩ (.int .i64 a3)).setCell ⟨p, 1, none⟩ (.int .i64 a4)).setCell ⟨q, 0, none⟩ (.int .i64 a1)).setCell ⟨q, 1, none⟩ (.int .i64 a2)).heap[w.heap.size]? = some (.cells #[.int .i64 m1, .int .i64 m2] 24 (0, 0))) := blk_far (blk_far (blk_far (blk_far HM03 hHMp _) hHMp _) hHMq _) hHMq _
        have hHUp : ¬ w.heap.size + 1 = p := by omega
        have hHUq : ¬ w.heap.size + 1 = q := by omega
        have HU3 : Hid (((((W3.setCell ⟨p, 0, none⟩ (.int .i64 a3)).setCell ⟨p, 1, none⟩ (.int .i64 a4)).setCell ⟨q, 0, none⟩ (.int .i64 a1)).setCell ⟨q, 1, none⟩ (.int .i64 a2)).heap[w.heap.size + 1]? = some (.cells #[.int .i64 b1, .int .i64 b2, .int .i64 b3, .int .i64 b4] 32 (0, 0))) := blk_far (blk_far (blk_far (blk_far HU03 hHUp _) hHUp _) hHUq _) hHUq _
        have hHAp : ¬ wr.heap.size = p := by omega
        have hHAq : ¬ wr.heap.size = q := by omega
        have HBs : Hid (Below w.heap.size w ((((W3.setCell ⟨p, 0, none⟩ (.int .i64 a3)).setCell ⟨p, 1, none⟩ (.int .i64 a4)).setCell ⟨q, 0, none⟩ (.int .i64 a1)).setCell ⟨q, 1, none⟩ (.int .i64 a2))) := below_set2 (by show _ ≤ q; omega) (below_set2 (by show _ ≤ q; omega) (below_set2 (by show _ ≤ p; omega) (below_set2 (by show _ ≤ p; omega) HBr.out)))
        clear HBr
        have HBr := HBs
        clear HBs HM03 HU03 HP HQ HA3
        have HE := Lib.hid (rayB_of m1 m2 ((b1, b2), (b3, b4)) ((a1, a2), (a3, a4)) a3 a4 a1 a2 ⟨if_pos hsw, if_pos hsw⟩)
        clear hsw
        by_cases t1 : (((a1, a2), (a3, a4)) : Sg) = ((b1, b2), (b3, b4))
        · have q1 := (sgB ((a1, a2), (a3, a4)) ((b1, b2), (b3, b4))).trans (decide_eq_true t1)
          have HC : Hid (crossN (u.take (k + 1)) (m1, m2) ((b1, b2), (b3, b4)) = cn) := by show _ = _; rw [HS.out, HE.out, decide_eq_true t1]; simp
          clear HE HS t1
          go_wp2
          go_roundw
          case rel => exact ⟨k + 1, by omega, by go_num, by rw [HC.out], HM3.out, HU3.out, HBr⟩
          case measure => simp [intOf]; omega
        · have q1 := (sgB ((a1, a2), (a3, a4)) ((b1, b2), (b3, b4))).trans (decide_eq_false t1)
          have w2 := wr_in (x := 2 * a4) (by omega) (by omega)
          have w3 := wr_in (x := 2 * a2) (by omega) (by omega)
          by_cases t2 : m2 < 2 * a4
          · have q2 : decide (m2 < 2 * a4) = true := decide_eq_true t2
            have HC : Hid (crossN (u.take (k + 1)) (m1, m2) ((b1, b2), (b3, b4)) = cn) := by show _ = _; rw [HS.out, HE.out, decide_eq_true (show 2 * a4 > m2 from t2)]; simp
            clear HE HS t1 t2
            go_wp2
            go_roundw
            case rel => exact ⟨k + 1, by omega, by go_num, by rw [HC.out], HM3.out, HU3.out, HBr⟩
            case measure => simp [intOf]; omega
          · have q2 : decide (m2 < 2 * a4) = false := decide_eq_false t2
            by_cases t3 : 2 * a2 ≤ m2
            · have q3 : decide (2 * a2 ≤ m2) = true := decide_eq_true t3
              have HC : Hid (crossN (u.take (k + 1)) (m1, m2) ((b1, b2), (b3, b4)) = cn) := by show _ = _; rw [HS.out, HE.out, q3]; simp
              clear HE HS t1 t2 t3
              go_wp2
              go_roundw
              case rel => exact ⟨k + 1, by omega, by go_num, by rw [HC.out], HM3.out, HU3.out, HBr⟩
              case measure => simp [intOf]; omega
            · have q3 : decide (2 * a2 ≤ m2) = false := decide_eq_false t3
              have w4 := wr_in (x := a1 - a3) (by omega) (by omega)
              have w5 := wr_in (x := m2 - 2 * a4) (by omega) (by omega)
              have w6 := wr_in (x := a2 - a4) (by omega) (by omega)
              have w7 := wr_in (x := 2 * a3) (by omega) (by omega)
              have w8 := wr_in (x := m1 - 2 * a3) (by omega) (by omega)
              have d1 := mul_bd2 (a := a1 - a3) (b := m2 - 2 * a4) (by omega) (by omega) (by omega) (by omega)
              have d2 := mul_bd2 (a := a2 - a4) (b := m1 - 2 * a3) (by omega) (by omega) (by omega) (by omega)
              have w9 := wr_in (x := (a1 - a3) * (m2 - 2 * a4)) (by omega) (by omega)
              have w10 := wr_in (x := (a2 - a4) * (m1 - 2 * a3)) (by omega) (by omega)
              have w11 := wr_in (x := (a1 - a3) * (m2 - 2 * a4) - (a2 - a4) * (m1 - 2 * a3)) (by omega) (by omega)
              clear d1 d2
              by_cases t4 : (a2 - a4) * (m1 - 2 * a3) < (a1 - a3) * (m2 - 2 * a4)
              · have q4 : decide ((a2 - a4) * (m1 - 2 * a3) < (a1 - a3) * (m2 - 2 * a4)) = true := decide_eq_true t4
                have HC : Hid (crossN (u.take (k + 1)) (m1, m2) ((b1, b2), (b3, b4)) = cn + 1) := by show _ = _; rw [HS.out, HE.out, decide_eq_false t1, decide_eq_false (show ¬ 2 * a4 > m2 from t2), q3]; show cn + (if (true && decide ((a1 - a3) * (m2 - 2 * a4) - (a2 - a4) * (m1 - 2 * a3) > 0)) = true then 1 else 0) = _; rw [show decide ((a1 - a3) * (m2 - 2 * a4) - (a2 - a4) * (m1 - 2 * a3) > 0) = true from decide_eq_true (by omega)]; rfl
                clear HE HS t1 t2 t3 t4
                go_wp2
                go_roundw
                case rel => exact ⟨k + 1, by omega, by go_num, by rw [HC.out]; go_num, HM3.out, HU3.out, HBr⟩
                case measure => simp [intOf]; omega
              · have q4 : decide ((a2 - a4) * (m1 - 2 * a3) < (a1 - a3) * (m2 - 2 * a4)) = false := decide_eq_false t4
                have HC : Hid (crossN (u.take (k + 1)) (m1, m2) ((b1, b2), (b3, b4)) = cn) := by show _ = _; rw [HS.out, HE.out, decide_eq_false t1, decide_eq_false (show ¬ 2 * a4 > m2 from t2), q3]; show cn + (if (true && decide ((a1 - a3) * (m2 - 2 * a4) - (a2 - a4) * (m1 - 2 * a3) > 0)) = true then 1 else 0) = _; rw [show decide ((a1 - a3) * (m2 - 2 * a4) - (a2 - a4) * (m1 - 2 * a3) > 0) = false from decide_eq_false (by omega)]; rfl
                clear HE HS t1 t2 t3 t4
                go_wp2
                go_roundw
                case rel => exact ⟨k + 1, by omega, by go_num, by rw [HC.out], HM3.out, HU3.out, HBr⟩
                case measure => simp [intOf]; omega
      · have q0 : decide (a4 < a2) = false := decide_eq_false hsw
        clear pf0 pf1 qf0 qf1
        have HM3 := HM03
        have HU3 := HU03
        clear HM03 HU03 HP HQ HA3
        have HE := Lib.hid (rayB_of m1 m2 ((b1, b2), (b3, b4)) ((a1, a2), (a3, a4)) a1 a2 a3 a4 ⟨if_neg hsw, if_neg hsw⟩)
        clear hsw
        by_cases t1 : (((a1, a2), (a3, a4)) : Sg) = ((b1, b2), (b3, b4))
        · have q1 := (sgB ((a1, a2), (a3, a4)) ((b1, b2), (b3, b4))).trans (decide_eq_true t1)
          have HC : Hid (crossN (u.take (k + 1)) (m1, m2) ((b1, b2), (b3, b4)) = cn) := by show _ = _; rw [HS.out, HE.out, decide_eq_true t1]; simp
          clear HE HS t1
          go_wp2
          go_roundw
          case rel => exact ⟨k + 1, by omega, by go_num, by rw [HC.out], HM3, HU3, HBr⟩
          case measure => simp [intOf]; omega
        · have q1 := (sgB ((a1, a2), (a3, a4)) ((b1, b2), (b3, b4))).trans (decide_eq_false t1)
          have w2 := wr_in (x := 2 * a2) (by omega) (by omega)
          have w3 := wr_in (x := 2 * a4) (by omega) (by omega)
          by_cases t2 : m2 < 2 * a2
          · have q2 : decide (m2 < 2 * a2) = true := decide_eq_true t2
            have HC : Hid (crossN (u.take (k + 1)) (m1, m2) ((b1, b2), (b3, b4)) = cn) := by show _ = _; rw [HS.out, HE.out, decide_eq_true (show 2 * a2 > m2 from t2)]; simp
            clear HE HS t1 t2
            go_wp2
            go_roundw
            case rel => exact ⟨k + 1, by omega, by go_num, by rw [HC.out], HM3, HU3, HBr⟩
            case measure => simp [intOf]; omega
          · have q2 : decide (m2 < 2 * a2) = false := decide_eq_false t2
            by_cases t3 : 2 * a4 ≤ m2
            · have q3 : decide (2 * a4 ≤ m2) = true := decide_eq_true t3
              have HC : Hid (crossN (u.take (k + 1)) (m1, m2) ((b1, b2), (b3, b4)) = cn) := by show _ = _; rw [HS.out, HE.out, q3]; simp
              clear HE HS t1 t2 t3
              go_wp2
              go_roundw
              case rel => exact ⟨k + 1, by omega, by go_num, by rw [HC.out], HM3, HU3, HBr⟩
              case measure => simp [intOf]; omega
            · have q3 : decide (2 * a4 ≤ m2) = false := decide_eq_false t3
              have w4 := wr_in (x := a3 - a1) (by omega) (by omega)
              have w5 := wr_in (x := m2 - 2 * a2) (by omega) (by omega)
              have w6 := wr_in (x := a4 - a2) (by omega) (by omega)
              have w7 := wr_in (x := 2 * a1) (by omega) (by omega)
              have w8 := wr_in (x := m1 - 2 * a1) (by omega) (by omega)
              have d1 := mul_bd2 (a := a3 - a1) (b := m2 - 2 * a2) (by omega) (by omega) (by omega) (by omega)
              have d2 := mul_bd2 (a := a4 - a2) (b := m1 - 2 * a1) (by omega) (by omega) (by omega) (by omega)
              have w9 := wr_in (x := (a3 - a1) * (m2 - 2 * a2)) (by omega) (by omega)
              have w10 := wr_in (x := (a4 - a2) * (m1 - 2 * a1)) (by omega) (by omega)
              have w11 := wr_in (x := (a3 - a1) * (m2 - 2 * a2) - (a4 - a2) * (m1 - 2 * a1)) (by omega) (by omega)
              clear d1 d2
              by_cases t4 : (a4 - a2) * (m1 - 2 * a1) < (a3 - a1) * (m2 - 2 * a2)
              · have q4 : decide ((a4 - a2) * (m1 - 2 * a1) < (a3 - a1) * (m2 - 2 * a2)) = true := decide_eq_true t4
                have HC : Hid (crossN (u.take (k + 1)) (m1, m2) ((b1, b2), (b3, b4)) = cn + 1) := by show _ = _; rw [HS.out, HE.out, decide_eq_false t1, decide_eq_false (show ¬ 2 * a2 > m2 from t2), q3]; show cn + (if (true && decide ((a3 - a1) * (m2 - 2 * a2) - (a4 - a2) * (m1 - 2 * a1) > 0)) = true then 1 else 0) = _; rw [show decide ((a3 - a1) * (m2 - 2 * a2) - (a4 - a2) * (m1 - 2 * a1) > 0) = true from decide_eq_true (by omega)]; rfl
                clear HE HS t1 t2 t3 t4
                go_wp2
                go_roundw
                case rel => exact ⟨k + 1, by omega, by go_num, by rw [HC.out]; go_num, HM3, HU3, HBr⟩
                case measure => simp [intOf]; omega
              · have q4 : decide ((a4 - a2) * (m1 - 2 * a1) < (a3 - a1) * (m2 - 2 * a2)) = false := decide_eq_false t4
                have HC : Hid (crossN (u.take (k + 1)) (m1, m2) ((b1, b2), (b3, b4)) = cn) := by show _ = _; rw [HS.out, HE.out, decide_eq_false t1, decide_eq_false (show ¬ 2 * a2 > m2 from t2), q3]; show cn + (if (true && decide ((a3 - a1) * (m2 - 2 * a2) - (a4 - a2) * (m1 - 2 * a1) > 0)) = true then 1 else 0) = _; rw [show decide ((a3 - a1) * (m2 - 2 * a2) - (a4 - a2) * (m1 - 2 * a1) > 0) = false from decide_eq_false (by omega)]; rfl
                clear HE HS t1 t2 t3 t4
                go_wp2
                go_roundw
                case rel => exact ⟨k + 1, by omega, by go_num, by rw [HC.out], HM3, HU3, HBr⟩
                case measure => simp [intOf]; omega
    · obtain rfl : k = u.length := by omega
      rw [List.take_length]
      go_wp2
      go_ret
      exact ⟨rfl, HB.out⟩
end Go.Proofs.YtlmjciajpjdilaaGreat
end

section
namespace Go.Proofs.YtlmjciajpjdilaaGreat
open Go.RowKit
set_option linter.unusedVariables false
set_option linter.unusedSectionVars false

/-! ### the cells of a row of flat values -/
section
variable {α : Type} [Inhabited α] {enc : α → List Value} {k : Nat}
theorem flat_len (hk : ∀ x, (enc x).length = k) : ∀ xs : List α, (xs.flatMap enc).length = xs.length * k
  | [] => by simp
  | x :: xs => by rw [List.flatMap_cons, List.length_append, flat_len hk xs, hk, List.length_cons, Nat.add_mul]; omega
theorem flat_get (hk : ∀ x, (enc x).length = k) : ∀ (xs : List α) (i j : Nat), j < k → (xs.flatMap enc)[i * k + j]? = (xs[i]?).bind fun x => (enc x)[j]?
  | [], i, j, h => by simp
  | x :: xs, 0, j, h => by
    rw [List.flatMap_cons, Nat.zero_mul, Nat.zero_add, List.getElem?_append_left (by rw [hk]; exact h)]
    simp
  | x :: xs, i + 1, j, h => by
    rw [List.flatMap_cons, List.getElem?_append_right (by rw [hk, Nat.add_mul]; omega), hk]
    rw [show (i + 1) * k + j - k = i * k + j by rw [Nat.add_mul]; omega, flat_get hk xs i j h]
    simp
theorem flatK_list (hk : ∀ x, (enc x).length = k) (d : Array α) : Go.Sort.flatK enc k d = (d.toList.flatMap enc).toArray := by
  refine Go.Sort.ext_get! (by simp [flat_len hk]) fun t ht => ?_
  have ht' : t < d.size * k := by simpa using ht
  have k0 : 0 < k := by
    rcases Nat.eq_zero_or_pos k with h | h
    · subst h; simp at ht'
    · exact h
  have hm : t % k < k := Nat.mod_lt _ k0
  have hd : t / k < d.size := (Nat.div_lt_iff_lt_mul k0).2 ht'
  rw [Go.Sort.get_flatK _ _ _ t ht']
  have := flat_get hk d.toList (t / k) (t % k) hm
  rw [Nat.mul_comm, Nat.div_add_mod] at this
  rw [getElem!_pos d _ hd]
  simp only [getElem!_def, List.getElem?_toArray, this, Array.getElem?_toList, Array.getElem?_eq_getElem hd, Option.bind_some]
theorem reps_flat {hn : 0 < k} {h1 : ∀ x, ∀ u ∈ enc x, u.oneCell' = true} (hk : ∀ x, (enc x).length = k) (ok : Nat → Prop) (w : World) : ∀ xs : List α, Reps (Ty.flat k hn enc hk h1) ok w xs (xs.flatMap enc)
  | [] => rfl
  | x :: xs => ⟨enc x, _, rfl, rfl, reps_flat hk ok w xs⟩
theorem reps_flat_eq {hn : 0 < k} {h1 : ∀ x, ∀ u ∈ enc x, u.oneCell' = true} (hk : ∀ x, (enc x).length = k) {ok : Nat → Prop} {w : World} : ∀ {xs : List α} {cs : List Value}, Reps (Ty.flat k hn enc hk h1) ok w xs cs → cs = xs.flatMap enc
  | [], _, h => h
  | x :: xs, _, ⟨c, d, e, hc, hd⟩ => by
    rw [e, show c = enc x from hc, reps_flat_eq hk hd]; rfl
end
theorem putRow_map {α : Type} [Inhabited α] (enc : α → Value) (w : World) (blk : Nat) (d : Array α) : Go.Sort.putRow enc w blk 0 d = Go.Sort.putRow id w blk 0 (d.map enc) := by
  unfold Go.Sort.putRow
  refine Go.Sort.mapBlock_congr _ _ _ _ fun c _ _ _ => ?_
  apply Array.ext_getElem?
  intro k
  simp only [Go.Sort.putCells, Array.getElem?_mapIdx, Array.size_map]
  cases c[k]? with
  | none => rfl
  | some x =>
    simp only [Option.map_some, id]
    split
    · rename_i h
      rw [getElem!_pos d _ (by omega), getElem!_pos (d.map enc) _ (by simp; omega), Array.getElem_map]
    · rfl
section
variable {α : Type} {T : Ty α} {e : TypeId} {base g n c : Nat} {M : Nat → Prop} {w : World} {xs : List α}
theorem OwnR.cellsOf (HO : OwnR T e base M w (.slice (some ⟨g, 0, none⟩) n c) xs) : ∃ inner, Reps T (fun k => ¬ M k) w xs inner ∧ Go.Sort.Holds id w g 0 inner.toArray ∧ g < w.heap.size := by
  obtain ⟨h0, inner, ho, hr⟩ := HO
  refine ⟨inner, hr, fun j hj => ?_, (OwnR.lt ⟨h0, inner, ho, hr⟩ g rfl).2⟩
  have hj' : j < inner.length := by simpa using hj
  have := ho.cells (g := g) rfl j inner[j] (by simp [hj'])
  rw [add_at, Nat.zero_add] at this
  refine ⟨by rw [Nat.zero_add, this]; simp [hj'], ?_⟩
  rcases ho.2 with ⟨h, _⟩ | ⟨g', cap, cur, hv, hb, hh, _⟩
  · cases h
  · injection hv with hv; injection hv with hv; injection hv with hv
    subst hv
    simp [World.frozen?, hh]
/-- Behind the sort: the row's cells hold other values of as many cells. -/
theorem OwnR.resorted {ys : List α} {inner' : List Value} (HO : OwnR T e base M w (.slice (some ⟨g, 0, none⟩) n c) xs) (hl : ys.length = xs.length) (hr' : Reps T (fun k => ¬ M k) w ys inner') (m : Nat) (os : Array Obj) {W : World} (hW : W = Go.Sort.grow (Go.Sort.putRow id (Go.Sort.ahead w m) g 0 inner'.toArray) os) :
    OwnR T e base M W (.slice (some ⟨g, 0, none⟩) n c) ys ∧ KeptS (fun k => k = g) w W := by
  have hgl := (OwnR.lt HO g rfl).2
  obtain ⟨h0, inner, ho, hr⟩ := HO
  have hg : M g := h0 g rfl
  have hli := hr'.len
  obtain ⟨hlen, ho⟩ := ho
  rcases ho with ⟨h, _⟩ | ⟨g', cap, cur, hv, hb, hh, h1, h2, h3, h4⟩
  · cases h
  injection hv with hv hvn hvc; injection hv with hv; injection hv with hv
  subst hv hvc hvn
  have hfit : inner'.length ≤ cur.size := by rw [hli, hl, h3]; exact Nat.mul_le_mul_right _ h1
  have hother : ∀ k, k < w.heap.size → k ≠ g → W.heap[k]? = w.heap[k]? := fun k hk hne => by
    rw [hW, Go.Sort.heap_grow_old _ _ (by simpa using hk)]
    show (w.heap.modify g _)[k]? = _
    rw [Array.getElem?_modify, if_neg (fun e => hne e.symm)]
  have hat : W.heap[g]? = some (.cells (Go.Sort.putCells id 0 inner'.toArray cur) e (0, 0)) := by
    rw [hW, Go.Sort.heap_grow_old _ _ (by simpa using hgl)]
    show (w.heap.modify g _)[g]? = _
    rw [Array.getElem?_modify, if_pos rfl, hh]; rfl
  have hk : KeptS (fun k => k = g) w W := ⟨by rw [hW]; rfl, by rw [hW]; rfl, by rw [hW]; rfl, by rw [hW]; simp, fun k hk hne => hother k hk hne⟩
  refine ⟨⟨h0, inner', ⟨hli, .inr ⟨g, c, _, by rw [hl], hb, hat, by rw [hl]; exact h1, h2, by simp [Go.Sort.putCells, h3], ?_⟩⟩, hr'.imp (fun x d hx => T.step hx (fun k hk' hlt => hother k hlt (fun e => hk' (e ▸ hg))))⟩, hk⟩
  rw [← hli]
  apply List.ext_getElem?
  intro j
  rw [List.getElem?_take]
  split
  · rename_i hj
    simp only [Go.Sort.putCells, Array.getElem?_toList, Array.getElem?_mapIdx]
    rw [Array.getElem?_eq_getElem (by omega)]
    simp only [Option.map_some, id, Nat.zero_le, List.size_toArray, Nat.zero_add, true_and, hj, if_true, Nat.sub_zero]
    rw [getElem!_pos inner'.toArray j (by simpa using hj)]
    simp [hj]
  · rename_i hj
    rw [List.getElem?_eq_none (by omega)]
end
theorem swo_of {α : Type} {less : α → α → Bool} {cf : α → α → Int} (T : Tot less) (h : ∀ x y, Go.Proofs.ltOf cf x y = less x y) : Go.Sort.SWO (Go.Proofs.ltOf cf) where
  irrefl := fun x => by rw [h]; exact T.irr x
  trans := fun x y z h1 h2 => by rw [h] at *; exact T.trans h1 h2
  ntrans := fun x y z h1 h2 => by
    rw [h] at *
    exact T.ntrans h2 h1
/-- slices.SortFunc over a row of flat structs that the call owns, under a total order. -/
theorem sortK_own {P : Program} {ρ : Go.Shelf.Ren} {α : Type} [Inhabited α] (L : Go.Proofs.SlLaysF0.n6 P ρ) {k : Nat} {hn : 0 < k} {enc : α → List Value} {h1 : ∀ x, ∀ u ∈ enc x, u.oneCell' = true} {hk : ∀ x, (enc x).length = k}
    (aE : ∀ w, (isAgg (ρ.t 24)).run P w = .ok true w) (zE : ∀ w, (Go.sizeOf (ρ.t 24)).run P w = .ok k w) {less : α → α → Bool} (cf : α → α → Int) (T : Tot less) (hcf : ∀ x y, Go.Proofs.ltOf cf x y = less x y) (q : Nat)
    (eg : ∀ args w, (callFunc q args).run P w = .ok (.enter q args) w) (hcmp : ∀ (x y : α) (W : World), Calls P q #[.agg (enc x).toArray, .agg (enc y).toArray] W fun e w' => e = .returned (.int .i64 (cf x y)) ∧ Gw W w')
    {e : TypeId} {base : Nat} {M : Nat → Prop} {w : World} {v : Value} {xs : List α} {A : Option Addr} {n c : Nat} (hv : v = .slice A n c) (hsm : xs.length ≤ 1000000000) (HO : OwnR (Ty.flat k hn enc hk h1) e base M w v xs) :
    Calls P (ρ.f 6) #[.slice A n c, .func (.func q) #[] #[]] w fun e' w' => e' = .returned (.tuple #[]) ∧ OwnR (Ty.flat k hn enc hk h1) e base M w' v (sortG less xs) ∧ KeptS (fun b => v.ownBlock = some b) w w' := by
  have hO := swo_of T hcf
  obtain ⟨A', c', hv', hc', hr, hg⟩ := HO.reads
  rw [hv] at hv'
  injection hv' with e1 e2 e3
  subst e1 e2 e3
  rcases Nat.eq_zero_or_pos xs.length with h0 | h0
  · obtain rfl : xs = [] := List.eq_nil_of_length_eq_zero h0
    exact (AnyF.slices_SortFunc_none { L with } A c _ w).mono fun e' w' ⟨he, hw⟩ => ⟨he, by rw [hw]; exact HO, by rw [hw]; exact kept_refl _ _⟩
  · obtain ⟨g, rfl, _⟩ := hg h0
    subst hv
    obtain ⟨inner, hi, hH, hgl⟩ := HO.cellsOf
    have hin := reps_flat_eq hk hi
    have hH' : Go.Sort.HoldsK enc k w g 0 xs.toArray := by
      unfold Go.Sort.HoldsK
      rw [flatK_list hk, ← hin]; exact hH
    have hsz : xs.toArray.size < 4611686018427387904 := by
      rw [List.size_toArray]; omega
    have hC : CmpLays P q #[] enc k cf g 0 xs.toArray.size w := fun m os dk hs x y => (hcmp x y _).mono fun e' w' ⟨he, hgw⟩ => ⟨he, hgw⟩
    have := AnyQ.slices_SortFunc L k aE zE enc hk h1 cf hO q #[] g 0 c xs.toArray w eg hC hH' hgl hsz
    rw [List.size_toArray] at this
    refine this.mono ?_
    rintro e' w' ⟨he, d', m, os, hp, hs, hw⟩
    have hp' : d'.toList.Perm xs := by
      obtain ⟨hs1, _, hp2⟩ := hp
      have e1 : d'.extract 0 xs.length = d' := by rw [show xs.length = d'.size by rw [hs1]; simp]; simp
      have e2 : xs.toArray.extract 0 xs.length = xs.toArray := by simp
      rw [e1, e2] at hp2
      simpa using hp2
    have hsrt : Srt less d'.toList := by
      refine List.pairwise_iff_getElem.2 fun i j hi hj hij => ?_
      have hl := hp'.length_eq
      have := hs i j (Nat.zero_le _) hij (by omega)
      rw [hcf, getElem!_pos d' i (by simpa using hi), getElem!_pos d' j (by simpa using hj)] at this
      simpa using this
    have hys := sortG_eq T hp' hsrt
    have := HO.resorted (ys := d'.toList) (inner' := d'.toList.flatMap enc) hp'.length_eq (reps_flat hk _ _ _) m os (W := w') (by rw [hw]; unfold sortWorldK Go.Sort.putRowK; rw [flatK_list hk])
    rw [hys] at this
    exact ⟨he, this.1, kept_mono this.2 (fun k _ hk => by rw [hk]; rfl)⟩
end Go.Proofs.YtlmjciajpjdilaaGreat
end

section
namespace Go.Proofs.YtlmjciajpjdilaaGreat
open Go.RowKit Go.Proofs.YtlmjciajpjdilaaGreatW.PrintLast
set_option linter.unusedVariables false
set_option linter.unusedSimpArgs false

theorem canon_snoc (l : Sgs) (k : Nat) (h : k < l.length) : canonZ (l.take (k + 1)) = canonZ (l.take k) ++ (if goodB (sgD l k) = true then [ofS (sgD l k)] else []) := by
  unfold canonZ
  rw [take_snoc l k ((0, 0), (0, 0)) h, List.filter_append, List.map_append]
  congr 1
  show List.map ofS ([sgD l k].filter goodB) = _
  by_cases hg : goodB (sgD l k) = true
  · rw [if_pos hg, List.filter_cons_of_pos hg]; rfl
  · rw [if_neg hg, List.filter_cons_of_neg hg]; rfl
theorem canon_le (l : Sgs) : (canonZ l).length ≤ l.length := by unfold canonZ; rw [List.length_map]; exact List.length_filter_le _ _
set_option maxHeartbeats 1000000 in
theorem noding_canon {ok : Nat → Prop} (l : Sgs) (A : Option Addr) (n c : Nat) (w : World) (hr : Row Ty.sg ok w A l) (hn : n = l.length) (hlen : l.length ≤ 1000000) :
    Calls Tryz.prog 104 #[.slice A n c] w fun e w' => ∃ v, e = .returned v ∧ Own1 Ty.sg 32 w.heap.size w' v (canonZ l) ∧ Below w.heap.size w w' := by
  subst hn
  have HR := Lib.hid hr
  clear hr
  go_enter Tryz.func104, Tryz.ntmps104
  go_wp2
  go_loopw [3, 8] (fun v i wr => ∃ k : Nat, k ≤ l.length ∧ i = .int .i64 k ∧ Below w.heap.size w wr ∧ Own1 Ty.sg 32 w.heap.size wr v (canonZ (l.take k))) (fun _ i _ => l.length - (intOf i).toNat)
  case atStart => exact ⟨0, Nat.zero_le _, rfl, Below.refl _ _, OwnR.nil _ _ _ _ _⟩
  case round =>
    obtain ⟨k, hk, rfl, BW, ho⟩ := hrel
    by_cases hlt : k < l.length
    · have HRk := Lib.hid (HR.out.below BW)
      obtain ⟨ad, rfl, hx0, hx1, hx2, hx3⟩ := HRk.out.sg_at k hlt
      have HO := Lib.hid ho
      have HS := Lib.hid (canon_snoc l k hlt)
      have HL : Hid (((canonZ (l.take k)).length + 1) * 32 ≤ 140737488355328) := by
        have := canon_le (l.take k)
        rw [List.length_take] at this
        show _ ≤ _
        omega
      have hsz := BW.size
      clear ho HRk
      obtain ⟨s, hs⟩ : ∃ s, s = sgD l k := ⟨_, rfl⟩
      rw [← hs] at hx0 hx1 hx2 hx3 HS
      clear hs
      obtain ⟨⟨a1, a2⟩, ⟨b1, b2⟩⟩ := s
      simp only at hx0 hx1 hx2 hx3
      by_cases e0 : (a1, a2) = (b1, b2)
      · obtain ⟨e1, e2⟩ := Prod.mk.inj e0
        subst e1 e2
        have HS2 : Hid (canonZ (l.take (k + 1)) = canonZ (l.take k)) := Lib.hid (by rw [HS.out, if_neg (by simp [goodB]), List.append_nil])
        clear HS e0
        go_wp2
        go_roundw
        case rel => exact ⟨k + 1, by omega, by go_num, (by repeat (first | exact Below.refl _ _ | apply below_alloc | apply below_drewN | apply below_drew | (refine below_set2 ?_ ?_; (first | (simp; done) | (simp; omega))) | (refine below_step ?_ BW))), by rw [HS2.out]; exact Own1.below HO.out (by repeat (first | exact Below.refl _ _ | apply below_alloc | apply below_drewN | apply below_drew | (refine below_set2 ?_ ?_; (first | (simp; done) | (simp; omega)))))⟩
        case measure => simp [intOf]; omega
      · have HN : Hid (¬ ((a1, a2) : Pt) = (b1, b2)) := e0
        by_cases e1 : a1 = b1
        · have e2 : ¬ a2 = b2 := fun e => e0 (by rw [e1, e])
          clear e0
          subst e1
          cases va : validB (a1, a2)
          · have HS2 : Hid (canonZ (l.take (k + 1)) = canonZ (l.take k)) := Lib.hid (by rw [HS.out, if_neg (by simp [goodB, va]), List.append_nil])
            clear HS
            go_wp2_with fail
            refine (grid_Valid _ _ _).mono ?_
            rintro e w1 ⟨rfl, hb1⟩
            rw [va]
            go_wp2
            go_roundw
            case rel => exact ⟨k + 1, by omega, by go_num, (by repeat (first | exact Below.refl _ _ | apply below_alloc | apply below_drewN | apply below_drew | (refine below_set2 ?_ ?_; (first | (simp; done) | (simp; omega))) | (refine below_step ?_ hb1) | (refine below_step ?_ BW))), by rw [HS2.out]; exact Own1.below HO.out (by repeat (first | exact Below.refl _ _ | apply below_alloc | apply below_drewN | apply below_drew | (refine below_set2 ?_ ?_; (first | (simp; done) | (simp; omega))) | (refine below_step ?_ hb1)))⟩
            case measure => simp [intOf]; omega
          · cases vb : validB (a1, b2)
            · have HS2 : Hid (canonZ (l.take (k + 1)) = canonZ (l.take k)) := Lib.hid (by rw [HS.out, if_neg (by simp [goodB, vb]), List.append_nil])
              clear HS
              go_wp2_with fail
              (refine (grid_Valid _ _ _).mono ?_; rintro e w1 ⟨rfl, hb1⟩; obtain ⟨c_hb1, f_hb1⟩ := bcell hb1; have z_hb1 := hb1.size; (try simp at z_hb1); (try have y0_hb1 : wr.heap.size < w1.heap.size := by omega); (try have y1_hb1 : wr.heap.size + 1 < w1.heap.size := by omega); (try have y2_hb1 : wr.heap.size + 1 + 1 < w1.heap.size := by omega); (try have y3_hb1 : wr.heap.size + 1 + 1 + 1 < w1.heap.size := by omega); (try have y4_hb1 : wr.heap.size + 1 + 1 + 1 + 1 < w1.heap.size := by omega))
              rw [va]
              go_wp2_with fail
              (refine (grid_Valid _ _ _).mono ?_; rintro e w2 ⟨rfl, hb2⟩; obtain ⟨c_hb2, f_hb2⟩ := bcell hb2; have z_hb2 := hb2.size; (try simp at z_hb2); (try have y0_hb2 : wr.heap.size < w2.heap.size := by omega); (try have y1_hb2 : wr.heap.size + 1 < w2.heap.size := by omega); (try have y2_hb2 : wr.heap.size + 1 + 1 < w2.heap.size := by omega); (try have y3_hb2 : wr.heap.size + 1 + 1 + 1 < w2.heap.size := by omega); (try have y4_hb2 : wr.heap.size + 1 + 1 + 1 + 1 < w2.heap.size := by omega))
              rw [vb]
              go_wp2
              go_roundw
              case rel => exact ⟨k + 1, by omega, by go_num, (by repeat (first | exact Below.refl _ _ | apply below_alloc | apply below_drewN | apply below_drew | (refine below_set2 ?_ ?_; (first | (simp; done) | (simp; omega))) | (refine below_step ?_ hb2) | (refine below_step ?_ hb1) | (refine below_step ?_ BW))), by rw [HS2.out]; exact Own1.below HO.out (by repeat (first | exact Below.refl _ _ | apply below_alloc | apply below_drewN | apply below_drew | (refine below_set2 ?_ ?_; (first | (simp; done) | (simp; omega))) | (refine below_step ?_ hb2) | (refine below_step ?_ hb1)))⟩
              case measure => simp [intOf]; omega
            · have HS2 : Hid (canonZ (l.take (k + 1)) = canonZ (l.take k) ++ [ofS ((a1, a2), (a1, b2))]) := Lib.hid (by rw [HS.out, if_pos (by show (decide (_ ≠ _) && (validB (a1, a2) && validB (a1, b2))) = true; rw [va, vb, Bool.and_true, Bool.and_true]; exact decide_eq_true HN.out)])
              clear HS
              go_wp2_with fail
              (refine (grid_Valid _ _ _).mono ?_; rintro e w1 ⟨rfl, hb1⟩; obtain ⟨c_hb1, f_hb1⟩ := bcell hb1; have z_hb1 := hb1.size; (try simp at z_hb1); (try have y0_hb1 : wr.heap.size < w1.heap.size := by omega); (try have y1_hb1 : wr.heap.size + 1 < w1.heap.size := by omega); (try have y2_hb1 : wr.heap.size + 1 + 1 < w1.heap.size := by omega); (try have y3_hb1 : wr.heap.size + 1 + 1 + 1 < w1.heap.size := by omega); (try have y4_hb1 : wr.heap.size + 1 + 1 + 1 + 1 < w1.heap.size := by omega))
              rw [va]
              go_wp2_with fail
              (refine (grid_Valid _ _ _).mono ?_; rintro e w2 ⟨rfl, hb2⟩; obtain ⟨c_hb2, f_hb2⟩ := bcell hb2; have z_hb2 := hb2.size; (try simp at z_hb2); (try have y0_hb2 : wr.heap.size < w2.heap.size := by omega); (try have y1_hb2 : wr.heap.size + 1 < w2.heap.size := by omega); (try have y2_hb2 : wr.heap.size + 1 + 1 < w2.heap.size := by omega); (try have y3_hb2 : wr.heap.size + 1 + 1 + 1 < w2.heap.size := by omega); (try have y4_hb2 : wr.heap.size + 1 + 1 + 1 + 1 < w2.heap.size := by omega))
              rw [vb]
              go_wp2_with fail
              (refine (seg_Of _ _ _ _ _).mono ?_; rintro e w3 ⟨rfl, hb3⟩; obtain ⟨c_hb3, f_hb3⟩ := bcell hb3; have z_hb3 := hb3.size; (try simp at z_hb3); (try have y0_hb3 : wr.heap.size < w3.heap.size := by omega); (try have y1_hb3 : wr.heap.size + 1 < w3.heap.size := by omega); (try have y2_hb3 : wr.heap.size + 1 + 1 < w3.heap.size := by omega); (try have y3_hb3 : wr.heap.size + 1 + 1 + 1 < w3.heap.size := by omega); (try have y4_hb3 : wr.heap.size + 1 + 1 + 1 + 1 < w3.heap.size := by omega))
              have B3 : Below wr.heap.size wr w3 := (by repeat (first | exact Below.refl _ _ | apply below_alloc | apply below_drewN | apply below_drew | (refine below_set2 ?_ ?_; (first | (simp; done) | (simp; omega))) | (refine below_step ?_ hb3) | (refine below_step ?_ hb2) | (refine below_step ?_ hb1)))
              have HO3 := Lib.hid (Own1.below HO.out B3)
              have hs3 := B3.size
              clear c_hb1 c_hb2 c_hb3 f_hb1 f_hb2 f_hb3 HO
              go_wp2_with (at_builtin; refine app_one Ty.sg (W := w3) w.heap.size rfl _ _ 22 32 _ 32 rfl Tryz.underlying22 infoSg rfl (by decide) u3 (canonZ (l.take k)) (ofS ((a1, a2), (a1, b2))) _ _ rfl rfl rfl rfl HO3.out (by omega) HL.out ?_; intro v1 w4 HO1 hg1 hat1)
              have BZ : Below w.heap.size w w4 := below_own (by repeat (first | exact Below.refl _ _ | apply below_alloc | apply below_drewN | apply below_drew | (refine below_set2 ?_ ?_; (first | (simp; done) | (simp; omega))) | (refine below_step ?_ B3) | (refine below_step ?_ BW))) hg1 (fun b e => (OwnR.lt HO3.out b e).1)
              have HO4 := Lib.hid (Own1.of HO1)
              clear HO1 hg1 hat1
              go_wp2
              go_roundw
              case rel => exact ⟨k + 1, by omega, by go_num, BZ, by rw [HS2.out]; exact HO4.out⟩
              case measure => simp [intOf]; omega
        · clear e0
          cases va : validB (a1, a2)
          · have HS2 : Hid (canonZ (l.take (k + 1)) = canonZ (l.take k)) := Lib.hid (by rw [HS.out, if_neg (by simp [goodB, va]), List.append_nil])
            clear HS
            go_wp2_with fail
            refine (grid_Valid _ _ _).mono ?_
            rintro e w1 ⟨rfl, hb1⟩
            rw [va]
            go_wp2
            go_roundw
            case rel => exact ⟨k + 1, by omega, by go_num, (by repeat (first | exact Below.refl _ _ | apply below_alloc | apply below_drewN | apply below_drew | (refine below_set2 ?_ ?_; (first | (simp; done) | (simp; omega))) | (refine below_step ?_ hb1) | (refine below_step ?_ BW))), by rw [HS2.out]; exact Own1.below HO.out (by repeat (first | exact Below.refl _ _ | apply below_alloc | apply below_drewN | apply below_drew | (refine below_set2 ?_ ?_; (first | (simp; done) | (simp; omega))) | (refine below_step ?_ hb1)))⟩
            case measure => simp [intOf]; omega
          · cases vb : validB (b1, b2)
            · have HS2 : Hid (canonZ (l.take (k + 1)) = canonZ (l.take k)) := Lib.hid (by rw [HS.out, if_neg (by simp [goodB, vb]), List.append_nil])
              clear HS
              go_wp2_with fail
              (refine (grid_Valid _ _ _).mono ?_; rintro e w1 ⟨rfl, hb1⟩; obtain ⟨c_hb1, f_hb1⟩ := bcell hb1; have z_hb1 := hb1.size; (try simp at z_hb1); (try have y0_hb1 : wr.heap.size < w1.heap.size := by omega); (try have y1_hb1 : wr.heap.size + 1 < w1.heap.size := by omega); (try have y2_hb1 : wr.heap.size + 1 + 1 < w1.heap.size := by omega); (try have y3_hb1 : wr.heap.size + 1 + 1 + 1 < w1.heap.size := by omega); (try have y4_hb1 : wr.heap.size + 1 + 1 + 1 + 1 < w1.heap.size := by omega))
              rw [va]
              go_wp2_with fail
              (refine (grid_Valid _ _ _).mono ?_; rintro e w2 ⟨rfl, hb2⟩; obtain ⟨c_hb2, f_hb2⟩ := bcell hb2; have z_hb2 := hb2.size; (try simp at z_hb2); (try have y0_hb2 : wr.heap.size < w2.heap.size := by omega); (try have y1_hb2 : wr.heap.size + 1 < w2.heap.size := by omega); (try have y2_hb2 : wr.heap.size + 1 + 1 < w2.heap.size := by omega); (try have y3_hb2 : wr.heap.size + 1 + 1 + 1 < w2.heap.size := by omega); (try have y4_hb2 : wr.heap.size + 1 + 1 + 1 + 1 < w2.heap.size := by omega))
              rw [vb]
              go_wp2
              go_roundw
              case rel => exact ⟨k + 1, by omega, by go_num, (by repeat (first | exact Below.refl _ _ | apply below_alloc | apply below_drewN | apply below_drew | (refine below_set2 ?_ ?_; (first | (simp; done) | (simp; omega))) | (refine below_step ?_ hb2) | (refine below_step ?_ hb1) | (refine below_step ?_ BW))), by rw [HS2.out]; exact Own1.below HO.out (by repeat (first | exact Below.refl _ _ | apply below_alloc | apply below_drewN | apply below_drew | (refine below_set2 ?_ ?_; (first | (simp; done) | (simp; omega))) | (refine below_step ?_ hb2) | (refine below_step ?_ hb1)))⟩
              case measure => simp [intOf]; omega
            · have HS2 : Hid (canonZ (l.take (k + 1)) = canonZ (l.take k) ++ [ofS ((a1, a2), (b1, b2))]) := Lib.hid (by rw [HS.out, if_pos (by show (decide (_ ≠ _) && (validB (a1, a2) && validB (b1, b2))) = true; rw [va, vb, Bool.and_true, Bool.and_true]; exact decide_eq_true HN.out)])
              clear HS
              go_wp2_with fail
              (refine (grid_Valid _ _ _).mono ?_; rintro e w1 ⟨rfl, hb1⟩; obtain ⟨c_hb1, f_hb1⟩ := bcell hb1; have z_hb1 := hb1.size; (try simp at z_hb1); (try have y0_hb1 : wr.heap.size < w1.heap.size := by omega); (try have y1_hb1 : wr.heap.size + 1 < w1.heap.size := by omega); (try have y2_hb1 : wr.heap.size + 1 + 1 < w1.heap.size := by omega); (try have y3_hb1 : wr.heap.size + 1 + 1 + 1 < w1.heap.size := by omega); (try have y4_hb1 : wr.heap.size + 1 + 1 + 1 + 1 < w1.heap.size := by omega))
              rw [va]
              go_wp2_with fail
              (refine (grid_Valid _ _ _).mono ?_; rintro e w2 ⟨rfl, hb2⟩; obtain ⟨c_hb2, f_hb2⟩ := bcell hb2; have z_hb2 := hb2.size; (try simp at z_hb2); (try have y0_hb2 : wr.heap.size < w2.heap.size := by omega); (try have y1_hb2 : wr.heap.size + 1 < w2.heap.size := by omega); (try have y2_hb2 : wr.heap.size + 1 + 1 < w2.heap.size := by omega); (try have y3_hb2 : wr.heap.size + 1 + 1 + 1 < w2.heap.size := by omega); (try have y4_hb2 : wr.heap.size + 1 + 1 + 1 + 1 < w2.heap.size := by omega))
              rw [vb]
              go_wp2_with fail
              (refine (seg_Of _ _ _ _ _).mono ?_; rintro e w3 ⟨rfl, hb3⟩; obtain ⟨c_hb3, f_hb3⟩ := bcell hb3; have z_hb3 := hb3.size; (try simp at z_hb3); (try have y0_hb3 : wr.heap.size < w3.heap.size := by omega); (try have y1_hb3 : wr.heap.size + 1 < w3.heap.size := by omega); (try have y2_hb3 : wr.heap.size + 1 + 1 < w3.heap.size := by omega); (try have y3_hb3 : wr.heap.size + 1 + 1 + 1 < w3.heap.size := by omega); (try have y4_hb3 : wr.heap.size + 1 + 1 + 1 + 1 < w3.heap.size := by omega))
              have B3 : Below wr.heap.size wr w3 := (by repeat (first | exact Below.refl _ _ | apply below_alloc | apply below_drewN | apply below_drew | (refine below_set2 ?_ ?_; (first | (simp; done) | (simp; omega))) | (refine below_step ?_ hb3) | (refine below_step ?_ hb2) | (refine below_step ?_ hb1)))
              have HO3 := Lib.hid (Own1.below HO.out B3)
              have hs3 := B3.size
              clear c_hb1 c_hb2 c_hb3 f_hb1 f_hb2 f_hb3 HO
              go_wp2_with (at_builtin; refine app_one Ty.sg (W := w3) w.heap.size rfl _ _ 22 32 _ 32 rfl Tryz.underlying22 infoSg rfl (by decide) u3 (canonZ (l.take k)) (ofS ((a1, a2), (b1, b2))) _ _ rfl rfl rfl rfl HO3.out (by omega) HL.out ?_; intro v1 w4 HO1 hg1 hat1)
              have BZ : Below w.heap.size w w4 := below_own (by repeat (first | exact Below.refl _ _ | apply below_alloc | apply below_drewN | apply below_drew | (refine below_set2 ?_ ?_; (first | (simp; done) | (simp; omega))) | (refine below_step ?_ B3) | (refine below_step ?_ BW))) hg1 (fun b e => (OwnR.lt HO3.out b e).1)
              have HO4 := Lib.hid (Own1.of HO1)
              clear HO1 hg1 hat1
              go_wp2
              go_roundw
              case rel => exact ⟨k + 1, by omega, by go_num, BZ, by rw [HS2.out]; exact HO4.out⟩
              case measure => simp [intOf]; omega
    · obtain rfl : k = l.length := by omega
      rw [List.take_length] at ho
      have HO := Lib.hid ho
      clear ho
      go_wp2
      go_ret
      exact ⟨_, rfl, HO.out, BW⟩
end Go.Proofs.YtlmjciajpjdilaaGreat
end

section
namespace Go.Proofs.YtlmjciajpjdilaaGreat
open Go.RowKit Go.Proofs.YtlmjciajpjdilaaGreatW.PrintLast
set_option linter.unusedVariables false
set_option linter.unusedSimpArgs false

def EntersT (K : Nat) : Prop := ∀ (args : Array Value) (w : World), (callFunc K args).run Tryz.prog w = .ok (.enter K args) w
theorem enters_t {K : Nat} {fn : Func} {c : Code} (hf : Tryz.prog.funcs[K]? = some fn) (hname : (fn.name == "runtime.NumGoroutine") = false) (hb : fn.body = some c) : EntersT K := by
  intro args w
  have h1 : fn.name ≠ "runtime.NumGoroutine" := by simpa using hname
  simp [callFunc, hf, h1, hb]
theorem SortFunc_sg {base : Nat} {M : Nat → Prop} {w : World} {xs : Sgs} (A : Option Addr) (n c : Nat) (hsm : xs.length ≤ 1000000000) (HO : OwnR Ty.sg 32 base M w (.slice A n c) xs) :
    Calls Tryz.prog 105 #[.slice A n c, .func (.func 106) #[] #[]] w fun e' w' => e' = .returned (.tuple #[]) ∧ OwnR Ty.sg 32 base M w' (.slice A n c) (sortG lessS xs) ∧ KeptS (fun b => (Value.slice A n c).ownBlock = some b) w w' :=
  sortK_own (k := 4) Tryz.laysSg (fun _ => by kernel_rfl) (fun _ => by kernel_rfl) cmpS totS ltS 106 (enters_t Tryz.func106 (by kernel_rfl) rfl) (fun x y W => noding_order x y W) rfl hsm HO
theorem SortFunc_pt {base : Nat} {M : Nat → Prop} {w : World} {xs : Pts} (A : Option Addr) (n c : Nat) (hsm : xs.length ≤ 1000000000) (HO : OwnR Ty.pt 24 base M w (.slice A n c) xs) :
    Calls Tryz.prog 107 #[.slice A n c, .func (.func 108) #[] #[]] w fun e' w' => e' = .returned (.tuple #[]) ∧ OwnR Ty.pt 24 base M w' (.slice A n c) (sortG lessB xs) ∧ KeptS (fun b => (Value.slice A n c).ownBlock = some b) w w' :=
  sortK_own (k := 2) Tryz.laysPt (fun _ => by kernel_rfl) (fun _ => by kernel_rfl) cmpP totB ltP 108 (enters_t Tryz.func108 (by kernel_rfl) rfl) (fun x y W => split_order x y W) rfl hsm HO
theorem noding_Sort {ok : Nat → Prop} (l : Sgs) (A : Option Addr) (n c : Nat) (w : World) (hr : Row Ty.sg ok w A l) (hn : n = l.length) (hlen : l.length ≤ 1000000) :
    Calls Tryz.prog 75 #[.slice A n c] w fun e w' => ∃ v, e = .returned v ∧ Own1 Ty.sg 32 w.heap.size w' v (sortZ l) ∧ Below w.heap.size w w' := by
  subst hn
  go_enter Tryz.func75, Tryz.ntmps75
  go_wp2_with fail
  refine (noding_canon l A _ c w hr rfl hlen).mono ?_
  rintro e w1 ⟨v, rfl, ho, hb⟩
  obtain ⟨A1, c1, rfl, hl1, hr1⟩ := ho.reads
  have HO := Lib.hid ho
  have hcl := canon_le l
  have hw := hb.size
  clear ho hr1
  go_wp2_with fail
  refine (SortFunc_sg A1 _ c1 (by omega) HO.out).mono ?_
  rintro e w2 ⟨rfl, ho2, hk2⟩
  have HO2 := Lib.hid ho2
  have HB2 : Hid (Below w.heap.size w w2) := below_kept hb hk2 (fun b e => (OwnR.lt HO.out b e).1)
  clear ho2 hk2
  go_wp2
  go_ret
  refine ⟨_, rfl, ?_, HB2.out⟩
  have := HO2.out
  rwa [show (canonZ l).length = (sortZ l).length by unfold sortZ; rw [sortG_len]] at this ⊢
theorem noding_Unique {ok : Nat → Prop} (l : Sgs) (A : Option Addr) (n c : Nat) (w : World) (hr : Row Ty.sg ok w A l) (hn : n = l.length) (hlen : l.length ≤ 1000000) :
    Calls Tryz.prog 34 #[.slice A n c] w fun e w' => ∃ v, e = .returned v ∧ Own1 Ty.sg 32 w.heap.size w' v (uniqZ l) ∧ Below w.heap.size w w' := by
  subst hn
  go_enter Tryz.func34, Tryz.ntmps34
  go_wp2_with fail
  refine (noding_Sort l A _ c w hr rfl hlen).mono ?_
  rintro e w1 ⟨v, rfl, ho, hb⟩
  have HO := Lib.hid ho
  have hw := hb.size
  clear ho
  go_wp2_with fail
  refine (Compact_sg (sortZ l) v _ w1 HO.out).mono ?_
  rintro e w2 ⟨v2, rfl, ho2, hk2⟩
  have HO2 := Lib.hid ho2
  have HB2 : Hid (Below w.heap.size w w2) := below_kept hb hk2 (fun b e => (OwnR.lt HO.out b e).1)
  clear ho2 hk2
  go_wp2
  go_ret
  exact ⟨_, rfl, HO2.out, HB2.out⟩
end Go.Proofs.YtlmjciajpjdilaaGreat
end
