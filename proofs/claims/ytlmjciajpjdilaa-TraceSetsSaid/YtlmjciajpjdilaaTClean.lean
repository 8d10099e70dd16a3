/- Contracts of noding.Crossings (its length) and noding.Clean. -/
import Derived.Test.YtlmjciajpjdilaaTSplit
namespace Go.Proofs.Ytlmjciajpjdilaa
open Go.RowKit Go.Proofs.YtlmjciajpjdilaaW.PrintLast
set_option linter.unusedVariables false
set_option linter.unusedSimpArgs false

abbrev Ty.sg2 : Ty (Sg × Sg) := Ty.flat 8 (by decide) (fun x => [.int .i64 x.1.1.1, .int .i64 x.1.1.2, .int .i64 x.1.2.1, .int .i64 x.1.2.2, .int .i64 x.2.1.1, .int .i64 x.2.1.2, .int .i64 x.2.2.1, .int .i64 x.2.2.2]) (fun _ => rfl) (fun x u hu => by simp at hu; rcases hu with rfl | rfl | rfl | rfl | rfl | rfl | rfl | rfl <;> rfl)
theorem infoSg2 : (Try.prog.info? 82).map (fun i => (i.zero, i.size, i.bytes)) = some (some (.agg #[.int .i64 0, .int .i64 0, .int .i64 0, .int .i64 0, .int .i64 0, .int .i64 0, .int .i64 0, .int .i64 0]), 8, 64) := by kernel_rfl
def crossTo (u : Sgs) (i : Nat) : List (Sg × Sg) := (List.range i).flatMap fun i => ((u.drop (i + 1)).filter (badB (sgD u i))).map fun t => (sgD u i, t)
def crossIn (u : Sgs) (i j : Nat) : List (Sg × Sg) := crossTo u i ++ (((u.drop (i + 1)).take j).filter (badB (sgD u i))).map fun t => (sgD u i, t)
theorem crossTo_succ (u : Sgs) (i : Nat) : crossTo u (i + 1) = crossIn u i (u.drop (i + 1)).length := by
  unfold crossTo crossIn
  rw [List.range_succ, List.flatMap_append, List.take_length]
  simp [crossTo]
theorem crossIn_zero (u : Sgs) (i : Nat) : crossIn u i 0 = crossTo u i := by simp [crossIn]
theorem crossIn_succ (u : Sgs) (i j : Nat) (h : i + 1 + j < u.length) : crossIn u i (j + 1) = crossIn u i j ++ (if badB (sgD u i) (sgD u (i + 1 + j)) = true then [(sgD u i, sgD u (i + 1 + j))] else []) := by
  unfold crossIn
  rw [take_snoc (u.drop (i + 1)) j ((0, 0), (0, 0)) (by rw [List.length_drop]; omega), List.filter_append, List.map_append, List.append_assoc]
  have e : (u.drop (i + 1)).getD j ((0, 0), (0, 0)) = sgD u (i + 1 + j) := by simp [sgD, List.getD_eq_getElem?_getD]
  rw [e]
  congr 2
  by_cases hb : badB (sgD u i) (sgD u (i + 1 + j)) = true
  · rw [if_pos hb, List.filter_cons_of_pos hb]; rfl
  · rw [if_neg hb, List.filter_cons_of_neg hb]; rfl
theorem crossIn_len (u : Sgs) (i : Nat) : ∀ j, (crossIn u i j).length ≤ (crossTo u i).length + j
  | 0 => by rw [crossIn_zero]; omega
  | j + 1 => by
    unfold crossIn
    rw [List.length_append, List.length_map]
    have h1 := List.length_filter_le (badB (sgD u i)) ((u.drop (i + 1)).take (j + 1))
    rw [List.length_take] at h1
    omega
theorem crossTo_len (u : Sgs) : ∀ i, (crossTo u i).length ≤ i * u.length
  | 0 => by simp [crossTo]
  | i + 1 => by
    have ih := crossTo_len u i
    rw [crossTo_succ, Nat.add_mul, Nat.one_mul]
    have := crossIn_len u i (u.drop (i + 1)).length
    rw [List.length_drop] at this ⊢
    omega
theorem cross_le {a n m : Nat} (h1 : a ≤ 600) (h2 : n ≤ a * m) (h3 : m ≤ 600) : n ≤ 360000 := Nat.le_trans h2 (Nat.mul_le_mul h1 h3)
set_option maxHeartbeats 2000000 in
theorem noding_Crossings {ok : Nat → Prop} (l : Sgs) (A : Option Addr) (n c : Nat) (w : World) (hr : Row Ty.sg ok w A l) (hn : n = l.length) (hlen : l.length ≤ 600) :
    Calls Try.prog 36 #[.slice A n c] w fun e w' => ∃ B d, e = .returned (.slice B (crossZs (uniqZ l)).length d) ∧ Below w.heap.size w w' := by
  subst hn
  have HR := Lib.hid hr
  clear hr
  have hul := uniq_len l
  have CU := Lib.hid (fun W h => noding_Unique (ok := ok) l A l.length c W h rfl (by omega))
  have HZ : Hid (crossZs (uniqZ l) = crossTo (uniqZ l) (uniqZ l).length) := rfl
  generalize uniqZ l = u at *
  go_enter Try.func36, Try.ntmps36
  go_wp2_with fail
  refine Calls.mono (CU.out _ HR.out) ?_
  rintro e w1 ⟨v, rfl, ho, hb1⟩
  have HU := Lib.hid ho
  have HB1 := Lib.hid hb1
  rcases Nat.eq_zero_or_pos u.length with h0 | h0
  · obtain ⟨A1, c1, rfl, _⟩ := ho.reads
    obtain rfl : u = [] := List.eq_nil_of_length_eq_zero h0
    clear ho hb1 CU
    go_wp2
    go_loopw [4, 14] (fun v i wr => v = .slice none 0 0 ∧ i = .int .i64 0 ∧ Hid (Below w.heap.size w wr)) (fun _ i _ => 0)
    case atStart => exact ⟨rfl, rfl, HB1.out⟩
    case round =>
      obtain ⟨rfl, rfl, HB⟩ := hrel
      go_wp2
      go_ret
      exact ⟨none, 0, by rw [HZ.out]; rfl, HB.out⟩
  obtain ⟨g, c1, rfl, hl1⟩ := HU.out.form h0
  have hgl := (OwnR.lt HU.out g rfl).2
  clear ho hb1 CU
  go_wp2
  go_loopw [4, 14] (fun v i wr => ∃ k : Nat, k ≤ u.length ∧ i = .int .i64 k ∧ Hid (Below w1.heap.size w1 wr) ∧ Hid (Own1 Ty.sg2 82 w1.heap.size wr v (crossTo u k))) (fun _ i _ => u.length - (intOf i).toNat)
  case atStart => exact ⟨0, Nat.zero_le _, rfl, Below.refl _ _, OwnR.nil _ _ _ _ _⟩
  case round =>
    obtain ⟨k, hk, rfl, HB, HO⟩ := hrel
    by_cases hlt : k < u.length
    · have HUo := Lib.hid (Own1.below HU.out HB.out)
      obtain ⟨hx0, hx1, hx2, hx3⟩ := OwnR.sg_at HUo.out k hlt
      have hcl := crossTo_len u k
      have hcb := cross_le (n := (crossTo u k).length) (a := u.length) (by omega) (Nat.le_trans hcl (Nat.mul_le_mul_right _ hk)) (by omega)
      have HIL := Lib.hid (crossIn_len u k)
      obtain ⟨wo, rfl⟩ : ∃ wo : World, wo = wr := ⟨_, rfl⟩
      have hgo := HB.out.size
      have HAo := heap_alloc_new wo (.cells #[.int .i64 (sgD u k).1.1, .int .i64 (sgD u k).1.2, .int .i64 (sgD u k).2.1, .int .i64 (sgD u k).2.2] 27)
      have eb : k + 1 ≤ u.length := by omega
      have ec : u.length ≤ c1 := hl1
      clear HUo hcl
      by_cases hlast : k + 1 = u.length
      · have HLS : Hid (crossTo u (k + 1) = crossTo u k) := by
          show _ = _
          rw [crossTo_succ, show (u.drop (k + 1)).length = 0 by rw [List.length_drop]; omega, crossIn_zero]
        have hlb : u.length ≤ k + 1 := by omega
        clear HAo hlast
        by_cases hcc : c1 = k + 1
        · skip
          go_wp2
          go_loopw [4, 24] (fun v i wi => i = .int .i64 0 ∧ Hid (Below w1.heap.size w1 wi) ∧ Hid (Own1 Ty.sg2 82 w1.heap.size wi v (crossTo u k))) (fun _ i _ => 0)
          case atStart => exact ⟨rfl, (by repeat (first | exact Below.refl _ _ | apply below_alloc | apply below_drewN | apply below_drew | (refine below_set2 ?_ ?_; (first | (simp; done) | (simp; omega))) | (refine below_step ?_ HB.out))), Own1.below HO.out (by repeat (first | exact Below.refl _ _ | apply below_alloc | apply below_drewN | apply below_drew | (refine below_set2 ?_ ?_; (first | (simp; done) | (simp; omega)))))⟩
          case round =>
            obtain ⟨rfl, HBi, HOi⟩ := hrel
            clear HO HB
            go_wp2
            go_roundw
            case rel => exact ⟨k + 1, by omega, by go_num, HBi, by rw [HLS.out]; exact HOi.out⟩
            case measure => simp [intOf]; omega
        · skip
          go_wp2
          go_loopw [4, 24] (fun v i wi => i = .int .i64 0 ∧ Hid (Below w1.heap.size w1 wi) ∧ Hid (Own1 Ty.sg2 82 w1.heap.size wi v (crossTo u k))) (fun _ i _ => 0)
          case atStart => exact ⟨rfl, (by repeat (first | exact Below.refl _ _ | apply below_alloc | apply below_drewN | apply below_drew | (refine below_set2 ?_ ?_; (first | (simp; done) | (simp; omega))) | (refine below_step ?_ HB.out))), Own1.below HO.out (by repeat (first | exact Below.refl _ _ | apply below_alloc | apply below_drewN | apply below_drew | (refine below_set2 ?_ ?_; (first | (simp; done) | (simp; omega)))))⟩
          case round =>
            obtain ⟨rfl, HBi, HOi⟩ := hrel
            clear HO HB
            go_wp2
            go_roundw
            case rel => exact ⟨k + 1, by omega, by go_num, HBi, by rw [HLS.out]; exact HOi.out⟩
            case measure => simp [intOf]; omega
      have hcc : ¬ c1 = k + 1 := by omega
      go_wp2
      have hvb0 : ∀ b, u4.ownBlock = some b → b ≠ wo.heap.size := fun b e => by have := (OwnR.lt HO.out b e).2; omega
      go_loopw [4, 24] (fun v i wi => ∃ j : Nat, k + 1 + j ≤ u.length ∧ i = .int .i64 j ∧ wi.heap[wo.heap.size]? = some (.cells #[.int .i64 (sgD u k).1.1, .int .i64 (sgD u k).1.2, .int .i64 (sgD u k).2.1, .int .i64 (sgD u k).2.2] 27 (0, 0)) ∧
        Hid (Below w1.heap.size w1 wi) ∧ Hid (Own1 Ty.sg2 82 w1.heap.size wi v (crossIn u k j)) ∧ Hid (∀ b, v.ownBlock = some b → b ≠ wo.heap.size)) (fun _ i _ => u.length - (intOf i).toNat)
      case atStart => exact ⟨0, by omega, rfl, HAo, (by repeat (first | exact Below.refl _ _ | apply below_alloc | apply below_drewN | apply below_drew | (refine below_set2 ?_ ?_; (first | (simp; done) | (simp; omega))) | (refine below_step ?_ HB.out))), by rw [crossIn_zero]; exact Own1.below HO.out (by repeat (first | exact Below.refl _ _ | apply below_alloc | apply below_drewN | apply below_drew | (refine below_set2 ?_ ?_; (first | (simp; done) | (simp; omega))))), hvb0⟩
      case round =>
        obtain ⟨j, hj, rfl, HA, HBi, HOi, HVB⟩ := hrel
        clear HAo HO HB hvb0 hx0 hx1 hx2 hx3
        have hszi := lt_of_block HA
        by_cases hjt : k + 1 + j < u.length
        · have HUo := Lib.hid (Own1.below HU.out HBi.out)
          obtain ⟨hy0, hy1, hy2, hy3⟩ := OwnR.sg_at HUo.out (k + 1 + j) hjt
          have ea : (k + 1) * 4 + j * 4 = (k + 1 + j) * 4 := by omega
          have hj2 : j < u.length - (k + 1) := by omega
          have hs0 := blk_cell HA 0 rfl
          have hs1 := blk_cell HA 1 rfl
          have hs2 := blk_cell HA 2 rfl
          have hs3 := blk_cell HA 3 rfl
          have HSC := Lib.hid (crossIn_succ u k j hjt)
          have HL : Hid (((crossIn u k j).length + 1) * 64 ≤ 140737488355328) := by
            have := HIL.out j
            show _ ≤ _
            omega
          have hgw := HBi.out.size
          obtain ⟨s, hs⟩ : ∃ s, s = sgD u k := ⟨_, rfl⟩
          obtain ⟨t, ht⟩ : ∃ t, t = sgD u (k + 1 + j) := ⟨_, rfl⟩
          rw [← hs] at HSC HA hs0 hs1 hs2 hs3
          rw [← ht] at hy0 hy1 hy2 hy3 HSC
          have HT1 := heap_alloc_new wr (.cells #[.int .i64 t.1.1, .int .i64 t.1.2, .int .i64 t.2.1, .int .i64 t.2.2] 27)
          have HA1 := blk_alloc HA (.cells #[.int .i64 t.1.1, .int .i64 t.1.2, .int .i64 t.2.1, .int .i64 t.2.2] 27)
          obtain ⟨r, hr⟩ : ∃ r, r = relZ s t := ⟨_, rfl⟩
          have CR : Hid (∀ W, Calls Try.prog 60 #[sgA s, sgA t] W fun e w' => e = .returned (.int .i64 r) ∧ Below W.heap.size W w') := by rw [hr]; exact fun W => seg_Relate _ _ _ _ _ _ _ _ W
          have HBD : Hid (badB s t = (decide (r = 2) || decide (r = 3))) := by rw [hr]; rfl
          have HSs := Lib.hid hs
          clear hr HUo hs ht
          by_cases hbd : badB s t = true
          · have HS2 : Hid (crossIn u k (j + 1) = crossIn u k j ++ [(s, t)]) := HSC.out.trans (by rw [if_pos hbd])
            generalize crossIn u k j = cj at *
            by_cases h2 : r = 2
            · have q2 : (r == 2) = true := by simp [h2]
              clear h2 hbd
              go_wp2_with fail
              refine Calls.mono (CR.out _) ?_
              rintro e w6 ⟨rfl, hb6⟩
              have HA6 := blk_below HA1 hb6
              have HT6 := blk_below HT1 hb6
              have HB6 : Hid (Below w1.heap.size w1 w6) := (by repeat (first | exact Below.refl _ _ | apply below_alloc | apply below_drewN | apply below_drew | (refine below_set2 ?_ ?_; (first | (simp; done) | (simp; omega))) | (refine below_step ?_ hb6) | (refine below_step ?_ HBi.out)))
              have HO6 : Hid (Own1 Ty.sg2 82 w1.heap.size w6 u4 cj) := Own1.below HOi.out (by repeat (first | exact Below.refl _ _ | apply below_alloc | apply below_drewN | apply below_drew | (refine below_set2 ?_ ?_; (first | (simp; done) | (simp; omega))) | (refine below_step ?_ hb6)))
              have hs6 := HB6.out.size
              clear hs0 hs1 hs2 hs3 hy0 hy1 hy2 hy3 HA1 HT1 hb6
              have hs0 := blk_cell HA6 0 rfl
              have hs1 := blk_cell HA6 1 rfl
              have hs2 := blk_cell HA6 2 rfl
              have hs3 := blk_cell HA6 3 rfl
              have ht0 := blk_cell HT6 0 rfl
              have ht1 := blk_cell HT6 1 rfl
              have ht2 := blk_cell HT6 2 rfl
              have ht3 := blk_cell HT6 3 rfl
              go_wp2_with (at_builtin; refine app_one Ty.sg2 (W := w6) w1.heap.size rfl _ _ 60 82 _ 64 rfl Try.underlying60 infoSg2 rfl (by decide) u4 cj (s, t) _ _ rfl rfl rfl rfl HO6.out (by omega) HL.out ?_; intro v1 w7 HO1 hg1 hat1)
              have HA7 := (hg1.block _ (lt_of_block HA6) (fun e => HVB.out _ e.symm rfl)).trans HA6
              have HO7 := Lib.hid (Own1.of HO1)
              have HB7 : Hid (Below w1.heap.size w1 w7) := below_own HB6.out hg1 (fun b e => (OwnR.lt HO6.out b e).1)
              have HVB7 : Hid (∀ b, v1.ownBlock = some b → b ≠ wo.heap.size) := fun b e => by
                have := lt_of_block HA6
                rcases hat1 with h | ⟨b', h, hle⟩
                · exact HVB.out b (h ▸ e)
                · have : b' = b := by rw [h] at e; exact Option.some.inj e
                  omega
              clear HO1 hg1 hat1
              go_wp2
              go_roundw
              case rel => exact ⟨j + 1, by omega, by go_num, by rw [← HSs.out]; exact HA7, HB7, by rw [HS2.out]; exact HO7.out, HVB7⟩
              case measure => simp [intOf]; omega
            · have q2 : (r == 2) = false := by simp [h2]
              have h3 : r = 3 := by rw [HBD.out] at hbd; simpa [h2] using hbd
              have q3 : (r == 3) = true := by simp [h3]
              clear h2 h3 hbd
              go_wp2_with fail
              refine Calls.mono (CR.out _) ?_
              rintro e w6 ⟨rfl, hb6⟩
              have HA6 := blk_below HA1 hb6
              have HT6 := blk_below HT1 hb6
              have HB6 : Hid (Below w1.heap.size w1 w6) := (by repeat (first | exact Below.refl _ _ | apply below_alloc | apply below_drewN | apply below_drew | (refine below_set2 ?_ ?_; (first | (simp; done) | (simp; omega))) | (refine below_step ?_ hb6) | (refine below_step ?_ HBi.out)))
              have HO6 : Hid (Own1 Ty.sg2 82 w1.heap.size w6 u4 cj) := Own1.below HOi.out (by repeat (first | exact Below.refl _ _ | apply below_alloc | apply below_drewN | apply below_drew | (refine below_set2 ?_ ?_; (first | (simp; done) | (simp; omega))) | (refine below_step ?_ hb6)))
              have hs6 := HB6.out.size
              clear hs0 hs1 hs2 hs3 hy0 hy1 hy2 hy3 HA1 HT1 hb6
              have hs0 := blk_cell HA6 0 rfl
              have hs1 := blk_cell HA6 1 rfl
              have hs2 := blk_cell HA6 2 rfl
              have hs3 := blk_cell HA6 3 rfl
              have ht0 := blk_cell HT6 0 rfl
              have ht1 := blk_cell HT6 1 rfl
              have ht2 := blk_cell HT6 2 rfl
              have ht3 := blk_cell HT6 3 rfl
              go_wp2_with (at_builtin; refine app_one Ty.sg2 (W := w6) w1.heap.size rfl _ _ 60 82 _ 64 rfl Try.underlying60 infoSg2 rfl (by decide) u4 cj (s, t) _ _ rfl rfl rfl rfl HO6.out (by omega) HL.out ?_; intro v1 w7 HO1 hg1 hat1)
              have HA7 := (hg1.block _ (lt_of_block HA6) (fun e => HVB.out _ e.symm rfl)).trans HA6
              have HO7 := Lib.hid (Own1.of HO1)
              have HB7 : Hid (Below w1.heap.size w1 w7) := below_own HB6.out hg1 (fun b e => (OwnR.lt HO6.out b e).1)
              have HVB7 : Hid (∀ b, v1.ownBlock = some b → b ≠ wo.heap.size) := fun b e => by
                have := lt_of_block HA6
                rcases hat1 with h | ⟨b', h, hle⟩
                · exact HVB.out b (h ▸ e)
                · have : b' = b := by rw [h] at e; exact Option.some.inj e
                  omega
              clear HO1 hg1 hat1
              go_wp2
              go_roundw
              case rel => exact ⟨j + 1, by omega, by go_num, by rw [← HSs.out]; exact HA7, HB7, by rw [HS2.out]; exact HO7.out, HVB7⟩
              case measure => simp [intOf]; omega
          · have HS2 : Hid (crossIn u k (j + 1) = crossIn u k j) := HSC.out.trans (by rw [if_neg hbd, List.append_nil])
            have h2 : ¬ r = 2 := fun h => hbd (by rw [HBD.out, h]; rfl)
            have h3 : ¬ r = 3 := fun h => hbd (by rw [HBD.out, h]; rfl)
            have q2 : (r == 2) = false := by simp [h2]
            have q3 : (r == 3) = false := by simp [h3]
            clear h2 h3 hbd
            go_wp2_with fail
            refine Calls.mono (CR.out _) ?_
            rintro e w6 ⟨rfl, hb6⟩
            have HA6 := blk_below HA1 hb6
            clear hs0 hs1 hs2 hs3 hy0 hy1 hy2 hy3 HA1 HT1
            go_wp2
            go_roundw
            case rel => exact ⟨j + 1, by omega, by go_num, by rw [← HSs.out]; exact HA6, (by repeat (first | exact Below.refl _ _ | apply below_alloc | apply below_drewN | apply below_drew | (refine below_set2 ?_ ?_; (first | (simp; done) | (simp; omega))) | (refine below_step ?_ hb6) | (refine below_step ?_ HBi.out))), by rw [HS2.out]; exact Own1.below HOi.out (by repeat (first | exact Below.refl _ _ | apply below_alloc | apply below_drewN | apply below_drew | (refine below_set2 ?_ ?_; (first | (simp; done) | (simp; omega))) | (refine below_step ?_ hb6))), HVB⟩
            case measure => simp [intOf]; omega
        · have hje : k + 1 + j = u.length := by omega
          have HLS : Hid (crossTo u (k + 1) = crossIn u k j) := by show _ = _; rw [crossTo_succ, show (u.drop (k + 1)).length = j by rw [List.length_drop]; omega]
          have hjl : u.length - (k + 1) ≤ j := by omega
          clear hje
          go_wp2
          go_roundw
          case rel => exact ⟨k + 1, by omega, by go_num, HBi, by rw [HLS.out]; exact HOi.out⟩
          case measure => simp [intOf]; omega
    · obtain rfl : k = u.length := by omega
      obtain ⟨Az, cz, rfl, _, _⟩ := HO.out.reads
      have hBz : Hid (Below w.heap.size w wr) := below_step HB1.out HB.out
      have HZ2 : Hid ((crossTo u u.length).length = (crossZs u).length) := by rw [HZ.out]; rfl
      go_wp2
      go_ret
      exact ⟨Az, cz, (by show Ending.returned (.slice Az (crossTo u u.length).length cz) = _; rw [HZ2.out]), hBz.out⟩
theorem cleanZ_ne {l : Sgs} (h : ¬ splitZ l = sortZ l) : cleanZ l = false := by unfold cleanZ; rw [decide_eq_false h]; rfl
theorem cleanZ_eq {l : Sgs} (h : splitZ l = sortZ l) : cleanZ l = ((crossZs (uniqZ l)).length == 0) := by
  unfold cleanZ
  rw [decide_eq_true h, Bool.true_and, Bool.eq_iff_iff]
  simp
theorem len_zero (n : Nat) : ((n : Int) == 0) = (n == 0) := by rw [Bool.eq_iff_iff]; simp
theorem noding_Clean {ok : Nat → Prop} (l : Sgs) (A : Option Addr) (n c : Nat) (w : World) (hr : Row Ty.sg ok w A l) (hn : n = l.length) (hlen : l.length ≤ 600) :
    Calls Try.prog 19 #[.slice A n c] w fun e w' => e = .returned (.bool (cleanZ l)) ∧ Below w.heap.size w w' := by
  subst hn
  have HR := Lib.hid hr
  clear hr
  have C1 := Lib.hid (fun W h => noding_Split (ok := ok) l A l.length c W h rfl hlen)
  have C2 := Lib.hid (fun W h => noding_Sort (ok := ok) l A l.length c W h rfl (by omega))
  have C3 := Lib.hid (fun W h => noding_Crossings (ok := ok) l A l.length c W h rfl hlen)
  have HC1 := Lib.hid (cleanZ_ne (l := l))
  have HC2 := Lib.hid (cleanZ_eq (l := l))
  generalize cleanZ l = r at *
  generalize splitZ l = a at *
  generalize sortZ l = b at *
  generalize (crossZs (uniqZ l)).length = m at *
  go_enter Try.func19, Try.ntmps19
  go_wp2_with fail
  refine Calls.mono (C1.out _ HR.out) ?_
  rintro e w1 ⟨v1, rfl, ho1, hb1⟩
  obtain ⟨A1, c1, rfl, hl1, hr1⟩ := ho1.reads
  have H1 := Lib.hid hr1
  have HB1 := Lib.hid hb1
  clear ho1 hr1 hb1
  go_wp2_with fail
  refine Calls.mono (C2.out _ (HR.out.below HB1.out)) ?_
  rintro e w2 ⟨v2, rfl, ho2, hb2⟩
  obtain ⟨A2, c2, rfl, hl2, hr2⟩ := ho2.reads
  have H2 := Lib.hid hr2
  have HB2 := Lib.hid (below_step HB1.out hb2)
  have H1' := Lib.hid (H1.out.below hb2)
  clear ho2 hr2 hb2 HB1 H1
  by_cases he : a = b
  · have HE : Hid (r = (m == 0)) := HC2.out he
    have he2 : decide (a = b) = true := decide_eq_true he
    have HQ := Lib.hid he2
    clear he HC1 HC2 he2
    go_wp2_with fail
    refine (Equal_sg a b A1 A2 _ _ c1 c2 _ H1'.out H2.out rfl rfl).mono ?_
    rintro e w3 ⟨rfl, hb3⟩
    rw [HQ.out]
    have HB3 := Lib.hid (below_step HB2.out hb3)
    clear hb3 HB2
    go_wp2_with fail
    refine Calls.mono (C3.out _ (HR.out.below HB3.out)) ?_
    rintro e w4 ⟨B, d, rfl, hb4⟩
    go_wp2
    go_ret
    exact ⟨ret_bool (by rw [HE.out, len_zero]), below_step HB3.out hb4⟩
  · have HE : Hid (r = false) := HC1.out he
    have he2 : decide (a = b) = false := decide_eq_false he
    have HQ := Lib.hid he2
    clear he HC1 HC2 he2
    go_wp2_with fail
    refine (Equal_sg a b A1 A2 _ _ c1 c2 _ H1'.out H2.out rfl rfl).mono ?_
    rintro e w3 ⟨rfl, hb3⟩
    rw [HQ.out]
    go_wp2
    go_ret
    exact ⟨ret_bool HE.out.symm, (by repeat (first | exact Below.refl _ _ | apply below_alloc | apply below_drewN | apply below_drew | (refine below_set2 ?_ ?_; (first | (simp; done) | (simp; omega))) | (refine below_step ?_ hb3) | (refine below_step ?_ HB2.out)))⟩
end Go.Proofs.Ytlmjciajpjdilaa
