/- Contract of slices.symMergeCmpFunc over rings: both parts have at least two elements; and in general. -/
import Derived.Test.YtaphjehkpdjolaaMerge3
namespace Go.Proofs.Ytaphjehkpdjolaa
open Go.RowKit Go.Proofs.YtaphjehkpdjolaaW.PrintLast
set_option linter.unusedVariables false
set_option linter.unusedSimpArgs false

/-- What symMerge does. -/
def MergesIn (base : Nat) (M : Nat → Prop) (g n cap D : Nat) : Prop := ∀ (xs : Rings) (a m b : Nat) (w : World) (ai mi bi : Int), ai = (a : Int) → mi = (m : Int) → bi = (b : Int) → OwnR Ty.ring 32 base M w (.slice (some ⟨g, 0, none⟩) n cap) xs →
  a < m → m < b → b ≤ xs.length → xs.length ≤ 1048576 → SortedOn xs a m → SortedOn xs m b → b - a < D →
    Calls Try.prog 60 #[.slice (some ⟨g, 0, none⟩) n cap, .int .i64 ai, .int .i64 mi, .int .i64 bi, .func (.func 34) #[] #[]] w fun e w' =>
      e = .returned (.tuple #[]) ∧ ∃ ys : Rings, OwnR Ty.ring 32 base M w' (.slice (some ⟨g, 0, none⟩) n cap) ys ∧ Merges xs ys a b ∧ KeptS (fun k => k = g) w w'
theorem srt_mid {zs : List Pts} {a s mid : Nat} (h1 : SortedOn zs a s) (h2 : SortedOn zs s mid) (h : s ≤ a ∨ mid ≤ s) : SortedOn zs a mid := by
  rcases h with h | h
  · exact h2.sub h (Nat.le_refl _)
  · exact h1.sub (Nat.le_refl _) h

set_option maxRecDepth 20000 in
set_option maxHeartbeats 8000000 in
theorem symMerge_main (xs : Rings) (g n cap a m b base : Nat) (M : Nat → Prop) (w : World) (ai mi bi : Int) (hai : ai = (a : Int)) (hmi : mi = (m : Int)) (hbi : bi = (b : Int)) (h : OwnR Ty.ring 32 base M w (.slice (some ⟨g, 0, none⟩) n cap) xs)
    (hma : a + 1 < m) (hmb : m + 1 < b) (hb : b ≤ xs.length) (hlen : xs.length ≤ 1048576) (h1 : SortedOn xs a m) (h2 : SortedOn xs m b) (ih : MergesIn base M g n cap (b - a)) :
    Calls Try.prog 60 #[.slice (some ⟨g, 0, none⟩) n cap, .int .i64 ai, .int .i64 mi, .int .i64 bi, .func (.func 34) #[] #[]] w fun e w' =>
      e = .returned (.tuple #[]) ∧ ∃ ys : Rings, OwnR Ty.ring 32 base M w' (.slice (some ⟨g, 0, none⟩) n cap) ys ∧ Merges xs ys a b ∧ KeptS (fun k => k = g) w w' := by
  subst hai hmi hbi
  have HN := Lib.hid h.lenN
  have HH := Lib.hid h
  have H1 := Lib.hid h1
  have H2 := Lib.hid h2
  have IH := Lib.hid ih
  have q1 : ((m : Int) - (a : Int) == 1) = false := by simp; omega
  have q2 : ((b : Int) - (m : Int) == 1) = false := by simp; omega
  obtain ⟨mid, hmid⟩ : ∃ mid, mid = (a + b) / 2 := ⟨_, rfl⟩
  have hm1 : 2 * mid ≤ a + b := by omega
  have hm2 : a + b ≤ 2 * mid + 1 := by omega
  have emid : ((a : Int) + (b : Int)) / 2 = (mid : Int) := by omega
  obtain ⟨N, hN⟩ : ∃ N, N = mid + m := ⟨_, rfl⟩
  have hN1 : N ≤ mid + m := by omega
  have hN2 : mid + m ≤ N := by omega
  have eN : (mid : Int) + (m : Int) = (N : Int) := by omega
  obtain ⟨P, hP⟩ : ∃ P, P = N - 1 := ⟨_, rfl⟩
  have hP1 : P + 1 ≤ N := by omega
  have hP2 : N ≤ P + 1 := by omega
  have eP : (N : Int) - 1 = (P : Int) := by omega
  clear h h1 h2 ih hmid hN hP
  by_cases hcm : mid < m
  · have qgt : decide ((mid : Int) < (m : Int)) = true := decide_eq_true (by omega)
    obtain ⟨lo, hlo⟩ : ∃ lo, lo = N - b := ⟨_, rfl⟩
    have hlo1 : lo + b ≤ N := by omega
    have hlo2 : N ≤ lo + b := by omega
    have elo : (N : Int) - (b : Int) = (lo : Int) := by omega
    clear hlo
    go_enter Try.func60, Try.ntmps60
    go_wp2
    go_loopw [20, 21] (fun i j wr => ∃ p q : Nat, lo ≤ p ∧ p ≤ q ∧ q ≤ mid ∧ i = .int .i64 p ∧ j = .int .i64 q ∧ Below w.heap.size w wr ∧ Hid (p = lo ∨ leR (rg xs (p - 1)) (rg xs (N - p))) ∧ Hid (q = mid ∨ leR (rg xs (P - q)) (rg xs q))) (fun i j _ => (intOf j).toNat - (intOf i).toNat)
    case atStart => exact ⟨lo, mid, Nat.le_refl _, by omega, Nat.le_refl _, rfl, rfl, Below.refl _ _, .inl rfl, .inl rfl⟩
    case round =>
      obtain ⟨p, q, hp1, hpq, hqb, rfl, rfl, hb0, HL, HR⟩ := hrel
      have HO1 := Lib.hid (HH.out.below hb0)
      by_cases hlt : p < q
      · have q3 : decide ((p : Int) < (q : Int)) = true := decide_eq_true (by omega)
        obtain ⟨t, ht⟩ : ∃ t, t = (p + q) / 2 := ⟨_, rfl⟩
        have et : ((p : Int) + (q : Int)) / 2 = (t : Int) := by omega
        have ht1 : p ≤ t := by omega
        have ht2 : t < q := by omega
        obtain ⟨u, hu⟩ : ∃ u, u = P - t := ⟨_, rfl⟩
        have eu : (P : Int) - (t : Int) = (u : Int) := by omega
        have hnl : n = xs.length := HN.out
        have htn : t < n := by omega
        have hun : u < n := by omega
        obtain ⟨A0, c0, hc0, hr0, _⟩ := HO1.out.ring_cell u (by omega)
        obtain ⟨A1, c1, hc1, hr1, _⟩ := HO1.out.ring_cell t (by omega)
        have R0 := Lib.hid (ringR_row hr0).2
        have R1 := Lib.hid (ringR_row hr1).2
        have HU := Lib.hid hu
        have HU2 : Hid (u = N - (t + 1)) := by show u = _; omega
        have qb0 : (0 : Int) ≤ (t : Int) := by omega
        have qb1 : (t : Int) < (n : Int) := by omega
        have qn : ((t : Int)).toNat = t := by omega
        have qb2 : (0 : Int) ≤ (u : Int) := by omega
        have qb3 : (u : Int) < (n : Int) := by omega
        have qn2 : ((u : Int)).toNat = u := by omega
        have qwu : IntKind.i64.wrap (u : Int) = (u : Int) := IntWalk.i64_in _ (by omega)
        clear hr0 hr1 ht hnl hu
        go_wp2_with fail
        try rw [et]
        clear et
        go_still_tail 11, (by kernel_rfl)
        change wpList _ _ _ _ _ wr.drew
        go_wp2_with fail
        refine (nestRings1 (rg xs u) (rg xs t) _ _ _ _ _ _ _ (R0.out.below (below_drew (Below.refl _ _))) (R1.out.below (below_drew (Below.refl _ _))) rfl rfl).mono ?_
        rintro e w2 ⟨rfl, hb2⟩
        clear qb0 qb1 qn qb2 qb3 qn2 qwu eu
        cases hcmp : lessR (rg xs u) (rg xs t)
        · have HC := Lib.hid hcmp
          have qc := cmp_ge hcmp
          clear hcmp
          go_wp2
          go_roundw
          case rel => exact ⟨t + 1, q, by omega, by omega, hqb, by go_num, rfl, (by repeat (first | exact Below.refl _ _ | apply below_alloc | apply below_drewN | apply below_drew | (refine below_set2 ?_ ?_; (first | (simp; done) | (simp; omega))) | (refine below_step ?_ hb2) | (refine below_step ?_ hb0))), .inr (by rw [Nat.add_sub_cancel, ← HU2.out]; exact HC.out), HR⟩
          case measure => simp [intOf]; omega
        · have HC := Lib.hid hcmp
          have qc := cmp_lt hcmp
          clear hcmp
          go_wp2
          go_roundw
          case rel => exact ⟨p, t, hp1, ht1, by omega, rfl, rfl, (by repeat (first | exact Below.refl _ _ | apply below_alloc | apply below_drewN | apply below_drew | (refine below_set2 ?_ ?_; (first | (simp; done) | (simp; omega))) | (refine below_step ?_ hb2) | (refine below_step ?_ hb0))), HL, .inr (by rw [← HU.out]; exact leR_of_less HC.out)⟩
          case measure => simp [intOf]; omega
      · have hqp : q ≤ p := by omega
        obtain ⟨s, rfl⟩ : ∃ s, s = p := ⟨_, rfl⟩
        obtain rfl : q = s := by omega
        have q3 : decide ((q : Int) < (q : Int)) = false := by simp
        obtain ⟨e, he⟩ : ∃ e, e = N - q := ⟨_, rfl⟩
        have he1 : e + q ≤ N := by omega
        have he2 : N ≤ e + q := by omega
        have ee : (N : Int) - (q : Int) = (e : Int) := by omega
        have hqm : q ≤ m := by omega
        have haq : a ≤ q := by omega
        have hme : m ≤ e := by omega
        have heb : e ≤ b := by omega
        have hqmid : q ≤ mid := by omega
        have hmide : mid ≤ e := by omega
        have HMID : Hid (mid = q + (e - m)) := by show mid = _; omega
        have HX : Hid (a < q → e < b → leR (rg xs (q - 1)) (rg xs e)) := fun h3 h4 => by
          rcases HL.out with h5 | h5
          · omega
          · rwa [← he] at h5
        have HY : Hid (m < e → q < m → leR (rg xs (e - 1)) (rg xs q)) := fun h3 h4 => by
          rcases HR.out with h5 | h5
          · omega
          · rwa [show P - q = e - 1 by omega] at h5
        clear HL HR he hqp
        have hp0 : (0 : Nat) = 0 := rfl
        by_cases hc1 : q < m
        · have t1 : decide ((q : Int) < (m : Int)) = true := decide_eq_true (by omega)
          by_cases hc2 : m < e
          · have t2 : decide ((m : Int) < (e : Int)) = true := decide_eq_true (by omega)
            go_wp2_with fail
            refine (rotate_rings xs g n cap q m e base M _ _ _ _ rfl rfl rfl _ HO1.out hc1 hc2 (by omega) hlen).mono ?_
            rintro e' wz ⟨rfl, zs, hz, hzp, hzg, hkz'⟩
            have HZ := Lib.hid hz
            have HZP := Lib.hid hzp
            have HZG := Lib.hid hzg
            have hkz : KeptS (fun k => k = g) w wz := kept_step (kept_of_below hb0) hkz'
            clear hz hzp hzg hkz' t1 t2
            have HAL := Lib.hid (halves H1.out H2.out haq hqm hme heb HMID.out HX.out HY.out HZG.out)
            clear HX HY
            by_cases hd1' : a < q
            · have t3 : decide ((a : Int) < (q : Int)) = true := decide_eq_true (by omega)
              by_cases hd2' : q < mid
              · have t4 : decide ((q : Int) < (mid : Int)) = true := decide_eq_true (by omega)
                have hzl0 : mid ≤ zs.length := by have := HZP.out.length_eq; omega
                go_wp2_with fail
                refine (IH.out zs a q mid _ _ _ _ rfl rfl rfl HZ.out hd1' hd2' hzl0 (by have := HZP.out.length_eq; omega) HAL.out.1 HAL.out.2.1 (by omega)).mono ?_
                rintro e' wu ⟨rfl, us, hu, hum, hku'⟩
                have HU3 := Lib.hid hu
                have HUM := Lib.hid hum
                have hku : KeptS (fun k => k = g) w wu := kept_step hkz hku'
                clear hu hum hku' t3 t4 hzl0
                have HT3 : Hid (SortedOn us mid e) := fun i j h3 h4 h5 => by rw [HUM.out.2.2.1 i (.inr h3), HUM.out.2.2.1 j (.inr (by omega))]; exact HAL.out.2.2.1 i j h3 h4 h5
                have HT4 : Hid (SortedOn us e b) := fun i j h3 h4 h5 => by rw [HUM.out.2.2.1 i (.inr (by omega)), HUM.out.2.2.1 j (.inr (by omega))]; exact HAL.out.2.2.2.1 i j h3 h4 h5
                have hul : us.length = zs.length := HUM.out.1.length_eq
                have hzl : zs.length = xs.length := HZP.out.length_eq
                by_cases hd1 : mid < e
                · have t5 : decide ((mid : Int) < (e : Int)) = true := decide_eq_true (by omega)
                  by_cases hd2 : e < b
                  · have t6 : decide ((e : Int) < (b : Int)) = true := decide_eq_true (by omega)
                    have hbu : b ≤ us.length := by omega
                    clear hul hzl
                    go_wp2_with fail
                    refine (IH.out us mid e b _ _ _ _ rfl rfl rfl HU3.out hd1 hd2 hbu (by have := HUM.out.1.length_eq; have := HZP.out.length_eq; omega) (HT3.out) (HT4.out) (by omega)).mono ?_
                    rintro e' wv ⟨rfl, vs, hv, hvm, hkv⟩
                    have HV := Lib.hid hv
                    have HVM := Lib.hid hvm
                    clear hv hvm
                    go_wp2
                    exact bodyPost_end (results_none rfl _ _ _) rfl ⟨rfl, vs, HV.out, join haq hqm hme heb HMID.out HZG.out HZP.out HAL.out.2.2.2.2 HUM.out HVM.out, kept_step hku hkv⟩
                  · have t6 : decide ((e : Int) < (b : Int)) = false := decide_eq_false (by omega)
                    clear hul hzl
                    go_wp2
                    exact bodyPost_end (results_none rfl _ _ _) rfl ⟨rfl, us, HU3.out, join haq hqm hme heb HMID.out HZG.out HZP.out HAL.out.2.2.2.2 HUM.out (Merges.refl (srt_mid HT3.out HT4.out (by omega))), hku⟩
                · have t5 : decide ((mid : Int) < (e : Int)) = false := decide_eq_false (by omega)
                  clear hul hzl
                  go_wp2
                  exact bodyPost_end (results_none rfl _ _ _) rfl ⟨rfl, us, HU3.out, join haq hqm hme heb HMID.out HZG.out HZP.out HAL.out.2.2.2.2 HUM.out (Merges.refl (srt_mid HT3.out HT4.out (by omega))), hku⟩
              · have t4 : decide ((q : Int) < (mid : Int)) = false := decide_eq_false (by omega)
                obtain ⟨us, hus⟩ : ∃ us, us = zs := ⟨_, rfl⟩
                have HU3 : Hid (OwnR Ty.ring 32 base M wz (.slice (some ⟨g, 0, none⟩) n cap) us) := by rw [hus]; exact HZ.out
                have HUM : Hid (Merges zs us a mid) := by rw [hus]; exact Merges.refl (srt_mid HAL.out.1 HAL.out.2.1 (by omega))
                have hku : KeptS (fun k => k = g) w wz := hkz
                clear hus
                have HT3 : Hid (SortedOn us mid e) := fun i j h3 h4 h5 => by rw [HUM.out.2.2.1 i (.inr h3), HUM.out.2.2.1 j (.inr (by omega))]; exact HAL.out.2.2.1 i j h3 h4 h5
                have HT4 : Hid (SortedOn us e b) := fun i j h3 h4 h5 => by rw [HUM.out.2.2.1 i (.inr (by omega)), HUM.out.2.2.1 j (.inr (by omega))]; exact HAL.out.2.2.2.1 i j h3 h4 h5
                have hul : us.length = zs.length := HUM.out.1.length_eq
                have hzl : zs.length = xs.length := HZP.out.length_eq
                by_cases hd1 : mid < e
                · have t5 : decide ((mid : Int) < (e : Int)) = true := decide_eq_true (by omega)
                  by_cases hd2 : e < b
                  · have t6 : decide ((e : Int) < (b : Int)) = true := decide_eq_true (by omega)
                    have hbu : b ≤ us.length := by omega
                    clear hul hzl
                    go_wp2_with fail
                    refine (IH.out us mid e b _ _ _ _ rfl rfl rfl HU3.out hd1 hd2 hbu (by have := HUM.out.1.length_eq; have := HZP.out.length_eq; omega) (HT3.out) (HT4.out) (by omega)).mono ?_
                    rintro e' wv ⟨rfl, vs, hv, hvm, hkv⟩
                    have HV := Lib.hid hv
                    have HVM := Lib.hid hvm
                    clear hv hvm
                    go_wp2
                    exact bodyPost_end (results_none rfl _ _ _) rfl ⟨rfl, vs, HV.out, join haq hqm hme heb HMID.out HZG.out HZP.out HAL.out.2.2.2.2 HUM.out HVM.out, kept_step hku hkv⟩
                  · have t6 : decide ((e : Int) < (b : Int)) = false := decide_eq_false (by omega)
                    clear hul hzl
                    go_wp2
                    exact bodyPost_end (results_none rfl _ _ _) rfl ⟨rfl, us, HU3.out, join haq hqm hme heb HMID.out HZG.out HZP.out HAL.out.2.2.2.2 HUM.out (Merges.refl (srt_mid HT3.out HT4.out (by omega))), hku⟩
                · have t5 : decide ((mid : Int) < (e : Int)) = false := decide_eq_false (by omega)
                  clear hul hzl
                  go_wp2
                  exact bodyPost_end (results_none rfl _ _ _) rfl ⟨rfl, us, HU3.out, join haq hqm hme heb HMID.out HZG.out HZP.out HAL.out.2.2.2.2 HUM.out (Merges.refl (srt_mid HT3.out HT4.out (by omega))), hku⟩
            · have t3 : decide ((a : Int) < (q : Int)) = false := decide_eq_false (by omega)
              obtain ⟨us, hus⟩ : ∃ us, us = zs := ⟨_, rfl⟩
              have HU3 : Hid (OwnR Ty.ring 32 base M wz (.slice (some ⟨g, 0, none⟩) n cap) us) := by rw [hus]; exact HZ.out
              have HUM : Hid (Merges zs us a mid) := by rw [hus]; exact Merges.refl (srt_mid HAL.out.1 HAL.out.2.1 (by omega))
              have hku : KeptS (fun k => k = g) w wz := hkz
              clear hus
              have HT3 : Hid (SortedOn us mid e) := fun i j h3 h4 h5 => by rw [HUM.out.2.2.1 i (.inr h3), HUM.out.2.2.1 j (.inr (by omega))]; exact HAL.out.2.2.1 i j h3 h4 h5
              have HT4 : Hid (SortedOn us e b) := fun i j h3 h4 h5 => by rw [HUM.out.2.2.1 i (.inr (by omega)), HUM.out.2.2.1 j (.inr (by omega))]; exact HAL.out.2.2.2.1 i j h3 h4 h5
              have hul : us.length = zs.length := HUM.out.1.length_eq
              have hzl : zs.length = xs.length := HZP.out.length_eq
              by_cases hd1 : mid < e
              · have t5 : decide ((mid : Int) < (e : Int)) = true := decide_eq_true (by omega)
                by_cases hd2 : e < b
                · have t6 : decide ((e : Int) < (b : Int)) = true := decide_eq_true (by omega)
                  have hbu : b ≤ us.length := by omega
                  clear hul hzl
                  go_wp2_with fail
                  refine (IH.out us mid e b _ _ _ _ rfl rfl rfl HU3.out hd1 hd2 hbu (by have := HUM.out.1.length_eq; have := HZP.out.length_eq; omega) (HT3.out) (HT4.out) (by omega)).mono ?_
                  rintro e' wv ⟨rfl, vs, hv, hvm, hkv⟩
                  have HV := Lib.hid hv
                  have HVM := Lib.hid hvm
                  clear hv hvm
                  go_wp2
                  exact bodyPost_end (results_none rfl _ _ _) rfl ⟨rfl, vs, HV.out, join haq hqm hme heb HMID.out HZG.out HZP.out HAL.out.2.2.2.2 HUM.out HVM.out, kept_step hku hkv⟩
                · have t6 : decide ((e : Int) < (b : Int)) = false := decide_eq_false (by omega)
                  clear hul hzl
                  go_wp2
                  exact bodyPost_end (results_none rfl _ _ _) rfl ⟨rfl, us, HU3.out, join haq hqm hme heb HMID.out HZG.out HZP.out HAL.out.2.2.2.2 HUM.out (Merges.refl (srt_mid HT3.out HT4.out (by omega))), hku⟩
              · have t5 : decide ((mid : Int) < (e : Int)) = false := decide_eq_false (by omega)
                clear hul hzl
                go_wp2
                exact bodyPost_end (results_none rfl _ _ _) rfl ⟨rfl, us, HU3.out, join haq hqm hme heb HMID.out HZG.out HZP.out HAL.out.2.2.2.2 HUM.out (Merges.refl (srt_mid HT3.out HT4.out (by omega))), hku⟩
          · have t2 : decide ((m : Int) < (e : Int)) = false := decide_eq_false (by omega)
            obtain ⟨wz, rfl⟩ : ∃ wz : World, wz = wr := ⟨_, rfl⟩
            obtain ⟨zs, hzs⟩ : ∃ zs, zs = xs := ⟨_, rfl⟩
            have HZ : Hid (OwnR Ty.ring 32 base M wz (.slice (some ⟨g, 0, none⟩) n cap) zs) := by rw [hzs]; exact HO1.out
            have HZP : Hid (zs.Perm xs) := by rw [hzs]; exact List.Perm.refl _
            have HZG : Hid (∀ k, rg zs k = rg xs (rho q m e k)) := fun k => by rw [hzs, rho_id (by omega)]
            have hkz : KeptS (fun k => k = g) w wz := kept_of_below hb0
            clear hzs
            have HAL := Lib.hid (halves H1.out H2.out haq hqm hme heb HMID.out HX.out HY.out HZG.out)
            clear HX HY
            by_cases hd1' : a < q
            · have t3 : decide ((a : Int) < (q : Int)) = true := decide_eq_true (by omega)
              by_cases hd2' : q < mid
              · have t4 : decide ((q : Int) < (mid : Int)) = true := decide_eq_true (by omega)
                have hzl0 : mid ≤ zs.length := by have := HZP.out.length_eq; omega
                go_wp2_with fail
                refine (IH.out zs a q mid _ _ _ _ rfl rfl rfl HZ.out hd1' hd2' hzl0 (by have := HZP.out.length_eq; omega) HAL.out.1 HAL.out.2.1 (by omega)).mono ?_
                rintro e' wu ⟨rfl, us, hu, hum, hku'⟩
                have HU3 := Lib.hid hu
                have HUM := Lib.hid hum
                have hku : KeptS (fun k => k = g) w wu := kept_step hkz hku'
                clear hu hum hku' t3 t4 hzl0
                have HT3 : Hid (SortedOn us mid e) := fun i j h3 h4 h5 => by rw [HUM.out.2.2.1 i (.inr h3), HUM.out.2.2.1 j (.inr (by omega))]; exact HAL.out.2.2.1 i j h3 h4 h5
                have HT4 : Hid (SortedOn us e b) := fun i j h3 h4 h5 => by rw [HUM.out.2.2.1 i (.inr (by omega)), HUM.out.2.2.1 j (.inr (by omega))]; exact HAL.out.2.2.2.1 i j h3 h4 h5
                have hul : us.length = zs.length := HUM.out.1.length_eq
                have hzl : zs.length = xs.length := HZP.out.length_eq
                by_cases hd1 : mid < e
                · have t5 : decide ((mid : Int) < (e : Int)) = true := decide_eq_true (by omega)
                  by_cases hd2 : e < b
                  · have t6 : decide ((e : Int) < (b : Int)) = true := decide_eq_true (by omega)
                    have hbu : b ≤ us.length := by omega
                    clear hul hzl
                    go_wp2_with fail
                    refine (IH.out us mid e b _ _ _ _ rfl rfl rfl HU3.out hd1 hd2 hbu (by have := HUM.out.1.length_eq; have := HZP.out.length_eq; omega) (HT3.out) (HT4.out) (by omega)).mono ?_
                    rintro e' wv ⟨rfl, vs, hv, hvm, hkv⟩
                    have HV := Lib.hid hv
                    have HVM := Lib.hid hvm
                    clear hv hvm
                    go_wp2
                    exact bodyPost_end (results_none rfl _ _ _) rfl ⟨rfl, vs, HV.out, join haq hqm hme heb HMID.out HZG.out HZP.out HAL.out.2.2.2.2 HUM.out HVM.out, kept_step hku hkv⟩
                  · have t6 : decide ((e : Int) < (b : Int)) = false := decide_eq_false (by omega)
                    clear hul hzl
                    go_wp2
                    exact bodyPost_end (results_none rfl _ _ _) rfl ⟨rfl, us, HU3.out, join haq hqm hme heb HMID.out HZG.out HZP.out HAL.out.2.2.2.2 HUM.out (Merges.refl (srt_mid HT3.out HT4.out (by omega))), hku⟩
                · have t5 : decide ((mid : Int) < (e : Int)) = false := decide_eq_false (by omega)
                  clear hul hzl
                  go_wp2
                  exact bodyPost_end (results_none rfl _ _ _) rfl ⟨rfl, us, HU3.out, join haq hqm hme heb HMID.out HZG.out HZP.out HAL.out.2.2.2.2 HUM.out (Merges.refl (srt_mid HT3.out HT4.out (by omega))), hku⟩
              · have t4 : decide ((q : Int) < (mid : Int)) = false := decide_eq_false (by omega)
                obtain ⟨us, hus⟩ : ∃ us, us = zs := ⟨_, rfl⟩
                have HU3 : Hid (OwnR Ty.ring 32 base M wz (.slice (some ⟨g, 0, none⟩) n cap) us) := by rw [hus]; exact HZ.out
                have HUM : Hid (Merges zs us a mid) := by rw [hus]; exact Merges.refl (srt_mid HAL.out.1 HAL.out.2.1 (by omega))
                have hku : KeptS (fun k => k = g) w wz := hkz
                clear hus
                have HT3 : Hid (SortedOn us mid e) := fun i j h3 h4 h5 => by rw [HUM.out.2.2.1 i (.inr h3), HUM.out.2.2.1 j (.inr (by omega))]; exact HAL.out.2.2.1 i j h3 h4 h5
                have HT4 : Hid (SortedOn us e b) := fun i j h3 h4 h5 => by rw [HUM.out.2.2.1 i (.inr (by omega)), HUM.out.2.2.1 j (.inr (by omega))]; exact HAL.out.2.2.2.1 i j h3 h4 h5
                have hul : us.length = zs.length := HUM.out.1.length_eq
                have hzl : zs.length = xs.length := HZP.out.length_eq
                by_cases hd1 : mid < e
                · have t5 : decide ((mid : Int) < (e : Int)) = true := decide_eq_true (by omega)
                  by_cases hd2 : e < b
                  · have t6 : decide ((e : Int) < (b : Int)) = true := decide_eq_true (by omega)
                    have hbu : b ≤ us.length := by omega
                    clear hul hzl
                    go_wp2_with fail
                    refine (IH.out us mid e b _ _ _ _ rfl rfl rfl HU3.out hd1 hd2 hbu (by have := HUM.out.1.length_eq; have := HZP.out.length_eq; omega) (HT3.out) (HT4.out) (by omega)).mono ?_
                    rintro e' wv ⟨rfl, vs, hv, hvm, hkv⟩
                    have HV := Lib.hid hv
                    have HVM := Lib.hid hvm
                    clear hv hvm
                    go_wp2
                    exact bodyPost_end (results_none rfl _ _ _) rfl ⟨rfl, vs, HV.out, join haq hqm hme heb HMID.out HZG.out HZP.out HAL.out.2.2.2.2 HUM.out HVM.out, kept_step hku hkv⟩
                  · have t6 : decide ((e : Int) < (b : Int)) = false := decide_eq_false (by omega)
                    clear hul hzl
                    go_wp2
                    exact bodyPost_end (results_none rfl _ _ _) rfl ⟨rfl, us, HU3.out, join haq hqm hme heb HMID.out HZG.out HZP.out HAL.out.2.2.2.2 HUM.out (Merges.refl (srt_mid HT3.out HT4.out (by omega))), hku⟩
                · have t5 : decide ((mid : Int) < (e : Int)) = false := decide_eq_false (by omega)
                  clear hul hzl
                  go_wp2
                  exact bodyPost_end (results_none rfl _ _ _) rfl ⟨rfl, us, HU3.out, join haq hqm hme heb HMID.out HZG.out HZP.out HAL.out.2.2.2.2 HUM.out (Merges.refl (srt_mid HT3.out HT4.out (by omega))), hku⟩
            · have t3 : decide ((a : Int) < (q : Int)) = false := decide_eq_false (by omega)
              obtain ⟨us, hus⟩ : ∃ us, us = zs := ⟨_, rfl⟩
              have HU3 : Hid (OwnR Ty.ring 32 base M wz (.slice (some ⟨g, 0, none⟩) n cap) us) := by rw [hus]; exact HZ.out
              have HUM : Hid (Merges zs us a mid) := by rw [hus]; exact Merges.refl (srt_mid HAL.out.1 HAL.out.2.1 (by omega))
              have hku : KeptS (fun k => k = g) w wz := hkz
              clear hus
              have HT3 : Hid (SortedOn us mid e) := fun i j h3 h4 h5 => by rw [HUM.out.2.2.1 i (.inr h3), HUM.out.2.2.1 j (.inr (by omega))]; exact HAL.out.2.2.1 i j h3 h4 h5
              have HT4 : Hid (SortedOn us e b) := fun i j h3 h4 h5 => by rw [HUM.out.2.2.1 i (.inr (by omega)), HUM.out.2.2.1 j (.inr (by omega))]; exact HAL.out.2.2.2.1 i j h3 h4 h5
              have hul : us.length = zs.length := HUM.out.1.length_eq
              have hzl : zs.length = xs.length := HZP.out.length_eq
              by_cases hd1 : mid < e
              · have t5 : decide ((mid : Int) < (e : Int)) = true := decide_eq_true (by omega)
                by_cases hd2 : e < b
                · have t6 : decide ((e : Int) < (b : Int)) = true := decide_eq_true (by omega)
                  have hbu : b ≤ us.length := by omega
                  clear hul hzl
                  go_wp2_with fail
                  refine (IH.out us mid e b _ _ _ _ rfl rfl rfl HU3.out hd1 hd2 hbu (by have := HUM.out.1.length_eq; have := HZP.out.length_eq; omega) (HT3.out) (HT4.out) (by omega)).mono ?_
                  rintro e' wv ⟨rfl, vs, hv, hvm, hkv⟩
                  have HV := Lib.hid hv
                  have HVM := Lib.hid hvm
                  clear hv hvm
                  go_wp2
                  exact bodyPost_end (results_none rfl _ _ _) rfl ⟨rfl, vs, HV.out, join haq hqm hme heb HMID.out HZG.out HZP.out HAL.out.2.2.2.2 HUM.out HVM.out, kept_step hku hkv⟩
                · have t6 : decide ((e : Int) < (b : Int)) = false := decide_eq_false (by omega)
                  clear hul hzl
                  go_wp2
                  exact bodyPost_end (results_none rfl _ _ _) rfl ⟨rfl, us, HU3.out, join haq hqm hme heb HMID.out HZG.out HZP.out HAL.out.2.2.2.2 HUM.out (Merges.refl (srt_mid HT3.out HT4.out (by omega))), hku⟩
              · have t5 : decide ((mid : Int) < (e : Int)) = false := decide_eq_false (by omega)
                clear hul hzl
                go_wp2
                exact bodyPost_end (results_none rfl _ _ _) rfl ⟨rfl, us, HU3.out, join haq hqm hme heb HMID.out HZG.out HZP.out HAL.out.2.2.2.2 HUM.out (Merges.refl (srt_mid HT3.out HT4.out (by omega))), hku⟩
        · have t1 : decide ((q : Int) < (m : Int)) = false := decide_eq_false (by omega)
          obtain ⟨wz, rfl⟩ : ∃ wz : World, wz = wr := ⟨_, rfl⟩
          obtain ⟨zs, hzs⟩ : ∃ zs, zs = xs := ⟨_, rfl⟩
          have HZ : Hid (OwnR Ty.ring 32 base M wz (.slice (some ⟨g, 0, none⟩) n cap) zs) := by rw [hzs]; exact HO1.out
          have HZP : Hid (zs.Perm xs) := by rw [hzs]; exact List.Perm.refl _
          have HZG : Hid (∀ k, rg zs k = rg xs (rho q m e k)) := fun k => by rw [hzs, rho_id (by omega)]
          have hkz : KeptS (fun k => k = g) w wz := kept_of_below hb0
          clear hzs
          have HAL := Lib.hid (halves H1.out H2.out haq hqm hme heb HMID.out HX.out HY.out HZG.out)
          clear HX HY
          by_cases hd1' : a < q
          · have t3 : decide ((a : Int) < (q : Int)) = true := decide_eq_true (by omega)
            by_cases hd2' : q < mid
            · have t4 : decide ((q : Int) < (mid : Int)) = true := decide_eq_true (by omega)
              have hzl0 : mid ≤ zs.length := by have := HZP.out.length_eq; omega
              go_wp2_with fail
              refine (IH.out zs a q mid _ _ _ _ rfl rfl rfl HZ.out hd1' hd2' hzl0 (by have := HZP.out.length_eq; omega) HAL.out.1 HAL.out.2.1 (by omega)).mono ?_
              rintro e' wu ⟨rfl, us, hu, hum, hku'⟩
              have HU3 := Lib.hid hu
              have HUM := Lib.hid hum
              have hku : KeptS (fun k => k = g) w wu := kept_step hkz hku'
              clear hu hum hku' t3 t4 hzl0
              have HT3 : Hid (SortedOn us mid e) := fun i j h3 h4 h5 => by rw [HUM.out.2.2.1 i (.inr h3), HUM.out.2.2.1 j (.inr (by omega))]; exact HAL.out.2.2.1 i j h3 h4 h5
              have HT4 : Hid (SortedOn us e b) := fun i j h3 h4 h5 => by rw [HUM.out.2.2.1 i (.inr (by omega)), HUM.out.2.2.1 j (.inr (by omega))]; exact HAL.out.2.2.2.1 i j h3 h4 h5
              have hul : us.length = zs.length := HUM.out.1.length_eq
              have hzl : zs.length = xs.length := HZP.out.length_eq
              by_cases hd1 : mid < e
              · have t5 : decide ((mid : Int) < (e : Int)) = true := decide_eq_true (by omega)
                by_cases hd2 : e < b
                · have t6 : decide ((e : Int) < (b : Int)) = true := decide_eq_true (by omega)
                  have hbu : b ≤ us.length := by omega
                  clear hul hzl
                  go_wp2_with fail
                  refine (IH.out us mid e b _ _ _ _ rfl rfl rfl HU3.out hd1 hd2 hbu (by have := HUM.out.1.length_eq; have := HZP.out.length_eq; omega) (HT3.out) (HT4.out) (by omega)).mono ?_
                  rintro e' wv ⟨rfl, vs, hv, hvm, hkv⟩
                  have HV := Lib.hid hv
                  have HVM := Lib.hid hvm
                  clear hv hvm
                  go_wp2
                  exact bodyPost_end (results_none rfl _ _ _) rfl ⟨rfl, vs, HV.out, join haq hqm hme heb HMID.out HZG.out HZP.out HAL.out.2.2.2.2 HUM.out HVM.out, kept_step hku hkv⟩
                · have t6 : decide ((e : Int) < (b : Int)) = false := decide_eq_false (by omega)
                  clear hul hzl
                  go_wp2
                  exact bodyPost_end (results_none rfl _ _ _) rfl ⟨rfl, us, HU3.out, join haq hqm hme heb HMID.out HZG.out HZP.out HAL.out.2.2.2.2 HUM.out (Merges.refl (srt_mid HT3.out HT4.out (by omega))), hku⟩
              · have t5 : decide ((mid : Int) < (e : Int)) = false := decide_eq_false (by omega)
                clear hul hzl
                go_wp2
                exact bodyPost_end (results_none rfl _ _ _) rfl ⟨rfl, us, HU3.out, join haq hqm hme heb HMID.out HZG.out HZP.out HAL.out.2.2.2.2 HUM.out (Merges.refl (srt_mid HT3.out HT4.out (by omega))), hku⟩
            · have t4 : decide ((q : Int) < (mid : Int)) = false := decide_eq_false (by omega)
              obtain ⟨us, hus⟩ : ∃ us, us = zs := ⟨_, rfl⟩
              have HU3 : Hid (OwnR Ty.ring 32 base M wz (.slice (some ⟨g, 0, none⟩) n cap) us) := by rw [hus]; exact HZ.out
              have HUM : Hid (Merges zs us a mid) := by rw [hus]; exact Merges.refl (srt_mid HAL.out.1 HAL.out.2.1 (by omega))
              have hku : KeptS (fun k => k = g) w wz := hkz
              clear hus
              have HT3 : Hid (SortedOn us mid e) := fun i j h3 h4 h5 => by rw [HUM.out.2.2.1 i (.inr h3), HUM.out.2.2.1 j (.inr (by omega))]; exact HAL.out.2.2.1 i j h3 h4 h5
              have HT4 : Hid (SortedOn us e b) := fun i j h3 h4 h5 => by rw [HUM.out.2.2.1 i (.inr (by omega)), HUM.out.2.2.1 j (.inr (by omega))]; exact HAL.out.2.2.2.1 i j h3 h4 h5
              have hul : us.length = zs.length := HUM.out.1.length_eq
              have hzl : zs.length = xs.length := HZP.out.length_eq
              by_cases hd1 : mid < e
              · have t5 : decide ((mid : Int) < (e : Int)) = true := decide_eq_true (by omega)
                by_cases hd2 : e < b
                · have t6 : decide ((e : Int) < (b : Int)) = true := decide_eq_true (by omega)
                  have hbu : b ≤ us.length := by omega
                  clear hul hzl
                  go_wp2_with fail
                  refine (IH.out us mid e b _ _ _ _ rfl rfl rfl HU3.out hd1 hd2 hbu (by have := HUM.out.1.length_eq; have := HZP.out.length_eq; omega) (HT3.out) (HT4.out) (by omega)).mono ?_
                  rintro e' wv ⟨rfl, vs, hv, hvm, hkv⟩
                  have HV := Lib.hid hv
                  have HVM := Lib.hid hvm
                  clear hv hvm
                  go_wp2
                  exact bodyPost_end (results_none rfl _ _ _) rfl ⟨rfl, vs, HV.out, join haq hqm hme heb HMID.out HZG.out HZP.out HAL.out.2.2.2.2 HUM.out HVM.out, kept_step hku hkv⟩
                · have t6 : decide ((e : Int) < (b : Int)) = false := decide_eq_false (by omega)
                  clear hul hzl
                  go_wp2
                  exact bodyPost_end (results_none rfl _ _ _) rfl ⟨rfl, us, HU3.out, join haq hqm hme heb HMID.out HZG.out HZP.out HAL.out.2.2.2.2 HUM.out (Merges.refl (srt_mid HT3.out HT4.out (by omega))), hku⟩
              · have t5 : decide ((mid : Int) < (e : Int)) = false := decide_eq_false (by omega)
                clear hul hzl
                go_wp2
                exact bodyPost_end (results_none rfl _ _ _) rfl ⟨rfl, us, HU3.out, join haq hqm hme heb HMID.out HZG.out HZP.out HAL.out.2.2.2.2 HUM.out (Merges.refl (srt_mid HT3.out HT4.out (by omega))), hku⟩
          · have t3 : decide ((a : Int) < (q : Int)) = false := decide_eq_false (by omega)
            obtain ⟨us, hus⟩ : ∃ us, us = zs := ⟨_, rfl⟩
            have HU3 : Hid (OwnR Ty.ring 32 base M wz (.slice (some ⟨g, 0, none⟩) n cap) us) := by rw [hus]; exact HZ.out
            have HUM : Hid (Merges zs us a mid) := by rw [hus]; exact Merges.refl (srt_mid HAL.out.1 HAL.out.2.1 (by omega))
            have hku : KeptS (fun k => k = g) w wz := hkz
            clear hus
            have HT3 : Hid (SortedOn us mid e) := fun i j h3 h4 h5 => by rw [HUM.out.2.2.1 i (.inr h3), HUM.out.2.2.1 j (.inr (by omega))]; exact HAL.out.2.2.1 i j h3 h4 h5
            have HT4 : Hid (SortedOn us e b) := fun i j h3 h4 h5 => by rw [HUM.out.2.2.1 i (.inr (by omega)), HUM.out.2.2.1 j (.inr (by omega))]; exact HAL.out.2.2.2.1 i j h3 h4 h5
            have hul : us.length = zs.length := HUM.out.1.length_eq
            have hzl : zs.length = xs.length := HZP.out.length_eq
            by_cases hd1 : mid < e
            · have t5 : decide ((mid : Int) < (e : Int)) = true := decide_eq_true (by omega)
              by_cases hd2 : e < b
              · have t6 : decide ((e : Int) < (b : Int)) = true := decide_eq_true (by omega)
                have hbu : b ≤ us.length := by omega
                clear hul hzl
                go_wp2_with fail
                refine (IH.out us mid e b _ _ _ _ rfl rfl rfl HU3.out hd1 hd2 hbu (by have := HUM.out.1.length_eq; have := HZP.out.length_eq; omega) (HT3.out) (HT4.out) (by omega)).mono ?_
                rintro e' wv ⟨rfl, vs, hv, hvm, hkv⟩
                have HV := Lib.hid hv
                have HVM := Lib.hid hvm
                clear hv hvm
                go_wp2
                exact bodyPost_end (results_none rfl _ _ _) rfl ⟨rfl, vs, HV.out, join haq hqm hme heb HMID.out HZG.out HZP.out HAL.out.2.2.2.2 HUM.out HVM.out, kept_step hku hkv⟩
              · have t6 : decide ((e : Int) < (b : Int)) = false := decide_eq_false (by omega)
                clear hul hzl
                go_wp2
                exact bodyPost_end (results_none rfl _ _ _) rfl ⟨rfl, us, HU3.out, join haq hqm hme heb HMID.out HZG.out HZP.out HAL.out.2.2.2.2 HUM.out (Merges.refl (srt_mid HT3.out HT4.out (by omega))), hku⟩
            · have t5 : decide ((mid : Int) < (e : Int)) = false := decide_eq_false (by omega)
              clear hul hzl
              go_wp2
              exact bodyPost_end (results_none rfl _ _ _) rfl ⟨rfl, us, HU3.out, join haq hqm hme heb HMID.out HZG.out HZP.out HAL.out.2.2.2.2 HUM.out (Merges.refl (srt_mid HT3.out HT4.out (by omega))), hku⟩
  · have qgt : decide ((mid : Int) < (m : Int)) = false := decide_eq_false (by omega)
    go_enter Try.func60, Try.ntmps60
    go_wp2
    go_loopw [20, 21] (fun i j wr => ∃ p q : Nat, a ≤ p ∧ p ≤ q ∧ q ≤ m ∧ i = .int .i64 p ∧ j = .int .i64 q ∧ Below w.heap.size w wr ∧ Hid (p = a ∨ leR (rg xs (p - 1)) (rg xs (N - p))) ∧ Hid (q = m ∨ leR (rg xs (P - q)) (rg xs q))) (fun i j _ => (intOf j).toNat - (intOf i).toNat)
    case atStart => exact ⟨a, m, Nat.le_refl _, by omega, Nat.le_refl _, rfl, rfl, Below.refl _ _, .inl rfl, .inl rfl⟩
    case round =>
      obtain ⟨p, q, hp1, hpq, hqb, rfl, rfl, hb0, HL, HR⟩ := hrel
      have HO1 := Lib.hid (HH.out.below hb0)
      by_cases hlt : p < q
      · have q3 : decide ((p : Int) < (q : Int)) = true := decide_eq_true (by omega)
        obtain ⟨t, ht⟩ : ∃ t, t = (p + q) / 2 := ⟨_, rfl⟩
        have et : ((p : Int) + (q : Int)) / 2 = (t : Int) := by omega
        have ht1 : p ≤ t := by omega
        have ht2 : t < q := by omega
        obtain ⟨u, hu⟩ : ∃ u, u = P - t := ⟨_, rfl⟩
        have eu : (P : Int) - (t : Int) = (u : Int) := by omega
        have hnl : n = xs.length := HN.out
        have htn : t < n := by omega
        have hun : u < n := by omega
        obtain ⟨A0, c0, hc0, hr0, _⟩ := HO1.out.ring_cell u (by omega)
        obtain ⟨A1, c1, hc1, hr1, _⟩ := HO1.out.ring_cell t (by omega)
        have R0 := Lib.hid (ringR_row hr0).2
        have R1 := Lib.hid (ringR_row hr1).2
        have HU := Lib.hid hu
        have HU2 : Hid (u = N - (t + 1)) := by show u = _; omega
        have qb0 : (0 : Int) ≤ (t : Int) := by omega
        have qb1 : (t : Int) < (n : Int) := by omega
        have qn : ((t : Int)).toNat = t := by omega
        have qb2 : (0 : Int) ≤ (u : Int) := by omega
        have qb3 : (u : Int) < (n : Int) := by omega
        have qn2 : ((u : Int)).toNat = u := by omega
        have qwu : IntKind.i64.wrap (u : Int) = (u : Int) := IntWalk.i64_in _ (by omega)
        clear hr0 hr1 ht hnl hu
        go_wp2_with fail
        try rw [et]
        clear et
        go_still_tail 11, (by kernel_rfl)
        change wpList _ _ _ _ _ wr.drew
        go_wp2_with fail
        refine (nestRings1 (rg xs u) (rg xs t) _ _ _ _ _ _ _ (R0.out.below (below_drew (Below.refl _ _))) (R1.out.below (below_drew (Below.refl _ _))) rfl rfl).mono ?_
        rintro e w2 ⟨rfl, hb2⟩
        clear qb0 qb1 qn qb2 qb3 qn2 qwu eu
        cases hcmp : lessR (rg xs u) (rg xs t)
        · have HC := Lib.hid hcmp
          have qc := cmp_ge hcmp
          clear hcmp
          go_wp2
          go_roundw
          case rel => exact ⟨t + 1, q, by omega, by omega, hqb, by go_num, rfl, (by repeat (first | exact Below.refl _ _ | apply below_alloc | apply below_drewN | apply below_drew | (refine below_set2 ?_ ?_; (first | (simp; done) | (simp; omega))) | (refine below_step ?_ hb2) | (refine below_step ?_ hb0))), .inr (by rw [Nat.add_sub_cancel, ← HU2.out]; exact HC.out), HR⟩
          case measure => simp [intOf]; omega
        · have HC := Lib.hid hcmp
          have qc := cmp_lt hcmp
          clear hcmp
          go_wp2
          go_roundw
          case rel => exact ⟨p, t, hp1, ht1, by omega, rfl, rfl, (by repeat (first | exact Below.refl _ _ | apply below_alloc | apply below_drewN | apply below_drew | (refine below_set2 ?_ ?_; (first | (simp; done) | (simp; omega))) | (refine below_step ?_ hb2) | (refine below_step ?_ hb0))), HL, .inr (by rw [← HU.out]; exact leR_of_less HC.out)⟩
          case measure => simp [intOf]; omega
      · have hqp : q ≤ p := by omega
        obtain ⟨s, rfl⟩ : ∃ s, s = p := ⟨_, rfl⟩
        obtain rfl : q = s := by omega
        have q3 : decide ((q : Int) < (q : Int)) = false := by simp
        obtain ⟨e, he⟩ : ∃ e, e = N - q := ⟨_, rfl⟩
        have he1 : e + q ≤ N := by omega
        have he2 : N ≤ e + q := by omega
        have ee : (N : Int) - (q : Int) = (e : Int) := by omega
        have hqm : q ≤ m := by omega
        have haq : a ≤ q := by omega
        have hme : m ≤ e := by omega
        have heb : e ≤ b := by omega
        have hqmid : q ≤ mid := by omega
        have hmide : mid ≤ e := by omega
        have HMID : Hid (mid = q + (e - m)) := by show mid = _; omega
        have HX : Hid (a < q → e < b → leR (rg xs (q - 1)) (rg xs e)) := fun h3 h4 => by
          rcases HL.out with h5 | h5
          · omega
          · rwa [← he] at h5
        have HY : Hid (m < e → q < m → leR (rg xs (e - 1)) (rg xs q)) := fun h3 h4 => by
          rcases HR.out with h5 | h5
          · omega
          · rwa [show P - q = e - 1 by omega] at h5
        clear HL HR he hqp
        have hp0 : (0 : Nat) = 0 := rfl
        by_cases hc1 : q < m
        · have t1 : decide ((q : Int) < (m : Int)) = true := decide_eq_true (by omega)
          by_cases hc2 : m < e
          · have t2 : decide ((m : Int) < (e : Int)) = true := decide_eq_true (by omega)
            go_wp2_with fail
            refine (rotate_rings xs g n cap q m e base M _ _ _ _ rfl rfl rfl _ HO1.out hc1 hc2 (by omega) hlen).mono ?_
            rintro e' wz ⟨rfl, zs, hz, hzp, hzg, hkz'⟩
            have HZ := Lib.hid hz
            have HZP := Lib.hid hzp
            have HZG := Lib.hid hzg
            have hkz : KeptS (fun k => k = g) w wz := kept_step (kept_of_below hb0) hkz'
            clear hz hzp hzg hkz' t1 t2
            have HAL := Lib.hid (halves H1.out H2.out haq hqm hme heb HMID.out HX.out HY.out HZG.out)
            clear HX HY
            by_cases hd1' : a < q
            · have t3 : decide ((a : Int) < (q : Int)) = true := decide_eq_true (by omega)
              by_cases hd2' : q < mid
              · have t4 : decide ((q : Int) < (mid : Int)) = true := decide_eq_true (by omega)
                have hzl0 : mid ≤ zs.length := by have := HZP.out.length_eq; omega
                go_wp2_with fail
                refine (IH.out zs a q mid _ _ _ _ rfl rfl rfl HZ.out hd1' hd2' hzl0 (by have := HZP.out.length_eq; omega) HAL.out.1 HAL.out.2.1 (by omega)).mono ?_
                rintro e' wu ⟨rfl, us, hu, hum, hku'⟩
                have HU3 := Lib.hid hu
                have HUM := Lib.hid hum
                have hku : KeptS (fun k => k = g) w wu := kept_step hkz hku'
                clear hu hum hku' t3 t4 hzl0
                have HT3 : Hid (SortedOn us mid e) := fun i j h3 h4 h5 => by rw [HUM.out.2.2.1 i (.inr h3), HUM.out.2.2.1 j (.inr (by omega))]; exact HAL.out.2.2.1 i j h3 h4 h5
                have HT4 : Hid (SortedOn us e b) := fun i j h3 h4 h5 => by rw [HUM.out.2.2.1 i (.inr (by omega)), HUM.out.2.2.1 j (.inr (by omega))]; exact HAL.out.2.2.2.1 i j h3 h4 h5
                have hul : us.length = zs.length := HUM.out.1.length_eq
                have hzl : zs.length = xs.length := HZP.out.length_eq
                by_cases hd1 : mid < e
                · have t5 : decide ((mid : Int) < (e : Int)) = true := decide_eq_true (by omega)
                  by_cases hd2 : e < b
                  · have t6 : decide ((e : Int) < (b : Int)) = true := decide_eq_true (by omega)
                    have hbu : b ≤ us.length := by omega
                    clear hul hzl
                    go_wp2_with fail
                    refine (IH.out us mid e b _ _ _ _ rfl rfl rfl HU3.out hd1 hd2 hbu (by have := HUM.out.1.length_eq; have := HZP.out.length_eq; omega) (HT3.out) (HT4.out) (by omega)).mono ?_
                    rintro e' wv ⟨rfl, vs, hv, hvm, hkv⟩
                    have HV := Lib.hid hv
                    have HVM := Lib.hid hvm
                    clear hv hvm
                    go_wp2
                    exact bodyPost_end (results_none rfl _ _ _) rfl ⟨rfl, vs, HV.out, join haq hqm hme heb HMID.out HZG.out HZP.out HAL.out.2.2.2.2 HUM.out HVM.out, kept_step hku hkv⟩
                  · have t6 : decide ((e : Int) < (b : Int)) = false := decide_eq_false (by omega)
                    clear hul hzl
                    go_wp2
                    exact bodyPost_end (results_none rfl _ _ _) rfl ⟨rfl, us, HU3.out, join haq hqm hme heb HMID.out HZG.out HZP.out HAL.out.2.2.2.2 HUM.out (Merges.refl (srt_mid HT3.out HT4.out (by omega))), hku⟩
                · have t5 : decide ((mid : Int) < (e : Int)) = false := decide_eq_false (by omega)
                  clear hul hzl
                  go_wp2
                  exact bodyPost_end (results_none rfl _ _ _) rfl ⟨rfl, us, HU3.out, join haq hqm hme heb HMID.out HZG.out HZP.out HAL.out.2.2.2.2 HUM.out (Merges.refl (srt_mid HT3.out HT4.out (by omega))), hku⟩
              · have t4 : decide ((q : Int) < (mid : Int)) = false := decide_eq_false (by omega)
                obtain ⟨us, hus⟩ : ∃ us, us = zs := ⟨_, rfl⟩
                have HU3 : Hid (OwnR Ty.ring 32 base M wz (.slice (some ⟨g, 0, none⟩) n cap) us) := by rw [hus]; exact HZ.out
                have HUM : Hid (Merges zs us a mid) := by rw [hus]; exact Merges.refl (srt_mid HAL.out.1 HAL.out.2.1 (by omega))
                have hku : KeptS (fun k => k = g) w wz := hkz
                clear hus
                have HT3 : Hid (SortedOn us mid e) := fun i j h3 h4 h5 => by rw [HUM.out.2.2.1 i (.inr h3), HUM.out.2.2.1 j (.inr (by omega))]; exact HAL.out.2.2.1 i j h3 h4 h5
                have HT4 : Hid (SortedOn us e b) := fun i j h3 h4 h5 => by rw [HUM.out.2.2.1 i (.inr (by omega)), HUM.out.2.2.1 j (.inr (by omega))]; exact HAL.out.2.2.2.1 i j h3 h4 h5
                have hul : us.length = zs.length := HUM.out.1.length_eq
                have hzl : zs.length = xs.length := HZP.out.length_eq
                by_cases hd1 : mid < e
                · have t5 : decide ((mid : Int) < (e : Int)) = true := decide_eq_true (by omega)
                  by_cases hd2 : e < b
                  · have t6 : decide ((e : Int) < (b : Int)) = true := decide_eq_true (by omega)
                    have hbu : b ≤ us.length := by omega
                    clear hul hzl
                    go_wp2_with fail
                    refine (IH.out us mid e b _ _ _ _ rfl rfl rfl HU3.out hd1 hd2 hbu (by have := HUM.out.1.length_eq; have := HZP.out.length_eq; omega) (HT3.out) (HT4.out) (by omega)).mono ?_
                    rintro e' wv ⟨rfl, vs, hv, hvm, hkv⟩
                    have HV := Lib.hid hv
                    have HVM := Lib.hid hvm
                    clear hv hvm
                    go_wp2
                    exact bodyPost_end (results_none rfl _ _ _) rfl ⟨rfl, vs, HV.out, join haq hqm hme heb HMID.out HZG.out HZP.out HAL.out.2.2.2.2 HUM.out HVM.out, kept_step hku hkv⟩
                  · have t6 : decide ((e : Int) < (b : Int)) = false := decide_eq_false (by omega)
                    clear hul hzl
                    go_wp2
                    exact bodyPost_end (results_none rfl _ _ _) rfl ⟨rfl, us, HU3.out, join haq hqm hme heb HMID.out HZG.out HZP.out HAL.out.2.2.2.2 HUM.out (Merges.refl (srt_mid HT3.out HT4.out (by omega))), hku⟩
                · have t5 : decide ((mid : Int) < (e : Int)) = false := decide_eq_false (by omega)
                  clear hul hzl
                  go_wp2
                  exact bodyPost_end (results_none rfl _ _ _) rfl ⟨rfl, us, HU3.out, join haq hqm hme heb HMID.out HZG.out HZP.out HAL.out.2.2.2.2 HUM.out (Merges.refl (srt_mid HT3.out HT4.out (by omega))), hku⟩
            · have t3 : decide ((a : Int) < (q : Int)) = false := decide_eq_false (by omega)
              obtain ⟨us, hus⟩ : ∃ us, us = zs := ⟨_, rfl⟩
              have HU3 : Hid (OwnR Ty.ring 32 base M wz (.slice (some ⟨g, 0, none⟩) n cap) us) := by rw [hus]; exact HZ.out
              have HUM : Hid (Merges zs us a mid) := by rw [hus]; exact Merges.refl (srt_mid HAL.out.1 HAL.out.2.1 (by omega))
              have hku : KeptS (fun k => k = g) w wz := hkz
              clear hus
              have HT3 : Hid (SortedOn us mid e) := fun i j h3 h4 h5 => by rw [HUM.out.2.2.1 i (.inr h3), HUM.out.2.2.1 j (.inr (by omega))]; exact HAL.out.2.2.1 i j h3 h4 h5
              have HT4 : Hid (SortedOn us e b) := fun i j h3 h4 h5 => by rw [HUM.out.2.2.1 i (.inr (by omega)), HUM.out.2.2.1 j (.inr (by omega))]; exact HAL.out.2.2.2.1 i j h3 h4 h5
              have hul : us.length = zs.length := HUM.out.1.length_eq
              have hzl : zs.length = xs.length := HZP.out.length_eq
              by_cases hd1 : mid < e
              · have t5 : decide ((mid : Int) < (e : Int)) = true := decide_eq_true (by omega)
                by_cases hd2 : e < b
                · have t6 : decide ((e : Int) < (b : Int)) = true := decide_eq_true (by omega)
                  have hbu : b ≤ us.length := by omega
                  clear hul hzl
                  go_wp2_with fail
                  refine (IH.out us mid e b _ _ _ _ rfl rfl rfl HU3.out hd1 hd2 hbu (by have := HUM.out.1.length_eq; have := HZP.out.length_eq; omega) (HT3.out) (HT4.out) (by omega)).mono ?_
                  rintro e' wv ⟨rfl, vs, hv, hvm, hkv⟩
                  have HV := Lib.hid hv
                  have HVM := Lib.hid hvm
                  clear hv hvm
                  go_wp2
                  exact bodyPost_end (results_none rfl _ _ _) rfl ⟨rfl, vs, HV.out, join haq hqm hme heb HMID.out HZG.out HZP.out HAL.out.2.2.2.2 HUM.out HVM.out, kept_step hku hkv⟩
                · have t6 : decide ((e : Int) < (b : Int)) = false := decide_eq_false (by omega)
                  clear hul hzl
                  go_wp2
                  exact bodyPost_end (results_none rfl _ _ _) rfl ⟨rfl, us, HU3.out, join haq hqm hme heb HMID.out HZG.out HZP.out HAL.out.2.2.2.2 HUM.out (Merges.refl (srt_mid HT3.out HT4.out (by omega))), hku⟩
              · have t5 : decide ((mid : Int) < (e : Int)) = false := decide_eq_false (by omega)
                clear hul hzl
                go_wp2
                exact bodyPost_end (results_none rfl _ _ _) rfl ⟨rfl, us, HU3.out, join haq hqm hme heb HMID.out HZG.out HZP.out HAL.out.2.2.2.2 HUM.out (Merges.refl (srt_mid HT3.out HT4.out (by omega))), hku⟩
          · have t2 : decide ((m : Int) < (e : Int)) = false := decide_eq_false (by omega)
            obtain ⟨wz, rfl⟩ : ∃ wz : World, wz = wr := ⟨_, rfl⟩
            obtain ⟨zs, hzs⟩ : ∃ zs, zs = xs := ⟨_, rfl⟩
            have HZ : Hid (OwnR Ty.ring 32 base M wz (.slice (some ⟨g, 0, none⟩) n cap) zs) := by rw [hzs]; exact HO1.out
            have HZP : Hid (zs.Perm xs) := by rw [hzs]; exact List.Perm.refl _
            have HZG : Hid (∀ k, rg zs k = rg xs (rho q m e k)) := fun k => by rw [hzs, rho_id (by omega)]
            have hkz : KeptS (fun k => k = g) w wz := kept_of_below hb0
            clear hzs
            have HAL := Lib.hid (halves H1.out H2.out haq hqm hme heb HMID.out HX.out HY.out HZG.out)
            clear HX HY
            by_cases hd1' : a < q
            · have t3 : decide ((a : Int) < (q : Int)) = true := decide_eq_true (by omega)
              by_cases hd2' : q < mid
              · have t4 : decide ((q : Int) < (mid : Int)) = true := decide_eq_true (by omega)
                have hzl0 : mid ≤ zs.length := by have := HZP.out.length_eq; omega
                go_wp2_with fail
                refine (IH.out zs a q mid _ _ _ _ rfl rfl rfl HZ.out hd1' hd2' hzl0 (by have := HZP.out.length_eq; omega) HAL.out.1 HAL.out.2.1 (by omega)).mono ?_
                rintro e' wu ⟨rfl, us, hu, hum, hku'⟩
                have HU3 := Lib.hid hu
                have HUM := Lib.hid hum
                have hku : KeptS (fun k => k = g) w wu := kept_step hkz hku'
                clear hu hum hku' t3 t4 hzl0
                have HT3 : Hid (SortedOn us mid e) := fun i j h3 h4 h5 => by rw [HUM.out.2.2.1 i (.inr h3), HUM.out.2.2.1 j (.inr (by omega))]; exact HAL.out.2.2.1 i j h3 h4 h5
                have HT4 : Hid (SortedOn us e b) := fun i j h3 h4 h5 => by rw [HUM.out.2.2.1 i (.inr (by omega)), HUM.out.2.2.1 j (.inr (by omega))]; exact HAL.out.2.2.2.1 i j h3 h4 h5
                have hul : us.length = zs.length := HUM.out.1.length_eq
                have hzl : zs.length = xs.length := HZP.out.length_eq
                by_cases hd1 : mid < e
                · have t5 : decide ((mid : Int) < (e : Int)) = true := decide_eq_true (by omega)
                  by_cases hd2 : e < b
                  · have t6 : decide ((e : Int) < (b : Int)) = true := decide_eq_true (by omega)
                    have hbu : b ≤ us.length := by omega
                    clear hul hzl
                    go_wp2_with fail
                    refine (IH.out us mid e b _ _ _ _ rfl rfl rfl HU3.out hd1 hd2 hbu (by have := HUM.out.1.length_eq; have := HZP.out.length_eq; omega) (HT3.out) (HT4.out) (by omega)).mono ?_
                    rintro e' wv ⟨rfl, vs, hv, hvm, hkv⟩
                    have HV := Lib.hid hv
                    have HVM := Lib.hid hvm
                    clear hv hvm
                    go_wp2
                    exact bodyPost_end (results_none rfl _ _ _) rfl ⟨rfl, vs, HV.out, join haq hqm hme heb HMID.out HZG.out HZP.out HAL.out.2.2.2.2 HUM.out HVM.out, kept_step hku hkv⟩
                  · have t6 : decide ((e : Int) < (b : Int)) = false := decide_eq_false (by omega)
                    clear hul hzl
                    go_wp2
                    exact bodyPost_end (results_none rfl _ _ _) rfl ⟨rfl, us, HU3.out, join haq hqm hme heb HMID.out HZG.out HZP.out HAL.out.2.2.2.2 HUM.out (Merges.refl (srt_mid HT3.out HT4.out (by omega))), hku⟩
                · have t5 : decide ((mid : Int) < (e : Int)) = false := decide_eq_false (by omega)
                  clear hul hzl
                  go_wp2
                  exact bodyPost_end (results_none rfl _ _ _) rfl ⟨rfl, us, HU3.out, join haq hqm hme heb HMID.out HZG.out HZP.out HAL.out.2.2.2.2 HUM.out (Merges.refl (srt_mid HT3.out HT4.out (by omega))), hku⟩
              · have t4 : decide ((q : Int) < (mid : Int)) = false := decide_eq_false (by omega)
                obtain ⟨us, hus⟩ : ∃ us, us = zs := ⟨_, rfl⟩
                have HU3 : Hid (OwnR Ty.ring 32 base M wz (.slice (some ⟨g, 0, none⟩) n cap) us) := by rw [hus]; exact HZ.out
                have HUM : Hid (Merges zs us a mid) := by rw [hus]; exact Merges.refl (srt_mid HAL.out.1 HAL.out.2.1 (by omega))
                have hku : KeptS (fun k => k = g) w wz := hkz
                clear hus
                have HT3 : Hid (SortedOn us mid e) := fun i j h3 h4 h5 => by rw [HUM.out.2.2.1 i (.inr h3), HUM.out.2.2.1 j (.inr (by omega))]; exact HAL.out.2.2.1 i j h3 h4 h5
                have HT4 : Hid (SortedOn us e b) := fun i j h3 h4 h5 => by rw [HUM.out.2.2.1 i (.inr (by omega)), HUM.out.2.2.1 j (.inr (by omega))]; exact HAL.out.2.2.2.1 i j h3 h4 h5
                have hul : us.length = zs.length := HUM.out.1.length_eq
                have hzl : zs.length = xs.length := HZP.out.length_eq
                by_cases hd1 : mid < e
                · have t5 : decide ((mid : Int) < (e : Int)) = true := decide_eq_true (by omega)
                  by_cases hd2 : e < b
                  · have t6 : decide ((e : Int) < (b : Int)) = true := decide_eq_true (by omega)
                    have hbu : b ≤ us.length := by omega
                    clear hul hzl
                    go_wp2_with fail
                    refine (IH.out us mid e b _ _ _ _ rfl rfl rfl HU3.out hd1 hd2 hbu (by have := HUM.out.1.length_eq; have := HZP.out.length_eq; omega) (HT3.out) (HT4.out) (by omega)).mono ?_
                    rintro e' wv ⟨rfl, vs, hv, hvm, hkv⟩
                    have HV := Lib.hid hv
                    have HVM := Lib.hid hvm
                    clear hv hvm
                    go_wp2
                    exact bodyPost_end (results_none rfl _ _ _) rfl ⟨rfl, vs, HV.out, join haq hqm hme heb HMID.out HZG.out HZP.out HAL.out.2.2.2.2 HUM.out HVM.out, kept_step hku hkv⟩
                  · have t6 : decide ((e : Int) < (b : Int)) = false := decide_eq_false (by omega)
                    clear hul hzl
                    go_wp2
                    exact bodyPost_end (results_none rfl _ _ _) rfl ⟨rfl, us, HU3.out, join haq hqm hme heb HMID.out HZG.out HZP.out HAL.out.2.2.2.2 HUM.out (Merges.refl (srt_mid HT3.out HT4.out (by omega))), hku⟩
                · have t5 : decide ((mid : Int) < (e : Int)) = false := decide_eq_false (by omega)
                  clear hul hzl
                  go_wp2
                  exact bodyPost_end (results_none rfl _ _ _) rfl ⟨rfl, us, HU3.out, join haq hqm hme heb HMID.out HZG.out HZP.out HAL.out.2.2.2.2 HUM.out (Merges.refl (srt_mid HT3.out HT4.out (by omega))), hku⟩
            · have t3 : decide ((a : Int) < (q : Int)) = false := decide_eq_false (by omega)
              obtain ⟨us, hus⟩ : ∃ us, us = zs := ⟨_, rfl⟩
              have HU3 : Hid (OwnR Ty.ring 32 base M wz (.slice (some ⟨g, 0, none⟩) n cap) us) := by rw [hus]; exact HZ.out
              have HUM : Hid (Merges zs us a mid) := by rw [hus]; exact Merges.refl (srt_mid HAL.out.1 HAL.out.2.1 (by omega))
              have hku : KeptS (fun k => k = g) w wz := hkz
              clear hus
              have HT3 : Hid (SortedOn us mid e) := fun i j h3 h4 h5 => by rw [HUM.out.2.2.1 i (.inr h3), HUM.out.2.2.1 j (.inr (by omega))]; exact HAL.out.2.2.1 i j h3 h4 h5
              have HT4 : Hid (SortedOn us e b) := fun i j h3 h4 h5 => by rw [HUM.out.2.2.1 i (.inr (by omega)), HUM.out.2.2.1 j (.inr (by omega))]; exact HAL.out.2.2.2.1 i j h3 h4 h5
              have hul : us.length = zs.length := HUM.out.1.length_eq
              have hzl : zs.length = xs.length := HZP.out.length_eq
              by_cases hd1 : mid < e
              · have t5 : decide ((mid : Int) < (e : Int)) = true := decide_eq_true (by omega)
                by_cases hd2 : e < b
                · have t6 : decide ((e : Int) < (b : Int)) = true := decide_eq_true (by omega)
                  have hbu : b ≤ us.length := by omega
                  clear hul hzl
                  go_wp2_with fail
                  refine (IH.out us mid e b _ _ _ _ rfl rfl rfl HU3.out hd1 hd2 hbu (by have := HUM.out.1.length_eq; have := HZP.out.length_eq; omega) (HT3.out) (HT4.out) (by omega)).mono ?_
                  rintro e' wv ⟨rfl, vs, hv, hvm, hkv⟩
                  have HV := Lib.hid hv
                  have HVM := Lib.hid hvm
                  clear hv hvm
                  go_wp2
                  exact bodyPost_end (results_none rfl _ _ _) rfl ⟨rfl, vs, HV.out, join haq hqm hme heb HMID.out HZG.out HZP.out HAL.out.2.2.2.2 HUM.out HVM.out, kept_step hku hkv⟩
                · have t6 : decide ((e : Int) < (b : Int)) = false := decide_eq_false (by omega)
                  clear hul hzl
                  go_wp2
                  exact bodyPost_end (results_none rfl _ _ _) rfl ⟨rfl, us, HU3.out, join haq hqm hme heb HMID.out HZG.out HZP.out HAL.out.2.2.2.2 HUM.out (Merges.refl (srt_mid HT3.out HT4.out (by omega))), hku⟩
              · have t5 : decide ((mid : Int) < (e : Int)) = false := decide_eq_false (by omega)
                clear hul hzl
                go_wp2
                exact bodyPost_end (results_none rfl _ _ _) rfl ⟨rfl, us, HU3.out, join haq hqm hme heb HMID.out HZG.out HZP.out HAL.out.2.2.2.2 HUM.out (Merges.refl (srt_mid HT3.out HT4.out (by omega))), hku⟩
        · have t1 : decide ((q : Int) < (m : Int)) = false := decide_eq_false (by omega)
          obtain ⟨wz, rfl⟩ : ∃ wz : World, wz = wr := ⟨_, rfl⟩
          obtain ⟨zs, hzs⟩ : ∃ zs, zs = xs := ⟨_, rfl⟩
          have HZ : Hid (OwnR Ty.ring 32 base M wz (.slice (some ⟨g, 0, none⟩) n cap) zs) := by rw [hzs]; exact HO1.out
          have HZP : Hid (zs.Perm xs) := by rw [hzs]; exact List.Perm.refl _
          have HZG : Hid (∀ k, rg zs k = rg xs (rho q m e k)) := fun k => by rw [hzs, rho_id (by omega)]
          have hkz : KeptS (fun k => k = g) w wz := kept_of_below hb0
          clear hzs
          have HAL := Lib.hid (halves H1.out H2.out haq hqm hme heb HMID.out HX.out HY.out HZG.out)
          clear HX HY
          by_cases hd1' : a < q
          · have t3 : decide ((a : Int) < (q : Int)) = true := decide_eq_true (by omega)
            by_cases hd2' : q < mid
            · have t4 : decide ((q : Int) < (mid : Int)) = true := decide_eq_true (by omega)
              have hzl0 : mid ≤ zs.length := by have := HZP.out.length_eq; omega
              go_wp2_with fail
              refine (IH.out zs a q mid _ _ _ _ rfl rfl rfl HZ.out hd1' hd2' hzl0 (by have := HZP.out.length_eq; omega) HAL.out.1 HAL.out.2.1 (by omega)).mono ?_
              rintro e' wu ⟨rfl, us, hu, hum, hku'⟩
              have HU3 := Lib.hid hu
              have HUM := Lib.hid hum
              have hku : KeptS (fun k => k = g) w wu := kept_step hkz hku'
              clear hu hum hku' t3 t4 hzl0
              have HT3 : Hid (SortedOn us mid e) := fun i j h3 h4 h5 => by rw [HUM.out.2.2.1 i (.inr h3), HUM.out.2.2.1 j (.inr (by omega))]; exact HAL.out.2.2.1 i j h3 h4 h5
              have HT4 : Hid (SortedOn us e b) := fun i j h3 h4 h5 => by rw [HUM.out.2.2.1 i (.inr (by omega)), HUM.out.2.2.1 j (.inr (by omega))]; exact HAL.out.2.2.2.1 i j h3 h4 h5
              have hul : us.length = zs.length := HUM.out.1.length_eq
              have hzl : zs.length = xs.length := HZP.out.length_eq
              by_cases hd1 : mid < e
              · have t5 : decide ((mid : Int) < (e : Int)) = true := decide_eq_true (by omega)
                by_cases hd2 : e < b
                · have t6 : decide ((e : Int) < (b : Int)) = true := decide_eq_true (by omega)
                  have hbu : b ≤ us.length := by omega
                  clear hul hzl
                  go_wp2_with fail
                  refine (IH.out us mid e b _ _ _ _ rfl rfl rfl HU3.out hd1 hd2 hbu (by have := HUM.out.1.length_eq; have := HZP.out.length_eq; omega) (HT3.out) (HT4.out) (by omega)).mono ?_
                  rintro e' wv ⟨rfl, vs, hv, hvm, hkv⟩
                  have HV := Lib.hid hv
                  have HVM := Lib.hid hvm
                  clear hv hvm
                  go_wp2
                  exact bodyPost_end (results_none rfl _ _ _) rfl ⟨rfl, vs, HV.out, join haq hqm hme heb HMID.out HZG.out HZP.out HAL.out.2.2.2.2 HUM.out HVM.out, kept_step hku hkv⟩
                · have t6 : decide ((e : Int) < (b : Int)) = false := decide_eq_false (by omega)
                  clear hul hzl
                  go_wp2
                  exact bodyPost_end (results_none rfl _ _ _) rfl ⟨rfl, us, HU3.out, join haq hqm hme heb HMID.out HZG.out HZP.out HAL.out.2.2.2.2 HUM.out (Merges.refl (srt_mid HT3.out HT4.out (by omega))), hku⟩
              · have t5 : decide ((mid : Int) < (e : Int)) = false := decide_eq_false (by omega)
                clear hul hzl
                go_wp2
                exact bodyPost_end (results_none rfl _ _ _) rfl ⟨rfl, us, HU3.out, join haq hqm hme heb HMID.out HZG.out HZP.out HAL.out.2.2.2.2 HUM.out (Merges.refl (srt_mid HT3.out HT4.out (by omega))), hku⟩
            · have t4 : decide ((q : Int) < (mid : Int)) = false := decide_eq_false (by omega)
              obtain ⟨us, hus⟩ : ∃ us, us = zs := ⟨_, rfl⟩
              have HU3 : Hid (OwnR Ty.ring 32 base M wz (.slice (some ⟨g, 0, none⟩) n cap) us) := by rw [hus]; exact HZ.out
              have HUM : Hid (Merges zs us a mid) := by rw [hus]; exact Merges.refl (srt_mid HAL.out.1 HAL.out.2.1 (by omega))
              have hku : KeptS (fun k => k = g) w wz := hkz
              clear hus
              have HT3 : Hid (SortedOn us mid e) := fun i j h3 h4 h5 => by rw [HUM.out.2.2.1 i (.inr h3), HUM.out.2.2.1 j (.inr (by omega))]; exact HAL.out.2.2.1 i j h3 h4 h5
              have HT4 : Hid (SortedOn us e b) := fun i j h3 h4 h5 => by rw [HUM.out.2.2.1 i (.inr (by omega)), HUM.out.2.2.1 j (.inr (by omega))]; exact HAL.out.2.2.2.1 i j h3 h4 h5
              have hul : us.length = zs.length := HUM.out.1.length_eq
              have hzl : zs.length = xs.length := HZP.out.length_eq
              by_cases hd1 : mid < e
              · have t5 : decide ((mid : Int) < (e : Int)) = true := decide_eq_true (by omega)
                by_cases hd2 : e < b
                · have t6 : decide ((e : Int) < (b : Int)) = true := decide_eq_true (by omega)
                  have hbu : b ≤ us.length := by omega
                  clear hul hzl
                  go_wp2_with fail
                  refine (IH.out us mid e b _ _ _ _ rfl rfl rfl HU3.out hd1 hd2 hbu (by have := HUM.out.1.length_eq; have := HZP.out.length_eq; omega) (HT3.out) (HT4.out) (by omega)).mono ?_
                  rintro e' wv ⟨rfl, vs, hv, hvm, hkv⟩
                  have HV := Lib.hid hv
                  have HVM := Lib.hid hvm
                  clear hv hvm
                  go_wp2
                  exact bodyPost_end (results_none rfl _ _ _) rfl ⟨rfl, vs, HV.out, join haq hqm hme heb HMID.out HZG.out HZP.out HAL.out.2.2.2.2 HUM.out HVM.out, kept_step hku hkv⟩
                · have t6 : decide ((e : Int) < (b : Int)) = false := decide_eq_false (by omega)
                  clear hul hzl
                  go_wp2
                  exact bodyPost_end (results_none rfl _ _ _) rfl ⟨rfl, us, HU3.out, join haq hqm hme heb HMID.out HZG.out HZP.out HAL.out.2.2.2.2 HUM.out (Merges.refl (srt_mid HT3.out HT4.out (by omega))), hku⟩
              · have t5 : decide ((mid : Int) < (e : Int)) = false := decide_eq_false (by omega)
                clear hul hzl
                go_wp2
                exact bodyPost_end (results_none rfl _ _ _) rfl ⟨rfl, us, HU3.out, join haq hqm hme heb HMID.out HZG.out HZP.out HAL.out.2.2.2.2 HUM.out (Merges.refl (srt_mid HT3.out HT4.out (by omega))), hku⟩
          · have t3 : decide ((a : Int) < (q : Int)) = false := decide_eq_false (by omega)
            obtain ⟨us, hus⟩ : ∃ us, us = zs := ⟨_, rfl⟩
            have HU3 : Hid (OwnR Ty.ring 32 base M wz (.slice (some ⟨g, 0, none⟩) n cap) us) := by rw [hus]; exact HZ.out
            have HUM : Hid (Merges zs us a mid) := by rw [hus]; exact Merges.refl (srt_mid HAL.out.1 HAL.out.2.1 (by omega))
            have hku : KeptS (fun k => k = g) w wz := hkz
            clear hus
            have HT3 : Hid (SortedOn us mid e) := fun i j h3 h4 h5 => by rw [HUM.out.2.2.1 i (.inr h3), HUM.out.2.2.1 j (.inr (by omega))]; exact HAL.out.2.2.1 i j h3 h4 h5
            have HT4 : Hid (SortedOn us e b) := fun i j h3 h4 h5 => by rw [HUM.out.2.2.1 i (.inr (by omega)), HUM.out.2.2.1 j (.inr (by omega))]; exact HAL.out.2.2.2.1 i j h3 h4 h5
            have hul : us.length = zs.length := HUM.out.1.length_eq
            have hzl : zs.length = xs.length := HZP.out.length_eq
            by_cases hd1 : mid < e
            · have t5 : decide ((mid : Int) < (e : Int)) = true := decide_eq_true (by omega)
              by_cases hd2 : e < b
              · have t6 : decide ((e : Int) < (b : Int)) = true := decide_eq_true (by omega)
                have hbu : b ≤ us.length := by omega
                clear hul hzl
                go_wp2_with fail
                refine (IH.out us mid e b _ _ _ _ rfl rfl rfl HU3.out hd1 hd2 hbu (by have := HUM.out.1.length_eq; have := HZP.out.length_eq; omega) (HT3.out) (HT4.out) (by omega)).mono ?_
                rintro e' wv ⟨rfl, vs, hv, hvm, hkv⟩
                have HV := Lib.hid hv
                have HVM := Lib.hid hvm
                clear hv hvm
                go_wp2
                exact bodyPost_end (results_none rfl _ _ _) rfl ⟨rfl, vs, HV.out, join haq hqm hme heb HMID.out HZG.out HZP.out HAL.out.2.2.2.2 HUM.out HVM.out, kept_step hku hkv⟩
              · have t6 : decide ((e : Int) < (b : Int)) = false := decide_eq_false (by omega)
                clear hul hzl
                go_wp2
                exact bodyPost_end (results_none rfl _ _ _) rfl ⟨rfl, us, HU3.out, join haq hqm hme heb HMID.out HZG.out HZP.out HAL.out.2.2.2.2 HUM.out (Merges.refl (srt_mid HT3.out HT4.out (by omega))), hku⟩
            · have t5 : decide ((mid : Int) < (e : Int)) = false := decide_eq_false (by omega)
              clear hul hzl
              go_wp2
              exact bodyPost_end (results_none rfl _ _ _) rfl ⟨rfl, us, HU3.out, join haq hqm hme heb HMID.out HZG.out HZP.out HAL.out.2.2.2.2 HUM.out (Merges.refl (srt_mid HT3.out HT4.out (by omega))), hku⟩

theorem symMerge_all (base : Nat) (M : Nat → Prop) (g n cap : Nat) : ∀ D, MergesIn base M g n cap D
  | 0 => fun xs a m b w ai mi bi h1 h2 h3 h4 h5 h6 h7 h8 h9 h10 h11 => absurd h11 (Nat.not_lt_zero _)
  | D + 1 => fun xs a m b w ai mi bi h1 h2 h3 h4 h5 h6 h7 h8 h9 h10 h11 => by
    by_cases c1 : m = a + 1
    · exact symMerge_left xs g n cap a m b base M w ai mi bi h1 h2 h3 h4 c1 h6 h7 h8 h10
    · by_cases c2 : b = m + 1
      · exact symMerge_right xs g n cap a m b base M w ai mi bi h1 h2 h3 h4 (by omega) c2 h7 h8 h9
      · exact symMerge_main xs g n cap a m b base M w ai mi bi h1 h2 h3 h4 (by omega) (by omega) h7 h8 h9 h10 (fun ys a' m' b' w' ai' mi' bi' k1 k2 k3 k4 k5 k6 k7 k8 k9 k10 k11 => symMerge_all base M g n cap D ys a' m' b' w' ai' mi' bi' k1 k2 k3 k4 k5 k6 k7 k8 k9 k10 (by omega))
end Go.Proofs.Ytaphjehkpdjolaa
