/- The contract of data.Check. -/
import Derived.Test.YtniceoinipffmaaNRels
namespace Go.Proofs.Ytniceoinipffmaa
open Go.RowKit Go.Proofs.YtniceoinipffmaaW.PrintLast
set_option linter.unusedVariables false
set_option linter.unusedSimpArgs false

/-- The error of a dataset's lists. -/
def objErr (ns : List Node) (ws : List Way) (rs : List Rel) : Int :=
  if nodesErr ns ≠ 0 then nodesErr ns else if waysErr (ns.map (·.1)) ws ≠ 0 then waysErr (ns.map (·.1)) ws else relsErr (ns.map (·.1)) (ws.map (·.1)) rs
def dataErr (ns : List Node) (ws : List Way) (rs : List Rel) : Int := if 10000 < max (max ns.length ws.length) rs.length then 5 else objErr ns ws rs
set_option maxRecDepth 20000 in
set_option maxHeartbeats 4000000 in
theorem data_Check {ok : Nat → Prop} (ns : List Node) (ws : List Way) (rs : List Rel) (A1 A2 A3 : Option Addr) (c1 c2 c3 : Nat) (w : World) (h1 : Row Ty.node ok w A1 ns) (h2 : Row Ty.way ok w A2 ws) (h3 : Row Ty.rel ok w A3 rs)
    (q1 : ns.length ≤ 10000) (q2 : ws.length ≤ 10000) (q3 : rs.length ≤ 10000) :
    Calls Try.prog 31 #[.agg #[.slice A1 ns.length c1, .slice A2 ws.length c2, .slice A3 rs.length c3]] w fun e w' => e = .returned (.int .i64 (objErr ns ws rs)) ∧ Below w.heap.size w w' := by
  have HR1 := Lib.hid h1
  have HR2 := Lib.hid h2
  have HR3 := Lib.hid h3
  clear h1 h2 h3
  have mk : ∀ W : World, (Instr.makeMap 92 none).run Try.prog W = .ok (.map (some W.heap.size)) (W.alloc (.map #[] 0)) := fun W => run_makeMap _ W
  obtain ⟨mx, hmx⟩ : ∃ mx : Int, (if (if ns.length < ws.length then (ws.length : Int) else (ns.length : Int)) < (rs.length : Int) then (rs.length : Int) else if ns.length < ws.length then (ws.length : Int) else (ns.length : Int)) = mx := ⟨_, rfl⟩
  have m1 : decide (10000 < mx) = false := decide_eq_false (by rw [← hmx]; split <;> (try split) <;> omega)
  obtain ⟨Wa, hWa⟩ : ∃ Wa, Wa = w.alloc (.cells #[.slice A1 ns.length c1, .slice A2 ws.length c2, .slice A3 rs.length c3] 26) := ⟨_, rfl⟩
  have hao : ∀ o : Nat, Wa.cell? ⟨w.heap.size, o, none⟩ = #[.slice A1 ns.length c1, .slice A2 ws.length c2, .slice A3 rs.length c3][o]? := fun o => by rw [hWa]; simp only [World.cell?, heap_alloc_new]; rfl
  have za : Wa.heap.size = w.heap.size + 1 := by rw [hWa]; simp
  have Ba : Below w.heap.size w Wa := by rw [hWa]; exact (by repeat (first | exact Below.refl _ _ | apply below_alloc | apply below_drewN | apply below_drew | (refine below_set2 ?_ ?_; (first | (simp; done) | (simp; omega)))))
  obtain ⟨Wb, hWb⟩ : ∃ Wb, Wb = Wa.alloc (.map #[] 0) := ⟨_, rfl⟩
  have Mb : OwnMap encI Wb (w.heap.size + 1) [] := by rw [hWb, ← za]; exact OwnMap.made _ _
  have zb : Wb.heap.size = w.heap.size + 1 + 1 := by rw [hWb, World.alloc]; simp [za]
  have Bb : Below Wa.heap.size Wa Wb := by rw [hWb]; exact (by repeat (first | exact Below.refl _ _ | apply below_alloc | apply below_drewN | apply below_drew | (refine below_set2 ?_ ?_; (first | (simp; done) | (simp; omega)))))
  obtain ⟨Wc, hWc⟩ : ∃ Wc, Wc = Wb.alloc (.map #[] 0) := ⟨_, rfl⟩
  have Mc : OwnMap encI Wc (w.heap.size + 1 + 1) [] := by rw [hWc, ← zb]; exact OwnMap.made _ _
  have zc : Wc.heap.size = w.heap.size + 1 + 1 + 1 := by rw [hWc, World.alloc]; simp [zb]
  have Bc : Below Wb.heap.size Wb Wc := by rw [hWc]; exact (by repeat (first | exact Below.refl _ _ | apply below_alloc | apply below_drewN | apply below_drew | (refine below_set2 ?_ ?_; (first | (simp; done) | (simp; omega)))))
  obtain ⟨Wd, hWd⟩ : ∃ Wd, Wd = Wc.alloc (.cells #[.slice A1 ns.length c1, .slice A2 ws.length c2, .slice A3 rs.length c3, .map (some (w.heap.size + 1)), .map (some (w.heap.size + 1 + 1))] 94) := ⟨_, rfl⟩
  have hdo : ∀ o : Nat, Wd.cell? ⟨w.heap.size + 1 + 1 + 1, o, none⟩ = #[.slice A1 ns.length c1, .slice A2 ws.length c2, .slice A3 rs.length c3, .map (some (w.heap.size + 1)), .map (some (w.heap.size + 1 + 1))][o]? := fun o => by rw [hWd, ← zc]; simp only [World.cell?, heap_alloc_new]; rfl
  have zd : Wd.heap.size = w.heap.size + 1 + 1 + 1 + 1 := by rw [hWd, World.alloc]; simp [zc]
  have Bd : Below Wc.heap.size Wc Wd := by rw [hWd]; exact (by repeat (first | exact Below.refl _ _ | apply below_alloc | apply below_drewN | apply below_drew | (refine below_set2 ?_ ?_; (first | (simp; done) | (simp; omega)))))
  have N1 := Lib.hid ((Mb.below Bc).below Bd)
  have N2 := Lib.hid (Mc.below Bd)
  have BB : Below w.heap.size w Wd := (by repeat (first | exact Below.refl _ _ | apply below_alloc | apply below_drewN | apply below_drew | (refine below_set2 ?_ ?_; (first | (simp; done) | (simp; omega))) | (refine below_step ?_ Bd) | (refine below_step ?_ Bc) | (refine below_step ?_ Bb) | (refine below_step ?_ Ba)))
  have BZ : Below Wa.heap.size Wa Wd := (by repeat (first | exact Below.refl _ _ | apply below_alloc | apply below_drewN | apply below_drew | (refine below_set2 ?_ ?_; (first | (simp; done) | (simp; omega))) | (refine below_step ?_ Bd) | (refine below_step ?_ Bc) | (refine below_step ?_ Bb)))
  have hG : Hid (∀ W, KeptS (fun i => i = w.heap.size + 1 ∨ i = w.heap.size + 1 + 1) Wd W →
      W.cell? ⟨w.heap.size, 0, none⟩ = some (.slice A1 ns.length c1) ∧ W.cell? ⟨w.heap.size, 1, none⟩ = some (.slice A2 ws.length c2) ∧ W.cell? ⟨w.heap.size + 1 + 1 + 1, 0, none⟩ = some (.slice A1 ns.length c1) ∧
      W.cell? ⟨w.heap.size + 1 + 1 + 1, 1, none⟩ = some (.slice A2 ws.length c2) ∧ W.cell? ⟨w.heap.size + 1 + 1 + 1, 2, none⟩ = some (.slice A3 rs.length c3) ∧
      W.cell? ⟨w.heap.size + 1 + 1 + 1, 3, none⟩ = some (.map (some (w.heap.size + 1))) ∧ W.cell? ⟨w.heap.size + 1 + 1 + 1, 4, none⟩ = some (.map (some (w.heap.size + 1 + 1))) ∧ Below w.heap.size w W) := fun W hK =>
    ⟨hK.cell (cell_below BZ (hao 0)) (by simp; omega), hK.cell (cell_below BZ (hao 1)) (by simp; omega), hK.cell (hdo 0) (by simp; omega), hK.cell (hdo 1) (by simp; omega), hK.cell (hdo 2) (by simp; omega), hK.cell (hdo 3) (by simp; omega), hK.cell (hdo 4) (by simp; omega),
      below_kept BB hK (fun b hb => by rcases hb with h | h <;> omega)⟩
  have HZ := Lib.hid zd
  have HE : Hid (Wd = (((w.alloc (.cells #[.slice A1 ns.length c1, .slice A2 ws.length c2, .slice A3 rs.length c3] 26)).alloc (.map #[] 0)).alloc (.map #[] 0)).alloc (.cells #[.slice A1 ns.length c1, .slice A2 ws.length c2, .slice A3 rs.length c3, .map (some (w.heap.size + 1)), .map (some (w.heap.size + 1 + 1))] 94)) := by
    show _ = _; rw [hWd, hWc, hWb, hWa]
  clear hWa hWb hWc hWd hao hdo za zb zc zd Ba Bb Bc Bd Mb Mc BB BZ
  go_enter Try.func31, Try.ntmps31
  go_wp2_with fail
  rw [← HE.out]
  clear HE hmx m1
  go_loopw [29] (fun i wr => ∃ k : Nat, k ≤ ns.length ∧ i = .int .i64 k ∧ KeptS (fun i => i = w.heap.size + 1 ∨ i = w.heap.size + 1 + 1) Wd wr ∧ Hid (OwnMap encI wr (w.heap.size + 1) (setM ((ns.map (·.1)).take k))) ∧ Hid (OwnMap encI wr (w.heap.size + 1 + 1) (setM []))) (fun i _ => ns.length - (intOf i).toNat)
  case atStart => exact ⟨0, Nat.zero_le _, rfl, kept_refl _ _, N1.out, N2.out⟩
  case round =>
    obtain ⟨k, hk, rfl, hK, M1, M2⟩ := hrel
    obtain ⟨g0, g1, g2, g3, g4, g5, g6, hb⟩ := hG.out _ hK
    by_cases hlt : k < ns.length
    · obtain ⟨ad, A4, c4, rfl, hc1, hc2, hc3, hc4, hl1, hrt⟩ := (HR1.out.below hb).node_at k hlt
      clear hrt
      obtain ⟨Wp, hWp⟩ : ∃ Wp, Wp = wr.alloc (.cells #[.int .i64 (ndD ns k).1, .int .i64 (ndD ns k).2.1.1, .int .i64 (ndD ns k).2.1.2, .slice A4 (ndD ns k).2.2.length c4] 60) := ⟨_, rfl⟩
      have BP : Below wr.heap.size wr Wp := by rw [hWp]; exact (by repeat (first | exact Below.refl _ _ | apply below_alloc | apply below_drewN | apply below_drew | (refine below_set2 ?_ ?_; (first | (simp; done) | (simp; omega)))))
      have hp0 : Wp.cell? ⟨wr.heap.size, 0, none⟩ = some (.int .i64 (ndD ns k).1) := by rw [hWp]; simp only [World.cell?, heap_alloc_new]; rfl
      have hK' := kept_below hK BP
      obtain ⟨e0, e1, e2, e3, e4, e5, e6, hb'⟩ := hG.out _ hK'
      obtain ⟨w2, hrun, MM, KK, _⟩ := (M1.out.below BP).update keyI (t := 92) (et := 4) (by kernel_rfl) (ndD ns k).1 (.bool true)
      have MM' : Hid (OwnMap encI w2 (w.heap.size + 1) (setM ((ns.map (·.1)).take (k + 1)))) := by
        show OwnMap _ _ _ _
        rw [take_snoc _ _ 0 (by simpa using hlt), setM_snoc, show (ns.map (·.1)).getD k 0 = (ndD ns k).1 by simp [ndD, hlt]]
        exact MM
      have M2' : Hid (OwnMap encI w2 (w.heap.size + 1 + 1) (setM [])) := (M2.out.below BP).kept KK (by omega)
      have KF : Hid (KeptS (fun i => i = w.heap.size + 1 ∨ i = w.heap.size + 1 + 1) Wd w2) := kept_step hK' (kept_mono KK (fun i _ h => .inl h))
      clear MM KK hK'
      subst hWp
      go_wp2
      go_roundw
      case rel => exact ⟨k + 1, by omega, by go_num, KF.out, MM', M2'⟩
      case measure => simp [intOf]; omega
    · obtain rfl : k = ns.length := by omega
      have M3 : Hid (OwnMap encI wr (w.heap.size + 1) (setM (ns.map (·.1)))) := by
        have := M1.out
        rwa [List.take_of_length_le (by simp)] at this
      clear M1
      go_wp2
      go_loopw [41] (fun i wx => ∃ k : Nat, k ≤ ws.length ∧ i = .int .i64 k ∧ KeptS (fun i => i = w.heap.size + 1 ∨ i = w.heap.size + 1 + 1) Wd wx ∧ Hid (OwnMap encI wx (w.heap.size + 1) (setM (ns.map (·.1)))) ∧ Hid (OwnMap encI wx (w.heap.size + 1 + 1) (setM ((ws.map (·.1)).take k)))) (fun i _ => ws.length - (intOf i).toNat)
      case atStart => exact ⟨0, Nat.zero_le _, rfl, hK, M3, M2.out⟩
      case round =>
        clear hK g0 g1 g2 g3 g4 g5 g6 hb M2 M3
        obtain ⟨k, hk, rfl, hK, M3, M2⟩ := hrel
        obtain ⟨g0, g1, g2, g3, g4, g5, g6, hb⟩ := hG.out _ hK
        by_cases hlt : k < ws.length
        · obtain ⟨ad, A4, c4, A5, c5, rfl, hc1, hc2, hc3, _, _, _, _⟩ := (HR2.out.below hb).way_at k hlt
          obtain ⟨Wp, hWp⟩ : ∃ Wp, Wp = wr.alloc (.cells #[.int .i64 (wyD ws k).1, .slice A4 (wyD ws k).2.1.length c4, .slice A5 (wyD ws k).2.2.length c5] 50) := ⟨_, rfl⟩
          have BP : Below wr.heap.size wr Wp := by rw [hWp]; exact (by repeat (first | exact Below.refl _ _ | apply below_alloc | apply below_drewN | apply below_drew | (refine below_set2 ?_ ?_; (first | (simp; done) | (simp; omega)))))
          have hp0 : Wp.cell? ⟨wr.heap.size, 0, none⟩ = some (.int .i64 (wyD ws k).1) := by rw [hWp]; simp only [World.cell?, heap_alloc_new]; rfl
          have hK' := kept_below hK BP
          obtain ⟨e0, e1, e2, e3, e4, e5, e6, hb'⟩ := hG.out _ hK'
          obtain ⟨w2, hrun, MM, KK, _⟩ := (M2.out.below BP).update keyI (t := 92) (et := 4) (by kernel_rfl) (wyD ws k).1 (.bool true)
          have MM' : Hid (OwnMap encI w2 (w.heap.size + 1 + 1) (setM ((ws.map (·.1)).take (k + 1)))) := by
            show OwnMap _ _ _ _
            rw [take_snoc _ _ 0 (by simpa using hlt), setM_snoc, show (ws.map (·.1)).getD k 0 = (wyD ws k).1 by simp [wyD, hlt]]
            exact MM
          have M2' : Hid (OwnMap encI w2 (w.heap.size + 1) (setM (ns.map (·.1)))) := (M3.out.below BP).kept KK (by omega)
          have KF : Hid (KeptS (fun i => i = w.heap.size + 1 ∨ i = w.heap.size + 1 + 1) Wd w2) := kept_step hK' (kept_mono KK (fun i _ h => .inr h))
          clear MM KK hK'
          subst hWp
          go_wp2
          go_roundw
          case rel => exact ⟨k + 1, by omega, by go_num, KF.out, M2', MM'⟩
          case measure => simp [intOf]; omega
        · obtain rfl : k = ws.length := by omega
          have M4 : Hid (OwnMap encI wr (w.heap.size + 1 + 1) (setM (ws.map (·.1)))) := by
            have := M2.out
            rwa [List.take_of_length_le (by simp)] at this
          clear M2
          have hK1 := enters_num Try.func47 (by kernel_rfl) rfl
          have hK2 := enters_num Try.func48 (by kernel_rfl) rfl
          have hK3 := enters_num Try.func49 (by kernel_rfl) rfl
          unfold EntersP at hK1 hK2 hK3
          obtain ⟨WL, hWL⟩ : ∃ WL, WL = wr.alloc (.cells #[.func (.func 47) #[] #[], .func (.func 48) #[] #[], .func (.func 49) #[] #[]] 95) := ⟨_, rfl⟩
          have BL : Below wr.heap.size wr WL := by rw [hWL]; exact (by repeat (first | exact Below.refl _ _ | apply below_alloc | apply below_drewN | apply below_drew | (refine below_set2 ?_ ?_; (first | (simp; done) | (simp; omega)))))
          have hlo : ∀ o : Nat, WL.cell? ⟨wr.heap.size, o, none⟩ = #[.func (.func 47) #[] #[], .func (.func 48) #[] #[], .func (.func 49) #[] #[]][o]? := fun o => by rw [hWL]; simp only [World.cell?, heap_alloc_new]; rfl
          have l0 := hlo 0
          have l1 := hlo 1
          have l2 := hlo 2
          simp only [Array.getElem?_eq_getElem, List.size_toArray, List.length_cons, List.length_nil, Nat.zero_add, Nat.reduceAdd, Nat.lt_add_one, List.getElem_toArray, List.getElem_cons_zero, List.getElem_cons_succ, Nat.reduceLT] at l0 l1 l2
          have hKL := kept_below hK BL
          obtain ⟨f0, f1, f2, f3, f4, f5, f6, hbL⟩ := hG.out _ hKL
          clear g0 g1 g2 g3 g4 g5 g6 hlo
          go_wp2
          rw [← hWL]
          clear hWL
          refine wp_loop_rounds 4 ?_
          rw [rounds_succ]
          go_wp2_with fail
          refine (checkNodes ns A1 _ c1 _ _ _ _ WL (HR1.out.below hbL) rfl (by omega) rfl rfl rfl rfl).mono ?_
          rintro e w1 ⟨rfl, hb1⟩
          have kK1 := Lib.hid (kept_below hKL hb1)
          obtain ⟨x0, x1, x2, x3, x4, x5, x6, xb⟩ := hG.out _ kK1.out
          have n1 := cell_below hb1 l1
          have n2 := cell_below hb1 l2
          clear f0 f1 f2 f3 f4 f5 f6 l0 l1 l2
          obtain ⟨z, hz⟩ : ∃ z, z = nodesErr ns := ⟨_, rfl⟩
          rw [← hz]
          by_cases h0 : z = 0
          · subst h0
            have HZ1 := Lib.hid hz.symm
            clear hz
            go_wp2
            rw [rounds_succ]
            go_wp2_with fail
            refine (checkWays (ns.map (·.1)) ws A2 _ c2 _ _ _ _ w1 (HR2.out.below xb) rfl (by omega) ((M3.out.below BL).below hb1) rfl rfl rfl).mono ?_
            rintro e w2 ⟨rfl, hb2⟩
            have kK2 := Lib.hid (kept_below kK1.out hb2)
            obtain ⟨y0, y1, y2, y3, y4, y5, y6, yb⟩ := hG.out _ kK2.out
            have o2 := cell_below hb2 n2
            clear x0 x1 x2 x3 x4 x5 x6 n1 n2
            obtain ⟨z, hz⟩ : ∃ z, z = waysErr (ns.map (·.1)) ws := ⟨_, rfl⟩
            rw [← hz]
            by_cases h0 : z = 0
            · subst h0
              have HZ2 := Lib.hid hz.symm
              clear hz
              go_wp2
              rw [rounds_succ]
              go_wp2_with fail
              refine (checkRels (ns.map (·.1)) (ws.map (·.1)) rs A3 _ c3 _ _ _ _ w2 (HR3.out.below yb) rfl (by omega) (((M3.out.below BL).below hb1).below hb2) (((M4.out.below BL).below hb1).below hb2) rfl rfl).mono ?_
              rintro e w3 ⟨rfl, hb3⟩
              clear y0 y1 y2 y3 y4 y5 y6 o2
              obtain ⟨z, hz⟩ : ∃ z, z = relsErr (ns.map (·.1)) (ws.map (·.1)) rs := ⟨_, rfl⟩
              have HO : Hid (z = objErr ns ws rs) := by show _ = _; rw [objErr, HZ1.out, HZ2.out, hz]; simp
              rw [← hz]
              clear hz
              by_cases h0 : z = 0
              · subst h0
                go_wp2
                rw [rounds_succ]
                go_wp2
                go_ret
                exact ⟨ret_int HO.out, (by repeat (first | exact Below.refl _ _ | apply below_alloc | apply below_drewN | apply below_drew | (refine below_set2 ?_ ?_; (first | (simp; done) | (simp; omega))) | (refine below_step ?_ hb3) | (refine below_step ?_ yb)))⟩
              · have q5 : (z != 0) = true := by simp [h0]
                clear h0
                go_wp2
                go_ret
                exact ⟨ret_int HO.out, (by repeat (first | exact Below.refl _ _ | apply below_alloc | apply below_drewN | apply below_drew | (refine below_set2 ?_ ?_; (first | (simp; done) | (simp; omega))) | (refine below_step ?_ hb3) | (refine below_step ?_ yb)))⟩
            · have q5 : (z != 0) = true := by simp [h0]
              have HO : Hid (z = objErr ns ws rs) := by show _ = _; rw [objErr, HZ1.out, ← hz]; simp [h0]
              clear h0 hz
              go_wp2
              go_ret
              exact ⟨ret_int HO.out, (by repeat (first | exact Below.refl _ _ | apply below_alloc | apply below_drewN | apply below_drew | (refine below_set2 ?_ ?_; (first | (simp; done) | (simp; omega))) | (refine below_step ?_ hb2) | (refine below_step ?_ xb)))⟩
          · have q5 : (z != 0) = true := by simp [h0]
            have HO : Hid (z = objErr ns ws rs) := by show _ = _; rw [objErr, ← hz]; simp [h0]
            clear h0 hz
            go_wp2
            go_ret
            exact ⟨ret_int HO.out, (by repeat (first | exact Below.refl _ _ | apply below_alloc | apply below_drewN | apply below_drew | (refine below_set2 ?_ ?_; (first | (simp; done) | (simp; omega))) | (refine below_step ?_ hb1) | (refine below_step ?_ hbL)))⟩
end Go.Proofs.Ytniceoinipffmaa
