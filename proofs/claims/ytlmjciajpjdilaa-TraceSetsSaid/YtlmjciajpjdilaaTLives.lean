/- Contract of law21.lives: the chapter's example holds. -/
import Derived.Test.YtlmjciajpjdilaaTSmall
import Derived.Test.YtlmjciajpjdilaaTWhere
namespace Go.Proofs.Ytlmjciajpjdilaa
open Go.RowKit Go.Proofs.YtlmjciajpjdilaaW.PrintLast
set_option linter.unusedVariables false
set_option linter.unusedSimpArgs false

theorem Row.rings_lit (w : World) {ok : Nat → Prop} {xs : Rgs} {cs : List Value} (t : TypeId) (hg : ok w.heap.size) (hl : xs.length ≤ 9223372036854775807) (h : Reps Ty.ring ok w xs cs) : Row Ty.ring ok (w.alloc (.cells cs.toArray t)) (some ⟨w.heap.size, 0, none⟩) xs := by
  refine Row.of_reps hl hg (h.imp (fun x c hc => Ty.ring.below hc (below_alloc (Below.refl _ _) _))) (fun j u hu => ?_)
  simp only [World.cell?, heap_alloc_new]
  simpa using hu
set_option maxRecDepth 100000 in
set_option maxHeartbeats 4000000 in
theorem law21_lives (w : World) : Calls Try.prog 4 #[] w fun e w' => e = .returned (.bool true) ∧ Below w.heap.size w w' := by
  go_enter Try.func4, Try.ntmps4
  go_wp2_with fail
  refine (law21_square 0 0 9 _ (by decide) (by decide) (by decide) (by decide) (by decide) (by decide)).mono ?_
  rintro e w1 ⟨g1, rfl, ho1, hb1⟩
  have hg1 := ho1.lt g1 rfl
  go_wp2_with fail
  refine (law21_square 3 3 2 _ (by decide) (by decide) (by decide) (by decide) (by decide) (by decide)).mono ?_
  rintro e w2 ⟨g2, rfl, ho2, hb2⟩
  have hg2 := ho2.lt g2 rfl
  have HO1 := Lib.hid (ho1.below hb2)
  have HR2 : Hid (Row Ty.sg (fun k => ¬ (Value.slice (some ⟨g1, 0, none⟩) 4 4).ownBlock = some k) w2 (some ⟨g2, 0, none⟩) (sqS 3 3 2)) := by
    obtain ⟨A, c, e, _, hr⟩ := Own1.row_ok sg_flat ho2 (fun k => ¬ (Value.slice (some ⟨g1, 0, none⟩) 4 4).ownBlock = some k) (fun b e h => by simp [Value.ownBlock] at e h; omega)
    injection e with e1 e2 e3
    subst e1; exact hr
  have HB2 : Hid (Below w.heap.size w w2) := (by repeat (first | exact Below.refl _ _ | apply below_alloc | apply below_drewN | apply below_drew | (refine below_set2 ?_ ?_; (first | (simp; done) | (simp; omega))) | (refine below_step ?_ hb2) | (refine below_step ?_ hb1)))
  clear ho1 ho2 hb1 hb2
  go_wp2_with (at_builtin; refine app_row Ty.sg (W := w2) w.heap.size rfl _ _ 22 27 _ 32 rfl Try.underlying22 infoSg rfl (by decide) (.slice (some ⟨g1, 0, none⟩) 4 4) (sqS 0 0 9) (sqS 3 3 2) (some ⟨g2, 0, none⟩) 4 4 _ rfl rfl rfl HR2.out HO1.out HB2.out.size (by decide) ?_; intro v1 w3 HO3 hgr hat)
  have HB3 : Hid (Below w.heap.size w w3) := below_own HB2.out hgr (fun k e => by simp [Value.ownBlock] at e; omega)
  obtain ⟨A3, c3, rfl, hl3, hr3, _⟩ := HO3.reads
  have HR3 : Hid (Row Ty.sg (fun _ => True) w3 A3 exS) := Row.mono hr3 (fun _ _ => trivial)
  obtain ⟨ad, rfl, k0, k1, k2, k3⟩ := HR3.out.sg_at 0 (by decide)
  clear HO1 HR2 HO3 hr3 hgr hat
  simp only [show (sqS 0 0 9 ++ sqS 3 3 2).length = 8 from rfl]
  have HC : Calls Try.prog 5 #[.slice (some ad) 8 c3] w3 fun e w' => ∃ v, e = .returned (.tuple #[v, .int .i64 0]) ∧ Own1 Ty.ring 36 w3.heap.size w' v [[(0, 0), (9, 0), (9, 9), (0, 9)], [(3, 3), (3, 5), (5, 5), (5, 3)]] ∧ Below w3.heap.size w3 w' := by
    have := trace_Rings exS (some ad) 8 c3 w3 HR3.out rfl (by decide)
    rw [ex_check, ex_rings] at this
    exact this
  have HCH := Lib.hid HC
  clear HC
  go_wp2_with fail
  refine Calls.mono HCH.out ?_
  rintro e w4 ⟨v4, rfl, ho4, hb4⟩
  obtain ⟨A4, c4, rfl, hl4, hr4⟩ := ho4.reads
  have HRR := Lib.hid hr4
  have HB4 := Lib.hid hb4
  clear ho4 hr4 HCH hb4
  have HB5 := Lib.hid (below_step HB3.out HB4.out)
  have HS4 := Lib.hid (HR3.out.below HB4.out)
  simp only [show [[((0 : Int), (0 : Int)), (9, 0), (9, 9), (0, 9)], [(3, 3), (3, 5), (5, 5), (5, 3)]].length = 2 from rfl]
  have HW : Hid (Row Ty.ring (fun _ => True) (((w4.alloc (.cells #[.int .i64 0, .int .i64 0, .int .i64 9, .int .i64 0, .int .i64 9, .int .i64 9, .int .i64 0, .int .i64 9] 25)).alloc (.cells #[.int .i64 3, .int .i64 3, .int .i64 3, .int .i64 5, .int .i64 5, .int .i64 5, .int .i64 5, .int .i64 3] 25)).alloc
      (.cells #[.slice (some ⟨w4.heap.size, 0, none⟩) 4 4, .slice (some ⟨w4.heap.size + 1, 0, none⟩) 4 4] 36)) (some ⟨w4.heap.size + 1 + 1, 0, none⟩) [[(0, 0), (9, 0), (9, 9), (0, 9)], [(3, 3), (3, 5), (5, 5), (5, 3)]]) := by
    have h1 := Row.pt_lit w4 [(0, 0), (9, 0), (9, 9), (0, 9)] 25 (fun _ => True) trivial (by decide)
    have h2 := Row.pt_lit (w4.alloc (.cells #[.int .i64 0, .int .i64 0, .int .i64 9, .int .i64 0, .int .i64 9, .int .i64 9, .int .i64 0, .int .i64 9] 25)) [(3, 3), (3, 5), (5, 5), (5, 3)] 25 (fun _ => True) trivial (by decide)
    have h3 := Row.rings_lit ((w4.alloc (.cells #[.int .i64 0, .int .i64 0, .int .i64 9, .int .i64 0, .int .i64 9, .int .i64 9, .int .i64 0, .int .i64 9] 25)).alloc (.cells #[.int .i64 3, .int .i64 3, .int .i64 3, .int .i64 5, .int .i64 5, .int .i64 5, .int .i64 5, .int .i64 3] 25))
      (ok := fun _ => True) (xs := [[(0, 0), (9, 0), (9, 9), (0, 9)], [(3, 3), (3, 5), (5, 5), (5, 3)]]) (cs := [.slice (some ⟨w4.heap.size, 0, none⟩) 4 4, .slice (some ⟨w4.heap.size + 1, 0, none⟩) 4 4]) 36 trivial (by decide)
      ⟨[_], _, rfl, ⟨_, _, rfl, Nat.le_refl _, h1.below (below_alloc (Below.refl _ _) _)⟩, [_], _, rfl, ⟨_, _, rfl, Nat.le_refl _, (by simpa using h2)⟩, rfl⟩
    exact Lib.hid (by simpa using h3)
  go_wp2_with fail
  refine (ref21_Same _ _ _ _ _ _ _ _ _ (((HRR.out.alloc _).alloc _).alloc _) HW.out rfl rfl).mono ?_
  rintro e w5 ⟨rfl, hb5⟩
  have HB6 : Hid (Below w4.heap.size w4 w5) := (by repeat (first | exact Below.refl _ _ | apply below_alloc | apply below_drewN | apply below_drew | (refine below_set2 ?_ ?_; (first | (simp; done) | (simp; omega))) | (refine below_step ?_ hb5)))
  have HS5 := Lib.hid (HS4.out.below HB6.out)
  obtain ⟨cb5, fb5⟩ := bcell HB6.out
  have z5 := HB6.out.size
  clear hb5 HW
  simp only [decide_true]
  have HCN := Lib.hid (fun W => trace_Check (ok := fun _ => True) [] none 0 0 W (Row.nil _ _ _ _) rfl (by decide))
  rw [nil_check] at HCN
  go_wp2_with fail
  refine (HCN.out _).mono ?_
  rintro e w6 ⟨rfl, hb6⟩
  have HS6 := Lib.hid (HS5.out.below hb6)
  have HB7 := Lib.hid (below_step HB6.out hb6)
  obtain ⟨cb6, fb6⟩ := bcell hb6
  have z6 := hb6.size
  clear hb6 HCN
  go_wp2_with fail
  refine (trace_Where exS _ _ _ (1, 1) _ HS6.out rfl (by decide)).mono ?_
  rintro e w7 ⟨rfl, hb7⟩
  rw [ex_in]
  have HS7 := Lib.hid (HS6.out.below hb7)
  have HB8 := Lib.hid (below_step HB7.out hb7)
  clear hb7
  go_wp2_with fail
  refine (trace_Where exS _ _ _ (4, 4) _ HS7.out rfl (by decide)).mono ?_
  rintro e w8 ⟨rfl, hb8⟩
  rw [ex_out]
  have HS8 := Lib.hid (HS7.out.below hb8)
  have HB9 := Lib.hid (below_step HB8.out hb8)
  clear hb8
  obtain ⟨ad', e', m0, m1, m2, m3⟩ := HS8.out.sg_at 0 (by decide)
  cases e'
  simp only [show sgD exS 0 = ((0, 0), (9, 0)) from rfl] at m0 m1 m2 m3
  have n0 : w8.cell? ad = some (.int .i64 0) := m0
  have n1 : w8.cell? ⟨ad.block, ad.off + 1, none⟩ = some (.int .i64 0) := m1
  have n2 : w8.cell? ⟨ad.block, ad.off + 2, none⟩ = some (.int .i64 9) := m2
  have n3 : w8.cell? ⟨ad.block, ad.off + 3, none⟩ = some (.int .i64 0) := m3
  clear k0 k1 k2 k3 m0 m1 m2 m3
  go_wp2_with fail
  refine (trace_LeftInside exS _ _ _ ((0, 0), (9, 0)) _ HS8.out rfl (by decide)).mono ?_
  rintro e w9 ⟨rfl, hb9⟩
  rw [ex_left]
  have HB10 := Lib.hid (below_step HB9.out hb9)
  clear hb9
  go_wp2
  go_ret
  exact ⟨rfl, below_step HB5.out HB10.out⟩
end Go.Proofs.Ytlmjciajpjdilaa
