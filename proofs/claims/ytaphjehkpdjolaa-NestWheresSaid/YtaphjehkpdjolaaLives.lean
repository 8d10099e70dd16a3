/- Contracts of law22.square and law22.lives: the chapter's example holds. -/
import Derived.Test.YtaphjehkpdjolaaPolyO
import Derived.Test.YtaphjehkpdjolaaSums
namespace Go.Proofs.Ytaphjehkpdjolaa
open Go.RowKit Go.Proofs.YtaphjehkpdjolaaW.PrintLast
set_option linter.unusedVariables false
set_option linter.unusedSimpArgs false

def sqR (a s : Int) (hole : Bool) : Pts := if hole then [(a, a), (a, a + s), (a + s, a + s), (a + s, a)] else [(a, a), (a + s, a), (a + s, a + s), (a, a + s)]

theorem Row.pt_lit2 {w : World} {g : Nat} {cs : Array Value} {xs : Pts} {t : TypeId} (hg : g = w.heap.size) (hcs : cs = (xs.flatMap fun x => [Value.int .i64 x.1, .int .i64 x.2]).toArray) (hl : xs.length ≤ 9223372036854775807) : Row Ty.pt (fun k => k = g) (w.alloc (.cells cs t)) (some ⟨g, 0, none⟩) xs := by
  subst hg hcs
  exact Row.pt_lit _ xs t _ rfl hl
set_option maxHeartbeats 1000000 in
theorem law22_square (a s : Int) (hole : Bool) (w : World) (ha : 0 ≤ a) (ha2 : a ≤ 1000) (hs : 0 ≤ s) (hs2 : s ≤ 1000) :
    Calls Try.prog 24 #[.int .i64 a, .int .i64 s, .bool hole] w fun e w' => ∃ g, e = .returned (.slice (some ⟨g, 0, none⟩) 4 4) ∧ Row Ty.pt (fun k => k = g) w' (some ⟨g, 0, none⟩) (sqR a s hole) ∧ Below w.heap.size w w' := by
  have hw : IntKind.i64.wrap (a + s) = a + s := IntWalk.i64_in _ (by omega)
  cases hole
  · go_enter Try.func24, Try.ntmps24
    go_wp2
    go_ret
    exact ⟨_, rfl, Row.pt_lit2 (by simp) (by simp [sqR]) (by simp [sqR]), (by repeat (first | exact Below.refl _ _ | apply below_alloc | apply below_drewN | apply below_drew | (refine below_set2 ?_ ?_; (first | (simp; done) | (simp; omega)))))⟩
  · go_enter Try.func24, Try.ntmps24
    go_wp2
    go_ret
    exact ⟨_, rfl, Row.pt_lit2 (by simp) (by simp [sqR]) (by simp [sqR]), (by repeat (first | exact Below.refl _ _ | apply below_alloc | apply below_drewN | apply below_drew | (refine below_set2 ?_ ?_; (first | (simp; done) | (simp; omega)))))⟩

theorem polys3 : polysR [sqR 0 9 false, sqR 2 5 true, sqR 3 2 false] = ([(sqR 0 9 false, [sqR 2 5 true]), (sqR 3 2 false, [])], 0) := by decide +kernel
def live3 : List Poly := [(sqR 0 9 false, [sqR 2 5 true]), (sqR 3 2 false, [])]
theorem live_few : fewB live3 = true := by decide +kernel
theorem live_44 : whereR (allR live3) (4, 4) = 2 := by decide +kernel
theorem live_66 : whereR (allR live3) (6, 6) = 0 := by decide +kernel
theorem live_23 : whereR (allR live3) (2, 3) = 1 := by decide +kernel
theorem live_sum : sumR (allR live3) = 120 := by decide +kernel
theorem live_n : (allR live3).length = 3 := by decide +kernel
theorem few3 : FewB [sqR 0 9 false, sqR 2 5 true, sqR 3 2 false] = true := by decide +kernel
theorem Row.rings_lit (w : World) {ok : Nat → Prop} {xs : Rings} {cs : List Value} (t : TypeId) (hg : ok w.heap.size) (hl : xs.length ≤ 9223372036854775807) (h : Reps Ty.ring ok w xs cs) : Row Ty.ring ok (w.alloc (.cells cs.toArray t)) (some ⟨w.heap.size, 0, none⟩) xs := by
  refine Row.of_reps hl hg (h.imp (fun x c hc => Ty.ring.below hc (below_alloc (Below.refl _ _) _))) (fun j u hu => ?_)
  simp only [World.cell?, heap_alloc_new]
  simpa using hu

set_option maxHeartbeats 4000000 in
theorem law22_lives (w : World) : Calls Try.prog 9 #[] w fun e w' => e = .returned (.bool true) ∧ Below w.heap.size w w' := by
  go_enter Try.func9, Try.ntmps9
  go_wp2_with fail
  refine (law22_square 0 9 false _ (by decide) (by decide) (by decide) (by decide)).mono ?_
  rintro e w1 ⟨g1, rfl, hr1, hb1⟩
  go_wp2_with fail
  refine (law22_square 2 5 true _ (by decide) (by decide) (by decide) (by decide)).mono ?_
  rintro e w2 ⟨g2, rfl, hr2, hb2⟩
  go_wp2_with fail
  refine (law22_square 3 2 false _ (by decide) (by decide) (by decide) (by decide)).mono ?_
  rintro e w3 ⟨g3, rfl, hr3, hb3⟩
  have HR : Hid (Row Ty.ring (fun _ => True) (w3.alloc (.cells #[.slice (some ⟨g1, 0, none⟩) 4 4, .slice (some ⟨g2, 0, none⟩) 4 4, .slice (some ⟨g3, 0, none⟩) 4 4] 32)) (some ⟨w3.heap.size, 0, none⟩) [sqR 0 9 false, sqR 2 5 true, sqR 3 2 false]) := by
    refine Row.rings_lit w3 (cs := [.slice (some ⟨g1, 0, none⟩) 4 4, .slice (some ⟨g2, 0, none⟩) 4 4, .slice (some ⟨g3, 0, none⟩) 4 4]) _ trivial (by simp) ?_
    refine ⟨[_], [_, _], rfl, ⟨_, _, rfl, Nat.le_refl _, ((hr1.below hb2).below hb3).mono (fun _ _ => trivial)⟩, [_], [_], rfl, ⟨_, _, rfl, Nat.le_refl _, (hr2.below hb3).mono (fun _ _ => trivial)⟩, [_], [], rfl, ⟨_, _, rfl, Nat.le_refl _, hr3.mono (fun _ _ => trivial)⟩, rfl⟩
  have B3 : Below w.heap.size w w3 := (by repeat (first | exact Below.refl _ _ | apply below_alloc | apply below_drewN | apply below_drew | (refine below_set2 ?_ ?_; (first | (simp; done) | (simp; omega))) | (refine below_step ?_ hb3) | (refine below_step ?_ hb2) | (refine below_step ?_ hb1)))
  clear hr1 hr2 hr3
  go_wp2_with fail
  have HPC : Calls Try.prog 10 #[.slice (some ⟨w3.heap.size, 0, none⟩) 3 3] (w3.alloc (.cells #[.slice (some ⟨g1, 0, none⟩) 4 4, .slice (some ⟨g2, 0, none⟩) 4 4, .slice (some ⟨g3, 0, none⟩) 4 4] 32)) fun e w' => ∃ A c, e = .returned (.tuple #[.slice A 2 c, .int .i64 0]) ∧ Row Ty.poly (fun _ => True) w' A live3 ∧ Below w3.heap.size w3 w' := by
    refine (nest_Polygons _ _ _ _ _ HR.out rfl few3).mono ?_
    rintro e w' ⟨A, c, rfl, hr, hb⟩
    rw [polys3] at hr ⊢
    exact ⟨A, c, rfl, hr, below_step (below_alloc (Below.refl _ _) _) hb⟩
  refine HPC.mono ?_
  rintro e w4 ⟨A, c, rfl, hr, hb4⟩
  have B4 : Below w.heap.size w w4 := (by repeat (first | exact Below.refl _ _ | apply below_alloc | apply below_drewN | apply below_drew | (refine below_set2 ?_ ?_; (first | (simp; done) | (simp; omega))) | (refine below_step ?_ hb4) | (refine below_step ?_ B3)))
  have R4 := Lib.hid hr
  obtain ⟨ad, A0, c0, A1, c1, rfl, hc1, hc2, _, _, _, _⟩ := R4.out.poly_at 0 (by decide)
  obtain ⟨ad', A0', c0', A1', c1', e', hd1, hd2, _, _, _, _⟩ := R4.out.poly_at 1 (by decide)
  cases e'
  have k1 : w4.cell? ⟨ad.block, ad.off + 1, none⟩ = some (.slice A1 1 c1) := hc2
  have k2 : w4.cell? ⟨ad.block, ad.off + 2 + 1, none⟩ = some (.slice A1' 0 c1') := hd2
  clear hr HPC hb1 hb2 hb3 HR hc1 hd1 hb4 hc2 hd2
  go_wp2_with fail
  refine (nest_Where stableAt_19 live3 _ _ _ 4 4 _ R4.out rfl live_few (by rw [live_n]; decide)).mono ?_
  rintro e w5 ⟨rfl, hb5⟩
  rw [live_44]
  have R5 := Lib.hid (R4.out.below hb5)
  go_wp2_with fail
  refine (nest_Where stableAt_19 live3 _ _ _ 6 6 _ R5.out rfl live_few (by rw [live_n]; decide)).mono ?_
  rintro e w6 ⟨rfl, hb6⟩
  rw [live_66]
  have R6 := Lib.hid (R5.out.below hb6)
  go_wp2_with fail
  refine (nest_Where stableAt_19 live3 _ _ _ 2 3 _ R6.out rfl live_few (by rw [live_n]; decide)).mono ?_
  rintro e w7 ⟨rfl, hb7⟩
  rw [live_23]
  have R7 := Lib.hid (R6.out.below hb7)
  go_wp2_with fail
  refine (nest_Area2 stableAt_19 live3 _ _ _ _ R7.out rfl live_few (by rw [live_n]; decide)).mono ?_
  rintro e w8 ⟨rfl, hb8⟩
  rw [live_sum]
  have R8 := Lib.hid (R7.out.below hb8)
  go_wp2_with fail
  refine (nest_Rings stableAt_19 live3 _ _ _ _ R8.out rfl live_few (by rw [live_n]; decide)).mono ?_
  rintro e w9 ⟨v, ys, rfl, ho, hp, _, hb9⟩
  obtain ⟨A', c', rfl, _, _⟩ := ho.reads
  rw [hp.length_eq, live_n]
  clear ho hp
  go_wp2
  go_ret
  exact ⟨rfl, (by repeat (first | exact Below.refl _ _ | apply below_alloc | apply below_drewN | apply below_drew | (refine below_set2 ?_ ?_; (first | (simp; done) | (simp; omega))) | (refine below_step ?_ hb9) | (refine below_step ?_ hb8) | (refine below_step ?_ hb7) | (refine below_step ?_ hb6) | (refine below_step ?_ hb5) | (refine below_step ?_ B4)))⟩
end Go.Proofs.Ytaphjehkpdjolaa
