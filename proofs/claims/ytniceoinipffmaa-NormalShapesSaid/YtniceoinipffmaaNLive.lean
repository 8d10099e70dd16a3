/- Contracts of grid.Valid, grid.Center and law19.lives: the chapter's example holds. -/
import Derived.Test.YtniceoinipffmaaNMerg
import Derived.Test.YtniceoinipffmaaNLines
namespace Go.Proofs.Ytniceoinipffmaa
open Go.RowKit Go.Proofs.YtniceoinipffmaaW.PrintLast
set_option linter.unusedVariables false
set_option linter.unusedSimpArgs false

theorem grid_Valid (x y : Int) (w : World) (h : 0 ≤ x ∧ x < 32768 ∧ 0 ≤ y ∧ y < 32768) : Calls Try.prog 45 #[.agg #[.int .i64 x, .int .i64 y]] w fun e w' => e = .returned (.bool true) ∧ Below w.heap.size w w' := by
  have q1 : decide (x ≥ 0) = true := decide_eq_true (by omega)
  have q2 : decide (x < 32768) = true := decide_eq_true (by omega)
  have q3 : decide (y ≥ 0) = true := decide_eq_true (by omega)
  have q4 : decide (y < 32768) = true := decide_eq_true (by omega)
  have q5 : decide (0 ≤ x) = true := decide_eq_true (by omega)
  have q6 : decide (0 ≤ y) = true := decide_eq_true (by omega)
  go_enter Try.func45, Try.ntmps45
  go_wp2
  go_ret
  exact ⟨rfl, (by repeat (first | exact Below.refl _ _ | apply below_alloc | apply below_drewN | apply below_drew | (refine below_set2 ?_ ?_; (first | (simp; done) | (simp; omega)))))⟩
set_option maxRecDepth 100000 in
theorem grid_Center (x y : Int) (w : World) (h : 0 ≤ x ∧ x < 32768 ∧ 0 ≤ y ∧ y < 32768) :
    Calls Try.prog 29 #[.agg #[.int .i64 x, .int .i64 y]] w fun e w' => e = .returned (.tuple #[.agg #[.int .i64 ((2 * x + 1) * 1800000000 / 32768 - 1800000000), .int .i64 (900000000 - (2 * y + 1) * 900000000 / 32768)], .int .i64 0]) ∧ Below w.heap.size w w' := by
  have qw1 : IntKind.i64.wrap (2 * x) = 2 * x := IntWalk.i64_in _ (by omega)
  have qw2 : IntKind.i64.wrap (2 * x + 1) = 2 * x + 1 := IntWalk.i64_in _ (by omega)
  have qw3 : IntKind.i64.wrap ((2 * x + 1) * 1800000000) = (2 * x + 1) * 1800000000 := IntWalk.i64_in _ (by omega)
  have qw4 : IntKind.i64.wrap ((2 * x + 1) * 1800000000 / 32768 - 1800000000) = (2 * x + 1) * 1800000000 / 32768 - 1800000000 := IntWalk.i64_in _ (by omega)
  have qv1 : IntKind.i64.wrap (2 * y) = 2 * y := IntWalk.i64_in _ (by omega)
  have qv2 : IntKind.i64.wrap (2 * y + 1) = 2 * y + 1 := IntWalk.i64_in _ (by omega)
  have qv3 : IntKind.i64.wrap ((2 * y + 1) * 900000000) = (2 * y + 1) * 900000000 := IntWalk.i64_in _ (by omega)
  have qv4 : IntKind.i64.wrap (900000000 - (2 * y + 1) * 900000000 / 32768) = 900000000 - (2 * y + 1) * 900000000 / 32768 := IntWalk.i64_in _ (by omega)
  obtain ⟨Wa, hWa⟩ : ∃ Wa, Wa = w.alloc (.cells #[.int .i64 x, .int .i64 y] 44) := ⟨_, rfl⟩
  have za : Wa.heap.size = w.heap.size + 1 := by rw [hWa]; simp
  have Ba : Below w.heap.size w Wa := by rw [hWa]; exact (by repeat (first | exact Below.refl _ _ | apply below_alloc | apply below_drewN | apply below_drew | (refine below_set2 ?_ ?_; (first | (simp; done) | (simp; omega)))))
  have ha0 : Wa.cell? ⟨w.heap.size, 0, none⟩ = some (.int .i64 x) := by rw [hWa]; simp only [World.cell?, heap_alloc_new]; rfl
  have ha1 : Wa.cell? ⟨w.heap.size, 1, none⟩ = some (.int .i64 y) := by rw [hWa]; simp only [World.cell?, heap_alloc_new]; rfl
  obtain ⟨W0, hW0⟩ : ∃ W0, W0 = Wa.alloc (.cells #[.int .i64 0, .int .i64 0] 58) := ⟨_, rfl⟩
  have Bb : Below Wa.heap.size Wa W0 := by rw [hW0]; exact (by repeat (first | exact Below.refl _ _ | apply below_alloc | apply below_drewN | apply below_drew | (refine below_set2 ?_ ?_; (first | (simp; done) | (simp; omega)))))
  have hbk : W0.heap[w.heap.size + 1]? = some (.cells #[.int .i64 0, .int .i64 0] 58 (0, 0)) := by rw [hW0, ← za]; exact heap_alloc_new _ _
  have B0 : Below w.heap.size w W0 := (by repeat (first | exact Below.refl _ _ | apply below_alloc | apply below_drewN | apply below_drew | (refine below_set2 ?_ ?_; (first | (simp; done) | (simp; omega))) | (refine below_step ?_ Bb) | (refine below_step ?_ Ba)))
  have x0 := cell_below Bb ha0
  have x1 := cell_below Bb ha1
  rw [hWa] at hW0
  clear hWa za Ba Bb ha0 ha1
  go_enter Try.func29, Try.ntmps29
  go_wp2_with fail
  rw [← hW0]
  clear hW0
  go_wp2_with fail
  refine (grid_Valid x y _ h).mono ?_
  rintro e w1 ⟨rfl, hb1⟩
  have e0 := cell_below hb1 x0
  have e1 := cell_below hb1 x1
  clear x0 x1
  go_wp2_with fail
  refine (num_FloorDiv ((2 * x + 1) * 1800000000) 32768 _ (by omega) (by decide) (by omega)).mono ?_
  rintro e w2 ⟨rfl, hb2⟩
  have g1 := cell_below hb2 e1
  clear e0 e1
  go_wp2_with fail
  refine (num_FloorDiv ((2 * y + 1) * 900000000) 32768 _ (by omega) (by decide) (by omega)).mono ?_
  rintro e w3 ⟨rfl, hb3⟩
  have B3 : Below W0.heap.size W0 w3 := (by repeat (first | exact Below.refl _ _ | apply below_alloc | apply below_drewN | apply below_drew | (refine below_set2 ?_ ?_; (first | (simp; done) | (simp; omega))) | (refine below_step ?_ hb3) | (refine below_step ?_ hb2) | (refine below_step ?_ hb1)))
  have hbk3 := (B3.block _ (lt_of_block hbk)).trans hbk
  have bc0 := blk_cell hbk3 0 rfl
  have bc1 := blk_cell hbk3 1 rfl
  have bf0 := blk_free hbk3 0
  have bf1 := blk_free hbk3 1
  go_wp2
  refine bodyPost_ret (v := .tuple #[.agg #[.int .i64 ((2 * x + 1) * 1800000000 / 32768 - 1800000000), .int .i64 (900000000 - (2 * y + 1) * 900000000 / 32768)], .int .i64 0]) ?_ rfl ⟨rfl, by repeat (first | exact below_step B0 B3 | (refine below_set2 (by simp) ?_))⟩
  simp [results, Try.results29]
  go_simp
def lvA : Pt := (-1799395752, 899697876)
def lvB : Pt := (-1799285889, 899697876)
abbrev lvT : Tag := (⟨#[112, 108, 97, 99, 101]⟩, ⟨#[99, 105, 116, 121]⟩)
def lvN : List Node := [(1, (lvA, [])), (2, (lvA, [])), (3, (lvB, [lvT]))]
def lvW : List Way := [(1, ([1, 2, 3], [])), (2, ([1, 2], []))]
theorem lv_ok : objErr lvN lvW [] = 0 := by decide +kernel
theorem lv_lines : linesZ (ptF lvN lvW []) lvW = [(1, ([(5, 5), (6, 5)], ([1, 3], [])))] := by decide +kernel
theorem lv_merged : mergedZ (placesZ lvN lvW []) = [[1, 2]] := by decide +kernel
theorem lv_settle : settleZ lvN lvW [] = [(3, ((6, 5), [lvT]))] := by decide +kernel
theorem Row.lit {α : Type} {T : Ty α} (w : World) {ok : Nat → Prop} {xs : List α} {cs : List Value} (t : TypeId) (hg : ok w.heap.size) (hl : xs.length ≤ 9223372036854775807) (h : Reps T ok w xs cs) : Row T ok (w.alloc (.cells cs.toArray t)) (some ⟨w.heap.size, 0, none⟩) xs := by
  refine Row.of_reps hl hg (h.imp (fun x c hc => T.below hc (below_alloc (Below.refl _ _) _))) (fun j u hu => ?_)
  simp only [World.cell?, heap_alloc_new]
  simpa using hu
theorem wayR {ok : Nat → Prop} {w : World} {A B : Option Addr} {x : Way} {c d : Nat} (hl : x.2.1.length ≤ c) (h : Row Ty.i64 ok w A x.2.1) (hl2 : x.2.2.length ≤ d) (h2 : Row Ty.tag ok w B x.2.2) :
    Ty.way.R ok w x [.int .i64 x.1, .slice A x.2.1.length c, .slice B x.2.2.length d] :=
  ⟨[_], [_, _], rfl, rfl, [_], [_], rfl, ⟨A, c, rfl, hl, h⟩, B, d, rfl, hl2, h2⟩
theorem Row.ids_at0 {ok : Nat → Prop} {w : World} {A : Option Addr} {s : List Int} (h : Row Ty.ids ok w A [s]) :
    ∃ ad A1 c1, A = some ad ∧ w.cell? ad = some (.slice A1 s.length c1) ∧ Row Ty.i64 ok w A1 s := by
  obtain ⟨ad, cs, e, _, ⟨A1, c1, rfl, hl, hr⟩, hc⟩ := h.get (i := 0) (by simp)
  exact ⟨ad, A1, c1, e, hc.first, hr⟩
set_option maxRecDepth 100000 in
set_option maxHeartbeats 4000000 in
theorem law19_lives (w : World) : Calls Try.prog 10 #[] w fun e w' => e = .returned (.bool true) ∧ Below w.heap.size w w' := by
  go_enter Try.func10, Try.ntmps10
  go_wp2_with fail
  refine (grid_Center 5 5 _ (by decide)).mono ?_
  rintro e w1 ⟨rfl, hb1⟩
  rw [show (2 * (5 : Int) + 1) * 1800000000 / 32768 - 1800000000 = -1799395752 by decide, show 900000000 - (2 * (5 : Int) + 1) * 900000000 / 32768 = 899697876 by decide]
  have B1 : Below w.heap.size w w1 := (by repeat (first | exact Below.refl _ _ | apply below_alloc | apply below_drewN | apply below_drew | (refine below_set2 ?_ ?_; (first | (simp; done) | (simp; omega))) | (refine below_step ?_ hb1)))
  clear hb1
  obtain ⟨Wa, hWa⟩ : ∃ Wa, Wa = w1.alloc (.cells #[.int .i64 (-1799395752), .int .i64 899697876] 58) := ⟨_, rfl⟩
  have Ba : Below w1.heap.size w1 Wa := by rw [hWa]; exact (by repeat (first | exact Below.refl _ _ | apply below_alloc | apply below_drewN | apply below_drew | (refine below_set2 ?_ ?_; (first | (simp; done) | (simp; omega)))))
  have ha0 : Wa.cell? ⟨w1.heap.size, 0, none⟩ = some (.int .i64 (-1799395752)) := by rw [hWa]; simp only [World.cell?, heap_alloc_new]; rfl
  have ha1 : Wa.cell? ⟨w1.heap.size, 1, none⟩ = some (.int .i64 899697876) := by rw [hWa]; simp only [World.cell?, heap_alloc_new]; rfl
  go_wp2_with fail
  rw [← hWa]
  clear hWa
  refine (grid_Center 6 5 _ (by decide)).mono ?_
  rintro e w2 ⟨rfl, hb2⟩
  rw [show (2 * (6 : Int) + 1) * 1800000000 / 32768 - 1800000000 = -1799285889 by decide, show 900000000 - (2 * (5 : Int) + 1) * 900000000 / 32768 = 899697876 by decide]
  have e0 := cell_below hb2 ha0
  have e1 := cell_below hb2 ha1
  have B2 : Below w.heap.size w w2 := (by repeat (first | exact Below.refl _ _ | apply below_alloc | apply below_drewN | apply below_drew | (refine below_set2 ?_ ?_; (first | (simp; done) | (simp; omega))) | (refine below_step ?_ hb2) | (refine below_step ?_ Ba) | (refine below_step ?_ B1)))
  have hz2 : w1.heap.size < w2.heap.size := World.block_lt_of_cell? w2 _ e0
  clear ha0 ha1 hb2 Ba
  obtain ⟨Wb, hWb⟩ : ∃ Wb, Wb = w2.alloc (.cells #[.int .i64 (-1799285889), .int .i64 899697876] 58) := ⟨_, rfl⟩
  have Bb : Below w2.heap.size w2 Wb := by rw [hWb]; exact (by repeat (first | exact Below.refl _ _ | apply below_alloc | apply below_drewN | apply below_drew | (refine below_set2 ?_ ?_; (first | (simp; done) | (simp; omega)))))
  have zb : Wb.heap.size = w2.heap.size + 1 := by rw [hWb]; simp
  obtain ⟨Wt, hWt⟩ : ∃ Wt, Wt = Wb.alloc (.cells #[.string ⟨#[112, 108, 97, 99, 101]⟩, .string ⟨#[99, 105, 116, 121]⟩] 72) := ⟨_, rfl⟩
  have Bt : Below Wb.heap.size Wb Wt := by rw [hWt]; exact (by repeat (first | exact Below.refl _ _ | apply below_alloc | apply below_drewN | apply below_drew | (refine below_set2 ?_ ?_; (first | (simp; done) | (simp; omega)))))
  have zt : Wt.heap.size = w2.heap.size + 1 + 1 := by rw [hWt]; simp [zb]
  have RT : Row Ty.tag (fun _ => True) Wt (some ⟨w2.heap.size + 1, 0, none⟩) [lvT] := by
    rw [hWt, ← zb]
    exact Row.lit Wb (cs := [.string lvT.1, .string lvT.2]) _ trivial (by simp) ⟨[.string lvT.1, .string lvT.2], [], rfl, ⟨[_], [_], rfl, rfl, rfl⟩, rfl⟩
  obtain ⟨Wn, hWn⟩ : ∃ Wn, Wn = Wt.alloc (.cells #[.int .i64 1, .int .i64 (-1799395752), .int .i64 899697876, .slice none 0 0, .int .i64 2, .int .i64 (-1799395752), .int .i64 899697876, .slice none 0 0, .int .i64 3, .int .i64 (-1799285889), .int .i64 899697876, .slice (some ⟨w2.heap.size + 1, 0, none⟩) 1 1] 60) := ⟨_, rfl⟩
  have Bn : Below Wt.heap.size Wt Wn := by rw [hWn]; exact (by repeat (first | exact Below.refl _ _ | apply below_alloc | apply below_drewN | apply below_drew | (refine below_set2 ?_ ?_; (first | (simp; done) | (simp; omega)))))
  have zn : Wn.heap.size = w2.heap.size + 1 + 1 + 1 := by rw [hWn]; simp [zt]
  have RN : Row Ty.node (fun _ => True) Wn (some ⟨w2.heap.size + 1 + 1, 0, none⟩) lvN := by
    rw [hWn, ← zt]
    refine Row.lit Wt (cs := [.int .i64 1, .int .i64 (-1799395752), .int .i64 899697876, .slice none 0 0, .int .i64 2, .int .i64 (-1799395752), .int .i64 899697876, .slice none 0 0, .int .i64 3, .int .i64 (-1799285889), .int .i64 899697876, .slice (some ⟨w2.heap.size + 1, 0, none⟩) 1 1]) _ trivial (by decide) ?_
    exact ⟨[_, _, _, _], _, rfl, placeR4 (x := (1, (lvA, []))) (A := none) (c := 0) (Nat.le_refl _) (Row.nil _ _ _ _), [_, _, _, _], _, rfl, placeR4 (x := (2, (lvA, []))) (A := none) (c := 0) (Nat.le_refl _) (Row.nil _ _ _ _), [_, _, _, _], [], rfl, placeR4 (x := (3, (lvB, [lvT]))) (c := 1) (Nat.le_refl _) RT, rfl⟩
  obtain ⟨Wi, hWi⟩ : ∃ Wi, Wi = Wn.alloc (.cells #[.int .i64 1, .int .i64 2, .int .i64 3] 3) := ⟨_, rfl⟩
  have Bi : Below Wn.heap.size Wn Wi := by rw [hWi]; exact (by repeat (first | exact Below.refl _ _ | apply below_alloc | apply below_drewN | apply below_drew | (refine below_set2 ?_ ?_; (first | (simp; done) | (simp; omega)))))
  have zi : Wi.heap.size = w2.heap.size + 1 + 1 + 1 + 1 := by rw [hWi]; simp [zn]
  have RI : Row Ty.i64 (fun _ => True) Wi (some ⟨w2.heap.size + 1 + 1 + 1, 0, none⟩) [1, 2, 3] := by
    rw [hWi, ← zn]
    exact Row.lit Wn (cs := [.int .i64 1, .int .i64 2, .int .i64 3]) _ trivial (by simp) ⟨[_], _, rfl, rfl, [_], _, rfl, rfl, [_], [], rfl, rfl, rfl⟩
  obtain ⟨Wj, hWj⟩ : ∃ Wj, Wj = Wi.alloc (.cells #[.int .i64 1, .int .i64 2] 3) := ⟨_, rfl⟩
  have Bj : Below Wi.heap.size Wi Wj := by rw [hWj]; exact (by repeat (first | exact Below.refl _ _ | apply below_alloc | apply below_drewN | apply below_drew | (refine below_set2 ?_ ?_; (first | (simp; done) | (simp; omega)))))
  have zj : Wj.heap.size = w2.heap.size + 1 + 1 + 1 + 1 + 1 := by rw [hWj]; simp [zi]
  have RJ : Row Ty.i64 (fun _ => True) Wj (some ⟨w2.heap.size + 1 + 1 + 1 + 1, 0, none⟩) [1, 2] := by
    rw [hWj, ← zi]
    exact Row.lit Wi (cs := [.int .i64 1, .int .i64 2]) _ trivial (by simp) ⟨[_], _, rfl, rfl, [_], [], rfl, rfl, rfl⟩
  obtain ⟨Ww, hWw⟩ : ∃ Ww, Ww = Wj.alloc (.cells #[.int .i64 1, .slice (some ⟨w2.heap.size + 1 + 1 + 1, 0, none⟩) 3 3, .slice none 0 0, .int .i64 2, .slice (some ⟨w2.heap.size + 1 + 1 + 1 + 1, 0, none⟩) 2 2, .slice none 0 0] 50) := ⟨_, rfl⟩
  have Bw : Below Wj.heap.size Wj Ww := by rw [hWw]; exact (by repeat (first | exact Below.refl _ _ | apply below_alloc | apply below_drewN | apply below_drew | (refine below_set2 ?_ ?_; (first | (simp; done) | (simp; omega)))))
  have zw : Ww.heap.size = w2.heap.size + 1 + 1 + 1 + 1 + 1 + 1 := by rw [hWw]; simp [zj]
  have RW : Row Ty.way (fun _ => True) Ww (some ⟨w2.heap.size + 1 + 1 + 1 + 1 + 1, 0, none⟩) lvW := by
    rw [hWw, ← zj]
    refine Row.lit Wj (cs := [.int .i64 1, .slice (some ⟨w2.heap.size + 1 + 1 + 1, 0, none⟩) 3 3, .slice none 0 0, .int .i64 2, .slice (some ⟨w2.heap.size + 1 + 1 + 1 + 1, 0, none⟩) 2 2, .slice none 0 0]) _ trivial (by decide) ?_
    exact ⟨[_, _, _], _, rfl, wayR (x := (1, ([1, 2, 3], []))) (B := none) (c := 3) (d := 0) (Nat.le_refl _) (RI.below Bj) (Nat.le_refl _) (Row.nil _ _ _ _), [_, _, _], [], rfl, wayR (x := (2, ([1, 2], []))) (B := none) (c := 2) (d := 0) (Nat.le_refl _) RJ (Nat.le_refl _) (Row.nil _ _ _ _), rfl⟩
  obtain ⟨Wz, hWz⟩ : ∃ Wz, Wz = Ww.alloc (.cells #[.slice (some ⟨w2.heap.size + 1 + 1, 0, none⟩) 3 3, .slice (some ⟨w2.heap.size + 1 + 1 + 1 + 1 + 1, 0, none⟩) 2 2, .slice none 0 0] 26) := ⟨_, rfl⟩
  have Bz : Below Ww.heap.size Ww Wz := by rw [hWz]; exact (by repeat (first | exact Below.refl _ _ | apply below_alloc | apply below_drewN | apply below_drew | (refine below_set2 ?_ ?_; (first | (simp; done) | (simp; omega)))))
  have d0 : Wz.cell? ⟨w2.heap.size + 1 + 1 + 1 + 1 + 1 + 1, 0, none⟩ = some (.slice (some ⟨w2.heap.size + 1 + 1, 0, none⟩) 3 3) := by rw [hWz, ← zw]; simp only [World.cell?, heap_alloc_new]; rfl
  have d1 : Wz.cell? ⟨w2.heap.size + 1 + 1 + 1 + 1 + 1 + 1, 1, none⟩ = some (.slice (some ⟨w2.heap.size + 1 + 1 + 1 + 1 + 1, 0, none⟩) 2 2) := by rw [hWz, ← zw]; simp only [World.cell?, heap_alloc_new]; rfl
  have d2 : Wz.cell? ⟨w2.heap.size + 1 + 1 + 1 + 1 + 1 + 1, 2, none⟩ = some (.slice none 0 0) := by rw [hWz, ← zw]; simp only [World.cell?, heap_alloc_new]; rfl
  have RNz := Lib.hid (((((RN.below Bi).below Bj).below Bw).below Bz))
  have RWz := Lib.hid (RW.below Bz)
  have BZ : Below w.heap.size w Wz := (by repeat (first | exact Below.refl _ _ | apply below_alloc | apply below_drewN | apply below_drew | (refine below_set2 ?_ ?_; (first | (simp; done) | (simp; omega))) | (refine below_step ?_ Bz) | (refine below_step ?_ Bw) | (refine below_step ?_ Bj) | (refine below_step ?_ Bi) | (refine below_step ?_ Bn) | (refine below_step ?_ Bt) | (refine below_step ?_ Bb) | (refine below_step ?_ B2)))
  rw [hWw, hWj, hWi, hWn, hWt, hWb] at hWz
  clear hWb hWt hWn hWi hWj hWw RN RW RI RJ RT zb zt zn zi zj zw Bb Bt Bn Bi Bj Bw Bz B2
  go_wp2_with fail
  rw [← hWz]
  clear hWz e0 e1
  have H1 : Calls Try.prog 17 #[.agg #[.slice (some ⟨w2.heap.size + 1 + 1, 0, none⟩) 3 3, .slice (some ⟨w2.heap.size + 1 + 1 + 1 + 1 + 1, 0, none⟩) 2 2, .slice none 0 0]] Wz fun e w' => ∃ v, e = .returned v ∧ Own1 Ty.line 42 Wz.heap.size w' v [(1, ([(5, 5), (6, 5)], ([1, 3], [])))] ∧ Below Wz.heap.size Wz w' := by
    have := normal_Lines lvN lvW [] (some ⟨w2.heap.size + 1 + 1, 0, none⟩) (some ⟨w2.heap.size + 1 + 1 + 1 + 1 + 1, 0, none⟩) none 3 2 0 Wz RNz.out RWz.out (Row.nil _ _ _ _) (by decide) (by decide) (by decide) (by decide)
    rw [lv_lines] at this
    exact this
  refine H1.mono ?_
  rintro e w3 ⟨v3, rfl, ho3, hb3⟩
  clear H1
  obtain ⟨A3, c3, rfl, _, hr3⟩ := ho3.reads
  have R3 := Lib.hid hr3
  have f0 := cell_below hb3 d0
  have f1 := cell_below hb3 d1
  have f2 := cell_below hb3 d2
  have RN3 := Lib.hid (RNz.out.below hb3)
  have RW3 := Lib.hid (RWz.out.below hb3)
  have B3 : Below w.heap.size w w3 := (by repeat (first | exact Below.refl _ _ | apply below_alloc | apply below_drewN | apply below_drew | (refine below_set2 ?_ ?_; (first | (simp; done) | (simp; omega))) | (refine below_step ?_ hb3) | (refine below_step ?_ BZ)))
  clear ho3 hr3 hb3 d0 d1 d2 RNz RWz BZ
  go_wp2_with fail
  have H2 : Calls Try.prog 20 #[.agg #[.slice (some ⟨w2.heap.size + 1 + 1, 0, none⟩) 3 3, .slice (some ⟨w2.heap.size + 1 + 1 + 1 + 1 + 1, 0, none⟩) 2 2, .slice none 0 0]] w3 fun e w' => ∃ v, e = .returned v ∧ Own1 Ty.ids 39 w3.heap.size w' v [[1, 2]] ∧ Below w3.heap.size w3 w' := by
    have := normal_Merged lvN lvW [] (some ⟨w2.heap.size + 1 + 1, 0, none⟩) (some ⟨w2.heap.size + 1 + 1 + 1 + 1 + 1, 0, none⟩) none 3 2 0 w3 RN3.out RW3.out (Row.nil _ _ _ _) (by decide) (by decide) (by decide)
    rw [lv_merged] at this
    exact this
  refine H2.mono ?_
  rintro e w4 ⟨v4, rfl, ho4, hb4⟩
  clear H2
  obtain ⟨A4, c4, rfl, _, hr4⟩ := ho4.reads
  have R4 := Lib.hid hr4
  have R34 := Lib.hid (R3.out.below hb4)
  have g0 := cell_below hb4 f0
  have g1 := cell_below hb4 f1
  have g2 := cell_below hb4 f2
  have RN4 := Lib.hid (RN3.out.below hb4)
  have RW4 := Lib.hid (RW3.out.below hb4)
  have B4 : Below w.heap.size w w4 := (by repeat (first | exact Below.refl _ _ | apply below_alloc | apply below_drewN | apply below_drew | (refine below_set2 ?_ ?_; (first | (simp; done) | (simp; omega))) | (refine below_step ?_ hb4) | (refine below_step ?_ B3)))
  clear ho4 hr4 hb4 f0 f1 f2 RN3 RW3 B3 R3
  go_wp2_with fail
  have H3 : Calls Try.prog 14 #[.agg #[.slice (some ⟨w2.heap.size + 1 + 1, 0, none⟩) 3 3, .slice (some ⟨w2.heap.size + 1 + 1 + 1 + 1 + 1, 0, none⟩) 2 2, .slice none 0 0]] w4 fun e w' => ∃ v, e = .returned v ∧ Own1 Ty.place 48 w4.heap.size w' v [(3, ((6, 5), [lvT]))] ∧ Below w4.heap.size w4 w' := by
    have := normal_Places lvN lvW [] (some ⟨w2.heap.size + 1 + 1, 0, none⟩) (some ⟨w2.heap.size + 1 + 1 + 1 + 1 + 1, 0, none⟩) none 3 2 0 w4 RN4.out RW4.out (Row.nil _ _ _ _) (by decide) (by decide) (by decide)
    rw [lv_settle] at this
    exact this
  refine H3.mono ?_
  rintro e w5 ⟨v5, rfl, ho5, hb5⟩
  clear H3
  obtain ⟨A5, c5, rfl, _, hr5⟩ := ho5.reads
  have R35 := Lib.hid (R34.out.below hb5)
  have R45 := Lib.hid (R4.out.below hb5)
  have B5 : Below w.heap.size w w5 := (by repeat (first | exact Below.refl _ _ | apply below_alloc | apply below_drewN | apply below_drew | (refine below_set2 ?_ ?_; (first | (simp; done) | (simp; omega))) | (refine below_step ?_ hb5) | (refine below_step ?_ B4)))
  obtain ⟨pd, Ap, cp, rfl, p0, _⟩ := hr5.node_at 0 (by decide)
  obtain ⟨ld, L1, l1, L2, l2, L3, l3, rfl, _, x1, x2, _, _, rp, _, ri, _, _⟩ := R35.out.line_at 0 (by decide)
  obtain ⟨pt, rfl, _, _⟩ := rp.pt_at 0 (by decide)
  obtain ⟨pt', e', y1, y2⟩ := rp.pt_at 1 (by decide)
  cases e'
  obtain ⟨ip, rfl, i0⟩ := ri.int_at 0 (by decide)
  obtain ⟨ip', e', i1⟩ := ri.int_at 1 (by decide)
  cases e'
  obtain ⟨sd, S1, s1, rfl, z1, rs⟩ := R45.out.ids_at0
  obtain ⟨sp, rfl, _⟩ := rs.int_at 0 (by decide)
  obtain ⟨sp', e', j1⟩ := rs.int_at 1 (by decide)
  cases e'
  have k0 : w5.cell? pd = some (.int .i64 3) := p0
  have k1 : w5.cell? ⟨ld.block, ld.off + 1, none⟩ = some (.slice (some pt) 2 l1) := x1
  have k2 : w5.cell? ⟨ld.block, ld.off + 2, none⟩ = some (.slice (some ip) 2 l2) := x2
  have k3 : w5.cell? ⟨pt.block, pt.off + 2, none⟩ = some (.int .i64 6) := y1
  have k4 : w5.cell? ⟨pt.block, pt.off + 2 + 1, none⟩ = some (.int .i64 5) := y2
  have k5 : w5.cell? ip = some (.int .i64 1) := i0
  have k6 : w5.cell? ⟨ip.block, ip.off + 1, none⟩ = some (.int .i64 3) := i1
  have k7 : w5.cell? sd = some (.slice (some sp) 2 s1) := z1
  have k8 : w5.cell? ⟨sp.block, sp.off + 1, none⟩ = some (.int .i64 2) := j1
  clear p0 x1 x2 y1 y2 i0 i1 z1 j1 rp ri rs R35 R45 hr5 ho5 hb5 R34 R4 g0 g1 g2 RN4 RW4
  go_wp2
  go_ret
  exact ⟨rfl, B5⟩
end Go.Proofs.Ytniceoinipffmaa
