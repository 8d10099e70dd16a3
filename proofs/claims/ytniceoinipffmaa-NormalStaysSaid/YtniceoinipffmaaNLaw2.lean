/- The law NormalWays, walked. -/
import Derived.Test.YtniceoinipffmaaNLaw
namespace Go.Proofs.Ytniceoinipffmaa
open Go.RowKit Go.Proofs.YtniceoinipffmaaW.PrintLast
set_option linter.unusedVariables false
set_option linter.unusedSimpArgs false

def lnO (f : Int → Option Pt) (x : Way) : Line := (lineZ f x).getD (0, ([], ([], [])))
theorem RetL.toG {ok : Nat → Prop} {f : Int → Option Pt} {x : Way} {B2 : Option Addr} {d2 base : Nat} {e : Ending} {w : World} (h : RetL (lineZ f x) (.slice B2 x.2.2.length d2) base e w) (ht : Row Ty.tag ok w B2 x.2.2) :
    ∃ P2 k2 P3 k3 P4 k4, e = .returned (.tuple #[.agg #[.int .i64 (lnO f x).1, .slice P2 (lnO f x).2.1.length k2, .slice P3 (lnO f x).2.2.1.length k3, .slice P4 (lnO f x).2.2.2.length k4], .bool (lineZ f x).isSome]) ∧
      Row Ty.pt (fun _ => True) w P2 (lnO f x).2.1 ∧ Row Ty.i64 (fun _ => True) w P3 (lnO f x).2.2.1 ∧ Row Ty.tag (fun _ => True) w P4 (lnO f x).2.2.2 := by
  rcases h with ⟨ho, rfl⟩ | ⟨l, vp, vi, ho, rfl, h1, h2⟩
  · have e : lnO f x = (0, ([], ([], []))) := by rw [lnO, ho]; rfl
    rw [e, ho]
    exact ⟨none, 0, none, 0, none, 0, rfl, Row.nil _ _ _ _, Row.nil _ _ _ _, Row.nil _ _ _ _⟩
  · have e : lnO f x = l := by rw [lnO, ho]; rfl
    obtain ⟨e1, e2⟩ := lineZ_tags ho
    rw [e, ho]
    obtain ⟨P2, k2, rfl, _, r2⟩ := h1.reads
    obtain ⟨P3, k3, rfl, _, r3⟩ := h2.reads
    exact ⟨P2, k2, P3, k3, B2, d2, by rw [e2]; rfl, r2, r3, by rw [e2]; exact ht.mono (fun _ _ => trivial)⟩
theorem law19_FewWay {ok : Nat → Prop} (x : Way) (B1 B2 : Option Addr) (d1 d2 : Nat) (w : World) (hl1 : x.2.1.length ≤ d1) (h1 : Row Ty.i64 ok w B1 x.2.1) (hl2 : x.2.2.length ≤ d2) (h2 : Row Ty.tag ok w B2 x.2.2) :
    Calls Try.prog 9 #[.agg #[.slice none 0 0, .slice (some ⟨w.heap.size, 0, none⟩) 1 1, .slice none 0 0]] (w.alloc (.cells #[.int .i64 x.1, .slice B1 x.2.1.length d1, .slice B2 x.2.2.length d2] 50)) fun e w' => (∃ b : Bool, e = .returned (.bool b) ∧ (b = true → x.2.1.length ≤ 12)) ∧ Below w.heap.size w w' := by
  have hr : Row Ty.way (fun _ => True) (w.alloc (.cells #[.int .i64 x.1, .slice B1 x.2.1.length d1, .slice B2 x.2.2.length d2] 50)) (some ⟨w.heap.size, 0, none⟩) [x] :=
    Row.lit w (cs := [.int .i64 x.1, .slice B1 x.2.1.length d1, .slice B2 x.2.2.length d2]) _ trivial (by simp) ⟨[_, _, _], [], rfl, wayR hl1 (h1.mono (fun _ _ => trivial)) hl2 (h2.mono (fun _ _ => trivial)), rfl⟩
  refine (law19_Few [] [x] [] none (some ⟨w.heap.size, 0, none⟩) none 0 1 0 _ (Row.nil _ _ _ _) hr (Row.nil _ _ _ _)).mono ?_
  rintro e w' ⟨⟨b, rfl, himp⟩, hb⟩
  exact ⟨⟨b, rfl, fun h => (himp h).2.2.2 0 (by simp)⟩, below_step (below_alloc (Below.refl _ _) _) hb⟩
set_option maxRecDepth 20000 in
set_option maxHeartbeats 1000000 in
theorem law19_NormalWays {ok : Nat → Prop} (ns : List Node) (ws : List Way) (rs : List Rel) (x : Way) (A1 A2 A3 B1 B2 : Option Addr) (c1 c2 c3 d1 d2 : Nat) (w : World) (h1 : Row Ty.node ok w A1 ns) (h2 : Row Ty.way ok w A2 ws) (h3 : Row Ty.rel ok w A3 rs)
    (hl1 : x.2.1.length ≤ d1) (h4 : Row Ty.i64 ok w B1 x.2.1) (hl2 : x.2.2.length ≤ d2) (h5 : Row Ty.tag ok w B2 x.2.2) :
    Calls Try.prog 8 #[.agg #[.slice A1 ns.length c1, .slice A2 ws.length c2, .slice A3 rs.length c3], .agg #[.int .i64 x.1, .slice B1 x.2.1.length d1, .slice B2 x.2.2.length d2]] w fun e w' => e = .returned (.bool true) ∧ Below w.heap.size w w' := by
  have HR1 := Lib.hid h1
  have HR2 := Lib.hid h2
  have HR3 := Lib.hid h3
  have HR4 := Lib.hid h4
  have HR5 := Lib.hid h5
  have HL1 := Lib.hid hl1
  have HL2 := Lib.hid hl2
  clear h1 h2 h3 h4 h5 hl1 hl2
  obtain ⟨Wa, hWa⟩ : ∃ Wa, Wa = w.alloc (.cells #[.slice A1 ns.length c1, .slice A2 ws.length c2, .slice A3 rs.length c3] 26) := ⟨_, rfl⟩
  have za : Wa.heap.size = w.heap.size + 1 := by rw [hWa]; simp
  have Ba : Below w.heap.size w Wa := by rw [hWa]; exact (by repeat (first | exact Below.refl _ _ | apply below_alloc | apply below_drewN | apply below_drew | (refine below_set2 ?_ ?_; (first | (simp; done) | (simp; omega)))))
  have hao : ∀ o : Nat, Wa.cell? ⟨w.heap.size, o, none⟩ = #[.slice A1 ns.length c1, .slice A2 ws.length c2, .slice A3 rs.length c3][o]? := fun o => by rw [hWa]; simp only [World.cell?, heap_alloc_new]; rfl
  obtain ⟨W0, hW0⟩ : ∃ W0, W0 = Wa.alloc (.cells #[.int .i64 x.1, .slice B1 x.2.1.length d1, .slice B2 x.2.2.length d2] 50) := ⟨_, rfl⟩
  have Bb : Below Wa.heap.size Wa W0 := by rw [hW0]; exact (by repeat (first | exact Below.refl _ _ | apply below_alloc | apply below_drewN | apply below_drew | (refine below_set2 ?_ ?_; (first | (simp; done) | (simp; omega)))))
  have hbo : ∀ o : Nat, W0.cell? ⟨w.heap.size + 1, o, none⟩ = #[.int .i64 x.1, .slice B1 x.2.1.length d1, .slice B2 x.2.2.length d2][o]? := fun o => by rw [hW0, ← za]; simp only [World.cell?, heap_alloc_new]; rfl
  have B0 : Below w.heap.size w W0 := (by repeat (first | exact Below.refl _ _ | apply below_alloc | apply below_drewN | apply below_drew | (refine below_set2 ?_ ?_; (first | (simp; done) | (simp; omega))) | (refine below_step ?_ Bb) | (refine below_step ?_ Ba)))
  have e0 := cell_below Bb (show _ = some _ from hao 0)
  have e1 := cell_below Bb (show _ = some _ from hao 1)
  have e2 := cell_below Bb (show _ = some _ from hao 2)
  have x0 : W0.cell? ⟨w.heap.size + 1, 0, none⟩ = some (.int .i64 x.1) := hbo 0
  have x1 : W0.cell? ⟨w.heap.size + 1, 1, none⟩ = some (.slice B1 x.2.1.length d1) := hbo 1
  have x2 : W0.cell? ⟨w.heap.size + 1, 2, none⟩ = some (.slice B2 x.2.2.length d2) := hbo 2
  rw [hWa] at hW0
  clear hWa za Ba hao hbo Bb
  go_enter Try.func8, Try.ntmps8
  go_wp2_with fail
  rw [← hW0]
  clear hW0
  go_wp2_with fail
  refine (law19_Few ns ws rs A1 A2 A3 c1 c2 c3 _ (HR1.out.below B0) (HR2.out.below B0) (HR3.out.below B0)).mono ?_
  rintro e w1 ⟨⟨b, rfl, himp⟩, hb1⟩
  have Bw1 : Below w.heap.size w w1 := (by repeat (first | exact Below.refl _ _ | apply below_alloc | apply below_drewN | apply below_drew | (refine below_set2 ?_ ?_; (first | (simp; done) | (simp; omega))) | (refine below_step ?_ hb1) | (refine below_step ?_ B0)))
  have f0 := cell_below hb1 e0
  have f1 := cell_below hb1 e1
  have f2 := cell_below hb1 e2
  have y0 := cell_below hb1 x0
  have y1 := cell_below hb1 x1
  have y2 := cell_below hb1 x2
  clear e0 e1 e2 x0 x1 x2 hb1
  cases b
  · go_wp2_with fail
    refine (law19_lives _).mono ?_
    rintro e w2 ⟨rfl, hb2⟩
    go_wp2
    go_ret
    exact ⟨rfl, (by repeat (first | exact Below.refl _ _ | apply below_alloc | apply below_drewN | apply below_drew | (refine below_set2 ?_ ?_; (first | (simp; done) | (simp; omega))) | (refine below_step ?_ hb2) | (refine below_step ?_ Bw1)))⟩
  have HF := Lib.hid (himp rfl)
  have q1 : ns.length ≤ 10000 := by have := HF.out.1; omega
  have q2 : ws.length ≤ 10000 := by have := HF.out.2.1; omega
  have q3 : rs.length ≤ 10000 := by have := HF.out.2.2.1; omega
  clear himp HF
  go_wp2_with fail
  refine (law19_FewWay x B1 B2 d1 d2 w1 HL1.out (HR4.out.below Bw1) HL2.out (HR5.out.below Bw1)).mono ?_
  rintro e w2 ⟨⟨b, rfl, himp⟩, hb2⟩
  have Bw2 : Below w.heap.size w w2 := (by repeat (first | exact Below.refl _ _ | apply below_alloc | apply below_drewN | apply below_drew | (refine below_set2 ?_ ?_; (first | (simp; done) | (simp; omega))) | (refine below_step ?_ hb2) | (refine below_step ?_ Bw1)))
  have g0 := cell_below hb2 f0
  have g1 := cell_below hb2 f1
  have g2 := cell_below hb2 f2
  have z0 := cell_below hb2 y0
  have z1 := cell_below hb2 y1
  have z2 := cell_below hb2 y2
  clear f0 f1 f2 y0 y1 y2 hb2
  cases b
  · go_wp2_with fail
    refine (law19_lives _).mono ?_
    rintro e w3 ⟨rfl, hb3⟩
    go_wp2
    go_ret
    exact ⟨rfl, (by repeat (first | exact Below.refl _ _ | apply below_alloc | apply below_drewN | apply below_drew | (refine below_set2 ?_ ?_; (first | (simp; done) | (simp; omega))) | (refine below_step ?_ hb3) | (refine below_step ?_ Bw2)))⟩
  have q4 : x.2.1.length ≤ 10000 := by have := himp rfl; omega
  clear himp
  go_wp2_with fail
  have H3 : Calls Try.prog 23 #[.agg #[.slice A1 ns.length c1, .slice A2 ws.length c2, .slice A3 rs.length c3], .agg #[.int .i64 x.1, .slice B1 x.2.1.length d1, .slice B2 x.2.2.length d2]] w2 fun e w' => RetL (lineZ (ptF ns ws rs) x) (.slice B2 x.2.2.length d2) w2.heap.size e w' ∧ Below w2.heap.size w2 w' :=
    normal_Line ns ws rs x A1 A2 A3 B1 B2 c1 c2 c3 d1 d2 w2 (HR1.out.below Bw2) (HR2.out.below Bw2) (HR3.out.below Bw2) (HR4.out.below Bw2) (HR5.out.below Bw2) q1 q2 q3 q4
  refine H3.mono ?_
  rintro e w3 ⟨hret, hb3⟩
  have Bw3 : Below w.heap.size w w3 := (by repeat (first | exact Below.refl _ _ | apply below_alloc | apply below_drewN | apply below_drew | (refine below_set2 ?_ ?_; (first | (simp; done) | (simp; omega))) | (refine below_step ?_ hb3) | (refine below_step ?_ Bw2)))
  obtain ⟨P2, k2, P3, k3, P4, k4, rfl, r2, r3, r4⟩ := hret.toG (HR5.out.below Bw3)
  have f0 := cell_below hb3 g0
  have f1 := cell_below hb3 g1
  have f2 := cell_below hb3 g2
  have y0 := cell_below hb3 z0
  have y1 := cell_below hb3 z1
  have y2 := cell_below hb3 z2
  clear H3 hret g0 g1 g2 z0 z1 z2 hb3
  obtain ⟨Wb, hWb⟩ : ∃ Wb, Wb = w3.alloc (.cells #[.int .i64 (lnO (ptF ns ws rs) x).1, .slice P2 (lnO (ptF ns ws rs) x).2.1.length k2, .slice P3 (lnO (ptF ns ws rs) x).2.2.1.length k3, .slice P4 (lnO (ptF ns ws rs) x).2.2.2.length k4] 42) := ⟨_, rfl⟩
  have Bb : Below w3.heap.size w3 Wb := by rw [hWb]; exact (by repeat (first | exact Below.refl _ _ | apply below_alloc | apply below_drewN | apply below_drew | (refine below_set2 ?_ ?_; (first | (simp; done) | (simp; omega)))))
  have Bwb : Below w.heap.size w Wb := (by repeat (first | exact Below.refl _ _ | apply below_alloc | apply below_drewN | apply below_drew | (refine below_set2 ?_ ?_; (first | (simp; done) | (simp; omega))) | (refine below_step ?_ Bb) | (refine below_step ?_ Bw3)))
  have hbk : Wb.heap[w3.heap.size]? = some (.cells #[.int .i64 (lnO (ptF ns ws rs) x).1, .slice P2 (lnO (ptF ns ws rs) x).2.1.length k2, .slice P3 (lnO (ptF ns ws rs) x).2.2.1.length k3, .slice P4 (lnO (ptF ns ws rs) x).2.2.2.length k4] 42 (0, 0)) := by rw [hWb]; exact heap_alloc_new _ _
  have g0 := cell_below Bb f0
  have g1 := cell_below Bb f1
  have g2 := cell_below Bb f2
  have z0 := cell_below Bb y0
  have z1 := cell_below Bb y1
  have z2 := cell_below Bb y2
  have R2 := Lib.hid (r2.below Bb)
  have R3 := Lib.hid (r3.below Bb)
  have R4 := Lib.hid (r4.below Bb)
  have hz1 : w.heap.size + 1 < w3.heap.size := World.block_lt_of_cell? w3 _ y0
  have hz0 : w.heap.size < w3.heap.size := by omega
  clear r2 r3 r4
  go_wp2_with fail
  rw [← hWb]
  clear hWb f0 f1 f2 y0 y1 y2 Bb
  have H4 : Calls Try.prog 24 #[.agg #[.slice A1 ns.length c1, .slice A2 ws.length c2, .slice A3 rs.length c3], .agg #[.int .i64 x.1, .slice B1 x.2.1.length d1, .slice B2 x.2.2.length d2]] Wb fun e w' => RetL (lineZ (ptF ns ws rs) x) (.slice B2 x.2.2.length d2) Wb.heap.size e w' ∧ Below Wb.heap.size Wb w' :=
    ref19_Line ns ws rs x A1 A2 A3 B1 B2 c1 c2 c3 d1 d2 Wb (HR1.out.below Bwb) (HR2.out.below Bwb) (HR3.out.below Bwb) (HR4.out.below Bwb) (HR5.out.below Bwb) q1 q2 q3 q4
  refine H4.mono ?_
  rintro e w4 ⟨hret, hb4⟩
  have Bw4 : Below w.heap.size w w4 := (by repeat (first | exact Below.refl _ _ | apply below_alloc | apply below_drewN | apply below_drew | (refine below_set2 ?_ ?_; (first | (simp; done) | (simp; omega))) | (refine below_step ?_ hb4) | (refine below_step ?_ Bwb)))
  obtain ⟨S2, j2, S3, j3, S4, j4, rfl, r2, r3, r4⟩ := hret.toG (HR5.out.below Bw4)
  obtain ⟨Wc, hWc⟩ : ∃ Wc, Wc = w4.alloc (.cells #[.int .i64 (lnO (ptF ns ws rs) x).1, .slice S2 (lnO (ptF ns ws rs) x).2.1.length j2, .slice S3 (lnO (ptF ns ws rs) x).2.2.1.length j3, .slice S4 (lnO (ptF ns ws rs) x).2.2.2.length j4] 42) := ⟨_, rfl⟩
  have Bc : Below w4.heap.size w4 Wc := by rw [hWc]; exact (by repeat (first | exact Below.refl _ _ | apply below_alloc | apply below_drewN | apply below_drew | (refine below_set2 ?_ ?_; (first | (simp; done) | (simp; omega)))))
  have B4c : Below Wb.heap.size Wb Wc := (by repeat (first | exact Below.refl _ _ | apply below_alloc | apply below_drewN | apply below_drew | (refine below_set2 ?_ ?_; (first | (simp; done) | (simp; omega))) | (refine below_step ?_ Bc) | (refine below_step ?_ hb4)))
  have Bwc : Below w.heap.size w Wc := (by repeat (first | exact Below.refl _ _ | apply below_alloc | apply below_drewN | apply below_drew | (refine below_set2 ?_ ?_; (first | (simp; done) | (simp; omega))) | (refine below_step ?_ B4c) | (refine below_step ?_ Bwb)))
  have hck : Wc.heap[w4.heap.size]? = some (.cells #[.int .i64 (lnO (ptF ns ws rs) x).1, .slice S2 (lnO (ptF ns ws rs) x).2.1.length j2, .slice S3 (lnO (ptF ns ws rs) x).2.2.1.length j3, .slice S4 (lnO (ptF ns ws rs) x).2.2.2.length j4] 42 (0, 0)) := by rw [hWc]; exact heap_alloc_new _ _
  have hbk2 := (B4c.block _ (lt_of_block hbk)).trans hbk
  have a0 := cell_below B4c z0
  have a1 := cell_below B4c z1
  have a2 := cell_below B4c z2
  have m0 := blk_cell hbk2 0 rfl
  have m1 := blk_cell hbk2 1 rfl
  have m2 := blk_cell hbk2 2 rfl
  have m3 := blk_cell hbk2 3 rfl
  have n0 := blk_cell hck 0 rfl
  have n1 := blk_cell hck 1 rfl
  have n2 := blk_cell hck 2 rfl
  have n3 := blk_cell hck 3 rfl
  have R2c := Lib.hid (R2.out.below B4c)
  have R3c := Lib.hid (R3.out.below B4c)
  have R4c := Lib.hid (R4.out.below B4c)
  have T2 := Lib.hid (r2.below Bc)
  have T3 := Lib.hid (r3.below Bc)
  have T4 := Lib.hid (r4.below Bc)
  have HR4c := Lib.hid (HR4.out.below Bwc)
  clear H4 hret hb4 r2 r3 r4 g0 g1 g2 z0 z1 z2 R2 R3 R4 hbk hbk2 hck
  go_wp2_with fail
  rw [← hWc]
  clear hWc Bc B4c
  refine start_ (n := 19) (S := fun w' => w'.cell? ⟨w.heap.size + 1, 0, none⟩ = some (.int .i64 x.1) ∧ w'.cell? ⟨w.heap.size + 1, 1, none⟩ = some (.slice B1 x.2.1.length d1) ∧ w'.cell? ⟨w.heap.size + 1, 2, none⟩ = some (.slice B2 x.2.2.length d2) ∧ w'.cell? ⟨w3.heap.size, 0, none⟩ = some (.int .i64 (lnO (ptF ns ws rs) x).1) ∧ w'.cell? ⟨w3.heap.size, 1, none⟩ = some (.slice P2 (lnO (ptF ns ws rs) x).2.1.length k2) ∧ w'.cell? ⟨w3.heap.size, 2, none⟩ = some (.slice P3 (lnO (ptF ns ws rs) x).2.2.1.length k3) ∧ w'.cell? ⟨w3.heap.size, 3, none⟩ = some (.slice P4 (lnO (ptF ns ws rs) x).2.2.2.length k4) ∧ w'.cell? ⟨w4.heap.size, 0, none⟩ = some (.int .i64 (lnO (ptF ns ws rs) x).1) ∧ w'.cell? ⟨w4.heap.size, 1, none⟩ = some (.slice S2 (lnO (ptF ns ws rs) x).2.1.length j2) ∧ w'.cell? ⟨w4.heap.size, 2, none⟩ = some (.slice S3 (lnO (ptF ns ws rs) x).2.2.1.length j3) ∧ w'.cell? ⟨w4.heap.size, 3, none⟩ = some (.slice S4 (lnO (ptF ns ws rs) x).2.2.2.length j4)) (ds := [16]) #[false, false, false, false, false, false, false, false, false, false, false, false, false, false, false, false, false, false, false] (by kernel_rfl) rfl rfl ⟨a0, a1, a2, m0, m1, m2, m3, n0, n1, n2, n3⟩ (fun hHeld => ?_)
  refine pure_ (i := 0) (N := some 32) (v := ?_) (a' := ?_) #[true, false, false, false, false, false, false, false, false, false, false, false, false, false, false, false, false, false, false] rfl rfl (by kernel_rfl) (fun _ _ _ h => h) (Or.inl ⟨by rfl, ?_⟩) ?_ ?_
  rotate_left
  · intro w'
    go_simp
    with_reducible rfl
  rotate_left
  · simp only [Act.put, List.setIfInBounds_toArray, List.set_cons_zero, List.set_cons_succ, i64_w, i32_w]
    rfl
  refine pure_ (i := 1) (N := some 33) (v := ?_) (a' := ?_) #[true, true, false, false, false, false, false, false, false, false, false, false, false, false, false, false, false, false, false] rfl rfl (by kernel_rfl) (fun _ _ _ h => h) (Or.inl ⟨by rfl, ?_⟩) ?_ ?_
  rotate_left
  · intro w'
    go_simp
    with_reducible rfl
  rotate_left
  · simp only [Act.put, List.setIfInBounds_toArray, List.set_cons_zero, List.set_cons_succ, i64_w, i32_w]
    rfl
  refine pure_ (i := 2) (N := some 34) (v := ?_) (a' := ?_) #[true, true, true, false, false, false, false, false, false, false, false, false, false, false, false, false, false, false, false] rfl rfl (by kernel_rfl) (fun _ _ _ h => h) (Or.inl ⟨by rfl, ?_⟩) ?_ ?_
  rotate_left
  · intro w'
    go_simp
    with_reducible rfl
  rotate_left
  · simp only [Act.put, List.setIfInBounds_toArray, List.set_cons_zero, List.set_cons_succ, i64_w, i32_w]
    rfl
  refine pure_ (i := 3) (N := some 35) (v := ?_) (a' := ?_) #[true, true, true, true, false, false, false, false, false, false, false, false, false, false, false, false, false, false, false] rfl rfl (by kernel_rfl) (fun _ _ _ h => h) (Or.inl ⟨by rfl, ?_⟩) ?_ ?_
  rotate_left
  · intro w'
    go_simp
    with_reducible rfl
  rotate_left
  · simp only [Act.put, List.setIfInBounds_toArray, List.set_cons_zero, List.set_cons_succ, i64_w, i32_w]
    rfl
  refine take_ (i := 4) (N := some 36) (v := ?_) (a' := ?_) #[true, true, true, true, true, false, false, false, false, false, false, false, false, false, false, false, false, false, false] rfl rfl (by kernel_rfl) (fun _ _ _ h => h) (Or.inl ⟨by rfl, ?_⟩) hHeld ?_ ?_
  rotate_left
  · rintro w' ⟨s0, s1, s2, s3, s4, s5, s6, s7, s8, s9, s10⟩
    go_simp
    with_reducible rfl
  rotate_left
  · simp only [Act.put, List.setIfInBounds_toArray, List.set_cons_zero, List.set_cons_succ, i64_w, i32_w]
    rfl
  refine take_ (i := 5) (N := some 37) (v := ?_) (a' := ?_) #[true, true, true, true, true, true, false, false, false, false, false, false, false, false, false, false, false, false, false] rfl rfl (by kernel_rfl) (fun _ _ _ h => h) (Or.inl ⟨by rfl, ?_⟩) hHeld ?_ ?_
  rotate_left
  · rintro w' ⟨s0, s1, s2, s3, s4, s5, s6, s7, s8, s9, s10⟩
    go_simp
    with_reducible rfl
  rotate_left
  · simp only [Act.put, List.setIfInBounds_toArray, List.set_cons_zero, List.set_cons_succ, i64_w, i32_w]
    rfl
  refine one_ (i := 6) (N := some 38) #[true, true, true, true, true, true, true, false, false, false, false, false, false, false, false, false, false, false, false] rfl rfl (by kernel_rfl) (by decide) (fun K hK => ?_)
  refine goes_ Try.func25 (by kernel_rfl) rfl #[.agg #[.int .i64 (lnO (ptF ns ws rs) x).1, .slice P2 (lnO (ptF ns ws rs) x).2.1.length k2, .slice P3 (lnO (ptF ns ws rs) x).2.2.1.length k3, .slice P4 (lnO (ptF ns ws rs) x).2.2.2.length k4], .agg #[.int .i64 (lnO (ptF ns ws rs) x).1, .slice S2 (lnO (ptF ns ws rs) x).2.1.length j2, .slice S3 (lnO (ptF ns ws rs) x).2.2.1.length j3, .slice S4 (lnO (ptF ns ws rs) x).2.2.2.length j4]] (by rfl) rfl rfl (by simp only [List.map_toArray, List.map_cons, List.map_nil]; rfl) ?_
  with_reducible refine (law19_sameLine (lnO (ptF ns ws rs) x) P2 P3 P4 S2 S3 S4 k2 k3 k4 j2 j3 j4 _ (R2c.out.below (below_drew (Below.refl _ _))) (R3c.out.below (below_drew (Below.refl _ _))) (R4c.out.below (below_drew (Below.refl _ _))) (T2.out.below (below_drew (Below.refl _ _))) (T3.out.below (below_drew (Below.refl _ _))) (T4.out.below (below_drew (Below.refl _ _)))).mono ?_
  rintro e w6 ⟨rfl, hb6⟩
  refine ⟨_, rfl, ?_⟩
  have B6 : Below Wc.heap.size Wc w6 := below_step (below_drew (Below.refl _ _)) hb6
  refine hK.out _ _ ⟨cell_below B6 a0, cell_below B6 a1, cell_below B6 a2, cell_below B6 m0, cell_below B6 m1, cell_below B6 m2, cell_below B6 m3, cell_below B6 n0, cell_below B6 n1, cell_below B6 n2, cell_below B6 n3⟩ (fun hHeld => ?_)
  clear hK K
  refine norm_ (a' := ?_) ?_ ?_
  rotate_left
  · show Act.put _ (some 38) _ = _
    simp only [Act.put, List.setIfInBounds_toArray, List.set_cons_zero, List.set_cons_succ, i64_w, i32_w]
    rfl
  refine pure_ (i := 7) (N := some 39) (v := ?_) (a' := ?_) #[true, true, true, true, true, true, true, true, false, false, false, false, false, false, false, false, false, false, false] rfl rfl (by kernel_rfl) (fun _ _ _ h => h) (Or.inl ⟨by rfl, ?_⟩) ?_ ?_
  rotate_left
  · intro w'
    go_simp
    with_reducible rfl
  rotate_left
  · simp only [Act.put, List.setIfInBounds_toArray, List.set_cons_zero, List.set_cons_succ, i64_w, i32_w]
    rfl
  refine pure_ (i := 8) (N := some 40) (v := ?_) (a' := ?_) #[true, true, true, true, true, true, true, true, true, false, false, false, false, false, false, false, false, false, false] rfl rfl (by kernel_rfl) (fun _ _ _ h => h) (Or.inl ⟨by rfl, ?_⟩) ?_ ?_
  rotate_left
  · intro w'
    go_simp
    with_reducible rfl
  rotate_left
  · simp only [Act.put, List.setIfInBounds_toArray, List.set_cons_zero, List.set_cons_succ, i64_w, i32_w]
    rfl
  refine take_ (i := 9) (N := some 41) (v := ?_) (a' := ?_) #[true, true, true, true, true, true, true, true, true, true, false, false, false, false, false, false, false, false, false] rfl rfl (by kernel_rfl) (fun _ _ _ h => h) (Or.inl ⟨by rfl, ?_⟩) hHeld ?_ ?_
  rotate_left
  · rintro w' ⟨s0, s1, s2, s3, s4, s5, s6, s7, s8, s9, s10⟩
    go_simp
    with_reducible rfl
  rotate_left
  · simp only [Act.put, List.setIfInBounds_toArray, List.set_cons_zero, List.set_cons_succ, i64_w, i32_w]
    rfl
  refine take_ (i := 11) (N := some 43) (v := ?_) (a' := ?_) #[true, true, true, true, true, true, true, true, true, true, false, true, false, false, false, false, false, false, false] rfl rfl (by kernel_rfl) (fun _ _ _ h => h) (Or.inl ⟨by rfl, ?_⟩) hHeld ?_ ?_
  rotate_left
  · rintro w' ⟨s0, s1, s2, s3, s4, s5, s6, s7, s8, s9, s10⟩
    go_simp
    with_reducible rfl
  rotate_left
  · simp only [Act.put, List.setIfInBounds_toArray, List.set_cons_zero, List.set_cons_succ, i64_w, i32_w]
    rfl
  refine one_ (i := 10) (N := some 42) #[true, true, true, true, true, true, true, true, true, true, true, true, false, false, false, false, false, false, false] rfl rfl (by kernel_rfl) (by decide) (fun K hK => ?_)
  refine goes_ Try.func26 (by kernel_rfl) rfl #[.agg #[.int .i64 x.1, .slice B1 x.2.1.length d1, .slice B2 x.2.2.length d2]] (by rfl) rfl rfl (by simp only [List.map_toArray, List.map_cons, List.map_nil]; rfl) ?_
  with_reducible refine (normal_Closed x B1 B2 d1 d2 _ (HR4c.out.below B6) q4).mono ?_
  rintro e w7 ⟨rfl, hb7⟩
  refine ⟨_, rfl, ?_⟩
  have B7 : Below Wc.heap.size Wc w7 := below_step B6 hb7
  refine hK.out _ _ ⟨cell_below B7 a0, cell_below B7 a1, cell_below B7 a2, cell_below B7 m0, cell_below B7 m1, cell_below B7 m2, cell_below B7 m3, cell_below B7 n0, cell_below B7 n1, cell_below B7 n2, cell_below B7 n3⟩ (fun hHeld => ?_)
  clear hK K
  refine norm_ (a' := ?_) ?_ ?_
  rotate_left
  · show Act.put _ (some 42) _ = _
    simp only [Act.put, List.setIfInBounds_toArray, List.set_cons_zero, List.set_cons_succ, i64_w, i32_w]
    rfl
  refine one_ (i := 12) (N := some 44) #[true, true, true, true, true, true, true, true, true, true, true, true, true, false, false, false, false, false, false] rfl rfl (by kernel_rfl) (by decide) (fun K hK => ?_)
  refine goes_ Try.func27 (by kernel_rfl) rfl #[.agg #[.int .i64 x.1, .slice B1 x.2.1.length d1, .slice B2 x.2.2.length d2]] (by rfl) rfl rfl (by simp only [List.map_toArray, List.map_cons, List.map_nil]; rfl) ?_
  with_reducible refine (ref19_Closed x B1 B2 d1 d2 _ (HR4c.out.below B7) q4).mono ?_
  rintro e w8 ⟨rfl, hb8⟩
  refine ⟨_, rfl, ?_⟩
  have B8 : Below Wc.heap.size Wc w8 := below_step B7 hb8
  refine hK.out _ _ ⟨cell_below B8 a0, cell_below B8 a1, cell_below B8 a2, cell_below B8 m0, cell_below B8 m1, cell_below B8 m2, cell_below B8 m3, cell_below B8 n0, cell_below B8 n1, cell_below B8 n2, cell_below B8 n3⟩ (fun hHeld => ?_)
  clear hK K
  refine norm_ (a' := ?_) ?_ ?_
  rotate_left
  · show Act.put _ (some 44) _ = _
    simp only [Act.put, List.setIfInBounds_toArray, List.set_cons_zero, List.set_cons_succ, i64_w, i32_w]
    rfl
  refine pure_ (i := 13) (N := some 45) (v := ?_) (a' := ?_) #[true, true, true, true, true, true, true, true, true, true, true, true, true, true, false, false, false, false, false] rfl rfl (by kernel_rfl) (fun _ _ _ h => h) (Or.inl ⟨by rfl, ?_⟩) ?_ ?_
  rotate_left
  · intro w'
    go_simp
    with_reducible rfl
  rotate_left
  · simp only [Act.put, List.setIfInBounds_toArray, List.set_cons_zero, List.set_cons_succ, i64_w, i32_w]
    rfl
  refine pure_ (i := 14) (N := some 46) (v := ?_) (a' := ?_) #[true, true, true, true, true, true, true, true, true, true, true, true, true, true, true, false, false, false, false] rfl rfl (by kernel_rfl) (fun _ _ _ h => h) (Or.inl ⟨by rfl, ?_⟩) ?_ ?_
  rotate_left
  · intro w'
    go_simp
    with_reducible rfl
  rotate_left
  · simp only [Act.put, List.setIfInBounds_toArray, List.set_cons_zero, List.set_cons_succ, i64_w, i32_w]
    rfl
  refine pure_ (i := 15) (N := some 47) (v := ?_) (a' := ?_) #[true, true, true, true, true, true, true, true, true, true, true, true, true, true, true, true, false, false, false] rfl rfl (by kernel_rfl) (fun _ _ _ h => h) (Or.inl ⟨by rfl, ?_⟩) ?_ ?_
  rotate_left
  · intro w'
    go_simp
    with_reducible rfl
  rotate_left
  · simp only [Act.put, List.setIfInBounds_toArray, List.set_cons_zero, List.set_cons_succ, i64_w, i32_w]
    rfl
  refine last_ (i := 16) (N := some 48) #[true, true, true, true, true, true, true, true, true, true, true, true, true, true, true, true, true, false, false] rfl rfl (by kernel_rfl) (by decide) (fun K hK => ?_)
  refine goes_ Try.func10 (by kernel_rfl) rfl #[] (by rfl) rfl rfl (by simp) ?_
  with_reducible refine (law19_lives _).mono ?_
  rintro e w9 ⟨rfl, hb9⟩
  refine ⟨_, rfl, ?_⟩
  refine hK.out _ _ ?_
  clear hK K
  refine norm_ (a' := ?_) ?_ ?_
  rotate_left
  · show Act.put _ (some 48) _ = _
    simp only [Act.put, List.setIfInBounds_toArray, List.set_cons_zero, List.set_cons_succ, i64_w, i32_w]
    rfl
  refine pure_ (i := 17) (N := some 49) (v := ?_) (a' := ?_) #[true, true, true, true, true, true, true, true, true, true, true, true, true, true, true, true, true, true, false] rfl rfl (by kernel_rfl) (fun _ _ _ h => h) (Or.inl ⟨by rfl, ?_⟩) ?_ ?_
  rotate_left
  · intro w'
    go_simp
    with_reducible rfl
  rotate_left
  · simp only [Act.put, List.setIfInBounds_toArray, List.set_cons_zero, List.set_cons_succ, i64_w, i32_w]
    rfl
  refine pure_ (i := 18) (N := some 4) (v := ?_) (a' := ?_) #[true, true, true, true, true, true, true, true, true, true, true, true, true, true, true, true, true, true, true] rfl rfl (by kernel_rfl) (fun _ _ _ h => h) (Or.inl ⟨by rfl, ?_⟩) ?_ ?_
  rotate_left
  · intro w'
    go_simp
    with_reducible rfl
  rotate_left
  · simp only [Act.put, List.setIfInBounds_toArray, List.set_cons_zero, List.set_cons_succ, i64_w, i32_w]
    rfl
  refine done_ (by kernel_rfl) ?_
  have B9 : Below w.heap.size w w9 := (by repeat (first | exact Below.refl _ _ | apply below_alloc | apply below_drewN | apply below_drew | (refine below_set2 ?_ ?_; (first | (simp; done) | (simp; omega))) | (refine below_step ?_ hb9) | (refine below_step ?_ B8) | (refine below_step ?_ Bwc)))
  go_wp2
  go_ret
  exact ⟨rfl, B9⟩
end Go.Proofs.Ytniceoinipffmaa
