/- Contracts of normal.Lines, normal.Line, mapmakerref19.Lines, mapmakerref19.Line and both Closed. -/
import Derived.Test.YtniceoinipffmaaNRline
namespace Go.Proofs.Ytniceoinipffmaa
open Go.RowKit Go.Proofs.YtniceoinipffmaaW.PrintLast
set_option linter.unusedVariables false
set_option linter.unusedSimpArgs false

def linesZ (f : Int → Option Pt) (ws : List Way) : List Line := ws.filterMap (lineZ f)
theorem infoLine : (Try.prog.info? 42).map (fun i => (i.zero, i.size, i.bytes)) = some (some (.agg #[.int .i64 0, .slice none 0 0, .slice none 0 0, .slice none 0 0]), 4, 80) := by kernel_rfl
theorem lines_some {f : Int → Option Pt} {ws : List Way} {k : Nat} {x : Line} (hk : k < ws.length) (h : lineZ f (wyD ws k) = some x) : linesZ f (ws.take (k + 1)) = linesZ f (ws.take k) ++ [x] := by
  rw [linesZ, take_snoc ws k (0, ([], [])) hk, List.filterMap_append]
  show _ ++ [wyD ws k].filterMap (lineZ f) = _
  simp [h, linesZ]
theorem lines_none {f : Int → Option Pt} {ws : List Way} {k : Nat} (hk : k < ws.length) (h : lineZ f (wyD ws k) = none) : linesZ f (ws.take (k + 1)) = linesZ f (ws.take k) := by
  rw [linesZ, take_snoc ws k (0, ([], [])) hk, List.filterMap_append]
  show _ ++ [wyD ws k].filterMap (lineZ f) = _
  simp [h, linesZ]
theorem lines_len (f : Int → Option Pt) (ws : List Way) : (linesZ f ws).length ≤ ws.length := List.length_filterMap_le _ _
theorem lineZ_tags {f : Int → Option Pt} {x : Way} {l : Line} (h : lineZ f x = some l) : l.1 = x.1 ∧ l.2.2.2 = x.2.2 := by
  unfold lineZ at h
  split at h
  · cases h
  · split at h
    · cases h
    · injection h with h; subst h; exact ⟨rfl, rfl⟩
/-- A line's cells. -/
theorem lineR {ok : Nat → Prop} {w : World} {l : Line} {vp vi : Value} {A : Option Addr} {n c base base' : Nat} (hp : Own1 Ty.pt 44 base w vp l.2.1) (hi : Own1 Ty.i64 3 base' w vi l.2.2.1) (hn : n = l.2.2.2.length) (hl : n ≤ c) (h : Row Ty.tag ok w A l.2.2.2)
    (h1 : ∀ b, vp.ownBlock = some b → ok b) (h2 : ∀ b, vi.ownBlock = some b → ok b) : Ty.line.R ok w l #[.int .i64 l.1, vp, vi, .slice A n c].toList := by
  subst hn
  have own : ∀ {α : Type} {T : Ty α} {e : TypeId} {base : Nat} {v : Value} {xs : List α} (hf : ∀ (ok ok' : Nat → Prop) (w w' : World) (x : α) (cs : List Value), T.R ok w x cs → T.R ok' w' x cs), Own1 T e base w v xs → (∀ b, v.ownBlock = some b → ok b) → (Ty.slice T).R ok w xs [v] := by
    intro α T e base v xs hf ho hok
    have hl := OwnR.len ho
    obtain ⟨h0, inner, ho', hr⟩ := ho
    rcases ho'.2 with ⟨rfl, hn⟩ | ⟨g, cap, cur, rfl, hg, hh, h1, h2, h3, h4⟩
    · obtain rfl := List.eq_nil_of_length_eq_zero hn
      exact ⟨none, 0, rfl, Nat.le_refl _, Row.nil _ _ _ _⟩
    · refine ⟨some ⟨g, 0, none⟩, cap, rfl, h1, hl, fun _ => ⟨_, rfl, hok g rfl, fun i x hx => ?_⟩⟩
      obtain ⟨c, hc, hk⟩ := hr.get i x hx
      exact ⟨c, hf _ _ _ _ _ _ hc, fun j u hu => ho'.cells (g := g) rfl _ u (hk j u hu)⟩
  exact ⟨[_], [_, _, _], rfl, rfl, [_], [_, _], rfl, own pt_flat hp h1, [_], [_], rfl, own int_flat hi h2, A, c, rfl, hl, h⟩
set_option maxRecDepth 20000 in
set_option maxHeartbeats 4000000 in
theorem normal_Lines {ok : Nat → Prop} (ns : List Node) (ws : List Way) (rs : List Rel) (A1 A2 A3 : Option Addr) (c1 c2 c3 : Nat) (w : World) (h1 : Row Ty.node ok w A1 ns) (h2 : Row Ty.way ok w A2 ws) (h3 : Row Ty.rel ok w A3 rs)
    (q1 : ns.length ≤ 10000) (q2 : ws.length ≤ 10000) (q3 : rs.length ≤ 10000) (q4 : ∀ x ∈ ws, x.2.1.length ≤ 10000) :
    Calls Try.prog 17 #[.agg #[.slice A1 ns.length c1, .slice A2 ws.length c2, .slice A3 rs.length c3]] w fun e w' => ∃ v, e = .returned v ∧ Own1 Ty.line 42 w.heap.size w' v (linesZ (ptF ns ws rs) ws) ∧ Below w.heap.size w w' := by
  have HR1 := Lib.hid h1
  have HR2 := Lib.hid h2
  have HR3 := Lib.hid h3
  have HR2' : Hid (Row Ty.way (fun k => k < w.heap.size) w A2 ws) := h2.bnd.mono (fun k hk => hk.2)
  have HQ := Lib.hid q4
  clear h1 h2 h3 q4
  obtain ⟨W0, hW⟩ : ∃ W0, W0 = w.alloc (.cells #[.slice A1 ns.length c1, .slice A2 ws.length c2, .slice A3 rs.length c3] 26) := ⟨_, rfl⟩
  have B0 : Below w.heap.size w W0 := by rw [hW]; exact (by repeat (first | exact Below.refl _ _ | apply below_alloc | apply below_drewN | apply below_drew | (refine below_set2 ?_ ?_; (first | (simp; done) | (simp; omega)))))
  have hao : ∀ o : Nat, W0.cell? ⟨w.heap.size, o, none⟩ = #[.slice A1 ns.length c1, .slice A2 ws.length c2, .slice A3 rs.length c3][o]? := fun o => by rw [hW]; simp only [World.cell?, heap_alloc_new]; rfl
  have hc1 : W0.cell? ⟨w.heap.size, 1, none⟩ = some (.slice A2 ws.length c2) := hao 1
  clear hao
  go_enter Try.func17, Try.ntmps17
  go_wp2_with fail
  rw [← hW]
  clear hW
  refine (normal_points ns ws rs A1 A2 A3 c1 c2 c3 _ (HR1.out.below B0) (HR2.out.below B0) (HR3.out.below B0) q1 q2 q3).mono ?_
  rintro e w1 ⟨b, vs, rfl, hm, hf, hb1⟩
  have B1 : Below w.heap.size w w1 := (by repeat (first | exact Below.refl _ _ | apply below_alloc | apply below_drewN | apply below_drew | (refine below_set2 ?_ ?_; (first | (simp; done) | (simp; omega))) | (refine below_step ?_ hb1) | (refine below_step ?_ B0)))
  have hd1 := cell_below hb1 hc1
  have HM := Lib.hid hm
  have HF := Lib.hid hf
  obtain ⟨f, hfe⟩ : ∃ f, f = ptF ns ws rs := ⟨_, rfl⟩
  have HE : Hid (linesZ f ws = linesZ (ptF ns ws rs) ws) := by show _ = _; rw [hfe]
  rw [← hfe] at HF
  clear hm hf hb1 hc1 hfe HR1 HR2 HR3
  go_wp2
  go_loopw [3, 14] (fun v i wr => ∃ k : Nat, k ≤ ws.length ∧ i = .int .i64 k ∧ Below w1.heap.size w1 wr ∧ Own1 Ty.line 42 w1.heap.size wr v (linesZ f (ws.take k))) (fun _ i _ => ws.length - (intOf i).toNat)
  case atStart => exact ⟨0, Nat.zero_le _, rfl, Below.refl _ _, OwnR.nil _ _ _ _ _⟩
  case round =>
    obtain ⟨k, hk, rfl, hb, ho⟩ := hrel
    have BW : Below w.heap.size w wr := (by repeat (first | exact Below.refl _ _ | apply below_alloc | apply below_drewN | apply below_drew | (refine below_set2 ?_ ?_; (first | (simp; done) | (simp; omega))) | (refine below_step ?_ hb) | (refine below_step ?_ B1)))
    by_cases hlt : k < ws.length
    · have HRk := Lib.hid (HR2'.out.below BW)
      obtain ⟨ad, A4, c4, A5, c5, rfl, hx1, hx2, hx3, hl4, hr4, hl5, hr5⟩ := HRk.out.way_at k hlt
      have R4 := Lib.hid hr4
      have R5 := Lib.hid hr5
      have HO := Lib.hid ho
      have hq := HQ.out (wyD ws k) (by simp only [wyD, List.getD_eq_getElem?_getD, List.getElem?_eq_getElem hlt, Option.getD_some]; exact List.getElem_mem hlt)
      clear hr4 hr5 ho HRk
      obtain ⟨Wp, hWp⟩ : ∃ Wp, Wp = wr.alloc (.cells #[.int .i64 (wyD ws k).1, .slice A4 (wyD ws k).2.1.length c4, .slice A5 (wyD ws k).2.2.length c5] 50) := ⟨_, rfl⟩
      have BP : Below wr.heap.size wr Wp := by rw [hWp]; exact (by repeat (first | exact Below.refl _ _ | apply below_alloc | apply below_drewN | apply below_drew | (refine below_set2 ?_ ?_; (first | (simp; done) | (simp; omega)))))
      have BPw : Below w1.heap.size w1 Wp := (by repeat (first | exact Below.refl _ _ | apply below_alloc | apply below_drewN | apply below_drew | (refine below_set2 ?_ ?_; (first | (simp; done) | (simp; omega))) | (refine below_step ?_ BP) | (refine below_step ?_ hb)))
      go_wp2_with fail
      rw [← hWp]
      clear hWp
      refine (normal_line f (wyD ws k) b vs A4 A5 c4 c5 Wp (HM.out.below BPw) HF.out (R4.out.below BP) (R5.out.below BP) hq).mono ?_
      rintro e w2 ⟨hret, hb2⟩
      have B2 : Below w1.heap.size w1 w2 := (by repeat (first | exact Below.refl _ _ | apply below_alloc | apply below_drewN | apply below_drew | (refine below_set2 ?_ ?_; (first | (simp; done) | (simp; omega))) | (refine below_step ?_ hb2) | (refine below_step ?_ BPw)))
      have B3 : Below wr.heap.size wr w2 := (by repeat (first | exact Below.refl _ _ | apply below_alloc | apply below_drewN | apply below_drew | (refine below_set2 ?_ ?_; (first | (simp; done) | (simp; omega))) | (refine below_step ?_ hb2) | (refine below_step ?_ BP)))
      have hsz := BPw.size
      have hz1 := B1.size
      have hz2 := B2.size
      have HO2 := Lib.hid (Own1.below HO.out B3)
      have R52 := Lib.hid (R5.out.below B3)
      have hlo := HO.out
      have hzw : ∀ b, u3.ownBlock = some b → b < wr.heap.size := fun b e => (OwnR.lt HO.out b e).2
      have hzp := BP.size
      clear hx1 hx2 hx3 R4 R5 HO hlo BP BPw
      rcases hret with ⟨hn, rfl⟩ | ⟨x, vp, vi, hx, rfl, hop, hoi⟩
      · have HN := Lib.hid (lines_none hlt hn)
        clear hn
        go_wp2
        go_roundw
        case rel => exact ⟨k + 1, by omega, by go_num, (by repeat (first | exact Below.refl _ _ | apply below_alloc | apply below_drewN | apply below_drew | (refine below_set2 ?_ ?_; (first | (simp; done) | (simp; omega))) | (refine below_step ?_ B2))), by rw [HN.out]; exact Own1.below HO2.out (by repeat (first | exact Below.refl _ _ | apply below_alloc | apply below_drewN | apply below_drew | (refine below_set2 ?_ ?_; (first | (simp; done) | (simp; omega)))))⟩
        case measure => simp [intOf]; omega
      · obtain ⟨e1, e2⟩ := lineZ_tags hx
        have HN := Lib.hid (lines_some hlt hx)
        have RP : Hid (Ty.line.R (fun j => ¬ u3.ownBlock = some j) w2 x #[.int .i64 x.1, vp, vi, .slice A5 (wyD ws k).2.2.length c5].toList) :=
          lineR hop hoi (by rw [e2]) hl5 (by rw [e2]; exact R52.out.mono (fun b hb' e => by have := (OwnR.lt HO2.out b e).1; omega)) (fun b hb' e => by have := (OwnR.lt hop b hb').1; have := hzw b e; omega) (fun b hb' e => by have := (OwnR.lt hoi b hb').1; have := hzw b e; omega)
        obtain ⟨Ap, cp, rfl, _, _⟩ := hop.reads
        obtain ⟨Ai, ci, rfl, _, _⟩ := hoi.reads
        have hlen : ((linesZ f (ws.take k)).length + 1) * 80 ≤ 140737488355328 := by have := lines_len f (ws.take k); rw [List.length_take] at this; omega
        clear hx e1 e2 hop hoi hzw
        obtain ⟨Wq, hWq⟩ : ∃ Wq, Wq = w2.alloc (.cells #[.int .i64 x.1, .slice Ap x.2.1.length cp, .slice Ai x.2.2.1.length ci, .slice A5 (wyD ws k).2.2.length c5] 42) := ⟨_, rfl⟩
        have BQ : Below w2.heap.size w2 Wq := by rw [hWq]; exact (by repeat (first | exact Below.refl _ _ | apply below_alloc | apply below_drewN | apply below_drew | (refine below_set2 ?_ ?_; (first | (simp; done) | (simp; omega)))))
        have B4 : Below w1.heap.size w1 Wq := (by repeat (first | exact Below.refl _ _ | apply below_alloc | apply below_drewN | apply below_drew | (refine below_set2 ?_ ?_; (first | (simp; done) | (simp; omega))) | (refine below_step ?_ BQ) | (refine below_step ?_ B2)))
        have RPq : Hid (Ty.line.R (fun j => ¬ u3.ownBlock = some j) Wq x [.int .i64 x.1, .slice Ap x.2.1.length cp, .slice Ai x.2.2.1.length ci, .slice A5 (wyD ws k).2.2.length c5]) := Ty.line.below RP.out BQ
        have HOq := Lib.hid (Own1.below HO2.out BQ)
        have hzq := B4.size
        subst hWq
        clear RP HO2 R52
        go_wp2_with (first | (at_builtin; refine app_one Ty.line (W := w2.alloc (.cells #[.int .i64 x.1, .slice Ap x.2.1.length cp, .slice Ai x.2.2.1.length ci, .slice A5 (wyD ws k).2.2.length c5] 42)) w1.heap.size rfl _ _ 33 42 _ 80 rfl Try.underlying33 infoLine rfl (by decide) u3 (linesZ f (ws.take k)) x [.int .i64 x.1, .slice Ap x.2.1.length cp, .slice Ai x.2.2.1.length ci, .slice A5 (wyD ws k).2.2.length c5] _ rfl rfl (by simp) RPq.out HOq.out hzq hlen ?_; intro v1 w4 HO1 hg1 hat1))
        have BZ : Below w1.heap.size w1 w4 := below_own B4 hg1 (fun b e => (OwnR.lt HOq.out b e).1)
        have HO4 : Hid (Own1 Ty.line 42 w1.heap.size w4 v1 (linesZ f (ws.take (k + 1)))) := by show Own1 _ _ _ _ _ _; rw [HN.out]; exact Own1.of HO1
        clear HO1 hg1 hat1
        go_wp2
        go_roundw
        case rel => exact ⟨k + 1, by omega, by go_num, BZ, HO4.out⟩
        case measure => simp [intOf]; omega
    · obtain rfl : k = ws.length := by omega
      have HO : Hid (Own1 Ty.line 42 w.heap.size wr u3 (linesZ (ptF ns ws rs) ws)) := by show Own1 _ _ _ _ _ _; rw [List.take_length, HE.out] at ho; exact ho.base B1.size
      clear ho
      go_wp2
      go_ret
      exact ⟨_, rfl, HO.out, BW⟩
end Go.Proofs.Ytniceoinipffmaa
