/- Contract of normal.Merged. -/
import Derived.Test.YtniceoinipffmaaNGm
namespace Go.Proofs.Ytniceoinipffmaa
open Go.RowKit Go.Proofs.YtniceoinipffmaaW.PrintLast
set_option linter.unusedVariables false
set_option linter.unusedSimpArgs false

theorem insertionSort_nil (w : World) : Calls Try.prog 81 #[.slice none 0 0, .int .i64 0, .int .i64 0, .func (.func 43) #[] #[]] w fun e w' => e = .returned (.tuple #[]) ∧ Below w.heap.size w w' := by
  go_enter Try.func81, Try.ntmps81
  go_wp2
  refine wp_loop_rounds 1 ?_
  rw [rounds_succ]
  go_wp2
  exact bodyPost_end (results_none rfl _ _ _) rfl ⟨rfl, (by repeat (first | exact Below.refl _ _ | apply below_alloc | apply below_drewN | apply below_drew | (refine below_set2 ?_ ?_; (first | (simp; done) | (simp; omega)))))⟩
set_option maxRecDepth 20000 in
theorem pdq_nil (li : Int) (w : World) : Calls Try.prog 63 #[.slice none 0 0, .int .i64 0, .int .i64 0, .int .i64 li, .func (.func 43) #[] #[]] w fun e w' => e = .returned (.tuple #[]) ∧ Below w.heap.size w w' := by
  go_enter Try.func63, Try.ntmps63
  go_wp2
  refine wp_loop_rounds 1 ?_
  rw [rounds_succ]
  go_wp2_with fail
  refine (insertionSort_nil _).mono ?_
  rintro e w1 ⟨rfl, hb1⟩
  go_wp2
  exact bodyPost_ret (v := .tuple #[]) (results_none rfl _ _ _) rfl ⟨rfl, (by repeat (first | exact Below.refl _ _ | apply below_alloc | apply below_drewN | apply below_drew | (refine below_set2 ?_ ?_; (first | (simp; done) | (simp; omega))) | (refine below_step ?_ hb1)))⟩
theorem SortFunc_nil (w : World) : Calls Try.prog 42 #[.slice none 0 0, .func (.func 43) #[] #[]] w fun e w' => e = .returned (.tuple #[]) ∧ Below w.heap.size w w' := by
  go_enter Try.func42, Try.ntmps42
  go_wp2_with fail
  refine (bits_Len 0 _ (by decide)).mono ?_
  rintro e w1 ⟨⟨z, rfl⟩, hb1⟩
  go_wp2_with fail
  refine (pdq_nil _ _).mono ?_
  rintro e w2 ⟨rfl, hb2⟩
  go_wp2
  exact bodyPost_end (results_none rfl _ _ _) rfl ⟨rfl, (by repeat (first | exact Below.refl _ _ | apply below_alloc | apply below_drewN | apply below_drew | (refine below_set2 ?_ ?_; (first | (simp; done) | (simp; omega))) | (refine below_step ?_ hb2) | (refine below_step ?_ hb1)))⟩
theorem infoIds : (Try.prog.info? 39).map (fun i => (i.zero, i.size, i.bytes)) = some (some (.slice none 0 0), 1, 24) := by kernel_rfl
theorem idsR {ok : Nat → Prop} {e : TypeId} {base : Nat} {w : World} {v : Value} {xs : List Int} (h : Own1 Ty.i64 e base w v xs) (hok : ∀ b, v.ownBlock = some b → ok b) : Ty.ids.R ok w xs [v] := by
  have hl := OwnR.len h
  obtain ⟨h0, inner, ho, hr⟩ := h
  rcases ho.2 with ⟨rfl, hn⟩ | ⟨g, cap, cur, rfl, hg, hh, h1, h2, h3, h4⟩
  · obtain rfl := List.eq_nil_of_length_eq_zero hn
    exact ⟨none, 0, rfl, Nat.le_refl _, Row.nil _ _ _ _⟩
  · refine ⟨some ⟨g, 0, none⟩, cap, rfl, h1, hl, fun _ => ⟨_, rfl, hok g rfl, fun i x hx => ?_⟩⟩
    obtain ⟨c, hc, hk⟩ := hr.get i x hx
    exact ⟨c, hc, fun j u hu => ho.cells (g := g) rfl _ u (hk j u hu)⟩
theorem OwnR.form2 {α : Type} {T : Ty α} {e : TypeId} {base : Nat} {M : Nat → Prop} {w : World} {v : Value} {xs : List α} (h : OwnR T e base M w v xs) : (v = .slice none 0 0 ∧ xs = []) ∨ ∃ g n c, v = .slice (some ⟨g, 0, none⟩) n c := by
  obtain ⟨_, _, ⟨_, h2⟩, _⟩ := h
  rcases h2 with ⟨h2, h3⟩ | ⟨g, cap, cur, h2, _⟩
  · exact .inl ⟨h2, List.eq_nil_of_length_eq_zero h3⟩
  · exact .inr ⟨g, _, cap, h2⟩
theorem dk_len (l : List Pt) : (dk l).length ≤ l.length :=
  snoc_ind (P := fun l => (dk l).length ≤ l.length) (by simp [dk]) (fun l x ih => by rw [dk_snoc]; split <;> simp <;> omega) l
def grp (l : List Place) (vs : List (Pt × Value)) (i : Nat) : List Int := gi l ((vs.map Prod.fst).getD i (0, 0))
theorem grp_at {l : List Place} {vs : List (Pt × Value)} {i : Nat} (hi : i < vs.length) : grp l vs i = gi l (vs[i]'hi).1 := by
  unfold grp; congr 1
  simp [hi]
theorem grp_done {l : List Place} {vs : List (Pt × Value)} {ds : List Nat} (hk : vs.map Prod.fst = dk (atL l)) (hn : ds.Nodup) (hl : ∀ i ∈ ds, i < vs.length) (h : ds.length = vs.length) : ((ds.map (grp l vs)).filter big).Perm (mergedZ l) := by
  have h1 := (perm_range hn hl h).map (grp l vs)
  have h2 : (List.range vs.length).map (grp l vs) = (dk (atL l)).map (gi l) := by
    rw [← hk]
    apply List.ext_getElem
    · simp
    · intro i h1 h2
      have hi : i < vs.length := by simpa using h1
      rw [List.getElem_map, List.getElem_range, grp_at hi]; simp
  rw [h2] at h1
  exact h1.filter big
theorem Places.incr (ns : List Node) (ws : List Way) (rs : List Rel) : Incr (placesZ ns ws rs) := fun i j h1 h2 => places_lt h1 h2

set_option maxRecDepth 20000 in
set_option maxHeartbeats 1000000 in
theorem normal_Merged {ok : Nat → Prop} (ns : List Node) (ws : List Way) (rs : List Rel) (A1 A2 A3 : Option Addr) (c1 c2 c3 : Nat) (w : World) (h1 : Row Ty.node ok w A1 ns) (h2 : Row Ty.way ok w A2 ws) (h3 : Row Ty.rel ok w A3 rs)
    (q1 : ns.length ≤ 24) (q2 : ws.length ≤ 10000) (q3 : rs.length ≤ 10000) :
    Calls Try.prog 20 #[.agg #[.slice A1 ns.length c1, .slice A2 ws.length c2, .slice A3 rs.length c3]] w fun e w' => ∃ v, e = .returned v ∧ Own1 Ty.ids 39 w.heap.size w' v (mergedZ (placesZ ns ws rs)) ∧ Below w.heap.size w w' := by
  have HR1 := Lib.hid h1
  have HR2 := Lib.hid h2
  have HR3 := Lib.hid h3
  have mk : ∀ W : World, (Instr.makeMap 86 none).run Try.prog W = .ok (.map (some W.heap.size)) (W.alloc (.map #[] 0)) := fun W => run_makeMap _ W
  clear h1 h2 h3
  obtain ⟨Wa, hWa⟩ : ∃ Wa, Wa = w.alloc (.cells #[.slice A1 ns.length c1, .slice A2 ws.length c2, .slice A3 rs.length c3] 26) := ⟨_, rfl⟩
  have Ba : Below w.heap.size w Wa := by rw [hWa]; exact (by repeat (first | exact Below.refl _ _ | apply below_alloc | apply below_drewN | apply below_drew | (refine below_set2 ?_ ?_; (first | (simp; done) | (simp; omega)))))
  have za : Wa.heap.size = w.heap.size + 1 := by rw [hWa]; simp
  have hao : ∀ o : Nat, Wa.cell? ⟨w.heap.size, o, none⟩ = #[.slice A1 ns.length c1, .slice A2 ws.length c2, .slice A3 rs.length c3][o]? := fun o => by rw [hWa]; simp only [World.cell?, heap_alloc_new]; rfl
  obtain ⟨Wb, hWb⟩ : ∃ Wb, Wb = Wa.alloc (.map #[] 0) := ⟨_, rfl⟩
  have Mb : OwnMap ptV Wb (w.heap.size + 1) [] := by rw [hWb, ← za]; exact OwnMap.made _ _
  have Bb' : Below Wa.heap.size Wa Wb := by rw [hWb]; exact (by repeat (first | exact Below.refl _ _ | apply below_alloc | apply below_drewN | apply below_drew | (refine below_set2 ?_ ?_; (first | (simp; done) | (simp; omega)))))
  have Bb : Below w.heap.size w Wb := (by repeat (first | exact Below.refl _ _ | apply below_alloc | apply below_drewN | apply below_drew | (refine below_set2 ?_ ?_; (first | (simp; done) | (simp; omega))) | (refine below_step ?_ Bb') | (refine below_step ?_ Ba)))
  have hc0 : Wb.cell? ⟨w.heap.size, 0, none⟩ = some (.slice A1 ns.length c1) := cell_below Bb' (hao 0)
  have hc1 : Wb.cell? ⟨w.heap.size, 1, none⟩ = some (.slice A2 ws.length c2) := cell_below Bb' (hao 1)
  have hc2 : Wb.cell? ⟨w.heap.size, 2, none⟩ = some (.slice A3 rs.length c3) := cell_below Bb' (hao 2)
  rw [hWa] at hWb
  clear hWa Ba za hao Bb'
  go_enter Try.func20, Try.ntmps20
  go_wp2_with fail
  rw [← hWb]
  clear hWb
  refine (normal_Points ns ws rs A1 A2 A3 c1 c2 c3 _ (HR1.out.below Bb) (HR2.out.below Bb) (HR3.out.below Bb) (by omega) q2 q3).mono ?_
  rintro e w1 ⟨v, rfl, ho, hb1⟩
  have B1 : Below w.heap.size w w1 := (by repeat (first | exact Below.refl _ _ | apply below_alloc | apply below_drewN | apply below_drew | (refine below_set2 ?_ ?_; (first | (simp; done) | (simp; omega))) | (refine below_step ?_ hb1) | (refine below_step ?_ Bb)))
  have hpl := placesZ_len ns ws rs
  have HINC := Lib.hid (Places.incr ns ws rs)
  obtain ⟨A, c, rfl, hlc, hr⟩ := ho.reads
  obtain ⟨l, hl⟩ : ∃ l, l = placesZ ns ws rs := ⟨_, rfl⟩
  have HE : Hid (mergedZ l = mergedZ (placesZ ns ws rs)) := by show _ = _; rw [hl]
  rw [← hl] at hr hlc hpl HINC ⊢
  have hmb : w.heap.size + 1 < Wb.heap.size := Mb.lt
  have hz1 : w.heap.size + 1 < w1.heap.size := Nat.lt_of_lt_of_le hmb hb1.size
  have hne : ∀ k, A = some k → 0 < l.length → k.block ≠ w.heap.size + 1 := by
    intro k hk hn e
    obtain ⟨g, c', hv, _⟩ := ho.form (by rw [← hl]; exact hn)
    injection hv with hv
    rw [hk] at hv; injection hv with hv
    have h1 := (OwnR.lt ho g (by rw [hv] at hk; rw [hk]; rfl)).1
    rw [hv] at e; simp at e; omega
  have HC : Hid (∀ W, KeptS (fun i => i = w.heap.size + 1) w1 W → ∀ k, k < l.length → ∃ ad A4 c4, A = some ad ∧ W.cell? (ad.add (k * 4)) = some (.int .i64 (ndD l k).1) ∧ W.cell? ⟨(ad.add (k * 4)).block, (ad.add (k * 4)).off + 1, none⟩ = some (.int .i64 (ndD l k).2.1.1) ∧
      W.cell? ⟨(ad.add (k * 4)).block, (ad.add (k * 4)).off + 2, none⟩ = some (.int .i64 (ndD l k).2.1.2) ∧ W.cell? ⟨(ad.add (k * 4)).block, (ad.add (k * 4)).off + 3, none⟩ = some (.slice A4 (ndD l k).2.2.length c4)) := fun W hK k hk => by
    obtain ⟨ad, A4, c4, hA, x1, x2, x3, x4, _, _⟩ := hr.node_at k hk
    have hb := hne ad hA (by omega)
    have hb' : (ad.add (k * 4)).block ≠ w.heap.size + 1 := by rw [add_block]; exact hb
    exact ⟨ad, A4, c4, hA, hK.cell x1 hb', hK.cell x2 hb', hK.cell x3 hb', hK.cell x4 hb'⟩
  have HG0 : Hid (GM w1 w1.heap.size (w.heap.size + 1) [] []) := GM.made (Mb.below hb1)
  clear hr ho hne hl HR1 HR2 HR3 hb1 hc0 hc1 hc2 Mb mk
  go_wp2
  go_loopw [13] (fun i wr => ∃ (k : Nat) (vs : List (Pt × Value)), k ≤ l.length ∧ i = .int .i64 k ∧ KeptS (fun i => i = w.heap.size + 1) w1 wr ∧ Hid (GM wr w1.heap.size (w.heap.size + 1) vs (l.take k))) (fun i _ => l.length - (intOf i).toNat)
  case atStart => exact ⟨0, [], Nat.zero_le _, rfl, kept_refl _ _, HG0.out⟩
  case round =>
    obtain ⟨k, vs, hk, rfl, hK, HG⟩ := hrel
    by_cases hlt : k < l.length
    · obtain ⟨ad, A4, c4, rfl, x1, x2, x3, x4⟩ := HC.out wr hK k hlt
      obtain ⟨Wp, hWp⟩ : ∃ Wp, Wp = wr.alloc (.cells #[.int .i64 (ndD l k).1, .int .i64 (ndD l k).2.1.1, .int .i64 (ndD l k).2.1.2, .slice A4 (ndD l k).2.2.length c4] 48) := ⟨_, rfl⟩
      have zp : Wp.heap.size = wr.heap.size + 1 := by rw [hWp]; simp
      have hx0 : Wp.cell? ⟨wr.heap.size, 0, none⟩ = some (.int .i64 (ndD l k).1) := by rw [hWp]; simp only [World.cell?, heap_alloc_new]; rfl
      have hx1 : Wp.cell? ⟨wr.heap.size, 1, none⟩ = some (.int .i64 (ndD l k).2.1.1) := by rw [hWp]; simp only [World.cell?, heap_alloc_new]; rfl
      have hx2 : Wp.cell? ⟨wr.heap.size, 2, none⟩ = some (.int .i64 (ndD l k).2.1.2) := by rw [hWp]; simp only [World.cell?, heap_alloc_new]; rfl
      have BPp : Below wr.heap.size wr Wp := by rw [hWp]; exact (by repeat (first | exact Below.refl _ _ | apply below_alloc | apply below_drewN | apply below_drew | (refine below_set2 ?_ ?_; (first | (simp; done) | (simp; omega)))))
      obtain ⟨Wq, hWq⟩ : ∃ Wq, Wq = Wp.alloc (.cells #[.int .i64 (ndD l k).1] 3) := ⟨_, rfl⟩
      have BQp : Below Wp.heap.size Wp Wq := by rw [hWq]; exact (by repeat (first | exact Below.refl _ _ | apply below_alloc | apply below_drewN | apply below_drew | (refine below_set2 ?_ ?_; (first | (simp; done) | (simp; omega)))))
      have BQ : Below wr.heap.size wr Wq := (by repeat (first | exact Below.refl _ _ | apply below_alloc | apply below_drewN | apply below_drew | (refine below_set2 ?_ ?_; (first | (simp; done) | (simp; omega))) | (refine below_step ?_ BQp) | (refine below_step ?_ BPp)))
      have hq0 : Wq.cell? ⟨wr.heap.size + 1, 0, none⟩ = some (.int .i64 (ndD l k).1) := by rw [hWq, ← zp]; simp only [World.cell?, heap_alloc_new]; rfl
      have hsz := hK.size
      have hszq := BQ.size
      obtain ⟨w2, s, vv, hrun, hown, hK2, hs2, hvo, hstep⟩ := (HG.out.below BQ).add (ndD l k) (by omega) hz1
      have HST := Lib.hid hstep
      have hne2 : ∀ j, vv.ownBlock = some j → j < wr.heap.size := fun j hj => by
        obtain ⟨i, hi, e⟩ := hvo j hj
        exact (OwnR.lt (HG.out.rows i hi) j e).2
      have HROW : Hid (Row Ty.i64 (fun j => ¬ vv.ownBlock = some j) w2 (some ⟨wr.heap.size + 1, 0, none⟩) [(ndD l k).1]) := row_one (fun e => by have := hne2 _ e; omega) (hK2.cell hq0 (by simp; omega))
      have HOWN := Lib.hid hown
      have hlen : ((gi (l.take k) (ndD l k).2.1).length + 1) * 8 ≤ 140737488355328 := by
        have h1 : (gi (l.take k) (ndD l k).2.1).length ≤ (l.take k).length := by unfold gi; rw [List.length_map]; exact List.length_filter_le _ _
        rw [List.length_take] at h1; omega
      have hszb : w1.heap.size ≤ w2.heap.size := by omega
      have K2 : KeptS (fun i => i = w.heap.size + 1) w1 w2 := kept_step (kept_below hK BQ) hK2
      have hvb : ∀ b, vv.ownBlock = some b → w1.heap.size ≤ b := fun b e => (OwnR.lt HOWN.out b e).1
      rw [hWp] at hWq
      rw [hWq] at hrun
      clear hWp hWq hstep hown hvo hne2 hq0 hx0 hx1 hx2 BPp BQp BQ zp hszq hK hK2 hs2
      go_wp2_with (first | (at_builtin; refine app_row Ty.i64 (W := w2) w1.heap.size rfl _ _ 39 3 _ 8 rfl Try.underlying39 infoInt rfl (by decide) vv (gi (l.take k) (ndD l k).2.1) [(ndD l k).1] (some ⟨wr.heap.size + 1, 0, none⟩) 1 1 _ rfl rfl rfl HROW.out HOWN.out hszb hlen ?_; intro v1 w3 HO1 hg1 hat1; obtain ⟨w4, vs', hrun2, hGM, hK4⟩ := HST.out v1 w3 _ HO1 hg1 hat1; have K4 := Lib.hid (kept_step (kept_own K2 hg1 hvb) hK4); have HG4 := Lib.hid hGM; clear HO1 hg1 hat1 hGM hK4))
      have HG5 : Hid (GM w4 w1.heap.size (w.heap.size + 1) vs' (l.take (k + 1))) := by show GM _ _ _ _ _; rw [take_snoc l k (0, ((0, 0), [])) hlt]; exact HG4.out
      clear hrun hrun2 HG4
      go_wp2
      go_roundw
      case rel => exact ⟨k + 1, vs', by omega, by go_num, K4.out, HG5.out⟩
      case measure => simp [intOf]; omega
    · obtain rfl : k = l.length := by omega
      have HG2 : Hid (GM wr w1.heap.size (w.heap.size + 1) vs l) := by have := HG.out; rw [List.take_length] at this; exact this
      obtain ⟨w5, hrun, hR, hb5, hs5⟩ := HG2.out.map.range (P := Try.prog) (t := 86) (kt := 44) (et := 39) (by kernel_rfl)
      have HR0 := Lib.hid hR
      have HG5 := Lib.hid (HG2.out.below hb5)
      have K5 := Lib.hid (kept_below hK hb5)
      have hsz := hK.size
      clear hR HG hb5 hK HC HG0
      obtain ⟨r, hre⟩ : ∃ r, r = wr.heap.size := ⟨_, rfl⟩
      have hbr : w.heap.size + 1 < r := by omega
      have hr5 : r < w5.heap.size := by omega
      rw [← hre] at HR0 hrun
      have B5 : Below w.heap.size w w5 := below_kept B1 K5.out (fun b hb => by omega)
      clear hre hs5 hsz HG2
      go_wp2
      clear hrun
      go_loopg [6] vs.length (fun gg v wq => ∃ ds : List Nat, vs.length - ds.length ≤ gg ∧ Hid (RngM ptV wq (w.heap.size + 1) r vs ds) ∧ KeptS (fun i => i = r) w5 wq ∧ Hid (OwnR Ty.ids 39 w5.heap.size (fun k => (k = r ∨ k = w.heap.size + 1) ∨ v.ownBlock = some k) wq v ((ds.map (grp l vs)).filter big)))
      case atStart => exact ⟨[], by simp, HR0.out, kept_refl _ _, OwnR.nil _ _ _ _ _⟩
      case round =>
        obtain ⟨ds, hgg, HRG, hKq, HO⟩ := hrel
        obtain ⟨⟨mes, mc, hob⟩, mi1, mi2, mi3, mi4, hor⟩ := HRG.out.objs
        have HGq := Lib.hid (HG5.out.kept hKq (show ¬ w.heap.size + 1 = r by omega) (fun i hi g hg e => by
          obtain ⟨_, mj1, mj2, mj3, mj4, hor5⟩ := HR0.out.objs
          exact OwnR.not_obj (HG5.out.rows i hi) (g := r) (fun cs t fr h => by rw [hor5] at h; cases h) (by rw [hg, e])))
        have BQ : Below w.heap.size w wr := below_kept B5 hKq (fun b hb => by omega)
        rcases HRG.out.next (P := Try.prog) 0 with ⟨hdl, hrun⟩ | ⟨i, hi, w6, hni, hrun, hR6, hK6, hs6, hent⟩
        · have hle := HRG.out.le
          have HPERM := Lib.hid (grp_done HG5.out.keys hle.2.1 hle.2.2 hdl)
          have hlen12 : ((ds.map (grp l vs)).filter big).length ≤ 12 := by rw [HPERM.out.length_eq]; have := merged_len l; omega
          have HPOS : Hid (∀ x ∈ (ds.map (grp l vs)).filter big, 0 < x.length) := fun x hx => merged_pos x (HPERM.out.subset hx)
          have HMS := Lib.hid (merged_sorted HINC.out)
          clear hle hdl hgg hob hor
          rcases HO.out.form2 with ⟨hv, he⟩ | ⟨g, n, cc, hv⟩
          · subst hv
            have HM0 : Hid (mergedZ l = []) := by have := HPERM.out; rw [he] at this; exact this.symm.eq_nil
            go_wp2_with fail
            refine (SortFunc_nil _).mono ?_
            rintro e w7 ⟨rfl, hb7⟩
            go_wp2
            go_ret
            exact ⟨_, rfl, by rw [← HE.out, HM0.out]; exact OwnR.nil _ _ _ _ _, (by repeat (first | exact Below.refl _ _ | apply below_alloc | apply below_drewN | apply below_drew | (refine below_set2 ?_ ?_; (first | (simp; done) | (simp; omega))) | (refine below_step ?_ hb7) | (refine below_step ?_ BQ)))⟩
          · subst hv
            have hgb := (OwnR.lt HO.out g rfl).1
            go_wp2_with fail
            refine (SortFunc_ids ((ds.map (grp l vs)).filter big) g n cc w5.heap.size _ _ HO.out hlen12 HPOS.out).mono ?_
            rintro e w7 ⟨rfl, ys, hys, hp, hs, hk7⟩
            have HY : Hid (Own1 Ty.ids 39 w.heap.size w7 (.slice (some ⟨g, 0, none⟩) n cc) (mergedZ l)) := by
              have e := sorted_is (hp.trans HPERM.out) hs HMS.out
              rw [e] at hys
              exact (Own1.of hys).base B5.size
            have hz5 := B5.size
            have B7 : Below w.heap.size w w7 := below_kept BQ hk7 (fun b hb => by omega)
            clear hys hp hs hk7
            go_wp2
            go_ret
            exact ⟨_, rfl, by rw [← HE.out]; exact HY.out, B7⟩
        · have hrow := HGq.out.rows i hi
          obtain ⟨Ar, cr, er, _, _⟩ := hrow.reads
          rw [er] at hrun hent hrow
          have hle := hR6.le
          have hdlt : ds.length + 1 ≤ vs.length := by have := hle.1; rw [List.length_append] at this; simpa using this
          have hgrp := grp_at (l := l) hi
          have HMAP : Hid ((ds ++ [i]).map (grp l vs) = ds.map (grp l vs) ++ [gi l (vs[i]'hi).1]) := by show _ = _; rw [List.map_append, List.map_cons, List.map_nil, hgrp]
          have hKr : ∀ k, u6.ownBlock = some k → ¬ k = r := fun k hk e => OwnR.not_obj HO.out (g := r) (fun cs t fr h => by rw [hor] at h; cases h) (by rw [hk, e])
          have hKb : ∀ k, u6.ownBlock = some k → ¬ k = w.heap.size + 1 := fun k hk e => OwnR.not_obj HO.out (g := w.heap.size + 1) (fun cs t fr h => by rw [hob] at h; cases h) (by rw [hk, e])
          have HO6 := Lib.hid (OwnR.kept HO.out hK6 (fun b hb => .inl (.inl hb)) hKr)
          have hrr : ∀ k, (Value.slice Ar (gi l (vs[i]'hi).1).length cr).ownBlock = some k → ¬ k = r := fun k hk e => OwnR.not_obj hrow (g := r) (fun cs t fr h => by rw [hor] at h; cases h) (by rw [hk, e])
          have hrb : ∀ k, (Value.slice Ar (gi l (vs[i]'hi).1).length cr).ownBlock = some k → ¬ k = w.heap.size + 1 := fun k hk e => OwnR.not_obj hrow (g := w.heap.size + 1) (fun cs t fr h => by rw [hob] at h; cases h) (by rw [hk, e])
          have hrow6 := Own1.flat_kept int_flat hrow hK6 hrr
          have HP6 : Hid (Ty.ids.R (fun k => ¬ ((k = r ∨ k = w.heap.size + 1) ∨ u6.ownBlock = some k)) w6 (gi l (vs[i]'hi).1) [.slice Ar (gi l (vs[i]'hi).1).length cr]) :=
            idsR hrow6 (fun b hb hm => by
              rcases hm with (hm | hm) | hm
              · exact hrr b hb hm
              · exact hrb b hb hm
              · exact (Own1.of HO6.out).apart hrow6 (by decide) hm hb)
          have HR6 := Lib.hid hR6
          have K6 := kept_step hKq hK6
          have h6z := K6.size
          have hov : ∀ b, u6.ownBlock = some b → w5.heap.size ≤ b := fun b e => (OwnR.lt HO6.out b e).1
          have hvl : vs.length ≤ l.length := by
            have h3 := congrArg List.length HG5.out.keys
            rw [List.length_map] at h3
            have h5 := dk_len (atL l)
            rw [atL, List.length_map] at h5
            rw [h3]; exact h5
          have hl24 : ((ds.map (grp l vs)).filter big).length + 1 ≤ 1000000 := by
            have h1 := List.length_filter_le big (ds.map (grp l vs))
            rw [List.length_map] at h1
            omega
          have hlen : (((ds.map (grp l vs)).filter big).length + 1) * 24 ≤ 140737488355328 := by omega
          clear hrow hR6 hK6 hs6 hKq HO HRG HGq hrr hrb hrow6 hgrp hle hl24 hob hor
          by_cases hbg : 2 ≤ (gi l (vs[i]'hi).1).length
          · have q : decide (1 < ((gi l (vs[i]'hi).1).length : Int)) = true := decide_eq_true (by omega)
            have HL : Hid (((ds ++ [i]).map (grp l vs)).filter big = (ds.map (grp l vs)).filter big ++ [gi l (vs[i]'hi).1]) := by
              show _ = _; rw [HMAP.out, List.filter_append, List.filter_cons_of_pos (by simp [big, hbg])]; rfl
            clear hbg
            go_wp2_with (first | (at_builtin; refine app_one Ty.ids (W := w6) w5.heap.size rfl _ _ 36 39 _ 24 rfl Try.underlying36 infoIds rfl (by decide) u6 ((ds.map (grp l vs)).filter big) (gi l (vs[i]'hi).1) [.slice Ar (gi l (vs[i]'hi).1).length cr] _ rfl rfl (by simp) HP6.out HO6.out h6z hlen ?_; intro v1 w7 HO7 hg7 hat7))
            have HK7 : Hid (KeptS (fun i => i = r) w5 w7) := kept_own K6 hg7 hov
            have HR7 := Lib.hid (HR6.out.kept (kept_grown (S := fun k => u6.ownBlock = some k) hg7 (fun b e => e)) (fun e => hKb _ e rfl) (fun e => hKr _ e rfl))
            have HO8 : Hid (OwnR Ty.ids 39 w5.heap.size (fun k => (k = r ∨ k = w.heap.size + 1) ∨ v1.ownBlock = some k) w7 v1 (((ds ++ [i]).map (grp l vs)).filter big)) := by
              show OwnR _ _ _ _ _ _ _
              rw [HL.out]
              exact HO7.remut (fun k _ hm => by rcases hm with hm | hm; exact .inl (.inl hm); exact .inr hm) (fun k hk => .inr hk)
            clear HO7 hg7 hat7 hrun hent
            go_wp2
            go_roundg (vs.length - (ds.length + 1))
            case measure => omega
            case rel => exact ⟨ds ++ [i], by rw [List.length_append]; simp, HR7.out, HK7.out, HO8.out⟩
          · have q : decide (1 < ((gi l (vs[i]'hi).1).length : Int)) = false := decide_eq_false (by omega)
            have HL : Hid (((ds ++ [i]).map (grp l vs)).filter big = (ds.map (grp l vs)).filter big) := by
              show _ = _; rw [HMAP.out, List.filter_append, List.filter_cons_of_neg (by simp [big]; omega)]; simp
            clear hbg
            go_wp2
            go_roundg (vs.length - (ds.length + 1))
            case measure => omega
            case rel => exact ⟨ds ++ [i], by rw [List.length_append]; simp, HR6.out, K6, by rw [HL.out]; exact HO6.out⟩
end Go.Proofs.Ytniceoinipffmaa
