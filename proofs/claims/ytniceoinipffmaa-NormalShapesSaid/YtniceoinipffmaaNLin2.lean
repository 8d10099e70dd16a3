/- Contract of mapmakerref19.Lines: the lines of a valid dataset's ways. -/
import Derived.Test.YtniceoinipffmaaNLines
namespace Go.Proofs.Ytniceoinipffmaa
open Go.RowKit Go.Proofs.YtniceoinipffmaaW.PrintLast
set_option linter.unusedVariables false
set_option linter.unusedSimpArgs false

def RetV (o : Option Line) (tl : Value) (base : Nat) (v1 v2 v3 v4 : Value) (w : World) : Prop :=
  (o = none ∧ v1 = .int .i64 0 ∧ v2 = .slice none 0 0 ∧ v3 = .slice none 0 0 ∧ v4 = .slice none 0 0) ∨
  ∃ x : Line, o = some x ∧ v1 = .int .i64 x.1 ∧ v4 = tl ∧ Own1 Ty.pt 44 base w v2 x.2.1 ∧ Own1 Ty.i64 3 base w v3 x.2.2.1
theorem RetL.toV {o : Option Line} {tl : Value} {base : Nat} {e : Ending} {w : World} (h : RetL o tl base e w) : ∃ v1 v2 v3 v4, e = .returned (.tuple #[.agg #[v1, v2, v3, v4], .bool o.isSome]) ∧ RetV o tl base v1 v2 v3 v4 w := by
  rcases h with ⟨rfl, rfl⟩ | ⟨x, vp, vi, rfl, rfl, h1, h2⟩
  · exact ⟨_, _, _, _, rfl, .inl ⟨rfl, rfl, rfl, rfl, rfl⟩⟩
  · exact ⟨_, _, _, _, rfl, .inr ⟨x, rfl, rfl, rfl, h1, h2⟩⟩
theorem RetV.below {o : Option Line} {tl : Value} {base : Nat} {v1 v2 v3 v4 : Value} {w w' : World} (h : RetV o tl base v1 v2 v3 v4 w) (hb : Below w.heap.size w w') : RetV o tl base v1 v2 v3 v4 w' := by
  rcases h with h | ⟨x, rfl, rfl, rfl, h1, h2⟩
  · exact .inl h
  · exact .inr ⟨x, rfl, rfl, rfl, h1.below hb, h2.below hb⟩
theorem RetV.base {o : Option Line} {tl : Value} {base base' : Nat} {v1 v2 v3 v4 : Value} {w : World} (h : RetV o tl base v1 v2 v3 v4 w) (hb : base' ≤ base) : RetV o tl base' v1 v2 v3 v4 w := by
  rcases h with h | ⟨x, rfl, rfl, rfl, h1, h2⟩
  · exact .inl h
  · exact .inr ⟨x, rfl, rfl, rfl, h1.base hb, h2.base hb⟩
theorem Own1.one {α : Type} {T : Ty α} {e : TypeId} {base : Nat} {w : World} {v : Value} {xs : List α} (h : Own1 T e base w v xs) : v.oneCell' = true := by
  obtain ⟨A, c, rfl, _⟩ := h.reads; rfl
theorem RetV.one {o : Option Line} {A : Option Addr} {n c base : Nat} {v1 v2 v3 v4 : Value} {w : World} (h : RetV o (.slice A n c) base v1 v2 v3 v4 w) : v1.oneCell' = true ∧ v2.oneCell' = true ∧ v3.oneCell' = true ∧ v4.oneCell' = true := by
  rcases h with ⟨_, rfl, rfl, rfl, rfl⟩ | ⟨x, rfl, rfl, rfl, h1, h2⟩
  · exact ⟨rfl, rfl, rfl, rfl⟩
  · exact ⟨rfl, h1.one, h2.one, rfl⟩
theorem Own1.not_at {α : Type} {T : Ty α} {e t : TypeId} {base g : Nat} {w : World} {v : Value} {xs : List α} {cs : Array Value} {fr : Nat × Nat} (h : Own1 T e base w v xs) (hg : w.heap[g]? = some (.cells cs t fr)) (hne : e ≠ t) : v.ownBlock ≠ some g := by
  intro hk
  obtain ⟨_, _, ⟨_, h2⟩, _⟩ := h
  rcases h2 with ⟨rfl, _⟩ | ⟨g', cap, cur, rfl, _, hh, _⟩
  · cases hk
  cases hk
  rw [hh] at hg
  injection hg with hg
  injection hg with _ hg
  exact hne hg
/-- A line's result outlives a store into a line's variable. -/
theorem RetV.store {o : Option Line} {tl : Value} {base g : Nat} {v1 v2 v3 v4 : Value} {w w' : World} {cs : Array Value} {fr : Nat × Nat} (h : RetV o tl base v1 v2 v3 v4 w) (hg : w.heap[g]? = some (.cells cs 42 fr)) (hk : KeptS (fun k => k = g) w w') : RetV o tl base v1 v2 v3 v4 w' := by
  rcases h with h | ⟨x, rfl, rfl, rfl, h1, h2⟩
  · exact .inl h
  · exact .inr ⟨x, rfl, rfl, rfl, Own1.flat_kept pt_flat h1 hk (fun b hb e => h1.not_at hg (by decide) (by rw [hb, e])), Own1.flat_kept int_flat h2 hk (fun b hb e => h2.not_at hg (by decide) (by rw [hb, e]))⟩
theorem ptF_ok {ns : List Node} {ws : List Way} {rs : List Rel} (h : objErr ns ws rs = 0) : ptF ns ws rs = nodeF ns := by funext id; simp [ptF, h]
theorem ptF_bad {ns : List Node} {ws : List Way} {rs : List Rel} (h : objErr ns ws rs ≠ 0) : ptF ns ws rs = fun _ => none := by funext id; simp [ptF, h]
theorem lineZ_bad (x : Way) : lineZ (fun _ => none) x = none := by
  unfold lineZ
  cases h : x.2.1 with
  | nil => simp [runL]
  | cons n l => simp [runL]
theorem linesZ_bad (ws : List Way) : linesZ (fun _ => none) ws = [] := by
  rw [linesZ, List.filterMap_eq_nil_iff]
  intro x _
  exact lineZ_bad x

set_option maxRecDepth 20000 in
set_option maxHeartbeats 4000000 in
theorem ref19_Lines {ok : Nat → Prop} (ns : List Node) (ws : List Way) (rs : List Rel) (A1 A2 A3 : Option Addr) (c1 c2 c3 : Nat) (w : World) (h1 : Row Ty.node ok w A1 ns) (h2 : Row Ty.way ok w A2 ws) (h3 : Row Ty.rel ok w A3 rs)
    (q1 : ns.length ≤ 10000) (q2 : ws.length ≤ 10000) (q3 : rs.length ≤ 10000) (q4 : ∀ x ∈ ws, x.2.1.length ≤ 10000) :
    Calls Try.prog 18 #[.agg #[.slice A1 ns.length c1, .slice A2 ws.length c2, .slice A3 rs.length c3]] w fun e w' => ∃ v, e = .returned v ∧ Own1 Ty.line 42 w.heap.size w' v (linesZ (ptF ns ws rs) ws) ∧ Below w.heap.size w w' := by
  have HR1 := Lib.hid h1
  have HR2 := Lib.hid h2
  have HR3 := Lib.hid h3
  have HR2' : Hid (Row Ty.way (fun k => k < w.heap.size) w A2 ws) := h2.bnd.mono (fun k hk => hk.2)
  have HQ := Lib.hid q4
  clear h1 h2 h3 q4
  obtain ⟨W0, hW⟩ : ∃ W0, W0 = w.alloc (.cells #[.slice A1 ns.length c1, .slice A2 ws.length c2, .slice A3 rs.length c3] 26) := ⟨_, rfl⟩
  have B0 : Below w.heap.size w W0 := by rw [hW]; exact (by repeat (first | exact Below.refl _ _ | apply below_alloc | apply below_drewN | apply below_drew | (refine below_set2 ?_ ?_; (first | (simp; done) | (simp; omega)))))
  have hao : ∀ o : Nat, W0.cell? ⟨w.heap.size, o, none⟩ = #[.slice A1 ns.length c1, .slice A2 ws.length c2, .slice A3 rs.length c3][o]? := fun o => by rw [hW]; simp only [World.cell?, heap_alloc_new]; rfl
  have hc0 : W0.cell? ⟨w.heap.size, 0, none⟩ = some (.slice A1 ns.length c1) := hao 0
  have hc1 : W0.cell? ⟨w.heap.size, 1, none⟩ = some (.slice A2 ws.length c2) := hao 1
  have hc2 : W0.cell? ⟨w.heap.size, 2, none⟩ = some (.slice A3 rs.length c3) := hao 2
  clear hao
  go_enter Try.func18, Try.ntmps18
  go_wp2_with fail
  rw [← hW]
  clear hW
  refine (ref14_Check ns ws rs A1 A2 A3 c1 c2 c3 _ (HR1.out.below B0) (HR2.out.below B0) (HR3.out.below B0) q1 q2 q3).mono ?_
  rintro e w1 ⟨rfl, hb1⟩
  have B1 : Below w.heap.size w w1 := (by repeat (first | exact Below.refl _ _ | apply below_alloc | apply below_drewN | apply below_drew | (refine below_set2 ?_ ?_; (first | (simp; done) | (simp; omega))) | (refine below_step ?_ hb1) | (refine below_step ?_ B0)))
  have hd0 := cell_below hb1 hc0
  have hd1 := cell_below hb1 hc1
  have hd2 := cell_below hb1 hc2
  clear hb1 hc0 hc1 hc2 HR2 HR3 q1 q3
  obtain ⟨z, hz⟩ : ∃ z, z = objErr ns ws rs := ⟨_, rfl⟩
  rw [← hz]
  by_cases h0 : z = 0
  rotate_left
  · have q5 : (z != 0) = true := by simp [h0]
    have HE : Hid (linesZ (ptF ns ws rs) ws = []) := by show _ = _; rw [ptF_bad (by rw [← hz]; exact h0), linesZ_bad]
    clear h0 hz
    go_wp2
    go_ret
    exact ⟨_, rfl, by rw [HE.out]; exact OwnR.nil _ _ _ _ _, B1⟩
  · subst h0
    have HE : Hid (linesZ (nodeF ns) ws = linesZ (ptF ns ws rs) ws) := by show _ = _; rw [ptF_ok hz.symm]
    have HC : Hid (∀ k, k < ns.length → okC (ndD ns k).2.1) := fun k hk => nodes_okC hz.symm hk
    clear hz
    go_wp2
    go_loopw [3, 4] (fun v i wr => ∃ k : Nat, k ≤ ws.length ∧ i = .int .i64 k ∧ Below w1.heap.size w1 wr ∧ Own1 Ty.line 42 w1.heap.size wr v (linesZ (nodeF ns) (ws.take k))) (fun _ i _ => ws.length - (intOf i).toNat)
    case atStart => exact ⟨0, Nat.zero_le _, rfl, Below.refl _ _, OwnR.nil _ _ _ _ _⟩
    case round =>
      obtain ⟨k, hk, rfl, hb, ho⟩ := hrel
      have BW : Below w.heap.size w wr := (by repeat (first | exact Below.refl _ _ | apply below_alloc | apply below_drewN | apply below_drew | (refine below_set2 ?_ ?_; (first | (simp; done) | (simp; omega))) | (refine below_step ?_ hb) | (refine below_step ?_ B1)))
      have he0 := cell_below hb hd0
      have he1 := cell_below hb hd1
      have he2 := cell_below hb hd2
      by_cases hlt : k < ws.length
      · have HRk := Lib.hid (HR2'.out.below BW)
        obtain ⟨ad, A4, c4, A5, c5, rfl, hx1, hx2, hx3, hl4, hr4, hl5, hr5⟩ := HRk.out.way_at k hlt
        have R4 := Lib.hid hr4
        have R5 := Lib.hid hr5
        have HO := Lib.hid ho
        have hq := HQ.out (wyD ws k) (by simp only [wyD, List.getD_eq_getElem?_getD, List.getElem?_eq_getElem hlt, Option.getD_some]; exact List.getElem_mem hlt)
        have HLN : Hid (∀ W, Below wr.heap.size wr W → Calls Try.prog 41 #[.agg #[.slice A1 ns.length c1, .slice (some ad) ws.length c2, .slice A3 rs.length c3], .agg #[.int .i64 (wyD ws k).1, .slice A4 (wyD ws k).2.1.length c4, .slice A5 (wyD ws k).2.2.length c5]] W fun e w' => (∃ v1 v2 v3 v4, e = .returned (.tuple #[.agg #[v1, v2, v3, v4], .bool (lineZ (nodeF ns) (wyD ws k)).isSome]) ∧ RetV (lineZ (nodeF ns) (wyD ws k)) (.slice A5 (wyD ws k).2.2.length c5) W.heap.size v1 v2 v3 v4 w') ∧ Below W.heap.size W w') := fun W hW =>
          (ref19_line ns (wyD ws k) A1 A4 A5 c1 c4 c5 (.slice (some ad) ws.length c2) (.slice A3 rs.length c3) W (((HR1.out.below BW).below hW).mono (ok' := fun _ => True) (fun _ _ => trivial)) rfl rfl HC.out ((R4.out.below hW).mono (fun _ _ => trivial)) ((R5.out.below hW).mono (fun _ _ => trivial)) hq).mono (fun e w' h => ⟨h.1.toV, h.2⟩)
        obtain ⟨o, hoe⟩ : ∃ o, o = lineZ (nodeF ns) (wyD ws k) := ⟨_, rfl⟩
        rw [← hoe] at HLN
        have HOE := Lib.hid hoe
        obtain ⟨bb, hbb⟩ : ∃ bb, bb = o.isSome := ⟨_, rfl⟩
        rw [← hbb] at HLN
        have HBB := Lib.hid hbb
        clear hr4 hr5 ho HRk hoe hbb
        go_wp2_with fail
        refine start_ (n := 13) (S := fun w' => w'.cell? ⟨w.heap.size, 0, none⟩ = some (.slice A1 ns.length c1) ∧ w'.cell? ⟨w.heap.size, 1, none⟩ = some (.slice (some ad) ws.length c2) ∧ w'.cell? ⟨w.heap.size, 2, none⟩ = some (.slice A3 rs.length c3) ∧ w'.cell? (ad.add (k * 3)) = some (.int .i64 (wyD ws k).1) ∧ w'.cell? ⟨(ad.add (k * 3)).block, (ad.add (k * 3)).off + 1, none⟩ = some (.slice A4 (wyD ws k).2.1.length c4) ∧ w'.cell? ⟨(ad.add (k * 3)).block, (ad.add (k * 3)).off + 2, none⟩ = some (.slice A5 (wyD ws k).2.2.length c5)) (ds := [11]) #[false, false, false, false, false, false, false, false, false, false, false, false, false] (by kernel_rfl) rfl rfl ⟨he0, he1, he2, hx1, hx2, hx3⟩ (fun hHeld => ?_)
        refine pure_ (i := 1) (N := some 19) (v := ?_) (a' := ?_) #[false, true, false, false, false, false, false, false, false, false, false, false, false] rfl rfl (by kernel_rfl) (fun _ _ _ h => h) (Or.inl ⟨by rfl, ?_⟩) ?_ ?_
        rotate_left
        · intro w'
          go_simp
          with_reducible rfl
        rotate_left
        · simp only [Act.put, List.setIfInBounds_toArray, List.set_cons_zero, List.set_cons_succ, i64_w, i32_w]
          rfl
        refine pure_ (i := 3) (N := some 21) (v := ?_) (a' := ?_) #[false, true, false, true, false, false, false, false, false, false, false, false, false] rfl rfl (by kernel_rfl) (fun _ _ _ h => h) (Or.inl ⟨by rfl, ?_⟩) ?_ ?_
        rotate_left
        · intro w'
          go_simp
          with_reducible rfl
        rotate_left
        · simp only [Act.put, List.setIfInBounds_toArray, List.set_cons_zero, List.set_cons_succ, i64_w, i32_w]
          rfl
        refine take_ (i := 0) (N := some 18) (v := ?_) (a' := ?_) #[true, true, false, true, false, false, false, false, false, false, false, false, false] rfl rfl (by kernel_rfl) (fun _ _ _ h => h) (Or.inl ⟨by rfl, ?_⟩) hHeld ?_ ?_
        rotate_left
        · rintro w' ⟨s0, s1, s2, s3, s4, s5⟩
          go_simp
          with_reducible rfl
        rotate_left
        · simp only [Act.put, List.setIfInBounds_toArray, List.set_cons_zero, List.set_cons_succ, i64_w, i32_w]
          rfl
        refine take_ (i := 2) (N := some 20) (v := ?_) (a' := ?_) #[true, true, true, true, false, false, false, false, false, false, false, false, false] rfl rfl (by kernel_rfl) (fun _ _ _ h => h) (Or.inl ⟨by rfl, ?_⟩) hHeld ?_ ?_
        rotate_left
        · rintro w' ⟨s0, s1, s2, s3, s4, s5⟩
          go_simp
          with_reducible rfl
        rotate_left
        · simp only [Act.put, List.setIfInBounds_toArray, List.set_cons_zero, List.set_cons_succ, i64_w, i32_w]
          rfl
        refine pure_ (i := 4) (N := some 22) (v := ?_) (a' := ?_) #[true, true, true, true, true, false, false, false, false, false, false, false, false] rfl rfl (by kernel_rfl) (fun _ _ _ h => h) (Or.inl ⟨by rfl, ?_⟩) ?_ ?_
        rotate_left
        · intro w'
          go_simp
          with_reducible rfl
        rotate_left
        · simp only [Act.put, List.setIfInBounds_toArray, List.set_cons_zero, List.set_cons_succ, i64_w, i32_w]
          rfl
        refine take_ (i := 5) (N := some 23) (v := ?_) (a' := ?_) #[true, true, true, true, true, true, false, false, false, false, false, false, false] rfl rfl (by kernel_rfl) (fun _ _ _ h => h) (Or.inl ⟨by rfl, ?_⟩) hHeld ?_ ?_
        rotate_left
        · rintro w' ⟨s0, s1, s2, s3, s4, s5⟩
          go_simp
          with_reducible rfl
        rotate_left
        · simp only [Act.put, List.setIfInBounds_toArray, List.set_cons_zero, List.set_cons_succ, i64_w, i32_w]
          rfl
        refine join_ (σ := Nat × Value × Value × Value × Value) 2 #[true, true, true, true, true, true, true, true, true, true, true, false, false] (fun s => [(24, .tuple #[.agg #[s.2.1, s.2.2.1, s.2.2.2.1, s.2.2.2.2], .bool bb]), (17, .tuple #[.agg #[s.2.1, s.2.2.1, s.2.2.2.1, s.2.2.2.2], .bool bb]), (25, .agg #[s.2.1, s.2.2.1, s.2.2.2.1, s.2.2.2.2]), (26, .bool bb), (5, .pointer (some ⟨s.1, 0, none⟩))]) (fun s w' => RetV o (.slice A5 (wyD ws k).2.2.length c5) wr.heap.size s.2.1 s.2.2.1 s.2.2.2.1 s.2.2.2.2 w' ∧ wr.heap.size ≤ s.1 ∧ w'.heap[s.1]? = some (.cells #[.int .i64 0, .slice none 0 0, .slice none 0 0, .slice none 0 0] 42 (0, 0)) ∧ Below wr.heap.size wr w') ?_ ?_
        rotate_left
        · intro hCont
          refine two_ (i := 6) (j := 10) (Ni := some 24) (Nj := some 5) #[true, true, true, true, true, true, true, false, false, false, false, false, false] #[true, true, true, true, true, true, false, false, false, false, true, false, false] rfl rfl rfl rfl (by kernel_rfl) (by decide) (by decide) (fun K hK => ?_) (fun K hK => ?_)
          · skip
            refine goes_ Try.func41 (by kernel_rfl) rfl #[.agg #[.slice A1 ns.length c1, .slice (some ad) ws.length c2, .slice A3 rs.length c3], .agg #[.int .i64 (wyD ws k).1, .slice A4 (wyD ws k).2.1.length c4, .slice A5 (wyD ws k).2.2.length c5]] (by rfl) rfl rfl (by simp only [List.map_toArray, List.map_cons, List.map_nil]; rfl) ?_
            with_reducible refine (HLN.out _ (below_drew (Below.refl _ _))).mono ?_
            rintro e w2 ⟨⟨v1, v2, v3, v4, rfl, hv⟩, hb1⟩
            refine ⟨_, rfl, ?_⟩
            refine hK.out _ _ ⟨cell_below hb1 he0, cell_below hb1 he1, cell_below hb1 he2, cell_below hb1 hx1, cell_below hb1 hx2, cell_below hb1 hx3⟩ (fun hHeld => ?_)
            clear hK K
            refine norm_ (a' := ?_) ?_ ?_
            rotate_left
            · show Act.put _ (some 24) _ = _
              simp only [Act.put, List.setIfInBounds_toArray, List.set_cons_zero, List.set_cons_succ, i64_w, i32_w]
              rfl
            refine pure_ (i := 7) (N := some 17) (v := ?_) (a' := ?_) #[true, true, true, true, true, true, true, true, false, false, false, false, false] rfl rfl (by kernel_rfl) (fun _ _ _ h => h) (Or.inl ⟨by rfl, ?_⟩) ?_ ?_
            rotate_left
            · intro w'
              go_simp
              with_reducible rfl
            rotate_left
            · simp only [Act.put, List.setIfInBounds_toArray, List.set_cons_zero, List.set_cons_succ, i64_w, i32_w]
              rfl
            refine pure_ (i := 8) (N := some 25) (v := ?_) (a' := ?_) #[true, true, true, true, true, true, true, true, true, false, false, false, false] rfl rfl (by kernel_rfl) (fun _ _ _ h => h) (Or.inl ⟨by rfl, ?_⟩) ?_ ?_
            rotate_left
            · intro w'
              go_simp
              with_reducible rfl
            rotate_left
            · simp only [Act.put, List.setIfInBounds_toArray, List.set_cons_zero, List.set_cons_succ, i64_w, i32_w]
              rfl
            refine pure_ (i := 9) (N := some 26) (v := ?_) (a' := ?_) #[true, true, true, true, true, true, true, true, true, true, false, false, false] rfl rfl (by kernel_rfl) (fun _ _ _ h => h) (Or.inl ⟨by rfl, ?_⟩) ?_ ?_
            rotate_left
            · intro w'
              go_simp
              with_reducible rfl
            rotate_left
            · simp only [Act.put, List.setIfInBounds_toArray, List.set_cons_zero, List.set_cons_succ, i64_w, i32_w]
              rfl
            refine one_ (i := 10) (N := some 5) #[true, true, true, true, true, true, true, true, true, true, true, false, false] rfl rfl (by kernel_rfl) (by decide) (fun K hK => ?_)
            refine value_ (w1 := ?_) (v := ?_) (by rfl) rfl ?_ ?_
            rotate_left 2
            · go_simp
              constructor
              · rfl
              · rfl
            refine hK.out _ _ ⟨cell_below (below_alloc (Below.refl _ _) _) (cell_below hb1 he0), cell_below (below_alloc (Below.refl _ _) _) (cell_below hb1 he1), cell_below (below_alloc (Below.refl _ _) _) (cell_below hb1 he2), cell_below (below_alloc (Below.refl _ _) _) (cell_below hb1 hx1), cell_below (below_alloc (Below.refl _ _) _) (cell_below hb1 hx2), cell_below (below_alloc (Below.refl _ _) _) (cell_below hb1 hx3)⟩ (fun hHeld => ?_)
            clear hK K
            refine norm_ (a' := ?_) ?_ ?_
            rotate_left
            · show Act.put _ (some 5) _ = _
              simp only [Act.put, List.setIfInBounds_toArray, List.set_cons_zero, List.set_cons_succ, i64_w, i32_w]
              rfl
            exact norm_ (by simp only [putAll, Act.put, List.setIfInBounds_toArray, List.set_cons_zero, List.set_cons_succ]) (hCont (w2.heap.size, v1, v2, v3, v4) _ ⟨hv.below (below_alloc (Below.refl _ _) _), hb1.size, heap_alloc_new _ _, below_alloc (below_step (below_drew (Below.refl _ _)) hb1) _⟩)
          · skip
            refine value_ (w1 := ?_) (v := ?_) (by rfl) rfl ?_ ?_
            rotate_left 2
            · go_simp
              constructor
              · rfl
              · rfl
            refine hK.out _ _ ⟨cell_below (below_alloc (Below.refl _ _) _) he0, cell_below (below_alloc (Below.refl _ _) _) he1, cell_below (below_alloc (Below.refl _ _) _) he2, cell_below (below_alloc (Below.refl _ _) _) hx1, cell_below (below_alloc (Below.refl _ _) _) hx2, cell_below (below_alloc (Below.refl _ _) _) hx3⟩ (fun hHeld => ?_)
            clear hK K
            refine norm_ (a' := ?_) ?_ ?_
            rotate_left
            · show Act.put _ (some 5) _ = _
              simp only [Act.put, List.setIfInBounds_toArray, List.set_cons_zero, List.set_cons_succ, i64_w, i32_w]
              rfl
            refine one_ (i := 6) (N := some 24) #[true, true, true, true, true, true, true, false, false, false, true, false, false] rfl rfl (by kernel_rfl) (by decide) (fun K hK => ?_)
            refine goes_ Try.func41 (by kernel_rfl) rfl #[.agg #[.slice A1 ns.length c1, .slice (some ad) ws.length c2, .slice A3 rs.length c3], .agg #[.int .i64 (wyD ws k).1, .slice A4 (wyD ws k).2.1.length c4, .slice A5 (wyD ws k).2.2.length c5]] (by rfl) rfl rfl (by simp only [List.map_toArray, List.map_cons, List.map_nil]; rfl) ?_
            with_reducible refine (HLN.out _ (below_drew (below_alloc (Below.refl _ _) _))).mono ?_
            rintro e w2 ⟨⟨v1, v2, v3, v4, rfl, hv⟩, hb1⟩
            refine ⟨_, rfl, ?_⟩
            refine hK.out _ _ ⟨cell_below hb1 (cell_below (below_drew (below_alloc (Below.refl _ _) _)) he0), cell_below hb1 (cell_below (below_drew (below_alloc (Below.refl _ _) _)) he1), cell_below hb1 (cell_below (below_drew (below_alloc (Below.refl _ _) _)) he2), cell_below hb1 (cell_below (below_drew (below_alloc (Below.refl _ _) _)) hx1), cell_below hb1 (cell_below (below_drew (below_alloc (Below.refl _ _) _)) hx2), cell_below hb1 (cell_below (below_drew (below_alloc (Below.refl _ _) _)) hx3)⟩ (fun hHeld => ?_)
            clear hK K
            refine norm_ (a' := ?_) ?_ ?_
            rotate_left
            · show Act.put _ (some 24) _ = _
              simp only [Act.put, List.setIfInBounds_toArray, List.set_cons_zero, List.set_cons_succ, i64_w, i32_w]
              rfl
            refine pure_ (i := 7) (N := some 17) (v := ?_) (a' := ?_) #[true, true, true, true, true, true, true, true, false, false, true, false, false] rfl rfl (by kernel_rfl) (fun _ _ _ h => h) (Or.inl ⟨by rfl, ?_⟩) ?_ ?_
            rotate_left
            · intro w'
              go_simp
              with_reducible rfl
            rotate_left
            · simp only [Act.put, List.setIfInBounds_toArray, List.set_cons_zero, List.set_cons_succ, i64_w, i32_w]
              rfl
            refine pure_ (i := 8) (N := some 25) (v := ?_) (a' := ?_) #[true, true, true, true, true, true, true, true, true, false, true, false, false] rfl rfl (by kernel_rfl) (fun _ _ _ h => h) (Or.inl ⟨by rfl, ?_⟩) ?_ ?_
            rotate_left
            · intro w'
              go_simp
              with_reducible rfl
            rotate_left
            · simp only [Act.put, List.setIfInBounds_toArray, List.set_cons_zero, List.set_cons_succ, i64_w, i32_w]
              rfl
            refine pure_ (i := 9) (N := some 26) (v := ?_) (a' := ?_) #[true, true, true, true, true, true, true, true, true, true, true, false, false] rfl rfl (by kernel_rfl) (fun _ _ _ h => h) (Or.inl ⟨by rfl, ?_⟩) ?_ ?_
            rotate_left
            · intro w'
              go_simp
              with_reducible rfl
            rotate_left
            · simp only [Act.put, List.setIfInBounds_toArray, List.set_cons_zero, List.set_cons_succ, i64_w, i32_w]
              rfl
            exact norm_ (by simp only [putAll, Act.put, List.setIfInBounds_toArray, List.set_cons_zero, List.set_cons_succ]) (hCont (wr.heap.size, v1, v2, v3, v4) _ ⟨hv.base (by simp), Nat.le_refl _, (hb1.block _ (lt_of_block (heap_alloc_new _ _))).trans (heap_alloc_new _ _), below_step (below_drew (below_alloc (Below.refl _ _) _)) hb1⟩)
        rintro ⟨g, v1, v2, v3, v4⟩ w2 ⟨hv, hg, hbk, hbw⟩
        have hHeld := And.intro (cell_below hbw he0) (And.intro (cell_below hbw he1) (And.intro (cell_below hbw he2) (And.intro (cell_below hbw hx1) (And.intro (cell_below hbw hx2) (cell_below hbw hx3)))))
        have s1 := sto hv.one.1
        have s2 := sto hv.one.2.1
        have s3 := sto hv.one.2.2.1
        have s4 := sto hv.one.2.2.2
        have bc0 := blk_cell hbk 0 rfl
        have bc1 := blk_cell hbk 1 rfl
        have bc2 := blk_cell hbk 2 rfl
        have bc3 := blk_cell hbk 3 rfl
        have bf0 := blk_free hbk 0
        have bf1 := blk_free hbk 1
        have bf2 := blk_free hbk 2
        have bf3 := blk_free hbk 3
        have HV := Lib.hid hv
        clear hv
        refine norm_ (a' := ?_) ?_ ?_
        rotate_left
        · simp only [putAll, Act.put, List.setIfInBounds_toArray, List.set_cons_zero, List.set_cons_succ]
          rfl
        refine last_ (i := 11) (N := none) #[true, true, true, true, true, true, true, true, true, true, true, true, false] rfl rfl (by kernel_rfl) (by decide) (fun K hK => ?_)
        refine skip_ (w1 := ?_) (by rfl) rfl ?_ ?_
        rotate_left
        · go_simp
          rfl
        refine hK.out _ _ ?_
        clear hK K
        refine pure_ (i := 12) (N := some 6) (v := ?_) (a' := ?_) #[true, true, true, true, true, true, true, true, true, true, true, true, true] rfl rfl (by kernel_rfl) (fun _ _ _ h => h) (Or.inl ⟨by rfl, ?_⟩) ?_ ?_
        rotate_left
        · intro w'
          go_simp
          with_reducible rfl
        rotate_left
        · simp only [Act.put, List.setIfInBounds_toArray, List.set_cons_zero, List.set_cons_succ, i64_w, i32_w]
          rfl
        refine done_ (by kernel_rfl) ?_
        have BV : Below wr.heap.size wr ((((w2.setCell ⟨g, 0, none⟩ v1).setCell ⟨g, 1, none⟩ v2).setCell ⟨g, 2, none⟩ v3).setCell ⟨g, 3, none⟩ v4) := below_set2 hg (below_set2 hg (below_set2 hg (below_set2 hg hbw)))
        have hpk := blk_set (i := 3) (blk_set (i := 2) (blk_set (i := 1) (blk_set (i := 0) hbk v1) v2) v3) v4
        have HV2 := Lib.hid (HV.out.store hbk (show KeptS (fun k => k = g) w2 ((((w2.setCell ⟨g, 0, none⟩ v1).setCell ⟨g, 1, none⟩ v2).setCell ⟨g, 2, none⟩ v3).setCell ⟨g, 3, none⟩ v4) from kept_set rfl (kept_set rfl (kept_set rfl (kept_set rfl (kept_refl _ _))))))
        obtain ⟨Wp, hWp⟩ : ∃ Wp, Wp = (((w2.setCell ⟨g, 0, none⟩ v1).setCell ⟨g, 1, none⟩ v2).setCell ⟨g, 2, none⟩ v3).setCell ⟨g, 3, none⟩ v4 := ⟨_, rfl⟩
        rw [← hWp] at BV hpk HV2 ⊢
        have hp0 := blk_cell hpk 0 rfl
        have hp1 := blk_cell hpk 1 rfl
        have hp2 := blk_cell hpk 2 rfl
        have hp3 := blk_cell hpk 3 rfl
        have B2 : Below w1.heap.size w1 Wp := (by repeat (first | exact Below.refl _ _ | apply below_alloc | apply below_drewN | apply below_drew | (refine below_set2 ?_ ?_; (first | (simp; done) | (simp; omega))) | (refine below_step ?_ BV) | (refine below_step ?_ hb)))
        have hsz := B1.size
        have hsz2 := B2.size
        have HO2 := Lib.hid (Own1.below HO.out BV)
        have R52 := Lib.hid (R5.out.below BV)
        have hzw : ∀ b, u3.ownBlock = some b → b < wr.heap.size := fun b e => (OwnR.lt HO.out b e).2
        clear s1 s2 s3 s4 bc0 bc1 bc2 bc3 bf0 bf1 bf2 bf3 hHeld hbk hbw hWp HV hpk he0 he1 he2 hx1 hx2 hx3 R4 R5 HO HLN hg BV
        rcases HV2.out with ⟨hn, rfl, rfl, rfl, rfl⟩ | ⟨x, hx, rfl, rfl, hop, hoi⟩
        · have HN := Lib.hid (lines_none hlt (HOE.out.symm.trans hn))
          have hbf : bb = false := by rw [HBB.out, hn]; rfl
          subst hbf
          clear hn
          go_wp2
          go_roundw
          case rel => exact ⟨k + 1, by omega, by go_num, B2, by rw [HN.out]; exact HO2.out⟩
          case measure => simp [intOf]; omega
        · have hbf : bb = true := by rw [HBB.out, hx]; rfl
          subst hbf
          have hx' := HOE.out.symm.trans hx
          obtain ⟨e1, e2⟩ := lineZ_tags hx'
          have HN := Lib.hid (lines_some hlt hx')
          have RP : Hid (Ty.line.R (fun j => ¬ u3.ownBlock = some j) Wp x #[.int .i64 x.1, v2, v3, .slice A5 (wyD ws k).2.2.length c5].toList) :=
            lineR hop hoi (by rw [e2]) hl5 (by rw [e2]; exact R52.out.mono (fun b hb' e => by have := (OwnR.lt HO2.out b e).1; omega)) (fun b hb' e => by have := (OwnR.lt hop b hb').1; have := hzw b e; omega) (fun b hb' e => by have := (OwnR.lt hoi b hb').1; have := hzw b e; omega)
          obtain ⟨Ap, cp, rfl, _, _⟩ := hop.reads
          obtain ⟨Ai, ci, rfl, _, _⟩ := hoi.reads
          have hlen : ((linesZ (nodeF ns) (ws.take k)).length + 1) * 80 ≤ 140737488355328 := by have := lines_len (nodeF ns) (ws.take k); rw [List.length_take] at this; omega
          clear hx hx' e1 e2 hop hoi hzw HV2
          go_wp2_with (first | (at_builtin; refine app_one Ty.line (W := Wp) w1.heap.size rfl _ _ 33 42 _ 80 rfl Try.underlying33 infoLine rfl (by decide) u3 (linesZ (nodeF ns) (ws.take k)) x [.int .i64 x.1, .slice Ap x.2.1.length cp, .slice Ai x.2.2.1.length ci, .slice A5 (wyD ws k).2.2.length c5] _ rfl rfl (by simp) RP.out HO2.out hsz2 hlen ?_; intro v1 w4 HO1 hg1 hat1))
          have BZ : Below w1.heap.size w1 w4 := below_own B2 hg1 (fun b e => (OwnR.lt HO2.out b e).1)
          have HO4 : Hid (Own1 Ty.line 42 w1.heap.size w4 v1 (linesZ (nodeF ns) (ws.take (k + 1)))) := by show Own1 _ _ _ _ _ _; rw [HN.out]; exact Own1.of HO1
          clear HO1 hg1 hat1
          go_wp2
          go_roundw
          case rel => exact ⟨k + 1, by omega, by go_num, BZ, HO4.out⟩
          case measure => simp [intOf]; omega
      · obtain rfl : k = ws.length := by omega
        have HO : Hid (Own1 Ty.line 42 w.heap.size wr u3 (linesZ (ptF ns ws rs) ws)) := by show Own1 _ _ _ _ _ _; rw [List.take_length, HE.out] at ho; exact ho.base B1.size
        clear ho
        go_wp2
        go_ret
        exact ⟨_, rfl, HO.out, BW⟩
end Go.Proofs.Ytniceoinipffmaa
