/- Contracts of normal.Points and mapmakerref19.Points: the places of a valid dataset's nodes, in a row of the call's own. -/
import Derived.Test.YtniceoinipffmaaNRchk
import Derived.Test.YtniceoinipffmaaNGrid
namespace Go.Proofs.Ytniceoinipffmaa
open Go.RowKit Go.Proofs.YtniceoinipffmaaW.PrintLast
set_option linter.unusedVariables false
set_option linter.unusedSimpArgs false

/-- A row of the call's own, and no other that may still be written. -/
def Own1 {α : Type} (T : Ty α) (e : TypeId) (base : Nat) (w : World) (v : Value) (xs : List α) : Prop := OwnR T e base (fun k => v.ownBlock = some k) w v xs
theorem Own1.of {α : Type} {T : Ty α} {e : TypeId} {base : Nat} {M : Nat → Prop} {w : World} {v : Value} {xs : List α} (h : OwnR T e base M w v xs) : Own1 T e base w v xs :=
  h.remut (fun k _ hk => h.mine k hk) (fun k hk => hk)
theorem Own1.below {α : Type} {T : Ty α} {e : TypeId} {base : Nat} {w w' : World} {v : Value} {xs : List α} (h : Own1 T e base w v xs) (hb : Below w.heap.size w w') : Own1 T e base w' v xs := OwnR.below h hb
theorem Own1.reads {α : Type} {T : Ty α} {e : TypeId} {base : Nat} {w : World} {v : Value} {xs : List α} (h : Own1 T e base w v xs) : ∃ A c, v = .slice A xs.length c ∧ xs.length ≤ c ∧ Row T (fun _ => True) w A xs := by
  obtain ⟨A, c, e, hl, hr, _⟩ := OwnR.reads h
  exact ⟨A, c, e, hl, hr.mono (fun _ _ => trivial)⟩
theorem Own1.base {α : Type} {T : Ty α} {e : TypeId} {base base' : Nat} {w : World} {v : Value} {xs : List α} (h : Own1 T e base w v xs) (hb : base' ≤ base) : Own1 T e base' w v xs := by
  obtain ⟨h0, inner, ⟨h1, h2⟩, hr⟩ := h
  refine ⟨h0, inner, ⟨h1, ?_⟩, hr⟩
  rcases h2 with h2 | ⟨g, cap, cur, rfl, hg, hh, r⟩
  · exact .inl h2
  · exact .inr ⟨g, cap, cur, rfl, Nat.le_trans hb hg, hh, r⟩
theorem below_own {w W w1 : World} {v : Value} (hb : Below w.heap.size w W) (hg : W.grownBy w1 v.ownBlock) (ho : ∀ k, v.ownBlock = some k → w.heap.size ≤ k) : Below w.heap.size w w1 := below_grown hb hg (fun b e => ho b e)

abbrev Ty.place : Ty Place := Ty.node
theorem infoPlace : (Try.prog.info? 48).map (fun i => (i.zero, i.size, i.bytes)) = some (some (.agg #[.int .i64 0, .int .i64 0, .int .i64 0, .slice none 0 0]), 4, 48) := by kernel_rfl
theorem scan_zero {n : Nat} {f : Nat → Option Int} (hf : ∀ j e, f j = some e → e ≠ 0) (h : scan n f = 0) : ∀ j, j < n → f j = none := by
  unfold scan at h
  cases hs : (List.range n).findSome? f with
  | none => exact fun j hj => (List.findSome?_eq_none_iff.1 hs) j (List.mem_range.2 hj)
  | some e =>
    obtain ⟨j, _, hj⟩ := List.exists_of_findSome?_eq_some hs
    rw [hs] at h
    exact absurd h (hf j e hj)
theorem nodeE_ne {l : List Node} : ∀ j e, nodeE l j = some e → e ≠ 0 := by
  intro j e h
  unfold nodeE at h
  split at h
  · rename_i h0; injection h with h; subst h; exact h0
  · split at h
    · injection h with h; subst h; decide
    · split at h
      · rename_i h0; injection h with h; subst h; exact h0
      · cases h
theorem nodes_okC {ns : List Node} {ws : List Way} {rs : List Rel} (h : objErr ns ws rs = 0) {k : Nat} (hk : k < ns.length) : okC (ndD ns k).2.1 := by
  have h0 : nodesErr ns = 0 := by
    by_cases h0 : nodesErr ns = 0
    · exact h0
    · rw [objErr, if_pos h0] at h; exact h
  have h1 := scan_zero nodeE_ne h0 k hk
  rcases okC_cases (ndD ns k).2.1 with h2 | h2 | h2 | h2 | h2
  · have := h2.2; unfold nodeE at h1; simp only [this, if_true] at h1; split at h1 <;> cases h1
  · have := h2.2.2; unfold nodeE at h1; simp only [this, if_true] at h1; split at h1 <;> cases h1
  · have := h2.2.2.2; unfold nodeE at h1; simp only [this, if_true] at h1; split at h1 <;> cases h1
  · have := h2.2.2.2.2; unfold nodeE at h1; simp only [this, if_true] at h1; split at h1 <;> cases h1
  · obtain ⟨a, b, c, d, _⟩ := h2
    exact ⟨by omega, by omega, by omega, by omega⟩
def placeOf (n : Node) : Place := (n.1, (projZ n.2.1, n.2.2))
def placesZ (ns : List Node) (ws : List Way) (rs : List Rel) : List Place := if objErr ns ws rs = 0 then ns.map placeOf else []
theorem places_snoc (ns : List Node) (k : Nat) (h : k < ns.length) : (ns.take (k + 1)).map placeOf = (ns.take k).map placeOf ++ [placeOf (ndD ns k)] := by
  rw [take_snoc ns k (0, ((0, 0), [])) h, List.map_append]; simp [ndD]
theorem placeR {ok : Nat → Prop} {w : World} {A : Option Addr} {n : Node} {c : Nat} (hl : n.2.2.length ≤ c) (h : Row Ty.tag ok w A n.2.2) :
    Ty.place.R ok w (placeOf n) [.int .i64 n.1, .int .i64 (projZ n.2.1).1, .int .i64 (projZ n.2.1).2, .slice A n.2.2.length c] :=
  ⟨[_], [_, _, _], rfl, rfl, [_, _], [_], rfl, rfl, A, c, rfl, hl, h⟩

set_option maxRecDepth 20000 in
set_option maxHeartbeats 4000000 in
theorem normal_Points {ok : Nat → Prop} (ns : List Node) (ws : List Way) (rs : List Rel) (A1 A2 A3 : Option Addr) (c1 c2 c3 : Nat) (w : World) (h1 : Row Ty.node ok w A1 ns) (h2 : Row Ty.way ok w A2 ws) (h3 : Row Ty.rel ok w A3 rs)
    (q1 : ns.length ≤ 10000) (q2 : ws.length ≤ 10000) (q3 : rs.length ≤ 10000) :
    Calls Try.prog 12 #[.agg #[.slice A1 ns.length c1, .slice A2 ws.length c2, .slice A3 rs.length c3]] w fun e w' => ∃ v, e = .returned v ∧ Own1 Ty.place 48 w.heap.size w' v (placesZ ns ws rs) ∧ Below w.heap.size w w' := by
  have HR0 := Lib.hid h1
  have HR1 : Hid (Row Ty.node (fun k => k < w.heap.size) w A1 ns) := h1.bnd.mono (fun k hk => hk.2)
  have HR2 := Lib.hid h2
  have HR3 := Lib.hid h3
  clear h1 h2 h3
  obtain ⟨W0, hW⟩ : ∃ W0, W0 = w.alloc (.cells #[.slice A1 ns.length c1, .slice A2 ws.length c2, .slice A3 rs.length c3] 26) := ⟨_, rfl⟩
  have B0 : Below w.heap.size w W0 := by rw [hW]; exact (by repeat (first | exact Below.refl _ _ | apply below_alloc | apply below_drewN | apply below_drew | (refine below_set2 ?_ ?_; (first | (simp; done) | (simp; omega)))))
  have hao : ∀ o : Nat, W0.cell? ⟨w.heap.size, o, none⟩ = #[.slice A1 ns.length c1, .slice A2 ws.length c2, .slice A3 rs.length c3][o]? := fun o => by rw [hW]; simp only [World.cell?, heap_alloc_new]; rfl
  have hc0 : W0.cell? ⟨w.heap.size, 0, none⟩ = some (.slice A1 ns.length c1) := hao 0
  have hc1 : W0.cell? ⟨w.heap.size, 1, none⟩ = some (.slice A2 ws.length c2) := hao 1
  have hc2 : W0.cell? ⟨w.heap.size, 2, none⟩ = some (.slice A3 rs.length c3) := hao 2
  clear hao
  go_enter Try.func12, Try.ntmps12
  go_wp2_with fail
  rw [← hW]
  clear hW
  have HD := data_Check ns ws rs A1 A2 A3 c1 c2 c3 W0 (HR0.out.below B0) (HR2.out.below B0) (HR3.out.below B0) q1 q2 q3
  refine HD.mono ?_
  clear HD
  rintro e w1 ⟨rfl, hb1⟩
  have B1 : Below w.heap.size w w1 := (by repeat (first | exact Below.refl _ _ | apply below_alloc | apply below_drewN | apply below_drew | (refine below_set2 ?_ ?_; (first | (simp; done) | (simp; omega))) | (refine below_step ?_ hb1) | (refine below_step ?_ B0)))
  have hd0 := cell_below hb1 hc0
  clear hc0 hc1 hc2 hb1 B0 q2 q3 HR0 HR2 HR3
  obtain ⟨z, hz⟩ : ∃ z, z = objErr ns ws rs := ⟨_, rfl⟩
  rw [← hz]
  by_cases h0 : z = 0
  · subst h0
    have HZ := Lib.hid hz.symm
    have HP : Hid (placesZ ns ws rs = ns.map placeOf) := by show _ = _; rw [placesZ, if_pos hz.symm]
    clear hz
    go_wp2
    go_loopw [3, 14] (fun v i wr => ∃ k : Nat, k ≤ ns.length ∧ i = .int .i64 k ∧ Below w.heap.size w wr ∧ Own1 Ty.place 48 w.heap.size wr v ((ns.take k).map placeOf)) (fun _ i _ => ns.length - (intOf i).toNat)
    case atStart => exact ⟨0, Nat.zero_le _, rfl, B1, OwnR.nil _ _ _ _ _⟩
    case round =>
      obtain ⟨k, hk, rfl, BW, ho⟩ := hrel
      by_cases hlt : k < ns.length
      · have HRk := Lib.hid (HR1.out.below BW)
        obtain ⟨ad, A4, c4, rfl, hx1, hx2, hx3, hx4, hl4, hr4⟩ := HRk.out.node_at k hlt
        have R4 := Lib.hid hr4
        have HO := Lib.hid ho
        have okc := nodes_okC HZ.out hlt
        clear hr4 ho hd0
        go_wp2_with fail
        refine (grid_Project (ndD ns k).2.1.1 (ndD ns k).2.1.2 _ okc).mono ?_
        rintro e w2 ⟨rfl, hb2⟩
        have hbk := (hb2.block wr.heap.size (by simp)).trans (heap_alloc_new wr _)
        have hy0 := blk_cell hbk 0 rfl
        have hy3 := blk_cell hbk 3 rfl
        have hz2 : wr.heap.size < w2.heap.size := by have := hb2.size; simp at this; omega
        have hsz := BW.size
        obtain ⟨Wp, hWp⟩ : ∃ Wp, Wp = w2.alloc (.cells #[.int .i64 (projZ (ndD ns k).2.1).1, .int .i64 (projZ (ndD ns k).2.1).2] 44) := ⟨_, rfl⟩
        have BP0 : Below wr.heap.size wr Wp := by rw [hWp]; exact (by repeat (first | exact Below.refl _ _ | apply below_alloc | apply below_drewN | apply below_drew | (refine below_set2 ?_ ?_; (first | (simp; done) | (simp; omega))) | (refine below_step ?_ hb2)))
        have BP1 : Below w.heap.size w Wp := (by repeat (first | exact Below.refl _ _ | apply below_alloc | apply below_drewN | apply below_drew | (refine below_set2 ?_ ?_; (first | (simp; done) | (simp; omega))) | (refine below_step ?_ BP0) | (refine below_step ?_ BW)))
        have hzp := BP1.size
        have RP : Hid (Ty.place.R (fun j => ¬ u3.ownBlock = some j) Wp (placeOf (ndD ns k)) [.int .i64 (ndD ns k).1, .int .i64 (projZ (ndD ns k).2.1).1, .int .i64 (projZ (ndD ns k).2.1).2, .slice A4 (ndD ns k).2.2.length c4]) :=
          placeR hl4 ((R4.out.below BP0).mono (fun b hb' e => by have := (OwnR.lt HO.out b e).1; omega))
        have HOp : Hid (Own1 Ty.place 48 w.heap.size Wp u3 ((ns.take k).map placeOf)) := Own1.below HO.out BP0
        have hlen : (((ns.take k).map placeOf).length + 1) * 48 ≤ 140737488355328 := by rw [List.length_map, List.length_take]; omega
        subst hWp
        clear hx1 hx2 hx3 hx4 hbk hb2 HRk R4 okc
        go_wp2_with (first | (at_builtin; refine app_one Ty.place (W := w2.alloc (.cells #[.int .i64 (projZ (ndD ns k).2.1).1, .int .i64 (projZ (ndD ns k).2.1).2] 44)) w.heap.size rfl _ _ 30 48 _ 48 rfl Try.underlying30 infoPlace rfl (by decide) u3 ((ns.take k).map placeOf) (placeOf (ndD ns k)) [.int .i64 (ndD ns k).1, .int .i64 (projZ (ndD ns k).2.1).1, .int .i64 (projZ (ndD ns k).2.1).2, .slice A4 (ndD ns k).2.2.length c4] _ rfl rfl (by simp) RP.out HOp.out hzp hlen ?_; intro v1 w4 HO1 hg1 hat1))
        have BZ : Below w.heap.size w w4 := below_own BP1 hg1 (fun b e => (HO.out.lt b e).1)
        have HO4 : Hid (Own1 Ty.place 48 w.heap.size w4 v1 ((ns.take (k + 1)).map placeOf)) := by show Own1 _ _ _ _ _ _; rw [places_snoc ns k hlt]; exact Own1.of HO1
        clear HO1 hg1 hat1
        go_wp2
        go_roundw
        case rel => exact ⟨k + 1, by omega, by go_num, BZ, HO4.out⟩
        case measure => simp [intOf]; omega
      · obtain rfl : k = ns.length := by omega
        have HO : Hid (Own1 Ty.place 48 w.heap.size wr u3 (placesZ ns ws rs)) := by show Own1 _ _ _ _ _ _; rw [HP.out]; rwa [List.take_length] at ho
        clear ho
        go_wp2
        go_ret
        exact ⟨_, rfl, HO.out, BW⟩
  · have q5 : (z != 0) = true := by simp [h0]
    have HP : Hid (placesZ ns ws rs = []) := by show _ = _; rw [placesZ, if_neg (by rw [← hz]; exact h0)]
    clear h0 hz
    go_wp2
    go_ret
    exact ⟨_, rfl, by rw [HP.out]; exact OwnR.nil _ _ _ _ _, B1⟩
set_option maxRecDepth 20000 in
set_option maxHeartbeats 4000000 in
theorem ref19_Points {ok : Nat → Prop} (ns : List Node) (ws : List Way) (rs : List Rel) (A1 A2 A3 : Option Addr) (c1 c2 c3 : Nat) (w : World) (h1 : Row Ty.node ok w A1 ns) (h2 : Row Ty.way ok w A2 ws) (h3 : Row Ty.rel ok w A3 rs)
    (q1 : ns.length ≤ 10000) (q2 : ws.length ≤ 10000) (q3 : rs.length ≤ 10000) :
    Calls Try.prog 13 #[.agg #[.slice A1 ns.length c1, .slice A2 ws.length c2, .slice A3 rs.length c3]] w fun e w' => ∃ v, e = .returned v ∧ Own1 Ty.place 48 w.heap.size w' v (placesZ ns ws rs) ∧ Below w.heap.size w w' := by
  have HR0 := Lib.hid h1
  have HR1 : Hid (Row Ty.node (fun k => k < w.heap.size) w A1 ns) := h1.bnd.mono (fun k hk => hk.2)
  have HR2 := Lib.hid h2
  have HR3 := Lib.hid h3
  clear h1 h2 h3
  obtain ⟨W0, hW⟩ : ∃ W0, W0 = w.alloc (.cells #[.slice A1 ns.length c1, .slice A2 ws.length c2, .slice A3 rs.length c3] 26) := ⟨_, rfl⟩
  have B0 : Below w.heap.size w W0 := by rw [hW]; exact (by repeat (first | exact Below.refl _ _ | apply below_alloc | apply below_drewN | apply below_drew | (refine below_set2 ?_ ?_; (first | (simp; done) | (simp; omega)))))
  have hao : ∀ o : Nat, W0.cell? ⟨w.heap.size, o, none⟩ = #[.slice A1 ns.length c1, .slice A2 ws.length c2, .slice A3 rs.length c3][o]? := fun o => by rw [hW]; simp only [World.cell?, heap_alloc_new]; rfl
  have hc0 : W0.cell? ⟨w.heap.size, 0, none⟩ = some (.slice A1 ns.length c1) := hao 0
  have hc1 : W0.cell? ⟨w.heap.size, 1, none⟩ = some (.slice A2 ws.length c2) := hao 1
  have hc2 : W0.cell? ⟨w.heap.size, 2, none⟩ = some (.slice A3 rs.length c3) := hao 2
  clear hao
  go_enter Try.func13, Try.ntmps13
  go_wp2_with fail
  rw [← hW]
  clear hW
  have HD := ref14_Check ns ws rs A1 A2 A3 c1 c2 c3 W0 (HR0.out.below B0) (HR2.out.below B0) (HR3.out.below B0) q1 q2 q3
  refine HD.mono ?_
  clear HD
  rintro e w1 ⟨rfl, hb1⟩
  have B1 : Below w.heap.size w w1 := (by repeat (first | exact Below.refl _ _ | apply below_alloc | apply below_drewN | apply below_drew | (refine below_set2 ?_ ?_; (first | (simp; done) | (simp; omega))) | (refine below_step ?_ hb1) | (refine below_step ?_ B0)))
  have hd0 := cell_below hb1 hc0
  clear hc0 hc1 hc2 hb1 B0 q2 q3 HR0 HR2 HR3
  obtain ⟨z, hz⟩ : ∃ z, z = objErr ns ws rs := ⟨_, rfl⟩
  rw [← hz]
  by_cases h0 : z = 0
  · subst h0
    have HZ := Lib.hid hz.symm
    have HP : Hid (placesZ ns ws rs = ns.map placeOf) := by show _ = _; rw [placesZ, if_pos hz.symm]
    clear hz
    go_wp2
    go_loopw [3, 4] (fun v i wr => ∃ k : Nat, k ≤ ns.length ∧ i = .int .i64 k ∧ Below w.heap.size w wr ∧ Below w1.heap.size w1 wr ∧ Own1 Ty.place 48 w1.heap.size wr v ((ns.take k).map placeOf)) (fun _ i _ => ns.length - (intOf i).toNat)
    case atStart => exact ⟨0, Nat.zero_le _, rfl, B1, Below.refl _ _, OwnR.nil _ _ _ _ _⟩
    case round =>
      obtain ⟨k, hk, rfl, BW, hb, ho⟩ := hrel
      by_cases hlt : k < ns.length
      · have HRk := Lib.hid (HR1.out.below BW)
        obtain ⟨ad, A4, c4, rfl, hx1, hx2, hx3, hx4, hl4, hr4⟩ := HRk.out.node_at k hlt
        obtain ⟨Au, nu, cu, rfl⟩ : ∃ A n c, u3 = .slice A n c := by obtain ⟨A, c, e, _⟩ := ho.reads; exact ⟨_, _, _, e⟩
        have R4 := Lib.hid hr4
        have HO := Lib.hid ho
        have okc := nodes_okC HZ.out hlt
        have he0 := cell_below hb hd0
        clear hr4 ho
        go_wp2_with fail
        refine (ref08_Project (ndD ns k).2.1.1 (ndD ns k).2.1.2 _ okc).mono ?_
        rintro e w2 ⟨rfl, hb2⟩
        obtain ⟨Wp, hWp⟩ : ∃ Wp, Wp = w2.alloc (.cells #[.int .i64 (projZ (ndD ns k).2.1).1, .int .i64 (projZ (ndD ns k).2.1).2] 44) := ⟨_, rfl⟩
        have hp0 : Wp.cell? ⟨w2.heap.size, 0, none⟩ = some (.int .i64 (projZ (ndD ns k).2.1).1) := by rw [hWp]; simp only [World.cell?, heap_alloc_new]; rfl
        have hp1 : Wp.cell? ⟨w2.heap.size, 1, none⟩ = some (.int .i64 (projZ (ndD ns k).2.1).2) := by rw [hWp]; simp only [World.cell?, heap_alloc_new]; rfl
        have BP0 : Below wr.heap.size wr Wp := by rw [hWp]; exact (by repeat (first | exact Below.refl _ _ | apply below_alloc | apply below_drewN | apply below_drew | (refine below_set2 ?_ ?_; (first | (simp; done) | (simp; omega))) | (refine below_step ?_ hb2)))
        have BP1 : Below w1.heap.size w1 Wp := (by repeat (first | exact Below.refl _ _ | apply below_alloc | apply below_drewN | apply below_drew | (refine below_set2 ?_ ?_; (first | (simp; done) | (simp; omega))) | (refine below_step ?_ BP0) | (refine below_step ?_ hb)))
        have BP2 : Below w.heap.size w Wp := (by repeat (first | exact Below.refl _ _ | apply below_alloc | apply below_drewN | apply below_drew | (refine below_set2 ?_ ?_; (first | (simp; done) | (simp; omega))) | (refine below_step ?_ BP1) | (refine below_step ?_ B1)))
        have hzp := BP1.size
        have hsz := BW.size
        have hz1 := B1.size
        have hf0 := cell_below BP0 he0
        have hy1 := cell_below BP0 hx1
        have hy4 := cell_below BP0 hx4
        have RP : Hid (Ty.place.R (fun j => ¬ (Value.slice Au nu cu).ownBlock = some j) Wp.drew (placeOf (ndD ns k)) [.int .i64 (ndD ns k).1, .int .i64 (projZ (ndD ns k).2.1).1, .int .i64 (projZ (ndD ns k).2.1).2, .slice A4 (ndD ns k).2.2.length c4]) :=
          placeR hl4 (((R4.out.below BP0).below (below_drew (Below.refl _ _))).mono (fun b hb' e => by have := (OwnR.lt HO.out b e).1; omega))
        have HOp : Hid (Own1 Ty.place 48 w1.heap.size Wp.drew (.slice Au nu cu) ((ns.take k).map placeOf)) := OwnR.drew (Own1.below HO.out BP0)
        have hlen : (((ns.take k).map placeOf).length + 1) * 48 ≤ 140737488355328 := by rw [List.length_map, List.length_take]; omega
        clear hx1 hx2 hx3 hx4 hb2 HRk R4 okc he0
        go_wp2_with fail
        rw [← hWp]
        clear hWp
        refine start_ (n := 18) (S := fun w' => w'.cell? ⟨w.heap.size, 0, none⟩ = some (.slice (some ad) ns.length c1) ∧ w'.cell? (ad.add (k * 4)) = some (.int .i64 (ndD ns k).1) ∧ w'.cell? ⟨(ad.add (k * 4)).block, (ad.add (k * 4)).off + 3, none⟩ = some (.slice A4 (ndD ns k).2.2.length c4) ∧ w'.cell? ⟨w2.heap.size, 0, none⟩ = some (.int .i64 (projZ (ndD ns k).2.1).1) ∧ w'.cell? ⟨w2.heap.size, 1, none⟩ = some (.int .i64 (projZ (ndD ns k).2.1).2)) (ds := [15, 16]) #[false, false, false, false, false, false, false, false, false, false, false, false, false, false, false, false, false, false] (by kernel_rfl) rfl rfl ⟨hf0, hy1, hy4, hp0, hp1⟩ (fun hHeld => ?_)
        refine pure_ (i := 0) (N := some 27) (v := ?_) (a' := ?_) #[true, false, false, false, false, false, false, false, false, false, false, false, false, false, false, false, false, false] rfl rfl (by kernel_rfl) (fun _ _ _ h => h) (Or.inl ⟨by rfl, ?_⟩) ?_ ?_
        rotate_left
        · intro w'
          go_simp
          with_reducible rfl
        rotate_left
        · simp only [Act.put, List.setIfInBounds_toArray, List.set_cons_zero, List.set_cons_succ, i64_w, i32_w]
          rfl
        refine pure_ (i := 1) (N := some 28) (v := ?_) (a' := ?_) #[true, true, false, false, false, false, false, false, false, false, false, false, false, false, false, false, false, false] rfl rfl (by kernel_rfl) (fun _ _ _ h => h) (Or.inl ⟨by rfl, ?_⟩) ?_ ?_
        rotate_left
        · intro w'
          go_simp
          with_reducible rfl
        rotate_left
        · simp only [Act.put, List.setIfInBounds_toArray, List.set_cons_zero, List.set_cons_succ, i64_w, i32_w]
          rfl
        refine pure_ (i := 3) (N := some 30) (v := ?_) (a' := ?_) #[true, true, false, true, false, false, false, false, false, false, false, false, false, false, false, false, false, false] rfl rfl (by kernel_rfl) (fun _ _ _ h => h) (Or.inl ⟨by rfl, ?_⟩) ?_ ?_
        rotate_left
        · intro w'
          go_simp
          with_reducible rfl
        rotate_left
        · simp only [Act.put, List.setIfInBounds_toArray, List.set_cons_zero, List.set_cons_succ, i64_w, i32_w]
          rfl
        refine pure_ (i := 8) (N := some 35) (v := ?_) (a' := ?_) #[true, true, false, true, false, false, false, false, true, false, false, false, false, false, false, false, false, false] rfl rfl (by kernel_rfl) (fun _ _ _ h => h) (Or.inl ⟨by rfl, ?_⟩) ?_ ?_
        rotate_left
        · intro w'
          go_simp
          with_reducible rfl
        rotate_left
        · simp only [Act.put, List.setIfInBounds_toArray, List.set_cons_zero, List.set_cons_succ, i64_w, i32_w]
          rfl
        refine pure_ (i := 10) (N := some 37) (v := ?_) (a' := ?_) #[true, true, false, true, false, false, false, false, true, false, true, false, false, false, false, false, false, false] rfl rfl (by kernel_rfl) (fun _ _ _ h => h) (Or.inl ⟨by rfl, ?_⟩) ?_ ?_
        rotate_left
        · intro w'
          go_simp
          with_reducible rfl
        rotate_left
        · simp only [Act.put, List.setIfInBounds_toArray, List.set_cons_zero, List.set_cons_succ, i64_w, i32_w]
          rfl
        refine take_ (i := 2) (N := some 29) (v := ?_) (a' := ?_) #[true, true, true, true, false, false, false, false, true, false, true, false, false, false, false, false, false, false] rfl rfl (by kernel_rfl) (fun _ _ _ h => h) (Or.inl ⟨by rfl, ?_⟩) hHeld ?_ ?_
        rotate_left
        · rintro w' ⟨s0, s1, s2, s3, s4⟩
          go_simp
          with_reducible rfl
        rotate_left
        · simp only [Act.put, List.setIfInBounds_toArray, List.set_cons_zero, List.set_cons_succ, i64_w, i32_w]
          rfl
        refine pure_ (i := 4) (N := some 31) (v := ?_) (a' := ?_) #[true, true, true, true, true, false, false, false, true, false, true, false, false, false, false, false, false, false] rfl rfl (by kernel_rfl) (fun _ _ _ h => h) (Or.inl ⟨by rfl, ?_⟩) ?_ ?_
        rotate_left
        · intro w'
          go_simp
          with_reducible rfl
        rotate_left
        · simp only [Act.put, List.setIfInBounds_toArray, List.set_cons_zero, List.set_cons_succ, i64_w, i32_w]
          rfl
        refine pure_ (i := 5) (N := some 32) (v := ?_) (a' := ?_) #[true, true, true, true, true, true, false, false, true, false, true, false, false, false, false, false, false, false] rfl rfl (by kernel_rfl) (fun _ _ _ h => h) (Or.inl ⟨by rfl, ?_⟩) ?_ ?_
        rotate_left
        · intro w'
          go_simp
          with_reducible rfl
        rotate_left
        · simp only [Act.put, List.setIfInBounds_toArray, List.set_cons_zero, List.set_cons_succ, i64_w, i32_w]
          rfl
        refine take_ (i := 6) (N := some 33) (v := ?_) (a' := ?_) #[true, true, true, true, true, true, true, false, true, false, true, false, false, false, false, false, false, false] rfl rfl (by kernel_rfl) (fun _ _ _ h => h) (Or.inl ⟨by rfl, ?_⟩) hHeld ?_ ?_
        rotate_left
        · rintro w' ⟨s0, s1, s2, s3, s4⟩
          go_simp
          with_reducible rfl
        rotate_left
        · simp only [Act.put, List.setIfInBounds_toArray, List.set_cons_zero, List.set_cons_succ, i64_w, i32_w]
          rfl
        refine take_ (i := 7) (N := some 34) (v := ?_) (a' := ?_) #[true, true, true, true, true, true, true, true, true, false, true, false, false, false, false, false, false, false] rfl rfl (by kernel_rfl) (fun _ _ _ h => h) (Or.inl ⟨by rfl, ?_⟩) hHeld ?_ ?_
        rotate_left
        · rintro w' ⟨s0, s1, s2, s3, s4⟩
          go_simp
          with_reducible rfl
        rotate_left
        · simp only [Act.put, List.setIfInBounds_toArray, List.set_cons_zero, List.set_cons_succ, i64_w, i32_w]
          rfl
        refine take_ (i := 9) (N := some 36) (v := ?_) (a' := ?_) #[true, true, true, true, true, true, true, true, true, true, true, false, false, false, false, false, false, false] rfl rfl (by kernel_rfl) (fun _ _ _ h => h) (Or.inl ⟨by rfl, ?_⟩) hHeld ?_ ?_
        rotate_left
        · rintro w' ⟨s0, s1, s2, s3, s4⟩
          go_simp
          with_reducible rfl
        rotate_left
        · simp only [Act.put, List.setIfInBounds_toArray, List.set_cons_zero, List.set_cons_succ, i64_w, i32_w]
          rfl
        refine pure_ (i := 11) (N := some 38) (v := ?_) (a' := ?_) #[true, true, true, true, true, true, true, true, true, true, true, true, false, false, false, false, false, false] rfl rfl (by kernel_rfl) (fun _ _ _ h => h) (Or.inl ⟨by rfl, ?_⟩) ?_ ?_
        rotate_left
        · intro w'
          go_simp
          with_reducible rfl
        rotate_left
        · simp only [Act.put, List.setIfInBounds_toArray, List.set_cons_zero, List.set_cons_succ, i64_w, i32_w]
          rfl
        refine pure_ (i := 12) (N := some 39) (v := ?_) (a' := ?_) #[true, true, true, true, true, true, true, true, true, true, true, true, true, false, false, false, false, false] rfl rfl (by kernel_rfl) (fun _ _ _ h => h) (Or.inl ⟨by rfl, ?_⟩) ?_ ?_
        rotate_left
        · intro w'
          go_simp
          with_reducible rfl
        rotate_left
        · simp only [Act.put, List.setIfInBounds_toArray, List.set_cons_zero, List.set_cons_succ, i64_w, i32_w]
          rfl
        refine take_ (i := 13) (N := some 40) (v := ?_) (a' := ?_) #[true, true, true, true, true, true, true, true, true, true, true, true, true, true, false, false, false, false] rfl rfl (by kernel_rfl) (fun _ _ _ h => h) (Or.inl ⟨by rfl, ?_⟩) hHeld ?_ ?_
        rotate_left
        · rintro w' ⟨s0, s1, s2, s3, s4⟩
          go_simp
          with_reducible rfl
        rotate_left
        · simp only [Act.put, List.setIfInBounds_toArray, List.set_cons_zero, List.set_cons_succ, i64_w, i32_w]
          rfl
        refine pure_ (i := 14) (N := some 41) (v := ?_) (a' := ?_) #[true, true, true, true, true, true, true, true, true, true, true, true, true, true, true, false, false, false] rfl rfl (by kernel_rfl) (fun _ _ _ h => h) (Or.inl ⟨by rfl, ?_⟩) ?_ ?_
        rotate_left
        · intro w'
          go_simp
          with_reducible rfl
        rotate_left
        · simp only [Act.put, List.setIfInBounds_toArray, List.set_cons_zero, List.set_cons_succ, i64_w, i32_w]
          rfl
        refine last_ (i := 15) (N := some 42) #[true, true, true, true, true, true, true, true, true, true, true, true, true, true, true, true, false, false] rfl rfl (by kernel_rfl) (by decide) (fun K hK => ?_)
        refine value_ (w1 := ?_) (v := ?_) (by rfl) rfl ?_ ?_
        rotate_left 2
        · go_simp
          constructor
          · rfl
          · rfl
        refine hK.out _ _ ?_
        clear hK K
        refine norm_ (a' := ?_) ?_ ?_
        rotate_left
        · show Act.put _ (some 42) _ = _
          simp only [Act.put, List.setIfInBounds_toArray, List.set_cons_zero, List.set_cons_succ, i64_w, i32_w]
          rfl
        refine last_ (i := 16) (N := some 43) #[true, true, true, true, true, true, true, true, true, true, true, true, true, true, true, true, true, false] rfl rfl (by kernel_rfl) (by decide) (fun K hK => ?_)
        refine step_one Ty.place (W := Wp.drew) w1.heap.size rfl (.tmp 27) (.tmp 42) 30 48 _ 48 rfl Try.underlying30 infoPlace rfl (by decide) (.slice Au nu cu) ((ns.take k).map placeOf) (placeOf (ndD ns k)) [.int .i64 (ndD ns k).1, .int .i64 (projZ (ndD ns k).2.1).1, .int .i64 (projZ (ndD ns k).2.1).2, .slice A4 (ndD ns k).2.2.length c4] _ rfl rfl (by simp) RP.out HOp.out hzp hlen ?_
        intro v1 w4 HO1 hg1 hat1
        obtain ⟨Av, nv, cv, rfl⟩ : ∃ Av nv cv, v1 = .slice Av nv cv := by obtain ⟨Av, cv, e, _⟩ := OwnR.reads HO1; exact ⟨_, _, _, e⟩
        refine hK.out _ _ ?_
        clear hK K
        refine norm_ (a' := ?_) ?_ ?_
        rotate_left
        · show Act.put _ (some 43) _ = _
          simp only [Act.put, List.setIfInBounds_toArray, List.set_cons_zero, List.set_cons_succ, i64_w, i32_w]
          rfl
        refine pure_ (i := 17) (N := some 3) (v := ?_) (a' := ?_) #[true, true, true, true, true, true, true, true, true, true, true, true, true, true, true, true, true, true] rfl rfl (by kernel_rfl) (fun _ _ _ h => h) (Or.inl ⟨by rfl, ?_⟩) ?_ ?_
        rotate_left
        · intro w'
          go_simp
          with_reducible rfl
        rotate_left
        · simp only [Act.put, List.setIfInBounds_toArray, List.set_cons_zero, List.set_cons_succ, i64_w, i32_w]
          rfl
        refine done_ (by kernel_rfl) ?_
        have BZ1 : Below w1.heap.size w1 w4 := below_own (below_drew BP1) hg1 (fun b e => (HO.out.lt b e).1)
        have BZ : Below w.heap.size w w4 := (by repeat (first | exact Below.refl _ _ | apply below_alloc | apply below_drewN | apply below_drew | (refine below_set2 ?_ ?_; (first | (simp; done) | (simp; omega))) | (refine below_step ?_ BZ1) | (refine below_step ?_ B1)))
        have HO4 : Hid (Own1 Ty.place 48 w1.heap.size w4 (.slice Av nv cv) ((ns.take (k + 1)).map placeOf)) := by show Own1 _ _ _ _ _ _; rw [places_snoc ns k hlt]; exact Own1.of HO1
        clear HO1 hg1 hat1
        go_wp2
        go_roundw
        case rel => exact ⟨k + 1, by omega, by go_num, BZ, BZ1, HO4.out⟩
        case measure => simp [intOf]; omega
      · obtain rfl : k = ns.length := by omega
        have HO : Hid (Own1 Ty.place 48 w.heap.size wr u3 (placesZ ns ws rs)) := by show Own1 _ _ _ _ _ _; rw [HP.out]; rw [List.take_length] at ho; exact ho.base B1.size
        have he0 := cell_below hb hd0
        clear ho
        go_wp2
        go_ret
        exact ⟨_, rfl, HO.out, BW⟩
  · have q5 : (z != 0) = true := by simp [h0]
    have HP : Hid (placesZ ns ws rs = []) := by show _ = _; rw [placesZ, if_neg (by rw [← hz]; exact h0)]
    clear h0 hz
    go_wp2
    go_ret
    exact ⟨_, rfl, by rw [HP.out]; exact OwnR.nil _ _ _ _ _, B1⟩
end Go.Proofs.Ytniceoinipffmaa
