/- Contracts of normal.points and mapmakerref19.point: the grid point of a node. -/
import Derived.Test.YtniceoinipffmaaNPlac
namespace Go.Proofs.Ytniceoinipffmaa
open Go.RowKit Go.Proofs.YtniceoinipffmaaW.PrintLast
set_option linter.unusedVariables false
set_option linter.unusedSimpArgs false

def ptV (p : Pt) : Value := .agg #[.int .i64 p.1, .int .i64 p.2]
def nodeF (ns : List Node) (id : Int) : Option Pt := (ns.find? (fun n => n.1 == id)).map fun n => projZ n.2.1
def ptF (ns : List Node) (ws : List Way) (rs : List Rel) (id : Int) : Option Pt := if objErr ns ws rs = 0 then nodeF ns id else none
/-- The IDs of a valid dataset's nodes increase. -/
theorem nodes_step {ns : List Node} {ws : List Way} {rs : List Rel} (h : objErr ns ws rs = 0) {k : Nat} (hk : k + 1 < ns.length) : (ndD ns k).1 < (ndD ns (k + 1)).1 := by
  have h0 : nodesErr ns = 0 := by
    by_cases h0 : nodesErr ns = 0
    · exact h0
    · rw [objErr, if_pos h0] at h; exact h
  have h1 := scan_zero nodeE_ne h0 (k + 1) hk
  unfold nodeE at h1
  split at h1
  · cases h1
  · rename_i h2
    have h3 : idE (fun i => (ndD ns i).1) (k + 1) = 0 := by omega
    unfold idE idZ at h3
    rw [show decide (k + 1 = 0) = false from rfl, show k + 1 - 1 = k from rfl] at h3
    simp only [Bool.false_eq_true, if_false] at h3
    split at h3
    · cases h3
    · split at h3
      · cases h3
      · split at h3
        · cases h3
        · omega
theorem nodes_lt {ns : List Node} {ws : List Way} {rs : List Rel} (h : objErr ns ws rs = 0) {i j : Nat} (hij : i < j) (hj : j < ns.length) : (ndD ns i).1 < (ndD ns j).1 := by
  induction j with
  | zero => omega
  | succ j ih =>
    have h1 := nodes_step h hj
    by_cases e : i = j
    · subst e; exact h1
    · have := ih (by omega) (by omega); omega
theorem places_lt {ns : List Node} {ws : List Way} {rs : List Rel} {i j : Nat} (hij : i < j) (hj : j < (placesZ ns ws rs).length) : (ndD (placesZ ns ws rs) i).1 < (ndD (placesZ ns ws rs) j).1 := by
  by_cases h : objErr ns ws rs = 0
  · have e : placesZ ns ws rs = ns.map placeOf := by rw [placesZ, if_pos h]
    rw [e] at hj ⊢
    have hj' : j < ns.length := by simpa using hj
    have := nodes_lt h hij hj'
    simp only [ndD, List.getD_eq_getElem?_getD, List.getElem?_map, List.getElem?_eq_getElem hj', List.getElem?_eq_getElem (show i < ns.length by omega)] at this ⊢
    exact this
  · have e : placesZ ns ws rs = [] := by rw [placesZ, if_neg h]
    rw [e] at hj; simp at hj
theorem find_new {l : List Place} (hlt : ∀ i j, i < j → j < l.length → (ndD l i).1 < (ndD l j).1) {k : Nat} (hk : k < l.length) : (l.take k).find? (fun x => x.1 == (ndD l k).1) = none := by
  rw [List.find?_eq_none]
  intro x hx
  obtain ⟨i, hi, rfl⟩ := List.getElem_of_mem hx
  have hi' : i < k := by rw [List.length_take] at hi; omega
  have := hlt i k hi' hk
  simp only [ndD, List.getD_eq_getElem?_getD, List.getElem?_eq_getElem hk, List.getElem?_eq_getElem (show i < l.length by omega), Option.getD_some] at this
  simp only [List.getElem_take, ndD, List.getD_eq_getElem?_getD, List.getElem?_eq_getElem hk, Option.getD_some, beq_iff_eq]
  omega
theorem find_snoc {l : List Place} (hlt : ∀ i j, i < j → j < l.length → (ndD l i).1 < (ndD l j).1) {k : Nat} (hk : k < l.length) (id : Int) :
    (if id = (ndD l k).1 then some (ptV (ndD l k).2.1) else ((l.take k).find? (fun x => x.1 == id)).map (fun x => ptV x.2.1)) = ((l.take (k + 1)).find? (fun x => x.1 == id)).map (fun x => ptV x.2.1) := by
  rw [take_snoc l k (0, ((0, 0), [])) hk, List.find?_append]
  show _ = Option.map _ (((l.take k).find? _).or ([ndD l k].find? _))
  by_cases h : id = (ndD l k).1
  · subst h
    rw [if_pos rfl, find_new hlt hk]
    simp
  · rw [if_neg h]
    have : ([ndD l k].find? fun x => x.1 == id) = none := by simp; exact fun e => h e.symm
    rw [this, Option.or_none]
theorem ptF_places (ns : List Node) (ws : List Way) (rs : List Rel) (id : Int) : ((placesZ ns ws rs).find? (fun x => x.1 == id)).map (fun x => ptV x.2.1) = (ptF ns ws rs id).map ptV := by
  unfold placesZ ptF
  split
  · rw [List.find?_map]
    simp only [nodeF, Option.map_map]
    congr 1
  · rfl

set_option maxRecDepth 20000 in
set_option maxHeartbeats 4000000 in
theorem normal_points {ok : Nat → Prop} (ns : List Node) (ws : List Way) (rs : List Rel) (A1 A2 A3 : Option Addr) (c1 c2 c3 : Nat) (w : World) (h1 : Row Ty.node ok w A1 ns) (h2 : Row Ty.way ok w A2 ws) (h3 : Row Ty.rel ok w A3 rs)
    (q1 : ns.length ≤ 10000) (q2 : ws.length ≤ 10000) (q3 : rs.length ≤ 10000) :
    Calls Try.prog 39 #[.agg #[.slice A1 ns.length c1, .slice A2 ws.length c2, .slice A3 rs.length c3]] w fun e w' => ∃ b vs, e = .returned (.map (some b)) ∧ OwnMap encI w' b vs ∧ (∀ id, mapGet vs id = (ptF ns ws rs id).map ptV) ∧ Below w.heap.size w w' := by
  have HR1 := Lib.hid h1
  have HR2 := Lib.hid h2
  have HR3 := Lib.hid h3
  have mk : ∀ W : World, (Instr.makeMap 83 none).run Try.prog W = .ok (.map (some W.heap.size)) (W.alloc (.map #[] 0)) := fun W => run_makeMap _ W
  clear h1 h2 h3
  obtain ⟨Wa, hWa⟩ : ∃ Wa, Wa = w.alloc (.cells #[.slice A1 ns.length c1, .slice A2 ws.length c2, .slice A3 rs.length c3] 26) := ⟨_, rfl⟩
  have Ba : Below w.heap.size w Wa := by rw [hWa]; exact (by repeat (first | exact Below.refl _ _ | apply below_alloc | apply below_drewN | apply below_drew | (refine below_set2 ?_ ?_; (first | (simp; done) | (simp; omega)))))
  have za : Wa.heap.size = w.heap.size + 1 := by rw [hWa]; simp
  have hao : ∀ o : Nat, Wa.cell? ⟨w.heap.size, o, none⟩ = #[.slice A1 ns.length c1, .slice A2 ws.length c2, .slice A3 rs.length c3][o]? := fun o => by rw [hWa]; simp only [World.cell?, heap_alloc_new]; rfl
  obtain ⟨Wb, hWb⟩ : ∃ Wb, Wb = Wa.alloc (.map #[] 0) := ⟨_, rfl⟩
  have Mb : OwnMap encI Wb (w.heap.size + 1) [] := by rw [hWb, ← za]; exact OwnMap.made _ _
  have Bb' : Below Wa.heap.size Wa Wb := by rw [hWb]; exact (by repeat (first | exact Below.refl _ _ | apply below_alloc | apply below_drewN | apply below_drew | (refine below_set2 ?_ ?_; (first | (simp; done) | (simp; omega)))))
  have Bb : Below w.heap.size w Wb := (by repeat (first | exact Below.refl _ _ | apply below_alloc | apply below_drewN | apply below_drew | (refine below_set2 ?_ ?_; (first | (simp; done) | (simp; omega))) | (refine below_step ?_ Bb') | (refine below_step ?_ Ba)))
  have hc0 : Wb.cell? ⟨w.heap.size, 0, none⟩ = some (.slice A1 ns.length c1) := cell_below Bb' (hao 0)
  have hc1 : Wb.cell? ⟨w.heap.size, 1, none⟩ = some (.slice A2 ws.length c2) := cell_below Bb' (hao 1)
  have hc2 : Wb.cell? ⟨w.heap.size, 2, none⟩ = some (.slice A3 rs.length c3) := cell_below Bb' (hao 2)
  rw [hWa] at hWb
  clear hWa Ba za hao Bb'
  go_enter Try.func39, Try.ntmps39
  go_wp2_with fail
  rw [← hWb]
  clear hWb
  refine (normal_Points ns ws rs A1 A2 A3 c1 c2 c3 _ (HR1.out.below Bb) (HR2.out.below Bb) (HR3.out.below Bb) q1 q2 q3).mono ?_
  rintro e w1 ⟨v, rfl, ho, hb1⟩
  have B1 : Below w.heap.size w w1 := (by repeat (first | exact Below.refl _ _ | apply below_alloc | apply below_drewN | apply below_drew | (refine below_set2 ?_ ?_; (first | (simp; done) | (simp; omega))) | (refine below_step ?_ hb1) | (refine below_step ?_ Bb)))
  have M1 := Lib.hid (Mb.below hb1)
  have hpl := placesZ_len ns ws rs
  have HS : Hid (∀ id, ((placesZ ns ws rs).find? (fun x => x.1 == id)).map (fun x => ptV x.2.1) = (ptF ns ws rs id).map ptV) := ptF_places ns ws rs
  have HU : Hid (∀ i j, i < j → j < (placesZ ns ws rs).length → (ndD (placesZ ns ws rs) i).1 < (ndD (placesZ ns ws rs) j).1) := fun i j => places_lt
  obtain ⟨A, c, rfl, hlc, hr⟩ := ho.reads
  obtain ⟨l, hl⟩ : ∃ l, l = placesZ ns ws rs := ⟨_, rfl⟩
  rw [← hl] at hr hlc hpl HS HU ⊢
  have hz1 : w.heap.size + 1 < w1.heap.size := (M1.out).lt
  have hne : ∀ k, A = some k → 0 < l.length → k.block ≠ w.heap.size + 1 := by
    intro k hk hn e
    obtain ⟨g, c', hv, _⟩ := ho.form (by rw [← hl]; exact hn)
    injection hv with hv
    rw [hk] at hv; injection hv with hv
    have h1 := (OwnR.lt ho g (by rw [hv] at hk; rw [hk]; rfl)).1
    have h2 : w.heap.size + 1 < Wb.heap.size := Mb.lt
    rw [hv] at e; simp at e; omega
  have HC : Hid (∀ W, KeptS (fun i => i = w.heap.size + 1) w1 W → ∀ k, k < l.length → ∃ ad A4 c4, A = some ad ∧ W.cell? (ad.add (k * 4)) = some (.int .i64 (ndD l k).1) ∧ W.cell? ⟨(ad.add (k * 4)).block, (ad.add (k * 4)).off + 1, none⟩ = some (.int .i64 (ndD l k).2.1.1) ∧
      W.cell? ⟨(ad.add (k * 4)).block, (ad.add (k * 4)).off + 2, none⟩ = some (.int .i64 (ndD l k).2.1.2) ∧ W.cell? ⟨(ad.add (k * 4)).block, (ad.add (k * 4)).off + 3, none⟩ = some (.slice A4 (ndD l k).2.2.length c4)) := fun W hK k hk => by
    obtain ⟨ad, A4, c4, hA, x1, x2, x3, x4, _, _⟩ := hr.node_at k hk
    have hb := hne ad hA (by omega)
    have hb' : (ad.add (k * 4)).block ≠ w.heap.size + 1 := by rw [add_block]; exact hb
    exact ⟨ad, A4, c4, hA, hK.cell x1 hb', hK.cell x2 hb', hK.cell x3 hb', hK.cell x4 hb'⟩
  clear hr ho hne hl HR1 HR2 HR3 hb1 hc0 hc1 hc2 Mb
  go_wp2
  go_loopw [10] (fun i wr => ∃ (k : Nat) (vs : List (Int × Value)), k ≤ l.length ∧ i = .int .i64 k ∧ KeptS (fun i => i = w.heap.size + 1) w1 wr ∧ Hid (OwnMap encI wr (w.heap.size + 1) vs) ∧ Hid (∀ id, mapGet vs id = ((l.take k).find? (fun x => x.1 == id)).map (fun x => ptV x.2.1))) (fun i _ => l.length - (intOf i).toNat)
  case atStart => exact ⟨0, [], Nat.zero_le _, rfl, kept_refl _ _, M1.out, fun id => rfl⟩
  case round =>
    obtain ⟨k, vs, hk, rfl, hK, M, HV⟩ := hrel
    by_cases hlt : k < l.length
    · obtain ⟨ad, A4, c4, rfl, x1, x2, x3, x4⟩ := HC.out wr hK k hlt
      obtain ⟨Wp, hWp⟩ : ∃ Wp, Wp = wr.alloc (.cells #[.int .i64 (ndD l k).1, .int .i64 (ndD l k).2.1.1, .int .i64 (ndD l k).2.1.2, .slice A4 (ndD l k).2.2.length c4] 48) := ⟨_, rfl⟩
      have BP : Below wr.heap.size wr Wp := by rw [hWp]; exact (by repeat (first | exact Below.refl _ _ | apply below_alloc | apply below_drewN | apply below_drew | (refine below_set2 ?_ ?_; (first | (simp; done) | (simp; omega)))))
      obtain ⟨w2, hrun, MM, KK, _⟩ := (M.out.below BP).update keyI (t := 83) (et := 44) (by kernel_rfl) (ndD l k).1 (ptV (ndD l k).2.1)
      have K2 : KeptS (fun i => i = w.heap.size + 1) w1 w2 := kept_step (kept_below hK BP) KK
      have MM' := Lib.hid MM
      have HV' : Hid (∀ id, mapGet (mapPut vs (ndD l k).1 (ptV (ndD l k).2.1)) id = ((l.take (k + 1)).find? (fun x => x.1 == id)).map (fun x => ptV x.2.1)) := fun id => by
        rw [mapGet_put, HV.out id]; exact find_snoc HU.out hlt id
      have hx0 : Wp.cell? ⟨wr.heap.size, 0, none⟩ = some (.int .i64 (ndD l k).1) := by rw [hWp]; simp only [World.cell?, heap_alloc_new]; rfl
      subst hWp
      rw [ptV] at hrun
      clear MM KK BP hK M HV M1
      go_wp2
      go_roundw
      case rel => exact ⟨k + 1, _, by omega, by go_num, K2, MM'.out, HV'.out⟩
      case measure => simp [intOf]; omega
    · obtain rfl : k = l.length := by omega
      have HE : Hid (∀ id, mapGet vs id = (ptF ns ws rs id).map ptV) := fun id => by rw [HV.out id, List.take_length]; exact HS.out id
      clear HV
      go_wp2
      go_ret
      exact ⟨_, vs, rfl, M.out, HE.out, below_kept B1 hK (fun b hb => by omega)⟩
theorem nodeF_hit {ns : List Node} {k : Nat} (hk : k < ns.length) (h : ∀ j, j < k → (ndD ns j).1 ≠ (ndD ns k).1) : nodeF ns (ndD ns k).1 = some (projZ (ndD ns k).2.1) := by
  have : ns.find? (fun n => n.1 == (ndD ns k).1) = some (ndD ns k) := by
    rw [List.find?_eq_some_iff_getElem]
    refine ⟨by simp, k, hk, by simp [ndD, hk], fun j hj => ?_⟩
    have := h j hj
    simp only [ndD, List.getD_eq_getElem?_getD, List.getElem?_eq_getElem hk, List.getElem?_eq_getElem (show j < ns.length by omega), Option.getD_some] at this ⊢
    simpa using this
  rw [nodeF, this]; rfl
theorem nodeF_none {ns : List Node} {x : Int} (h : ∀ j, j < ns.length → (ndD ns j).1 ≠ x) : nodeF ns x = none := by
  have : ns.find? (fun n => n.1 == x) = none := by
    rw [List.find?_eq_none]
    intro n hn
    obtain ⟨j, hj, rfl⟩ := List.getElem_of_mem hn
    have := h j hj
    simp only [ndD, List.getD_eq_getElem?_getD, List.getElem?_eq_getElem hj, Option.getD_some] at this
    simpa using this
  rw [nodeF, this]; rfl
set_option maxRecDepth 20000 in
set_option maxHeartbeats 4000000 in
theorem ref19_point {ok : Nat → Prop} (ns : List Node) (A1 : Option Addr) (c1 : Nat) (ua ub : Value) (x : Int) (w : World) (h1 : Row Ty.node ok w A1 ns) (ho1 : ua.oneCell' = true) (ho2 : ub.oneCell' = true) (hc : ∀ k, k < ns.length → okC (ndD ns k).2.1) :
    Calls Try.prog 62 #[.agg #[.slice A1 ns.length c1, ua, ub], .int .i64 x] w fun e w' => e = .returned (.tuple #[ptV ((nodeF ns x).getD (0, 0)), .bool (nodeF ns x).isSome]) ∧ Below w.heap.size w w' := by
  have hlen := h1.len
  have HR := Lib.hid h1
  have HCC := Lib.hid hc
  clear h1 hc
  obtain ⟨W0, hW⟩ : ∃ W0, W0 = w.alloc (.cells #[.slice A1 ns.length c1, ua, ub] 26) := ⟨_, rfl⟩
  have hao : W0.cell? ⟨w.heap.size, 0, none⟩ = some (.slice A1 ns.length c1) := by rw [hW]; simp only [World.cell?, heap_alloc_new]; rfl
  have z0 : W0.heap.size = w.heap.size + 1 := by rw [hW]; simp
  have B0 : Below w.heap.size w W0 := by rw [hW]; exact (by repeat (first | exact Below.refl _ _ | apply below_alloc | apply below_drewN | apply below_drew | (refine below_set2 ?_ ?_; (first | (simp; done) | (simp; omega)))))
  go_enter Try.func62, Try.ntmps62
  go_wp2_with fail
  rw [← hW]
  obtain ⟨W1, hW1⟩ : ∃ W1, W1 = W0.alloc (.cells #[.int .i64 0, .int .i64 0] 44) := ⟨_, rfl⟩
  have hb1 : W1.heap[w.heap.size + 1]? = some (.cells #[.int .i64 0, .int .i64 0] 44) := by rw [hW1, ← z0]; exact heap_alloc_new _ _
  have B1 : Below W0.heap.size W0 W1 := by rw [hW1]; exact (by repeat (first | exact Below.refl _ _ | apply below_alloc | apply below_drewN | apply below_drew | (refine below_set2 ?_ ?_; (first | (simp; done) | (simp; omega)))))
  have ha1 := cell_below B1 hao
  have HL : Hid (∀ W, Below W1.heap.size W1 W → W.heap[w.heap.size + 1]? = some (.cells #[.int .i64 0, .int .i64 0] 44)) := fun W hW => (hW.block _ (lt_of_block hb1)).trans hb1
  have B01 : Below w.heap.size w W1 := (by repeat (first | exact Below.refl _ _ | apply below_alloc | apply below_drewN | apply below_drew | (refine below_set2 ?_ ?_; (first | (simp; done) | (simp; omega))) | (refine below_step ?_ B1) | (refine below_step ?_ B0)))
  rw [← hW1]
  clear hW hW1 z0 hao B0 B1 hb1
  go_loopw [6] (fun i wr => ∃ k : Nat, k ≤ ns.length ∧ i = .int .i64 k ∧ Below W1.heap.size W1 wr ∧ Hid (∀ j, j < k → (ndD ns j).1 ≠ x)) (fun i _ => ns.length - (intOf i).toNat)
  case atStart => exact ⟨0, Nat.zero_le _, rfl, Below.refl _ _, fun j hj => absurd hj (Nat.not_lt_zero _)⟩
  case round =>
    obtain ⟨k, hk, rfl, hb, HS⟩ := hrel
    have hd := cell_below hb ha1
    by_cases hlt : k < ns.length
    · obtain ⟨ad, A4, c4, rfl, hc1, hc2, hc3, hc4, hl1, hrt⟩ := ((HR.out.below B01).below hb).node_at k hlt
      by_cases he : (ndD ns k).1 = x
      · have q1 : ((ndD ns k).1 == x) = true := by simp [he]
        have HM : Hid (nodeF ns x = some (projZ (ndD ns k).2.1)) := by show _ = _; rw [← he]; exact nodeF_hit hlt (fun j hj => by rw [he]; exact HS.out j hj)
        have okc := HCC.out k hlt
        clear he hrt hc4
        go_wp2_with fail
        refine (ref08_Project (ndD ns k).2.1.1 (ndD ns k).2.1.2 _ okc).mono ?_
        rintro e w2 ⟨rfl, hb2⟩
        have BZ : Below W1.heap.size W1 w2 := (by repeat (first | exact Below.refl _ _ | apply below_alloc | apply below_drewN | apply below_drew | (refine below_set2 ?_ ?_; (first | (simp; done) | (simp; omega))) | (refine below_step ?_ hb2) | (refine below_step ?_ hb)))
        have hbk := HL.out w2 BZ
        have hz2 : w.heap.size + 1 < w2.heap.size := lt_of_block hbk
        have bc0 := blk_cell hbk 0 rfl
        have bc1 := blk_cell hbk 1 rfl
        have bf0 := blk_free hbk 0
        have bf1 := blk_free hbk 1
        clear hc1 hc2 hc3 okc
        go_wp2
        refine bodyPost_ret (v := .tuple #[.agg #[.int .i64 (projZ (ndD ns k).2.1).1, .int .i64 (projZ (ndD ns k).2.1).2], .bool true]) ?_ rfl ⟨by rw [HM.out]; rfl, by repeat (first | exact below_step B01 BZ | (apply below_alloc) | (refine below_set2 (by simp) ?_))⟩
        simp [results, Try.results62]
        go_simp
      · have q1 : ((ndD ns k).1 == x) = false := by simp [he]
        have HN : Hid (∀ j, j < k + 1 → (ndD ns j).1 ≠ x) := fun j hj => by
          by_cases e : j = k
          · rw [e]; exact he
          · exact HS.out j (by omega)
        clear he
        go_wp2
        go_roundw
        case rel => exact ⟨k + 1, by omega, by go_num, hb, HN⟩
        case measure => simp [intOf]; omega
    · obtain rfl : k = ns.length := by omega
      have HM : Hid (nodeF ns x = none) := nodeF_none HS.out
      have hbk := HL.out wr hb
      have bc0 := blk_cell hbk 0 rfl
      have bc1 := blk_cell hbk 1 rfl
      have bf0 := blk_free hbk 0
      have bf1 := blk_free hbk 1
      go_wp2
      refine bodyPost_ret (v := .tuple #[.agg #[.int .i64 0, .int .i64 0], .bool false]) ?_ rfl ⟨by rw [HM.out]; rfl, by repeat (first | exact below_step B01 hb | (refine below_set2 (by simp) ?_))⟩
      simp [results, Try.results62]
      go_simp
end Go.Proofs.Ytniceoinipffmaa
