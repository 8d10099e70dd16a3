/- Contracts of the checks of a dataset's nodes: data.checker.checkNodes and mapmakerref14.nodes. -/
import Derived.Test.YtniceoinipffmaaNIds
namespace Go.Proofs.Ytniceoinipffmaa
open Go.RowKit Go.Proofs.YtniceoinipffmaaW.PrintLast
set_option linter.unusedVariables false
set_option linter.unusedSimpArgs false

def okCB (c : Pt) : Bool := decide (-1800000000 ≤ c.1) && (decide (c.1 ≤ 1800000000) && (decide (-900000000 ≤ c.2) && decide (c.2 ≤ 900000000)))
theorem okC_cases (c : Pt) : (c.1 < -1800000000 ∧ okCB c = false) ∨ (¬ c.1 < -1800000000 ∧ 1800000000 < c.1 ∧ okCB c = false) ∨ (¬ c.1 < -1800000000 ∧ ¬ 1800000000 < c.1 ∧ c.2 < -900000000 ∧ okCB c = false) ∨
    (¬ c.1 < -1800000000 ∧ ¬ 1800000000 < c.1 ∧ ¬ c.2 < -900000000 ∧ 900000000 < c.2 ∧ okCB c = false) ∨ (¬ c.1 < -1800000000 ∧ ¬ 1800000000 < c.1 ∧ ¬ c.2 < -900000000 ∧ ¬ 900000000 < c.2 ∧ okCB c = true) := by
  by_cases h1 : c.1 < -1800000000
  · exact .inl ⟨h1, by simp [okCB]; omega⟩
  · by_cases h2 : 1800000000 < c.1
    · exact .inr (.inl ⟨h1, h2, by simp [okCB]; omega⟩)
    · by_cases h3 : c.2 < -900000000
      · exact .inr (.inr (.inl ⟨h1, h2, h3, by simp [okCB]; omega⟩))
      · by_cases h4 : 900000000 < c.2
        · exact .inr (.inr (.inr (.inl ⟨h1, h2, h3, h4, by simp [okCB]; omega⟩)))
        · exact .inr (.inr (.inr (.inr ⟨h1, h2, h3, h4, by simp [okCB]; omega⟩)))
def nodeE (l : List Node) (k : Nat) : Option Int :=
  if idE (fun i => (ndD l i).1) k ≠ 0 then some (idE (fun i => (ndD l i).1) k) else if okCB (ndD l k).2.1 = false then some 11 else if tagErr (ndD l k).2.2 ≠ 0 then some (tagErr (ndD l k).2.2) else none
theorem nodeE_id {l : List Node} {k : Nat} (h : idE (fun i => (ndD l i).1) k ≠ 0) : nodeE l k = some (idE (fun i => (ndD l i).1) k) := by simp [nodeE, h]
theorem nodeE_at {l : List Node} {k : Nat} (h : idE (fun i => (ndD l i).1) k = 0) (h1 : okCB (ndD l k).2.1 = false) : nodeE l k = some 11 := by simp [nodeE, h, h1]
theorem nodeE_tag {l : List Node} {k : Nat} (h : idE (fun i => (ndD l i).1) k = 0) (h1 : okCB (ndD l k).2.1 = true) (h2 : tagErr (ndD l k).2.2 ≠ 0) : nodeE l k = some (tagErr (ndD l k).2.2) := by simp [nodeE, h, h1, h2]
theorem nodeE_ok {l : List Node} {k : Nat} (h : idE (fun i => (ndD l i).1) k = 0) (h1 : okCB (ndD l k).2.1 = true) (h2 : tagErr (ndD l k).2.2 = 0) : nodeE l k = none := by simp [nodeE, h, h1, h2]
def nodesErr (l : List Node) : Int := scan l.length (nodeE l)

theorem checkNodes1 {ok : Nat → Prop} (l : List Node) (A : Option Addr) (n c g i : Nat) (w : World) (hr : Row Ty.node ok w A l) (hn : n = l.length) (hc : w.cell? ⟨g, 0, none⟩ = some (.slice A n c)) (hi : i < l.length) :
    Calls Try.prog 67 #[.int .i64 (i : Int), .pointer (some ⟨g, 0, none⟩)] w fun e w' => e = .returned (.int .i64 (ndD l i).1) ∧ Below w.heap.size w w' := by
  subst hn
  have hl := hr.len
  obtain ⟨ad, A1, c1, rfl, hc1, _⟩ := hr.node_at i hi
  clear hr
  go_enter Try.func67, Try.ntmps67
  go_wp2
  go_ret
  exact ⟨rfl, (by repeat (first | exact Below.refl _ _ | apply below_alloc | apply below_drewN | apply below_drew | (refine below_set2 ?_ ?_; (first | (simp; done) | (simp; omega)))))⟩
theorem idAt_nodes {ok : Nat → Prop} {l : List Node} {A : Option Addr} {n c g : Nat} {w : World} (hr : Row Ty.node ok w A l) (hn : n = l.length) (hc : w.cell? ⟨g, 0, none⟩ = some (.slice A n c)) :
    IdAt 67 #[.pointer (some ⟨g, 0, none⟩)] w l.length (fun i => (ndD l i).1) := fun W hW i hi =>
  checkNodes1 l A n c g i W (hr.below hW) hn (cell_below hW hc) hi

set_option maxRecDepth 20000 in
set_option maxHeartbeats 4000000 in
theorem checkNodes {ok : Nat → Prop} (l : List Node) (A : Option Addr) (n c : Nat) (u1 u2 u3 u4 : Value) (w : World) (hr : Row Ty.node ok w A l) (hn : n = l.length) (hlen : l.length ≤ 1048576)
    (ho1 : u1.oneCell' = true) (ho2 : u2.oneCell' = true) (ho3 : u3.oneCell' = true) (ho4 : u4.oneCell' = true) :
    Calls Try.prog 47 #[.agg #[.slice A n c, u1, u2, u3, u4]] w fun e w' => e = .returned (.int .i64 (nodesErr l)) ∧ Below w.heap.size w w' := by
  subst hn
  have HR := Lib.hid hr
  clear hr
  have hK := enters_num Try.func67 (by kernel_rfl) rfl
  go_enter Try.func47, Try.ntmps47
  obtain ⟨W0, hW⟩ : ∃ W0, W0 = w.alloc (.cells #[.slice A l.length c, u1, u2, u3, u4] 94) := ⟨_, rfl⟩
  have B0 : Below w.heap.size w W0 := by rw [hW]; exact (by repeat (first | exact Below.refl _ _ | apply below_alloc | apply below_drewN | apply below_drew | (refine below_set2 ?_ ?_; (first | (simp; done) | (simp; omega)))))
  have hg0 : W0.cell? ⟨w.heap.size, 0, none⟩ = some (.slice A l.length c) := by rw [hW]; simp only [World.cell?, heap_alloc_new]; rfl
  go_wp2_with fail
  rw [← hW]
  have R0 := Lib.hid (HR.out.below B0)
  clear hW
  go_loopw [10] (fun i wr => ∃ k : Nat, k ≤ l.length ∧ i = .int .i64 k ∧ Below W0.heap.size W0 wr ∧ Hid (∀ j, j < k → nodeE l j = none)) (fun i _ => l.length - (intOf i).toNat)
  case atStart => exact ⟨0, Nat.zero_le _, rfl, Below.refl _ _, fun j hj => absurd hj (Nat.not_lt_zero _)⟩
  case round =>
    obtain ⟨k, hk, rfl, hb, HS⟩ := hrel
    by_cases hlt : k < l.length
    · have HID : Hid (IdAt 67 #[.pointer (some ⟨w.heap.size, 0, none⟩)] W0 l.length (fun i => (ndD l i).1)) := idAt_nodes R0.out rfl hg0
      obtain ⟨ad, A1, c1, rfl, hc1, hc2, hc3, hc4, hl1, hrt⟩ := (R0.out.below hb).node_at k hlt
      have RT := Lib.hid hrt
      clear hrt
      obtain ⟨Wp, hWp⟩ : ∃ Wp, Wp = wr.alloc (.cells #[.int .i64 (ndD l k).1, .int .i64 (ndD l k).2.1.1, .int .i64 (ndD l k).2.1.2, .slice A1 (ndD l k).2.2.length c1] 60) := ⟨_, rfl⟩
      have BP : Below wr.heap.size wr Wp := by rw [hWp]; exact (by repeat (first | exact Below.refl _ _ | apply below_alloc | apply below_drewN | apply below_drew | (refine below_set2 ?_ ?_; (first | (simp; done) | (simp; omega)))))
      have hp1 : Wp.cell? ⟨wr.heap.size, 1, none⟩ = some (.int .i64 (ndD l k).2.1.1) := by rw [hWp]; simp only [World.cell?, heap_alloc_new]; rfl
      have hp2 : Wp.cell? ⟨wr.heap.size, 2, none⟩ = some (.int .i64 (ndD l k).2.1.2) := by rw [hWp]; simp only [World.cell?, heap_alloc_new]; rfl
      have hp3 : Wp.cell? ⟨wr.heap.size, 3, none⟩ = some (.slice A1 (ndD l k).2.2.length c1) := by rw [hWp]; simp only [World.cell?, heap_alloc_new]; rfl
      have HK := Lib.hid hK
      clear hK
      go_wp2_with fail
      rw [← hWp]
      clear hWp
      have BX : Below W0.heap.size W0 Wp := (by repeat (first | exact Below.refl _ _ | apply below_alloc | apply below_drewN | apply below_drew | (refine below_set2 ?_ ?_; (first | (simp; done) | (simp; omega))) | (refine below_step ?_ BP) | (refine below_step ?_ hb)))
      refine (data_ids 67 #[.pointer (some ⟨w.heap.size, 0, none⟩)] (fun i => (ndD l i).1) l.length k Wp hlt hlen (fun W hW i hi => HID.out W (below_step BX hW) i hi) HK.out).mono ?_
      rintro e w1 ⟨rfl, hb1⟩
      have hd1 := cell_below hb1 hp1
      have hd2 := cell_below hb1 hp2
      have hd3 := cell_below hb1 hp3
      have BW : Below W0.heap.size W0 w1 := (by repeat (first | exact Below.refl _ _ | apply below_alloc | apply below_drewN | apply below_drew | (refine below_set2 ?_ ?_; (first | (simp; done) | (simp; omega))) | (refine below_step ?_ hb1) | (refine below_step ?_ BX)))
      clear hp1 hp2 hp3 hc1 hc2 hc3 hc4
      obtain ⟨z, hz⟩ : ∃ z, z = idE (fun i => (ndD l i).1) k := ⟨_, rfl⟩
      rw [← hz]
      by_cases h0 : z = 0
      · subst h0
        have HZ := Lib.hid hz.symm
        clear hz
        rcases okC_cases (ndD l k).2.1 with ⟨h1, hok⟩ | ⟨h1, h2, hok⟩ | ⟨h1, h2, h3, hok⟩ | ⟨h1, h2, h3, h4, hok⟩ | ⟨h1, h2, h3, h4, hok⟩
        · have q1 : decide ((ndD l k).2.1.1 < -1800000000) = true := decide_eq_true h1
          have HB := Lib.hid hok
          clear hok h1
          go_wp2
          go_ret
          exact ⟨ret_int (scan_hit HS.out hlt (nodeE_at HZ.out HB.out)).symm, (by repeat (first | exact Below.refl _ _ | apply below_alloc | apply below_drewN | apply below_drew | (refine below_set2 ?_ ?_; (first | (simp; done) | (simp; omega))) | (refine below_step ?_ BW) | (refine below_step ?_ B0)))⟩
        · have q1 : decide ((ndD l k).2.1.1 < -1800000000) = false := decide_eq_false h1
          have q2 : decide (1800000000 < (ndD l k).2.1.1) = true := decide_eq_true h2
          have HB := Lib.hid hok
          clear hok h1 h2
          go_wp2
          go_ret
          exact ⟨ret_int (scan_hit HS.out hlt (nodeE_at HZ.out HB.out)).symm, (by repeat (first | exact Below.refl _ _ | apply below_alloc | apply below_drewN | apply below_drew | (refine below_set2 ?_ ?_; (first | (simp; done) | (simp; omega))) | (refine below_step ?_ BW) | (refine below_step ?_ B0)))⟩
        · have q1 : decide ((ndD l k).2.1.1 < -1800000000) = false := decide_eq_false h1
          have q2 : decide (1800000000 < (ndD l k).2.1.1) = false := decide_eq_false h2
          have q3 : decide ((ndD l k).2.1.2 < -900000000) = true := decide_eq_true h3
          have HB := Lib.hid hok
          clear hok h1 h2 h3
          go_wp2
          go_ret
          exact ⟨ret_int (scan_hit HS.out hlt (nodeE_at HZ.out HB.out)).symm, (by repeat (first | exact Below.refl _ _ | apply below_alloc | apply below_drewN | apply below_drew | (refine below_set2 ?_ ?_; (first | (simp; done) | (simp; omega))) | (refine below_step ?_ BW) | (refine below_step ?_ B0)))⟩
        · have q1 : decide ((ndD l k).2.1.1 < -1800000000) = false := decide_eq_false h1
          have q2 : decide (1800000000 < (ndD l k).2.1.1) = false := decide_eq_false h2
          have q3 : decide ((ndD l k).2.1.2 < -900000000) = false := decide_eq_false h3
          have q4 : decide (900000000 < (ndD l k).2.1.2) = true := decide_eq_true h4
          have HB := Lib.hid hok
          clear hok h1 h2 h3 h4
          go_wp2
          go_ret
          exact ⟨ret_int (scan_hit HS.out hlt (nodeE_at HZ.out HB.out)).symm, (by repeat (first | exact Below.refl _ _ | apply below_alloc | apply below_drewN | apply below_drew | (refine below_set2 ?_ ?_; (first | (simp; done) | (simp; omega))) | (refine below_step ?_ BW) | (refine below_step ?_ B0)))⟩
        · have q1 : decide ((ndD l k).2.1.1 < -1800000000) = false := decide_eq_false h1
          have q2 : decide (1800000000 < (ndD l k).2.1.1) = false := decide_eq_false h2
          have q3 : decide ((ndD l k).2.1.2 < -900000000) = false := decide_eq_false h3
          have q4 : decide (900000000 < (ndD l k).2.1.2) = false := decide_eq_false h4
          have HB := Lib.hid hok
          clear hok h1 h2 h3 h4
          go_wp2_with fail
          refine (tags_Check (ndD l k).2.2 A1 _ c1 _ (((RT.out.below BP).below hb1)) rfl).mono ?_
          rintro e w2 ⟨rfl, hb2⟩
          have BV : Below W0.heap.size W0 w2 := (by repeat (first | exact Below.refl _ _ | apply below_alloc | apply below_drewN | apply below_drew | (refine below_set2 ?_ ?_; (first | (simp; done) | (simp; omega))) | (refine below_step ?_ hb2) | (refine below_step ?_ BW)))
          obtain ⟨y, hy⟩ : ∃ y, y = tagErr (ndD l k).2.2 := ⟨_, rfl⟩
          rw [← hy]
          by_cases h5 : y = 0
          · subst h5
            have HY := Lib.hid hy.symm
            clear hy
            go_wp2
            go_roundw
            case rel => exact ⟨k + 1, by omega, by go_num, BV, below_succ HS.out (nodeE_ok HZ.out HB.out HY.out)⟩
            case measure => simp [intOf]; omega
          · have q5 : (y != 0) = true := by simp [h5]
            have HY : Hid (nodeE l k = some y) := by show _ = _; rw [hy]; exact nodeE_tag HZ.out HB.out (by rw [← hy]; exact h5)
            clear hy h5
            go_wp2
            go_ret
            exact ⟨ret_int (scan_hit HS.out hlt HY.out).symm, (by repeat (first | exact Below.refl _ _ | apply below_alloc | apply below_drewN | apply below_drew | (refine below_set2 ?_ ?_; (first | (simp; done) | (simp; omega))) | (refine below_step ?_ BV) | (refine below_step ?_ B0)))⟩
      · have q0 : (z == 0) = false := by simp [h0]
        have q5 : (z != 0) = true := by simp [h0]
        have HZ : Hid (nodeE l k = some z) := by show _ = _; rw [hz]; exact nodeE_id (by rw [← hz]; exact h0)
        clear hz h0
        go_wp2
        go_ret
        exact ⟨ret_int (scan_hit HS.out hlt HZ.out).symm, (by repeat (first | exact Below.refl _ _ | apply below_alloc | apply below_drewN | apply below_drew | (refine below_set2 ?_ ?_; (first | (simp; done) | (simp; omega))) | (refine below_step ?_ BW) | (refine below_step ?_ B0)))⟩
    · obtain rfl : k = l.length := by omega
      go_wp2
      go_ret
      exact ⟨ret_int (scan_none HS.out).symm, (by repeat (first | exact Below.refl _ _ | apply below_alloc | apply below_drewN | apply below_drew | (refine below_set2 ?_ ?_; (first | (simp; done) | (simp; omega))) | (refine below_step ?_ hb) | (refine below_step ?_ B0)))⟩
theorem idZ_pos {x p : Int} {b : Bool} (h : idZ x p b = 0) : 1 ≤ x := by
  unfold idZ at h
  split at h
  · cases h
  · omega
theorem nodeE_pos {l : List Node} {k : Nat} (h : nodeE l k = none) : 1 ≤ (ndD l k).1 := by
  unfold nodeE at h
  split at h
  · cases h
  · rename_i h0
    have : idE (fun i => (ndD l i).1) k = 0 := by omega
    exact idZ_pos this
theorem idE_prev {f : Nat → Int} {k : Nat} {p : Int} (h0 : k = 0 → p = 0) (h1 : 0 < k → p = f (k - 1) ∧ 1 ≤ p) : idZ (f k) p (decide (p = 0)) = idE f k := by
  rcases Nat.eq_zero_or_pos k with h | h
  · subst h; rw [h0 rfl]; simp [idE, idZ]
  · obtain ⟨e, h2⟩ := h1 h
    have e1 : decide (p = 0) = false := decide_eq_false (by omega)
    have e2 : decide (k = 0) = false := decide_eq_false (by omega)
    rw [e1, idE, e2, e]
set_option maxRecDepth 20000 in
set_option maxHeartbeats 4000000 in
theorem ref14_nodes {ok : Nat → Prop} (l : List Node) (A : Option Addr) (n c : Nat) (w : World) (hr : Row Ty.node ok w A l) (hn : n = l.length) :
    Calls Try.prog 51 #[.slice A n c] w fun e w' => e = .returned (.int .i64 (nodesErr l)) ∧ Below w.heap.size w w' := by
  subst hn
  have hlen := hr.len
  have HR := Lib.hid hr
  clear hr
  go_enter Try.func51, Try.ntmps51
  go_wp2_with fail
  go_loopw [3, 4] (fun pv i wr => ∃ (k : Nat) (p : Int), k ≤ l.length ∧ i = .int .i64 k ∧ pv = .int .i64 p ∧ 0 ≤ p ∧ Hid (k = 0 → p = 0) ∧ Hid (0 < k → p = (ndD l (k - 1)).1 ∧ 1 ≤ p) ∧ Below w.heap.size w wr ∧ Hid (∀ j, j < k → nodeE l j = none)) (fun _ i _ => l.length - (intOf i).toNat)
  case atStart => exact ⟨0, 0, Nat.zero_le _, rfl, rfl, Int.le_refl _, fun _ => rfl, fun h => absurd h (Nat.lt_irrefl _), Below.refl _ _, fun j hj => absurd hj (Nat.not_lt_zero _)⟩
  case round =>
    obtain ⟨k, p, hk, rfl, rfl, hp0, HP0, HP1, hb, HS⟩ := hrel
    by_cases hlt : k < l.length
    · obtain ⟨ad, A1, c1, rfl, hc1, hc2, hc3, hc4, hl1, hrt⟩ := (HR.out.below hb).node_at k hlt
      have RT := Lib.hid hrt
      clear hrt
      obtain ⟨Wp, hWp⟩ : ∃ Wp, Wp = wr.alloc (.cells #[.int .i64 (ndD l k).1, .int .i64 (ndD l k).2.1.1, .int .i64 (ndD l k).2.1.2, .slice A1 (ndD l k).2.2.length c1] 60) := ⟨_, rfl⟩
      have BP : Below wr.heap.size wr Wp := by rw [hWp]; exact (by repeat (first | exact Below.refl _ _ | apply below_alloc | apply below_drewN | apply below_drew | (refine below_set2 ?_ ?_; (first | (simp; done) | (simp; omega)))))
      have hp0' : Wp.cell? ⟨wr.heap.size, 0, none⟩ = some (.int .i64 (ndD l k).1) := by rw [hWp]; simp only [World.cell?, heap_alloc_new]; rfl
      have hp1 : Wp.cell? ⟨wr.heap.size, 1, none⟩ = some (.int .i64 (ndD l k).2.1.1) := by rw [hWp]; simp only [World.cell?, heap_alloc_new]; rfl
      have hp2 : Wp.cell? ⟨wr.heap.size, 2, none⟩ = some (.int .i64 (ndD l k).2.1.2) := by rw [hWp]; simp only [World.cell?, heap_alloc_new]; rfl
      have hp3 : Wp.cell? ⟨wr.heap.size, 3, none⟩ = some (.slice A1 (ndD l k).2.2.length c1) := by rw [hWp]; simp only [World.cell?, heap_alloc_new]; rfl
      go_wp2_with fail
      rw [← hWp]
      clear hWp
      refine (ref14_id (ndD l k).1 p Wp hp0).mono ?_
      rintro e w1 ⟨rfl, hb1⟩
      rw [idE_prev (f := fun i => (ndD l i).1) HP0.out HP1.out]
      have hd0 := cell_below hb1 hp0'
      have hd1 := cell_below hb1 hp1
      have hd2 := cell_below hb1 hp2
      have hd3 := cell_below hb1 hp3
      have BW : Below w.heap.size w w1 := (by repeat (first | exact Below.refl _ _ | apply below_alloc | apply below_drewN | apply below_drew | (refine below_set2 ?_ ?_; (first | (simp; done) | (simp; omega))) | (refine below_step ?_ hb1) | (refine below_step ?_ BP) | (refine below_step ?_ hb)))
      clear hp0' hp1 hp2 hp3 hc1 hc2 hc3 hc4
      obtain ⟨z, hz⟩ : ∃ z, z = idE (fun i => (ndD l i).1) k := ⟨_, rfl⟩
      rw [← hz]
      by_cases h0 : z = 0
      · subst h0
        have HZ := Lib.hid hz.symm
        clear hz
        rcases okC_cases (ndD l k).2.1 with ⟨h1, hok⟩ | ⟨h1, h2, hok⟩ | ⟨h1, h2, h3, hok⟩ | ⟨h1, h2, h3, h4, hok⟩ | ⟨h1, h2, h3, h4, hok⟩
        · have q1 : decide ((ndD l k).2.1.1 < -1800000000) = true := decide_eq_true h1
          have HB := Lib.hid hok
          clear hok h1
          go_wp2
          go_ret
          exact ⟨ret_int (scan_hit HS.out hlt (nodeE_at HZ.out HB.out)).symm, BW⟩
        · have q1 : decide ((ndD l k).2.1.1 < -1800000000) = false := decide_eq_false h1
          have q2 : decide (1800000000 < (ndD l k).2.1.1) = true := decide_eq_true h2
          have HB := Lib.hid hok
          clear hok h1 h2
          go_wp2
          go_ret
          exact ⟨ret_int (scan_hit HS.out hlt (nodeE_at HZ.out HB.out)).symm, BW⟩
        · have q1 : decide ((ndD l k).2.1.1 < -1800000000) = false := decide_eq_false h1
          have q2 : decide (1800000000 < (ndD l k).2.1.1) = false := decide_eq_false h2
          have q3 : decide ((ndD l k).2.1.2 < -900000000) = true := decide_eq_true h3
          have HB := Lib.hid hok
          clear hok h1 h2 h3
          go_wp2
          go_ret
          exact ⟨ret_int (scan_hit HS.out hlt (nodeE_at HZ.out HB.out)).symm, BW⟩
        · have q1 : decide ((ndD l k).2.1.1 < -1800000000) = false := decide_eq_false h1
          have q2 : decide (1800000000 < (ndD l k).2.1.1) = false := decide_eq_false h2
          have q3 : decide ((ndD l k).2.1.2 < -900000000) = false := decide_eq_false h3
          have q4 : decide (900000000 < (ndD l k).2.1.2) = true := decide_eq_true h4
          have HB := Lib.hid hok
          clear hok h1 h2 h3 h4
          go_wp2
          go_ret
          exact ⟨ret_int (scan_hit HS.out hlt (nodeE_at HZ.out HB.out)).symm, BW⟩
        · have q1 : decide ((ndD l k).2.1.1 < -1800000000) = false := decide_eq_false h1
          have q2 : decide (1800000000 < (ndD l k).2.1.1) = false := decide_eq_false h2
          have q3 : decide ((ndD l k).2.1.2 < -900000000) = false := decide_eq_false h3
          have q4 : decide (900000000 < (ndD l k).2.1.2) = false := decide_eq_false h4
          have HB := Lib.hid hok
          clear hok h1 h2 h3 h4
          go_wp2_with fail
          refine (ref06_Check (ndD l k).2.2 A1 _ c1 _ (((RT.out.below BP).below hb1)) rfl).mono ?_
          rintro e w2 ⟨rfl, hb2⟩
          have BV : Below w.heap.size w w2 := (by repeat (first | exact Below.refl _ _ | apply below_alloc | apply below_drewN | apply below_drew | (refine below_set2 ?_ ?_; (first | (simp; done) | (simp; omega))) | (refine below_step ?_ hb2) | (refine below_step ?_ BW)))
          have he0 := cell_below hb2 hd0
          obtain ⟨y, hy⟩ : ∃ y, y = tagErr (ndD l k).2.2 := ⟨_, rfl⟩
          rw [← hy]
          by_cases h5 : y = 0
          · subst h5
            have HY := Lib.hid hy.symm
            clear hy
            have HN := Lib.hid (nodeE_ok HZ.out HB.out HY.out)
            have hpos := nodeE_pos HN.out
            go_wp2
            go_roundw
            case rel => exact ⟨k + 1, (ndD l k).1, by omega, by go_num, rfl, by omega, fun h => absurd h (Nat.succ_ne_zero _), fun _ => ⟨rfl, hpos⟩, BV, below_succ HS.out HN.out⟩
            case measure => simp [intOf]; omega
          · have q5 : (y != 0) = true := by simp [h5]
            have HY : Hid (nodeE l k = some y) := by show _ = _; rw [hy]; exact nodeE_tag HZ.out HB.out (by rw [← hy]; exact h5)
            clear hy h5
            go_wp2
            go_ret
            exact ⟨ret_int (scan_hit HS.out hlt HY.out).symm, BV⟩
      · have q5 : (z != 0) = true := by simp [h0]
        have HZ : Hid (nodeE l k = some z) := by show _ = _; rw [hz]; exact nodeE_id (by rw [← hz]; exact h0)
        clear hz h0
        go_wp2
        go_ret
        exact ⟨ret_int (scan_hit HS.out hlt HZ.out).symm, BW⟩
    · obtain rfl : k = l.length := by omega
      go_wp2
      go_ret
      exact ⟨ret_int (scan_none HS.out).symm, (by repeat (first | exact Below.refl _ _ | apply below_alloc | apply below_drewN | apply below_drew | (refine below_set2 ?_ ?_; (first | (simp; done) | (simp; omega))) | (refine below_step ?_ hb)))⟩
end Go.Proofs.Ytniceoinipffmaa
