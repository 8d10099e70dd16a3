/- Contracts of data.checker.checkRels. -/
import Derived.Test.YtniceoinipffmaaNWays
namespace Go.Proofs.Ytniceoinipffmaa
open Go.RowKit Go.Proofs.YtniceoinipffmaaW.PrintLast
set_option linter.unusedVariables false
set_option linter.unusedSimpArgs false

/-- Whether a member is no existing node or way. -/
def missB (ns ws : List Int) (m : Mem) : Bool := !((m.1.1 == 1 && decide (m.1.2 ∈ ns)) || (m.1.1 == 2 && decide (m.1.2 ∈ ws)))
def longB (m : Mem) : Bool := decide (64 < m.2.size)
/-- The error of a relation behind its ID. -/
def relB (ns ws : List Int) (x : Rel) : Int :=
  if 200 < x.2.1.length then 5 else if x.2.1.any longB then 5 else if x.2.1.any (missB ns ws) then 9 else tagErr x.2.2
def relE (ns ws : List Int) (l : List Rel) (k : Nat) : Option Int :=
  if idE (fun i => (rlD l i).1) k ≠ 0 then some (idE (fun i => (rlD l i).1) k) else if relB ns ws (rlD l k) ≠ 0 then some (relB ns ws (rlD l k)) else none
theorem relE_id {ns ws : List Int} {l : List Rel} {k : Nat} (h : idE (fun i => (rlD l i).1) k ≠ 0) : relE ns ws l k = some (idE (fun i => (rlD l i).1) k) := by simp [relE, h]
theorem relE_b {ns ws : List Int} {l : List Rel} {k : Nat} {z : Int} (h : idE (fun i => (rlD l i).1) k = 0) (h1 : relB ns ws (rlD l k) = z) (h2 : z ≠ 0) : relE ns ws l k = some z := by subst h1; simp [relE, h, h2]
theorem relE_ok {ns ws : List Int} {l : List Rel} {k : Nat} (h : idE (fun i => (rlD l i).1) k = 0) (h1 : relB ns ws (rlD l k) = 0) : relE ns ws l k = none := by simp [relE, h, h1]
def relsErr (ns ws : List Int) (l : List Rel) : Int := scan l.length (relE ns ws l)
theorem relB_cases (ns ws : List Int) (x : Rel) : (200 < x.2.1.length ∧ relB ns ws x = 5) ∨ (¬ 200 < x.2.1.length ∧ x.2.1.any longB = true ∧ relB ns ws x = 5) ∨
    (¬ 200 < x.2.1.length ∧ x.2.1.any longB = false ∧ x.2.1.any (missB ns ws) = true ∧ relB ns ws x = 9) ∨ (¬ 200 < x.2.1.length ∧ x.2.1.any longB = false ∧ x.2.1.any (missB ns ws) = false ∧ relB ns ws x = tagErr x.2.2) := by
  unfold relB
  by_cases h1 : 200 < x.2.1.length
  · exact .inl ⟨h1, by rw [if_pos h1]⟩
  · cases h2 : x.2.1.any longB
    · cases h3 : x.2.1.any (missB ns ws)
      · exact .inr (.inr (.inr ⟨h1, rfl, rfl, by rw [if_neg h1, if_neg (by simp), if_neg (by simp)]⟩))
      · exact .inr (.inr (.inl ⟨h1, rfl, rfl, by rw [if_neg h1, if_neg (by simp), if_pos rfl]⟩))
    · exact .inr (.inl ⟨h1, rfl, by rw [if_neg h1, if_pos rfl]⟩)

theorem checkRels1 {ok : Nat → Prop} (l : List Rel) (A : Option Addr) (n c g i : Nat) (w : World) (hr : Row Ty.rel ok w A l) (hn : n = l.length) (hc : w.cell? ⟨g, 2, none⟩ = some (.slice A n c)) (hi : i < l.length) :
    Calls Try.prog 72 #[.int .i64 (i : Int), .pointer (some ⟨g, 0, none⟩)] w fun e w' => e = .returned (.int .i64 (rlD l i).1) ∧ Below w.heap.size w w' := by
  subst hn
  have hl := hr.len
  obtain ⟨ad, A1, c1, A2, c2, rfl, hc1, _⟩ := hr.rel_at i hi
  clear hr
  go_enter Try.func72, Try.ntmps72
  go_wp2
  go_ret
  exact ⟨rfl, (by repeat (first | exact Below.refl _ _ | apply below_alloc | apply below_drewN | apply below_drew | (refine below_set2 ?_ ?_; (first | (simp; done) | (simp; omega)))))⟩
theorem checkRels2 (m : Mem) (w : World) :
    Calls Try.prog 74 #[.agg #[.int .i64 m.1.1, .int .i64 m.1.2, .string m.2]] w fun e w' => e = .returned (.bool (longB m)) ∧ Below w.heap.size w w' := by
  go_enter Try.func74, Try.ntmps74
  go_wp2
  go_ret
  exact ⟨ret_bool (by rw [longB]; exact decide_eq_decide.2 (by omega)), (by repeat (first | exact Below.refl _ _ | apply below_alloc | apply below_drewN | apply below_drew | (refine below_set2 ?_ ?_; (first | (simp; done) | (simp; omega)))))⟩
set_option maxRecDepth 20000 in
theorem checker_missing (ns ws : List Int) (b1 b2 : Nat) (u1 u2 u3 : Value) (m : Mem) (w : World) (HO1 : OwnMap encI w b1 (setM ns)) (HO2 : OwnMap encI w b2 (setM ws))
    (ho1 : u1.oneCell' = true) (ho2 : u2.oneCell' = true) (ho3 : u3.oneCell' = true) :
    Calls Try.prog 75 #[.agg #[u1, u2, u3, .map (some b1), .map (some b2)], .agg #[.int .i64 m.1.1, .int .i64 m.1.2, .string m.2]] w fun e w' => e = .returned (.bool (missB ns ws m)) ∧ Below w.heap.size w w' := by
  have look : ∀ (b : Nat) (ids : List Int) (W : World), OwnMap encI W b (setM ids) → (Instr.lookup 92 (.map (some b)) (.int .i64 m.1.2) false).run Try.prog W = .ok (.bool (decide (m.1.2 ∈ ids))) W := by
    intro b ids W HO
    have := HO.lookup keyI (t := 92) (et := 4) (by kernel_rfl) (z := .bool false) (by kernel_rfl) m.1.2 false
    rw [setM_val] at this
    exact this
  obtain ⟨Wa, hWa⟩ : ∃ Wa, Wa = w.alloc (.cells #[u1, u2, u3, .map (some b1), .map (some b2)] 94) := ⟨_, rfl⟩
  have hd3' : Wa.cell? ⟨w.heap.size, 3, none⟩ = some (.map (some b1)) := by rw [hWa]; simp only [World.cell?, heap_alloc_new]; rfl
  have hd4' : Wa.cell? ⟨w.heap.size, 4, none⟩ = some (.map (some b2)) := by rw [hWa]; simp only [World.cell?, heap_alloc_new]; rfl
  have hsz : Wa.heap.size = w.heap.size + 1 := by rw [hWa]; simp
  have Ba : Below w.heap.size w Wa := by rw [hWa]; exact (by repeat (first | exact Below.refl _ _ | apply below_alloc | apply below_drewN | apply below_drew | (refine below_set2 ?_ ?_; (first | (simp; done) | (simp; omega)))))
  obtain ⟨W1, hW⟩ : ∃ W1, W1 = Wa.alloc (.cells #[.int .i64 m.1.1, .int .i64 m.1.2, .string m.2] 67) := ⟨_, rfl⟩
  have Bb : Below Wa.heap.size Wa W1 := by rw [hW]; exact (by repeat (first | exact Below.refl _ _ | apply below_alloc | apply below_drewN | apply below_drew | (refine below_set2 ?_ ?_; (first | (simp; done) | (simp; omega)))))
  have B1 : Below w.heap.size w W1 := (by repeat (first | exact Below.refl _ _ | apply below_alloc | apply below_drewN | apply below_drew | (refine below_set2 ?_ ?_; (first | (simp; done) | (simp; omega))) | (refine below_step ?_ Bb) | (refine below_step ?_ Ba)))
  have hL1 := look b1 ns W1 (HO1.below B1)
  have hL2 := look b2 ws W1 (HO2.below B1)
  have hc0 : W1.cell? ⟨w.heap.size + 1, 0, none⟩ = some (.int .i64 m.1.1) := by rw [hW, ← hsz]; simp only [World.cell?, heap_alloc_new]; rfl
  have hc1 : W1.cell? ⟨w.heap.size + 1, 1, none⟩ = some (.int .i64 m.1.2) := by rw [hW, ← hsz]; simp only [World.cell?, heap_alloc_new]; rfl
  have hd3 := cell_below Bb hd3'
  have hd4 := cell_below Bb hd4'
  rw [hWa] at hW
  clear hd3' hd4' hsz Ba Bb hWa
  clear HO1 HO2 look
  by_cases k1 : m.1.1 = 1
  · have q1 : (m.1.1 == 1) = true := by simp [k1]
    have q2 : (m.1.1 == 2) = false := by simp [k1]
    have HM : Hid (missB ns ws m = !decide (m.1.2 ∈ ns)) := by show _ = _; simp [missB, k1]
    clear k1
    cases qd : decide (m.1.2 ∈ ns)
    all_goals
      rw [qd] at hL1 HM
      clear qd
      go_enter Try.func75, Try.ntmps75
      go_wp2_with fail
      rw [← hW]
      clear hW
      go_wp2_with fail
      rw [hL1]
      go_wp2
      go_ret
      exact ⟨ret_bool HM.out.symm, (by repeat (first | exact Below.refl _ _ | apply below_alloc | apply below_drewN | apply below_drew | (refine below_set2 ?_ ?_; (first | (simp; done) | (simp; omega))) | (refine below_step ?_ B1)))⟩
  · have q1 : (m.1.1 == 1) = false := by simp [k1]
    by_cases k2 : m.1.1 = 2
    · have q2 : (m.1.1 == 2) = true := by simp [k2]
      have HM : Hid (missB ns ws m = !decide (m.1.2 ∈ ws)) := by show _ = _; simp [missB, k2]
      clear k1 k2
      go_enter Try.func75, Try.ntmps75
      go_wp2_with fail
      rw [← hW]
      clear hW
      go_wp2_with fail
      rw [hL2]
      go_wp2
      go_ret
      exact ⟨ret_bool HM.out.symm, (by repeat (first | exact Below.refl _ _ | apply below_alloc | apply below_drewN | apply below_drew | (refine below_set2 ?_ ?_; (first | (simp; done) | (simp; omega))) | (refine below_step ?_ B1)))⟩
    · have q2 : (m.1.1 == 2) = false := by simp [k2]
      have HM : Hid (missB ns ws m = true) := by show _ = _; simp [missB, k1, k2]
      clear k1 k2
      go_enter Try.func75, Try.ntmps75
      go_wp2_with fail
      rw [← hW]
      clear hW
      go_wp2
      go_ret
      exact ⟨ret_bool HM.out.symm, (by repeat (first | exact Below.refl _ _ | apply below_alloc | apply below_drewN | apply below_drew | (refine below_set2 ?_ ?_; (first | (simp; done) | (simp; omega))) | (refine below_step ?_ B1)))⟩
theorem idAt_rels {ok : Nat → Prop} {l : List Rel} {A : Option Addr} {n c g : Nat} {w : World} (hr : Row Ty.rel ok w A l) (hn : n = l.length) (hc : w.cell? ⟨g, 2, none⟩ = some (.slice A n c)) :
    IdAt 72 #[.pointer (some ⟨g, 0, none⟩)] w l.length (fun i => (rlD l i).1) := fun W hW i hi =>
  checkRels1 l A n c g i W (hr.below hW) hn (cell_below hW hc) hi
theorem predM_miss {ns ws : List Int} {xs : List Mem} {b1 b2 : Nat} {u1 u2 u3 : Value} {w : World} (HO1 : OwnMap encI w b1 (setM ns)) (HO2 : OwnMap encI w b2 (setM ws)) (ho1 : u1.oneCell' = true) (ho2 : u2.oneCell' = true) (ho3 : u3.oneCell' = true) :
    PredM 75 #[.agg #[u1, u2, u3, .map (some b1), .map (some b2)]] #[] w xs (missB ns ws) := fun W hW k hk =>
  checker_missing ns ws b1 b2 u1 u2 u3 (meD xs k) W (HO1.below hW) (HO2.below hW) ho1 ho2 ho3
theorem predM_long {xs : List Mem} {w : World} : PredM 74 #[] #[] w xs longB := fun W hW k hk => checkRels2 (meD xs k) W

set_option maxRecDepth 20000 in
set_option maxHeartbeats 4000000 in
theorem checkRels {ok : Nat → Prop} (ns ws : List Int) (l : List Rel) (A : Option Addr) (n c b1 b2 : Nat) (va vb : Value) (w : World) (hr : Row Ty.rel ok w A l) (hn : n = l.length) (hlen : l.length ≤ 1048576) (HO1 : OwnMap encI w b1 (setM ns)) (HO2 : OwnMap encI w b2 (setM ws))
    (ho1 : va.oneCell' = true) (ho2 : vb.oneCell' = true) :
    Calls Try.prog 49 #[.agg #[va, vb, .slice A n c, .map (some b1), .map (some b2)]] w fun e w' => e = .returned (.int .i64 (relsErr ns ws l)) ∧ Below w.heap.size w w' := by
  subst hn
  have HR := Lib.hid hr
  have HM1 := Lib.hid HO1
  have HM2 := Lib.hid HO2
  clear hr HO1 HO2
  have hK := enters_num Try.func72 (by kernel_rfl) rfl
  have hK2 := enters_num Try.func74 (by kernel_rfl) rfl
  have hK3 := enters_num Try.func75 (by kernel_rfl) rfl
  go_enter Try.func49, Try.ntmps49
  obtain ⟨W0, hW⟩ : ∃ W0, W0 = w.alloc (.cells #[va, vb, .slice A l.length c, .map (some b1), .map (some b2)] 94) := ⟨_, rfl⟩
  have B0 : Below w.heap.size w W0 := by rw [hW]; exact (by repeat (first | exact Below.refl _ _ | apply below_alloc | apply below_drewN | apply below_drew | (refine below_set2 ?_ ?_; (first | (simp; done) | (simp; omega)))))
  have hgo : ∀ o : Nat, W0.cell? ⟨w.heap.size, o, none⟩ = #[va, vb, .slice A l.length c, .map (some b1), .map (some b2)][o]? := fun o => by rw [hW]; simp only [World.cell?, heap_alloc_new]; rfl
  have hg0 : W0.cell? ⟨w.heap.size, 0, none⟩ = some va := hgo 0
  have hg1 : W0.cell? ⟨w.heap.size, 1, none⟩ = some vb := hgo 1
  have hg2 : W0.cell? ⟨w.heap.size, 2, none⟩ = some (.slice A l.length c) := hgo 2
  have hg3 : W0.cell? ⟨w.heap.size, 3, none⟩ = some (.map (some b1)) := hgo 3
  have hg4 : W0.cell? ⟨w.heap.size, 4, none⟩ = some (.map (some b2)) := hgo 4
  have hgs : w.heap.size < W0.heap.size := by rw [hW]; simp
  go_wp2_with fail
  rw [← hW]
  have R0 := Lib.hid (HR.out.below B0)
  have HA := Lib.hid (HM1.out.below B0)
  have HB := Lib.hid (HM2.out.below B0)
  clear hW hgo
  go_loopw [10] (fun i wr => ∃ k : Nat, k ≤ l.length ∧ i = .int .i64 k ∧ Below W0.heap.size W0 wr ∧ Hid (∀ j, j < k → relE ns ws l j = none)) (fun i _ => l.length - (intOf i).toNat)
  case atStart => exact ⟨0, Nat.zero_le _, rfl, Below.refl _ _, fun j hj => absurd hj (Nat.not_lt_zero _)⟩
  case round =>
    obtain ⟨k, hk, rfl, hb, HS⟩ := hrel
    by_cases hlt : k < l.length
    · have HID : Hid (IdAt 72 #[.pointer (some ⟨w.heap.size, 0, none⟩)] W0 l.length (fun i => (rlD l i).1)) := idAt_rels R0.out rfl hg2
      have HPM : Hid (PredM 75 #[.agg #[va, vb, .slice A l.length c, .map (some b1), .map (some b2)]] #[] W0 (rlD l k).2.1 (missB ns ws)) := predM_miss HA.out HB.out ho1 ho2 rfl
      have hgb := Lib.hid (fun (W : World) (hW : Below W0.heap.size W0 W) => And.intro (cell_below hW hg0) (And.intro (cell_below hW hg1) (And.intro (cell_below hW hg2) (And.intro (cell_below hW hg3) (cell_below hW hg4)))))
      obtain ⟨ad, A1, c1, A2, c2, rfl, hc1, hc2, hc3, hl1, hrt1, hl2, hrt2⟩ := (R0.out.below hb).rel_at k hlt
      have RT1 := Lib.hid hrt1
      have RT2 := Lib.hid hrt2
      have hx1 := hrt1.len
      clear hrt1 hrt2
      obtain ⟨Wp, hWp⟩ : ∃ Wp, Wp = wr.alloc (.cells #[.int .i64 (rlD l k).1, .slice A1 (rlD l k).2.1.length c1, .slice A2 (rlD l k).2.2.length c2] 63) := ⟨_, rfl⟩
      have BP : Below wr.heap.size wr Wp := by rw [hWp]; exact (by repeat (first | exact Below.refl _ _ | apply below_alloc | apply below_drewN | apply below_drew | (refine below_set2 ?_ ?_; (first | (simp; done) | (simp; omega)))))
      have hp1 : Wp.cell? ⟨wr.heap.size, 1, none⟩ = some (.slice A1 (rlD l k).2.1.length c1) := by rw [hWp]; simp only [World.cell?, heap_alloc_new]; rfl
      have hp2 : Wp.cell? ⟨wr.heap.size, 2, none⟩ = some (.slice A2 (rlD l k).2.2.length c2) := by rw [hWp]; simp only [World.cell?, heap_alloc_new]; rfl
      have HK := Lib.hid hK
      have HK2 := Lib.hid hK2
      have HK3 := Lib.hid hK3
      clear hK hK2 hK3
      go_wp2_with fail
      rw [← hWp]
      clear hWp
      have BX : Below W0.heap.size W0 Wp := (by repeat (first | exact Below.refl _ _ | apply below_alloc | apply below_drewN | apply below_drew | (refine below_set2 ?_ ?_; (first | (simp; done) | (simp; omega))) | (refine below_step ?_ BP) | (refine below_step ?_ hb)))
      refine (data_ids 72 #[.pointer (some ⟨w.heap.size, 0, none⟩)] (fun i => (rlD l i).1) l.length k Wp hlt hlen (fun W hW i hi => HID.out W (below_step BX hW) i hi) HK.out).mono ?_
      rintro e w1 ⟨rfl, hb1⟩
      have hd1 := cell_below hb1 hp1
      have hd2 := cell_below hb1 hp2
      have BW : Below W0.heap.size W0 w1 := (by repeat (first | exact Below.refl _ _ | apply below_alloc | apply below_drewN | apply below_drew | (refine below_set2 ?_ ?_; (first | (simp; done) | (simp; omega))) | (refine below_step ?_ hb1) | (refine below_step ?_ BX)))
      clear hp1 hp2 hc1 hc2 hc3
      obtain ⟨z, hz⟩ : ∃ z, z = idE (fun i => (rlD l i).1) k := ⟨_, rfl⟩
      rw [← hz]
      by_cases h0 : z = 0
      · subst h0
        have HZ := Lib.hid hz.symm
        clear hz
        rcases relB_cases ns ws (rlD l k) with ⟨h1, hok⟩ | ⟨h1, h2, hok⟩ | ⟨h1, h2, h3, hok⟩ | ⟨h1, h2, h3, hok⟩
        · have q1 : decide (200 < ((rlD l k).2.1.length : Int)) = true := decide_eq_true (by omega)
          have HB := Lib.hid hok
          clear hok h1
          go_wp2
          go_ret
          exact ⟨ret_int (scan_hit HS.out hlt (relE_b HZ.out HB.out (by decide))).symm, (by repeat (first | exact Below.refl _ _ | apply below_alloc | apply below_drewN | apply below_drew | (refine below_set2 ?_ ?_; (first | (simp; done) | (simp; omega))) | (refine below_step ?_ BW) | (refine below_step ?_ B0)))⟩
        · have q1 : decide (200 < ((rlD l k).2.1.length : Int)) = false := decide_eq_false (by omega)
          have HB := Lib.hid hok
          have H2 := Lib.hid h2
          clear hok h1 h2
          go_wp2_with fail
          refine (ContainsFunc_mem (rlD l k).2.1 A1 _ c1 _ _ _ _ longB ((RT1.out.below BP).below hb1) rfl predM_long HK2.out).mono ?_
          rintro e w2 ⟨rfl, hb2⟩
          rw [H2.out]
          have hd1' := cell_below hb2 hd1
          have hd2' := cell_below hb2 hd2
          have BV : Below W0.heap.size W0 w2 := (by repeat (first | exact Below.refl _ _ | apply below_alloc | apply below_drewN | apply below_drew | (refine below_set2 ?_ ?_; (first | (simp; done) | (simp; omega))) | (refine below_step ?_ hb2) | (refine below_step ?_ BW)))
          go_wp2
          go_ret
          exact ⟨ret_int (scan_hit HS.out hlt (relE_b HZ.out HB.out (by decide))).symm, (by repeat (first | exact Below.refl _ _ | apply below_alloc | apply below_drewN | apply below_drew | (refine below_set2 ?_ ?_; (first | (simp; done) | (simp; omega))) | (refine below_step ?_ BV) | (refine below_step ?_ B0)))⟩
        · have q1 : decide (200 < ((rlD l k).2.1.length : Int)) = false := decide_eq_false (by omega)
          have HB := Lib.hid hok
          have H2 := Lib.hid h2
          have H3 := Lib.hid h3
          clear hok h1 h2 h3
          go_wp2_with fail
          refine (ContainsFunc_mem (rlD l k).2.1 A1 _ c1 _ _ _ _ longB ((RT1.out.below BP).below hb1) rfl predM_long HK2.out).mono ?_
          rintro e w2 ⟨rfl, hb2⟩
          rw [H2.out]
          have hd1' := cell_below hb2 hd1
          have hd2' := cell_below hb2 hd2
          have BV : Below W0.heap.size W0 w2 := (by repeat (first | exact Below.refl _ _ | apply below_alloc | apply below_drewN | apply below_drew | (refine below_set2 ?_ ?_; (first | (simp; done) | (simp; omega))) | (refine below_step ?_ hb2) | (refine below_step ?_ BW)))
          obtain ⟨he0, he1, he2, he3, he4⟩ := hgb.out w2 BV
          go_wp2_with fail
          refine (ContainsFunc_mem (rlD l k).2.1 A1 _ c1 _ _ _ _ (missB ns ws) (((RT1.out.below BP).below hb1).below hb2) rfl (fun W hW i hi => HPM.out W (below_step BV hW) i hi) HK3.out).mono ?_
          rintro e w3 ⟨rfl, hb3⟩
          rw [H3.out]
          have hd2'' := cell_below hb3 hd2'
          have BU : Below W0.heap.size W0 w3 := (by repeat (first | exact Below.refl _ _ | apply below_alloc | apply below_drewN | apply below_drew | (refine below_set2 ?_ ?_; (first | (simp; done) | (simp; omega))) | (refine below_step ?_ hb3) | (refine below_step ?_ BV)))
          go_wp2
          go_ret
          exact ⟨ret_int (scan_hit HS.out hlt (relE_b HZ.out HB.out (by decide))).symm, (by repeat (first | exact Below.refl _ _ | apply below_alloc | apply below_drewN | apply below_drew | (refine below_set2 ?_ ?_; (first | (simp; done) | (simp; omega))) | (refine below_step ?_ BU) | (refine below_step ?_ B0)))⟩
        · have q1 : decide (200 < ((rlD l k).2.1.length : Int)) = false := decide_eq_false (by omega)
          have HB := Lib.hid hok
          have H2 := Lib.hid h2
          have H3 := Lib.hid h3
          clear hok h1 h2 h3
          go_wp2_with fail
          refine (ContainsFunc_mem (rlD l k).2.1 A1 _ c1 _ _ _ _ longB ((RT1.out.below BP).below hb1) rfl predM_long HK2.out).mono ?_
          rintro e w2 ⟨rfl, hb2⟩
          rw [H2.out]
          have hd1' := cell_below hb2 hd1
          have hd2' := cell_below hb2 hd2
          have BV : Below W0.heap.size W0 w2 := (by repeat (first | exact Below.refl _ _ | apply below_alloc | apply below_drewN | apply below_drew | (refine below_set2 ?_ ?_; (first | (simp; done) | (simp; omega))) | (refine below_step ?_ hb2) | (refine below_step ?_ BW)))
          obtain ⟨he0, he1, he2, he3, he4⟩ := hgb.out w2 BV
          go_wp2_with fail
          refine (ContainsFunc_mem (rlD l k).2.1 A1 _ c1 _ _ _ _ (missB ns ws) (((RT1.out.below BP).below hb1).below hb2) rfl (fun W hW i hi => HPM.out W (below_step BV hW) i hi) HK3.out).mono ?_
          rintro e w3 ⟨rfl, hb3⟩
          rw [H3.out]
          have hd2'' := cell_below hb3 hd2'
          have BU : Below W0.heap.size W0 w3 := (by repeat (first | exact Below.refl _ _ | apply below_alloc | apply below_drewN | apply below_drew | (refine below_set2 ?_ ?_; (first | (simp; done) | (simp; omega))) | (refine below_step ?_ hb3) | (refine below_step ?_ BV)))
          go_wp2_with fail
          refine (tags_Check (rlD l k).2.2 A2 _ c2 _ ((((RT2.out.below BP).below hb1).below hb2).below hb3) rfl).mono ?_
          rintro e w4 ⟨rfl, hb4⟩
          have BT : Below W0.heap.size W0 w4 := (by repeat (first | exact Below.refl _ _ | apply below_alloc | apply below_drewN | apply below_drew | (refine below_set2 ?_ ?_; (first | (simp; done) | (simp; omega))) | (refine below_step ?_ hb4) | (refine below_step ?_ BU)))
          obtain ⟨y, hy⟩ : ∃ y, y = tagErr (rlD l k).2.2 := ⟨_, rfl⟩
          have HB' : Hid (relB ns ws (rlD l k) = y) := by show _ = _; rw [hy]; exact HB.out
          rw [← hy]
          clear hy
          by_cases h5 : y = 0
          · subst h5
            go_wp2
            go_roundw
            case rel => exact ⟨k + 1, by omega, by go_num, BT, below_succ HS.out (relE_ok HZ.out HB'.out)⟩
            case measure => simp [intOf]; omega
          · have q5 : (y != 0) = true := by simp [h5]
            have HY : Hid (relE ns ws l k = some y) := relE_b HZ.out HB'.out h5
            clear h5
            go_wp2
            go_ret
            exact ⟨ret_int (scan_hit HS.out hlt HY.out).symm, (by repeat (first | exact Below.refl _ _ | apply below_alloc | apply below_drewN | apply below_drew | (refine below_set2 ?_ ?_; (first | (simp; done) | (simp; omega))) | (refine below_step ?_ BT) | (refine below_step ?_ B0)))⟩
      · have q0 : (z == 0) = false := by simp [h0]
        have q5 : (z != 0) = true := by simp [h0]
        have HZ : Hid (relE ns ws l k = some z) := by show _ = _; rw [hz]; exact relE_id (by rw [← hz]; exact h0)
        clear hz h0
        go_wp2
        go_ret
        exact ⟨ret_int (scan_hit HS.out hlt HZ.out).symm, (by repeat (first | exact Below.refl _ _ | apply below_alloc | apply below_drewN | apply below_drew | (refine below_set2 ?_ ?_; (first | (simp; done) | (simp; omega))) | (refine below_step ?_ BW) | (refine below_step ?_ B0)))⟩
    · obtain rfl : k = l.length := by omega
      go_wp2
      go_ret
      exact ⟨ret_int (scan_none HS.out).symm, (by repeat (first | exact Below.refl _ _ | apply below_alloc | apply below_drewN | apply below_drew | (refine below_set2 ?_ ?_; (first | (simp; done) | (simp; omega))) | (refine below_step ?_ hb) | (refine below_step ?_ B0)))⟩
end Go.Proofs.Ytniceoinipffmaa
