/- Contracts of the law's tags and Few: what Few lets in is small. -/
import Derived.Test.YtniceoinipffmaaNLin3
namespace Go.Proofs.Ytniceoinipffmaa
open Go.RowKit Go.Proofs.YtniceoinipffmaaW.PrintLast
set_option linter.unusedVariables false
set_option linter.unusedSimpArgs false

set_option maxRecDepth 20000 in
theorem law19_tags {ok : Nat → Prop} (l : List Tag) (A : Option Addr) (n c : Nat) (w : World) (hr : Row Ty.tag ok w A l) (hn : n = l.length) :
    Calls Try.prog 28 #[.slice A n c] w fun e w' => (∃ b : Bool, e = .returned (.bool b)) ∧ Below w.heap.size w w' := by
  subst hn
  have hl := hr.len
  by_cases h20 : 20 < l.length
  · have q : decide (20 < (l.length : Int)) = true := decide_eq_true (by omega)
    go_enter Try.func28, Try.ntmps28
    go_wp2
    go_ret
    exact ⟨⟨_, rfl⟩, Below.refl _ _⟩
  · have q : decide (20 < (l.length : Int)) = false := decide_eq_false (by omega)
    go_enter Try.func28, Try.ntmps28
    go_wp2
    go_loopw [3] (fun i wr => ∃ k : Nat, k ≤ l.length ∧ i = .int .i64 k ∧ Below w.heap.size w wr) (fun i _ => l.length - (intOf i).toNat)
    case atStart => exact ⟨0, Nat.zero_le _, rfl, Below.refl _ _⟩
    case round =>
      obtain ⟨k, hk, rfl, hb⟩ := hrel
      by_cases hlt : k < l.length
      · obtain ⟨ad, rfl, x1, x2⟩ := (hr.below hb).tag_at k hlt
        by_cases h1 : 200 < (tgD l k).1.size
        · have q1 : decide (200 < ((tgD l k).1.size : Int)) = true := decide_eq_true (by omega)
          go_wp2
          go_ret
          exact ⟨⟨_, rfl⟩, hb⟩
        · have q1 : decide (200 < ((tgD l k).1.size : Int)) = false := decide_eq_false (by omega)
          by_cases h2 : 200 < (tgD l k).2.size
          · have q2 : decide (200 < ((tgD l k).2.size : Int)) = true := decide_eq_true (by omega)
            go_wp2
            go_ret
            exact ⟨⟨_, rfl⟩, hb⟩
          · have q2 : decide (200 < ((tgD l k).2.size : Int)) = false := decide_eq_false (by omega)
            clear h1 h2
            go_wp2
            go_roundw
            case rel => exact ⟨k + 1, by omega, by go_num, hb⟩
            case measure => simp [intOf]; omega
      · obtain rfl : k = l.length := by omega
        go_wp2
        go_ret
        exact ⟨⟨_, rfl⟩, hb⟩
/-- What Few lets in. -/
def FewP (ns : List Node) (ws : List Way) (rs : List Rel) : Prop := ns.length ≤ 20 ∧ ws.length ≤ 12 ∧ rs.length ≤ 8 ∧ ∀ j, j < ws.length → (wyD ws j).2.1.length ≤ 12
set_option maxRecDepth 20000 in
set_option maxHeartbeats 1000000 in
theorem law19_Few {ok : Nat → Prop} (ns : List Node) (ws : List Way) (rs : List Rel) (A1 A2 A3 : Option Addr) (c1 c2 c3 : Nat) (w : World) (h1 : Row Ty.node ok w A1 ns) (h2 : Row Ty.way ok w A2 ws) (h3 : Row Ty.rel ok w A3 rs) :
    Calls Try.prog 9 #[.agg #[.slice A1 ns.length c1, .slice A2 ws.length c2, .slice A3 rs.length c3]] w fun e w' => (∃ b : Bool, e = .returned (.bool b) ∧ (b = true → FewP ns ws rs)) ∧ Below w.heap.size w w' := by
  have HR1 := Lib.hid h1
  have HR2 := Lib.hid h2
  have HR3 := Lib.hid h3
  have hl1 := h1.len
  have hl2 := h2.len
  have hl3 := h3.len
  clear h1 h2 h3
  obtain ⟨W0, hW⟩ : ∃ W0, W0 = w.alloc (.cells #[.slice A1 ns.length c1, .slice A2 ws.length c2, .slice A3 rs.length c3] 26) := ⟨_, rfl⟩
  have B0 : Below w.heap.size w W0 := by rw [hW]; exact (by repeat (first | exact Below.refl _ _ | apply below_alloc | apply below_drewN | apply below_drew | (refine below_set2 ?_ ?_; (first | (simp; done) | (simp; omega)))))
  have hao : ∀ o : Nat, W0.cell? ⟨w.heap.size, o, none⟩ = #[.slice A1 ns.length c1, .slice A2 ws.length c2, .slice A3 rs.length c3][o]? := fun o => by rw [hW]; simp only [World.cell?, heap_alloc_new]; rfl
  have hc0 : W0.cell? ⟨w.heap.size, 0, none⟩ = some (.slice A1 ns.length c1) := hao 0
  have hc1 : W0.cell? ⟨w.heap.size, 1, none⟩ = some (.slice A2 ws.length c2) := hao 1
  have hc2 : W0.cell? ⟨w.heap.size, 2, none⟩ = some (.slice A3 rs.length c3) := hao 2
  clear hao
  by_cases h20 : 20 < ns.length
  · have q : decide (20 < (ns.length : Int)) = true := decide_eq_true (by omega)
    go_enter Try.func9, Try.ntmps9
    go_wp2
    go_ret
    exact ⟨⟨false, rfl, by simp⟩, by first | exact B0 | (rw [← hW]; exact B0)⟩
  have q20 : decide (20 < (ns.length : Int)) = false := decide_eq_false (by omega)
  by_cases h12 : 12 < ws.length
  · have q : decide (12 < (ws.length : Int)) = true := decide_eq_true (by omega)
    go_enter Try.func9, Try.ntmps9
    go_wp2
    go_ret
    exact ⟨⟨false, rfl, by simp⟩, by first | exact B0 | (rw [← hW]; exact B0)⟩
  have q12 : decide (12 < (ws.length : Int)) = false := decide_eq_false (by omega)
  by_cases h8 : 8 < rs.length
  · have q : decide (8 < (rs.length : Int)) = true := decide_eq_true (by omega)
    go_enter Try.func9, Try.ntmps9
    go_wp2
    go_ret
    exact ⟨⟨false, rfl, by simp⟩, by first | exact B0 | (rw [← hW]; exact B0)⟩
  have q8 : decide (8 < (rs.length : Int)) = false := decide_eq_false (by omega)
  go_enter Try.func9, Try.ntmps9
  go_wp2
  rw [← hW]
  clear hW
  clear q20 q12 q8
  go_loopw [3] (fun i wr => ∃ k : Nat, k ≤ ns.length ∧ i = .int .i64 k ∧ Below W0.heap.size W0 wr) (fun i _ => ns.length - (intOf i).toNat)
  case atStart => exact ⟨0, Nat.zero_le _, rfl, Below.refl _ _⟩
  case round =>
    obtain ⟨k, hk, rfl, hb⟩ := hrel
    have e0 := cell_below hb hc0
    have BW : Below w.heap.size w wr := (by repeat (first | exact Below.refl _ _ | apply below_alloc | apply below_drewN | apply below_drew | (refine below_set2 ?_ ?_; (first | (simp; done) | (simp; omega))) | (refine below_step ?_ hb) | (refine below_step ?_ B0)))
    by_cases hlt : k < ns.length
    · obtain ⟨ad, A4, c4, rfl, x1, x2, x3, x4, _, rx⟩ := (HR1.out.below BW).node_at k hlt
      have RX := Lib.hid rx
      clear rx
      go_wp2_with fail
      refine (law19_tags (ndD ns k).2.2 A4 _ c4 _ RX.out rfl).mono ?_
      rintro e w2 ⟨⟨b, rfl⟩, hb2⟩
      cases b
      · go_wp2
        go_ret
        exact ⟨⟨false, rfl, by simp⟩, (by repeat (first | exact Below.refl _ _ | apply below_alloc | apply below_drewN | apply below_drew | (refine below_set2 ?_ ?_; (first | (simp; done) | (simp; omega))) | (refine below_step ?_ hb2) | (refine below_step ?_ BW)))⟩
      · go_wp2
        go_roundw
        case rel => exact ⟨k + 1, by omega, by go_num, (by repeat (first | exact Below.refl _ _ | apply below_alloc | apply below_drewN | apply below_drew | (refine below_set2 ?_ ?_; (first | (simp; done) | (simp; omega))) | (refine below_step ?_ hb2) | (refine below_step ?_ hb)))⟩
        case measure => simp [intOf]; omega
    · obtain rfl : k = ns.length := by omega
      have hbn := hb
      go_wp2
      clear hb BW e0
      go_loopw [4] (fun i wr => ∃ k : Nat, k ≤ ws.length ∧ i = .int .i64 k ∧ Below W0.heap.size W0 wr ∧ Hid (∀ j, j < k → (wyD ws j).2.1.length ≤ 12)) (fun i _ => ws.length - (intOf i).toNat)
      case atStart => exact ⟨0, Nat.zero_le _, rfl, hbn, fun j hj => absurd hj (Nat.not_lt_zero _)⟩
      case round =>
        obtain ⟨k, hk, rfl, hb, HS⟩ := hrel
        have e1 := cell_below hb hc1
        have BW : Below w.heap.size w wr := (by repeat (first | exact Below.refl _ _ | apply below_alloc | apply below_drewN | apply below_drew | (refine below_set2 ?_ ?_; (first | (simp; done) | (simp; omega))) | (refine below_step ?_ hb) | (refine below_step ?_ B0)))
        by_cases hlt : k < ws.length
        · obtain ⟨ad, A4, c4, A5, c5, rfl, x1, x2, x3, _, _, _, rx⟩ := (HR2.out.below BW).way_at k hlt
          have RX := Lib.hid rx
          clear rx
          by_cases hm : 12 < (wyD ws k).2.1.length
          · have q : decide (12 < ((wyD ws k).2.1.length : Int)) = true := decide_eq_true (by omega)
            go_wp2
            go_ret
            exact ⟨⟨false, rfl, by simp⟩, BW⟩
          · have q : decide (12 < ((wyD ws k).2.1.length : Int)) = false := decide_eq_false (by omega)
            go_wp2_with fail
            refine (law19_tags (wyD ws k).2.2 A5 _ c5 _ RX.out rfl).mono ?_
            rintro e w2 ⟨⟨b, rfl⟩, hb2⟩
            cases b
            · go_wp2
              go_ret
              exact ⟨⟨false, rfl, by simp⟩, (by repeat (first | exact Below.refl _ _ | apply below_alloc | apply below_drewN | apply below_drew | (refine below_set2 ?_ ?_; (first | (simp; done) | (simp; omega))) | (refine below_step ?_ hb2) | (refine below_step ?_ BW)))⟩
            · have HN : Hid (∀ j, j < k + 1 → (wyD ws j).2.1.length ≤ 12) := fun j hj => by
                by_cases e : j = k
                · rw [e]; omega
                · exact HS.out j (by omega)
              go_wp2
              go_roundw
              case rel => exact ⟨k + 1, by omega, by go_num, (by repeat (first | exact Below.refl _ _ | apply below_alloc | apply below_drewN | apply below_drew | (refine below_set2 ?_ ?_; (first | (simp; done) | (simp; omega))) | (refine below_step ?_ hb2) | (refine below_step ?_ hb))), HN⟩
              case measure => simp [intOf]; omega
        · obtain rfl : k = ws.length := by omega
          have HF : Hid (FewP ns ws rs) := ⟨by omega, by omega, by omega, HS.out⟩
          have hbn2 := hb
          go_wp2
          clear hb BW e1 HS hbn
          go_loopw [5] (fun i wr => ∃ k : Nat, k ≤ rs.length ∧ i = .int .i64 k ∧ Below W0.heap.size W0 wr) (fun i _ => rs.length - (intOf i).toNat)
          case atStart => exact ⟨0, Nat.zero_le _, rfl, hbn2⟩
          case round =>
            obtain ⟨k, hk, rfl, hb⟩ := hrel
            have e2 := cell_below hb hc2
            have BW : Below w.heap.size w wr := (by repeat (first | exact Below.refl _ _ | apply below_alloc | apply below_drewN | apply below_drew | (refine below_set2 ?_ ?_; (first | (simp; done) | (simp; omega))) | (refine below_step ?_ hb) | (refine below_step ?_ B0)))
            by_cases hlt : k < rs.length
            · obtain ⟨ad, A4, c4, A5, c5, rfl, x1, x2, x3, _, rm, _, rx⟩ := (HR3.out.below BW).rel_at k hlt
              have RX := Lib.hid rx
              have RM := Lib.hid rm
              have hlm := rm.len
              clear rx rm
              by_cases hm : 8 < (rlD rs k).2.1.length
              · have q : decide (8 < ((rlD rs k).2.1.length : Int)) = true := decide_eq_true (by omega)
                go_wp2
                go_ret
                exact ⟨⟨false, rfl, by simp⟩, BW⟩
              · have q : decide (8 < ((rlD rs k).2.1.length : Int)) = false := decide_eq_false (by omega)
                go_wp2_with fail
                refine (law19_tags (rlD rs k).2.2 A5 _ c5 _ RX.out rfl).mono ?_
                rintro e w2 ⟨⟨b, rfl⟩, hb2⟩
                cases b
                · go_wp2
                  go_ret
                  exact ⟨⟨false, rfl, by simp⟩, (by repeat (first | exact Below.refl _ _ | apply below_alloc | apply below_drewN | apply below_drew | (refine below_set2 ?_ ?_; (first | (simp; done) | (simp; omega))) | (refine below_step ?_ hb2) | (refine below_step ?_ BW)))⟩
                · have g2 := cell_below hb2 e2
                  have g3 := cell_below hb2 x2
                  have RM2 := Lib.hid (RM.out.below hb2)
                  have BX : Below W0.heap.size W0 w2 := (by repeat (first | exact Below.refl _ _ | apply below_alloc | apply below_drewN | apply below_drew | (refine below_set2 ?_ ?_; (first | (simp; done) | (simp; omega))) | (refine below_step ?_ hb2) | (refine below_step ?_ hb)))
                  have BXw : Below w.heap.size w w2 := (by repeat (first | exact Below.refl _ _ | apply below_alloc | apply below_drewN | apply below_drew | (refine below_set2 ?_ ?_; (first | (simp; done) | (simp; omega))) | (refine below_step ?_ hb2) | (refine below_step ?_ BW)))
                  clear x1 x2 x3 e2 RM RX hb2 hb BW q hm
                  go_wp2
                  go_loopw [6] (fun i wq => ∃ j : Nat, j ≤ (rlD rs k).2.1.length ∧ i = .int .i64 j ∧ Below w2.heap.size w2 wq) (fun i _ => (rlD rs k).2.1.length - (intOf i).toNat)
                  case atStart => exact ⟨0, Nat.zero_le _, rfl, Below.refl _ _⟩
                  case round =>
                    obtain ⟨j, hj, rfl, hbj⟩ := hrel
                    have g4 := cell_below hbj g2
                    have g5 := cell_below hbj g3
                    by_cases hlj : j < (rlD rs k).2.1.length
                    · obtain ⟨md, rfl, m1, m2, m3⟩ := (RM2.out.below hbj).mem_at j hlj
                      by_cases hs : 200 < (meD (rlD rs k).2.1 j).2.size
                      · have q : decide (200 < ((meD (rlD rs k).2.1 j).2.size : Int)) = true := decide_eq_true (by omega)
                        go_wp2
                        go_ret
                        exact ⟨⟨false, rfl, by simp⟩, (by repeat (first | exact Below.refl _ _ | apply below_alloc | apply below_drewN | apply below_drew | (refine below_set2 ?_ ?_; (first | (simp; done) | (simp; omega))) | (refine below_step ?_ hbj) | (refine below_step ?_ BXw)))⟩
                      · have q : decide (200 < ((meD (rlD rs k).2.1 j).2.size : Int)) = false := decide_eq_false (by omega)
                        clear hs
                        go_wp2
                        go_roundw
                        case rel => exact ⟨j + 1, by omega, by go_num, hbj⟩
                        case measure => simp [intOf]; omega
                    · obtain rfl : j = (rlD rs k).2.1.length := by omega
                      go_wp2
                      go_roundw
                      case rel => exact ⟨k + 1, by omega, by go_num, (by repeat (first | exact Below.refl _ _ | apply below_alloc | apply below_drewN | apply below_drew | (refine below_set2 ?_ ?_; (first | (simp; done) | (simp; omega))) | (refine below_step ?_ hbj) | (refine below_step ?_ BX)))⟩
                      case measure => simp [intOf]; omega
            · obtain rfl : k = rs.length := by omega
              go_wp2
              go_ret
              exact ⟨⟨true, rfl, fun _ => HF.out⟩, BW⟩
end Go.Proofs.Ytniceoinipffmaa
