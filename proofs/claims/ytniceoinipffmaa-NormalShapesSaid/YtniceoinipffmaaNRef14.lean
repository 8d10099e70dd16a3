/- Contracts of mapmakerref14.Node, Way, Rel, Has. -/
import Derived.Test.YtniceoinipffmaaNCheck
namespace Go.Proofs.Ytniceoinipffmaa
open Go.RowKit Go.Proofs.YtniceoinipffmaaW.PrintLast
set_option linter.unusedVariables false
set_option linter.unusedSimpArgs false

theorem blk_cell {w : World} {g : Nat} {cs : Array Value} {t : TypeId} (h : w.heap[g]? = some (.cells cs t (0, 0))) (i : Nat) {v : Value} (hv : cs[i]? = some v) : w.cell? ⟨g, i, none⟩ = some v := by
  simp only [World.cell?, h]; exact hv
theorem blk_free {w : World} {g : Nat} {cs : Array Value} {t : TypeId} (h : w.heap[g]? = some (.cells cs t (0, 0))) (i : Nat) : w.frozen? ⟨g, i, none⟩ = false := by
  simp [World.frozen?, h]
theorem mem_of_at {f : Nat → Int} {l : List Int} {k : Nat} (hk : k < l.length) (hf : l.getD k 0 = f k) {x : Int} (h : f k = x) : x ∈ l := by
  have e : l[k] = x := by rw [← h, ← hf]; simp [hk]
  rw [← e]; exact List.getElem_mem hk
theorem not_mem_at {l : List Int} {x : Int} (h : ∀ j, j < l.length → l.getD j 0 ≠ x) : x ∉ l := fun hm => by
  obtain ⟨j, hj, rfl⟩ := List.mem_iff_getElem.1 hm
  exact h j hj (by simp [hj])
theorem nds_at (ns : List Node) (k : Nat) (hk : k < ns.length) : (ns.map (·.1)).getD k 0 = (ndD ns k).1 := by simp [ndD, hk]
theorem wys_at (ws : List Way) (k : Nat) (hk : k < ws.length) : (ws.map (·.1)).getD k 0 = (wyD ws k).1 := by simp [wyD, hk]
theorem rls_at (rs : List Rel) (k : Nat) (hk : k < rs.length) : (rs.map (·.1)).getD k 0 = (rlD rs k).1 := by simp [rlD, hk]
set_option maxRecDepth 20000 in
theorem ref14_Node {ok : Nat → Prop} (ns : List Node) (A : Option Addr) (c : Nat) (ua ub : Value) (x : Int) (w : World) (hr : Row Ty.node ok w A ns) (ho1 : ua.oneCell' = true) (ho2 : ub.oneCell' = true) :
    Calls Try.prog 77 #[.agg #[.slice A ns.length c, ua, ub], .int .i64 x] w fun e w' => ∃ v1 v2 v3 v4 : Value, e = .returned (.tuple #[.agg #[v1, v2, v3, v4], .bool (decide (x ∈ ns.map (·.1)))]) ∧ v1.oneCell' = true ∧ v2.oneCell' = true ∧ v3.oneCell' = true ∧ v4.oneCell' = true ∧ Below w.heap.size w w' := by
  have hlen := hr.len
  have HR := Lib.hid hr
  clear hr
  obtain ⟨W0, hW⟩ : ∃ W0, W0 = w.alloc (.cells #[.slice A ns.length c, ua, ub] 26) := ⟨_, rfl⟩
  have hao : W0.cell? ⟨w.heap.size, 0, none⟩ = some (.slice A ns.length c) := by rw [hW]; simp only [World.cell?, heap_alloc_new]; rfl
  have z0 : W0.heap.size = w.heap.size + 1 := by rw [hW]; simp
  have B0 : Below w.heap.size w W0 := by rw [hW]; exact (by repeat (first | exact Below.refl _ _ | apply below_alloc | apply below_drewN | apply below_drew | (refine below_set2 ?_ ?_; (first | (simp; done) | (simp; omega)))))
  go_enter Try.func77, Try.ntmps77
  go_wp2_with fail
  rw [← hW]
  obtain ⟨W1, hW1⟩ : ∃ W1, W1 = W0.alloc (.cells #[.int .i64 0, .int .i64 0, .int .i64 0, .slice none 0 0] 60) := ⟨_, rfl⟩
  have hb1 : W1.heap[w.heap.size + 1]? = some (.cells #[.int .i64 0, .int .i64 0, .int .i64 0, .slice none 0 0] 60) := by rw [hW1, ← z0]; exact heap_alloc_new _ _
  have B1 : Below W0.heap.size W0 W1 := by rw [hW1]; exact (by repeat (first | exact Below.refl _ _ | apply below_alloc | apply below_drewN | apply below_drew | (refine below_set2 ?_ ?_; (first | (simp; done) | (simp; omega)))))
  have ha1 := cell_below B1 hao
  have HL : Hid (∀ W, Below W1.heap.size W1 W → W.heap[w.heap.size + 1]? = some (.cells #[.int .i64 0, .int .i64 0, .int .i64 0, .slice none 0 0] 60)) := fun W hW => (hW.block _ (lt_of_block hb1)).trans hb1
  have B01 : Below w.heap.size w W1 := (by repeat (first | exact Below.refl _ _ | apply below_alloc | apply below_drewN | apply below_drew | (refine below_set2 ?_ ?_; (first | (simp; done) | (simp; omega))) | (refine below_step ?_ B1) | (refine below_step ?_ B0)))
  rw [← hW1]
  clear hW hW1 z0 hao B0 B1 hb1
  go_loopw [6] (fun i wr => ∃ k : Nat, k ≤ ns.length ∧ i = .int .i64 k ∧ Below W1.heap.size W1 wr ∧ Hid (∀ j, j < k → (ns.map (·.1)).getD j 0 ≠ x)) (fun i _ => ns.length - (intOf i).toNat)
  case atStart => exact ⟨0, Nat.zero_le _, rfl, Below.refl _ _, fun j hj => absurd hj (Nat.not_lt_zero _)⟩
  case round =>
    obtain ⟨k, hk, rfl, hb, HS⟩ := hrel
    have hd := cell_below hb ha1
    by_cases hlt : k < ns.length
    · obtain ⟨ad, A1, c1, rfl, hc1, hc2, hc3, hc4, hl1, hrt⟩ := ((HR.out.below B01).below hb).node_at k hlt
      by_cases he : (ndD ns k).1 = x
      · have q1 : ((ndD ns k).1 == x) = true := by simp [he]
        have HM : Hid (decide (x ∈ ns.map (·.1)) = true) := decide_eq_true (mem_of_at (f := fun j => (ndD ns j).1) (by simpa using hlt) (nds_at ns k hlt) he)
        have hbk := HL.out wr hb
        have bc0 := blk_cell hbk 0 rfl
        have bc1 := blk_cell hbk 1 rfl
        have bc2 := blk_cell hbk 2 rfl
        have bc3 := blk_cell hbk 3 rfl
        have bf0 := blk_free hbk 0
        have bf1 := blk_free hbk 1
        have bf2 := blk_free hbk 2
        have bf3 := blk_free hbk 3
        clear he
        go_wp2
        refine bodyPost_ret (v := .tuple #[.agg #[.int .i64 (ndD ns k).1, .int .i64 (ndD ns k).2.1.1, .int .i64 (ndD ns k).2.1.2, .slice A1 (ndD ns k).2.2.length c1], .bool true]) ?_ rfl ⟨_, _, _, _, by rw [HM.out], rfl, rfl, rfl, rfl, by repeat (first | exact below_step B01 hb | (refine below_set2 (by simp) ?_))⟩
        simp [results, Try.results77]
        go_simp
      · have q1 : ((ndD ns k).1 == x) = false := by simp [he]
        have HN : Hid (∀ j, j < k + 1 → (ns.map (·.1)).getD j 0 ≠ x) := fun j hj => by
          by_cases e : j = k
          · rw [e, nds_at ns k hlt]; exact he
          · exact HS.out j (by omega)
        clear he
        go_wp2
        go_roundw
        case rel => exact ⟨k + 1, by omega, by go_num, hb, HN⟩
        case measure => simp [intOf]; omega
    · obtain rfl : k = ns.length := by omega
      have HM : Hid (decide (x ∈ ns.map (·.1)) = false) := decide_eq_false (not_mem_at (fun j hj => HS.out j (by simpa using hj)))
      have hbk := HL.out wr hb
      have bc0 := blk_cell hbk 0 rfl
      have bc1 := blk_cell hbk 1 rfl
      have bc2 := blk_cell hbk 2 rfl
      have bc3 := blk_cell hbk 3 rfl
      have bf0 := blk_free hbk 0
      have bf1 := blk_free hbk 1
      have bf2 := blk_free hbk 2
      have bf3 := blk_free hbk 3
      go_wp2
      refine bodyPost_ret (v := .tuple #[.agg #[.int .i64 0, .int .i64 0, .int .i64 0, .slice none 0 0], .bool false]) ?_ rfl ⟨_, _, _, _, by rw [HM.out], rfl, rfl, rfl, rfl, by repeat (first | exact below_step B01 hb | (refine below_set2 (by simp) ?_))⟩
      simp [results, Try.results77]
      go_simp
set_option maxRecDepth 20000 in
theorem ref14_Way {ok : Nat → Prop} (ws : List Way) (A : Option Addr) (c : Nat) (ua ub : Value) (x : Int) (w : World) (hr : Row Ty.way ok w A ws) (ho1 : ua.oneCell' = true) (ho2 : ub.oneCell' = true) :
    Calls Try.prog 95 #[.agg #[ua, .slice A ws.length c, ub], .int .i64 x] w fun e w' => ∃ v1 v2 v3 : Value, e = .returned (.tuple #[.agg #[v1, v2, v3], .bool (decide (x ∈ ws.map (·.1)))]) ∧ v1.oneCell' = true ∧ v2.oneCell' = true ∧ v3.oneCell' = true ∧ Below w.heap.size w w' := by
  have hlen := hr.len
  have HR := Lib.hid hr
  clear hr
  obtain ⟨W0, hW⟩ : ∃ W0, W0 = w.alloc (.cells #[ua, .slice A ws.length c, ub] 26) := ⟨_, rfl⟩
  have hao : W0.cell? ⟨w.heap.size, 1, none⟩ = some (.slice A ws.length c) := by rw [hW]; simp only [World.cell?, heap_alloc_new]; rfl
  have z0 : W0.heap.size = w.heap.size + 1 := by rw [hW]; simp
  have B0 : Below w.heap.size w W0 := by rw [hW]; exact (by repeat (first | exact Below.refl _ _ | apply below_alloc | apply below_drewN | apply below_drew | (refine below_set2 ?_ ?_; (first | (simp; done) | (simp; omega)))))
  go_enter Try.func95, Try.ntmps95
  go_wp2_with fail
  rw [← hW]
  obtain ⟨W1, hW1⟩ : ∃ W1, W1 = W0.alloc (.cells #[.int .i64 0, .slice none 0 0, .slice none 0 0] 50) := ⟨_, rfl⟩
  have hb1 : W1.heap[w.heap.size + 1]? = some (.cells #[.int .i64 0, .slice none 0 0, .slice none 0 0] 50) := by rw [hW1, ← z0]; exact heap_alloc_new _ _
  have B1 : Below W0.heap.size W0 W1 := by rw [hW1]; exact (by repeat (first | exact Below.refl _ _ | apply below_alloc | apply below_drewN | apply below_drew | (refine below_set2 ?_ ?_; (first | (simp; done) | (simp; omega)))))
  have ha1 := cell_below B1 hao
  have HL : Hid (∀ W, Below W1.heap.size W1 W → W.heap[w.heap.size + 1]? = some (.cells #[.int .i64 0, .slice none 0 0, .slice none 0 0] 50)) := fun W hW => (hW.block _ (lt_of_block hb1)).trans hb1
  have B01 : Below w.heap.size w W1 := (by repeat (first | exact Below.refl _ _ | apply below_alloc | apply below_drewN | apply below_drew | (refine below_set2 ?_ ?_; (first | (simp; done) | (simp; omega))) | (refine below_step ?_ B1) | (refine below_step ?_ B0)))
  rw [← hW1]
  clear hW hW1 z0 hao B0 B1 hb1
  go_loopw [6] (fun i wr => ∃ k : Nat, k ≤ ws.length ∧ i = .int .i64 k ∧ Below W1.heap.size W1 wr ∧ Hid (∀ j, j < k → (ws.map (·.1)).getD j 0 ≠ x)) (fun i _ => ws.length - (intOf i).toNat)
  case atStart => exact ⟨0, Nat.zero_le _, rfl, Below.refl _ _, fun j hj => absurd hj (Nat.not_lt_zero _)⟩
  case round =>
    obtain ⟨k, hk, rfl, hb, HS⟩ := hrel
    have hd := cell_below hb ha1
    by_cases hlt : k < ws.length
    · obtain ⟨ad, A1, c1, A2, c2, rfl, hc1, hc2, hc3, hl1, hr1, hl2, hr2⟩ := ((HR.out.below B01).below hb).way_at k hlt
      by_cases he : (wyD ws k).1 = x
      · have q1 : ((wyD ws k).1 == x) = true := by simp [he]
        have HM : Hid (decide (x ∈ ws.map (·.1)) = true) := decide_eq_true (mem_of_at (f := fun j => (wyD ws j).1) (by simpa using hlt) (wys_at ws k hlt) he)
        have hbk := HL.out wr hb
        have bc0 := blk_cell hbk 0 rfl
        have bc1 := blk_cell hbk 1 rfl
        have bc2 := blk_cell hbk 2 rfl
        have bf0 := blk_free hbk 0
        have bf1 := blk_free hbk 1
        have bf2 := blk_free hbk 2
        clear he
        go_wp2
        refine bodyPost_ret (v := .tuple #[.agg #[.int .i64 (wyD ws k).1, .slice A1 (wyD ws k).2.1.length c1, .slice A2 (wyD ws k).2.2.length c2], .bool true]) ?_ rfl ⟨_, _, _, by rw [HM.out], rfl, rfl, rfl, by repeat (first | exact below_step B01 hb | (refine below_set2 (by simp) ?_))⟩
        simp [results, Try.results95]
        go_simp
      · have q1 : ((wyD ws k).1 == x) = false := by simp [he]
        have HN : Hid (∀ j, j < k + 1 → (ws.map (·.1)).getD j 0 ≠ x) := fun j hj => by
          by_cases e : j = k
          · rw [e, wys_at ws k hlt]; exact he
          · exact HS.out j (by omega)
        clear he
        go_wp2
        go_roundw
        case rel => exact ⟨k + 1, by omega, by go_num, hb, HN⟩
        case measure => simp [intOf]; omega
    · obtain rfl : k = ws.length := by omega
      have HM : Hid (decide (x ∈ ws.map (·.1)) = false) := decide_eq_false (not_mem_at (fun j hj => HS.out j (by simpa using hj)))
      have hbk := HL.out wr hb
      have bc0 := blk_cell hbk 0 rfl
      have bc1 := blk_cell hbk 1 rfl
      have bc2 := blk_cell hbk 2 rfl
      have bf0 := blk_free hbk 0
      have bf1 := blk_free hbk 1
      have bf2 := blk_free hbk 2
      go_wp2
      refine bodyPost_ret (v := .tuple #[.agg #[.int .i64 0, .slice none 0 0, .slice none 0 0], .bool false]) ?_ rfl ⟨_, _, _, by rw [HM.out], rfl, rfl, rfl, by repeat (first | exact below_step B01 hb | (refine below_set2 (by simp) ?_))⟩
      simp [results, Try.results95]
      go_simp
set_option maxRecDepth 20000 in
theorem ref14_Rel {ok : Nat → Prop} (rs : List Rel) (A : Option Addr) (c : Nat) (ua ub : Value) (x : Int) (w : World) (hr : Row Ty.rel ok w A rs) (ho1 : ua.oneCell' = true) (ho2 : ub.oneCell' = true) :
    Calls Try.prog 96 #[.agg #[ua, ub, .slice A rs.length c], .int .i64 x] w fun e w' => ∃ v1 v2 v3 : Value, e = .returned (.tuple #[.agg #[v1, v2, v3], .bool (decide (x ∈ rs.map (·.1)))]) ∧ v1.oneCell' = true ∧ v2.oneCell' = true ∧ v3.oneCell' = true ∧ Below w.heap.size w w' := by
  have hlen := hr.len
  have HR := Lib.hid hr
  clear hr
  obtain ⟨W0, hW⟩ : ∃ W0, W0 = w.alloc (.cells #[ua, ub, .slice A rs.length c] 26) := ⟨_, rfl⟩
  have hao : W0.cell? ⟨w.heap.size, 2, none⟩ = some (.slice A rs.length c) := by rw [hW]; simp only [World.cell?, heap_alloc_new]; rfl
  have z0 : W0.heap.size = w.heap.size + 1 := by rw [hW]; simp
  have B0 : Below w.heap.size w W0 := by rw [hW]; exact (by repeat (first | exact Below.refl _ _ | apply below_alloc | apply below_drewN | apply below_drew | (refine below_set2 ?_ ?_; (first | (simp; done) | (simp; omega)))))
  go_enter Try.func96, Try.ntmps96
  go_wp2_with fail
  rw [← hW]
  obtain ⟨W1, hW1⟩ : ∃ W1, W1 = W0.alloc (.cells #[.int .i64 0, .slice none 0 0, .slice none 0 0] 63) := ⟨_, rfl⟩
  have hb1 : W1.heap[w.heap.size + 1]? = some (.cells #[.int .i64 0, .slice none 0 0, .slice none 0 0] 63) := by rw [hW1, ← z0]; exact heap_alloc_new _ _
  have B1 : Below W0.heap.size W0 W1 := by rw [hW1]; exact (by repeat (first | exact Below.refl _ _ | apply below_alloc | apply below_drewN | apply below_drew | (refine below_set2 ?_ ?_; (first | (simp; done) | (simp; omega)))))
  have ha1 := cell_below B1 hao
  have HL : Hid (∀ W, Below W1.heap.size W1 W → W.heap[w.heap.size + 1]? = some (.cells #[.int .i64 0, .slice none 0 0, .slice none 0 0] 63)) := fun W hW => (hW.block _ (lt_of_block hb1)).trans hb1
  have B01 : Below w.heap.size w W1 := (by repeat (first | exact Below.refl _ _ | apply below_alloc | apply below_drewN | apply below_drew | (refine below_set2 ?_ ?_; (first | (simp; done) | (simp; omega))) | (refine below_step ?_ B1) | (refine below_step ?_ B0)))
  rw [← hW1]
  clear hW hW1 z0 hao B0 B1 hb1
  go_loopw [6] (fun i wr => ∃ k : Nat, k ≤ rs.length ∧ i = .int .i64 k ∧ Below W1.heap.size W1 wr ∧ Hid (∀ j, j < k → (rs.map (·.1)).getD j 0 ≠ x)) (fun i _ => rs.length - (intOf i).toNat)
  case atStart => exact ⟨0, Nat.zero_le _, rfl, Below.refl _ _, fun j hj => absurd hj (Nat.not_lt_zero _)⟩
  case round =>
    obtain ⟨k, hk, rfl, hb, HS⟩ := hrel
    have hd := cell_below hb ha1
    by_cases hlt : k < rs.length
    · obtain ⟨ad, A1, c1, A2, c2, rfl, hc1, hc2, hc3, hl1, hr1, hl2, hr2⟩ := ((HR.out.below B01).below hb).rel_at k hlt
      by_cases he : (rlD rs k).1 = x
      · have q1 : ((rlD rs k).1 == x) = true := by simp [he]
        have HM : Hid (decide (x ∈ rs.map (·.1)) = true) := decide_eq_true (mem_of_at (f := fun j => (rlD rs j).1) (by simpa using hlt) (rls_at rs k hlt) he)
        have hbk := HL.out wr hb
        have bc0 := blk_cell hbk 0 rfl
        have bc1 := blk_cell hbk 1 rfl
        have bc2 := blk_cell hbk 2 rfl
        have bf0 := blk_free hbk 0
        have bf1 := blk_free hbk 1
        have bf2 := blk_free hbk 2
        clear he
        go_wp2
        refine bodyPost_ret (v := .tuple #[.agg #[.int .i64 (rlD rs k).1, .slice A1 (rlD rs k).2.1.length c1, .slice A2 (rlD rs k).2.2.length c2], .bool true]) ?_ rfl ⟨_, _, _, by rw [HM.out], rfl, rfl, rfl, by repeat (first | exact below_step B01 hb | (refine below_set2 (by simp) ?_))⟩
        simp [results, Try.results96]
        go_simp
      · have q1 : ((rlD rs k).1 == x) = false := by simp [he]
        have HN : Hid (∀ j, j < k + 1 → (rs.map (·.1)).getD j 0 ≠ x) := fun j hj => by
          by_cases e : j = k
          · rw [e, rls_at rs k hlt]; exact he
          · exact HS.out j (by omega)
        clear he
        go_wp2
        go_roundw
        case rel => exact ⟨k + 1, by omega, by go_num, hb, HN⟩
        case measure => simp [intOf]; omega
    · obtain rfl : k = rs.length := by omega
      have HM : Hid (decide (x ∈ rs.map (·.1)) = false) := decide_eq_false (not_mem_at (fun j hj => HS.out j (by simpa using hj)))
      have hbk := HL.out wr hb
      have bc0 := blk_cell hbk 0 rfl
      have bc1 := blk_cell hbk 1 rfl
      have bc2 := blk_cell hbk 2 rfl
      have bf0 := blk_free hbk 0
      have bf1 := blk_free hbk 1
      have bf2 := blk_free hbk 2
      go_wp2
      refine bodyPost_ret (v := .tuple #[.agg #[.int .i64 0, .slice none 0 0, .slice none 0 0], .bool false]) ?_ rfl ⟨_, _, _, by rw [HM.out], rfl, rfl, rfl, by repeat (first | exact below_step B01 hb | (refine below_set2 (by simp) ?_))⟩
      simp [results, Try.results96]
      go_simp
end Go.Proofs.Ytniceoinipffmaa
