/- Contract of simplify.at. Contract of simplify.inside. Contracts of the two function values in corner.blocks: ends, far. -/
import Derived.Test.YtaeflnbjeaoapaaGreatKPW
import Derived.Test.YtaeflnbjeaoapaaGreatKP4
namespace Go.Proofs.YtaeflnbjeaoapaaGreat
set_option linter.unusedVariables false
set_option linter.unusedSimpArgs false
section
open Go.RowKit Go.Proofs.YtaeflnbjeaoapaaGreatW.PrintLast

attribute [local go_sem high] eqPt eqSg
def AtR (ok : Nat → Prop) (w : World) (e : Ending) (r : Option Cor) : Prop := match r with
 | none => e = .returned (.tuple #[corV (0, 0) (0, 0) (0, 0) 0 none 0 0 none 0 0 false, .bool false])
 | some c => ∃ v, e = .returned (.tuple #[v, .bool true]) ∧ CorR ok w v c
set_option maxRecDepth 100000 in
set_option maxHeartbeats 8000000 in
theorem simplify_at {ok : Nat → Prop} (m : Msh) (A : Option Addr) (n c : Nat) (p1 p2 : Int) (w : World) (hr : Row Ty.edge ok w A m) (hn : n = m.length) (hlen : m.length ≤ 1000000) :
  Calls Tryz.prog 16 #[.slice A n c, .agg #[.int .i64 p1, .int .i64 p2]] w fun e w' => AtR (fun k => ok k ∨ w.heap.size ≤ k) w' e (atZ m (p1, p2)) ∧ Below w.heap.size w w' := by
 subst hn
 have HR := Lib.hid hr.bnd
 have hmx := hr.len
 clear hr
 obtain ⟨W0, hW0⟩ : ∃ W0, W0 = (w.alloc (.cells #[.int .i64 p1, .int .i64 p2] 28)).alloc (.cells #[.int .i64 0, .int .i64 0, .int .i64 0, .int .i64 0, .int .i64 0, .int .i64 0, .int .i64 0, .slice none 0 0, .slice none 0 0, .bool false] 41) := ⟨_, rfl⟩
 have hP : W0.heap[w.heap.size]? = some (.cells #[.int .i64 p1, .int .i64 p2] 28 (0, 0)) := by rw [hW0]; exact blk_alloc (heap_alloc_new _ _) _
 have hZ : W0.heap[w.heap.size + 1]? = some (.cells #[.int .i64 0, .int .i64 0, .int .i64 0, .int .i64 0, .int .i64 0, .int .i64 0, .int .i64 0, .slice none 0 0, .slice none 0 0, .bool false] 41 (0, 0)) := by
  rw [hW0]; have := heap_alloc_new (w.alloc (.cells #[.int .i64 p1, .int .i64 p2] 28)) (.cells #[.int .i64 0, .int .i64 0, .int .i64 0, .int .i64 0, .int .i64 0, .int .i64 0, .int .i64 0, .slice none 0 0, .slice none 0 0, .bool false] 41); simpa using this
 have B0 : Below w.heap.size w W0 := by rw [hW0]; exact bq
 have hwz := B0.size
 have HR0 := Lib.hid (HR.out.below B0)
 clear HR
 go_enter Tryz.func16, Tryz.ntmps16
 go_wp2_with fail
 rw [← hW0]
 clear hW0
 go_wp2_with fail
 go_loopw [6, 18] (fun v i wr => ∃ k : Nat, k ≤ m.length ∧ i = .int .i64 k ∧ Hid (Below W0.heap.size W0 wr) ∧ Hid (OwnE (fun k => ok k ∧ k < w.heap.size) W0.heap.size wr v ((m.take k).filter (endE (p1, p2))))) (fun _ i _ => m.length - (intOf i).toNat)
 case atStart => exact ⟨0, Nat.zero_le _, rfl, Below.refl _ _, OwnR.nil _ _ _ _ _⟩
 case round =>
  obtain ⟨k, hk, rfl, HB, HO⟩ := hrel
  have hzw := HB.out.size
  have HP := blk_below hP HB.out
  have hp0 := blk_cell HP 0 rfl
  have hp1 := blk_cell HP 1 rfl
  have hpz := lt_of_block HP
  by_cases hlt : k < m.length
  ·have HS := Lib.hid (filter_snoc m (endE (p1, p2)) k hlt)
   have HL := filter_take_len m (endE (p1, p2)) k
   obtain ⟨ad, A1, c1, A2, c2, rfl, hx0, hx1, hx2, hx3, hx4, hx5, hc1, hr1, hc2, hr2⟩ := (HR0.out.below HB.out).edge_at k hlt
   obtain ⟨e, he⟩ : ∃ e, e = egD m k := ⟨_, rfl⟩
   rw [← he] at hx0 hx1 hx2 hx3 hx4 hx5 hc1 hr1 hc2 hr2 HS
   clear he
   obtain ⟨⟨⟨a1, a2⟩, ⟨a3, a4⟩⟩, L, R⟩ := e
   simp only at hx0 hx1 hx2 hx3 hx4 hx5 hc1 hr1 hc2 hr2 HS
   have HE : Hid (∀ W, Below wr.heap.size wr W → Ty.edge.R (fun k => ¬ ¬ (ok k ∧ k < w.heap.size)) W (((a1, a2), (a3, a4)), (L, R)) [.int .i64 a1, .int .i64 a2, .int .i64 a3, .int .i64 a4, .slice A1 L.length c1, .slice A2 R.length c2]) := fun W hb =>
    edgeR (s := ((a1, a2), (a3, a4))) hc1 ((hr1.below hb).mono (fun j hj => not_not_intro hj)) hc2 ((hr2.below hb).mono (fun j hj => not_not_intro hj))
   clear hr1 hr2
   generalize (m.take k).filter (endE (p1, p2)) = acc at *
   by_cases h1 : a1 = p1 ∧ a2 = p2
   ·obtain ⟨rfl, rfl⟩ := h1
    have HS2 : Hid ((m.take (k + 1)).filter (endE (a1, a2)) = acc ++ [(((a1, a2), (a3, a4)), (L, R))]) := HS.out.trans (by rw [if_pos (by simp [endE])])
    clear HS
    go_wp2_with (at_builtin; refine app_one Ty.edge (W := wr.alloc (.cells #[.int .i64 a1, .int .i64 a2, .int .i64 a3, .int .i64 a4, .slice A1 L.length c1, .slice A2 R.length c2] 31)) W0.heap.size rfl _ _ 22 31 _ 80 rfl Tryz.underlying22 infoEg rfl (by decide) u6 acc (((a1, a2), (a3, a4)), (L, R)) [.int .i64 a1, .int .i64 a2, .int .i64 a3, .int .i64 a4, .slice A1 L.length c1, .slice A2 R.length c2] _ rfl rfl (by simp) (HE.out _ bq) (OwnR.alloc HO.out _) (by simp; omega) (by omega) ?_; intro v1 w4 HO1 hg1 hat1)
    have BZ : Hid (Below W0.heap.size W0 w4) := below_own (by repeat (first | exact Below.refl _ _ | apply below_alloc | apply below_drewN | apply below_drew | (refine below_set2 ?_ ?_; (first | (simp; done) | (simp; omega))) | (refine below_step ?_ HB.out))) hg1 (fun b e => (OwnR.lt HO.out b e).1)
    have HO4 := Lib.hid (OwnE.of (fun k hk => Nat.lt_of_lt_of_le hk.2 hwz) HO1 rfl)
    clear HO1 hg1 hat1
    go_wp2
    go_roundw
    case rel => exact ⟨k + 1, by omega, by go_num, BZ.out, by rw [HS2.out]; exact HO4.out⟩
    case measure => simp [intOf]; omega
   ·have q1 : (decide (a1 = p1) && decide (a2 = p2)) = false := by simpa using h1
    by_cases h2 : a3 = p1 ∧ a4 = p2
    ·obtain ⟨rfl, rfl⟩ := h2
     have HS2 : Hid ((m.take (k + 1)).filter (endE (a3, a4)) = acc ++ [(((a1, a2), (a3, a4)), (L, R))]) := HS.out.trans (by rw [if_pos (by simp [endE])])
     clear HS h1
     go_wp2_with (at_builtin; refine app_one Ty.edge (W := wr.alloc (.cells #[.int .i64 a1, .int .i64 a2, .int .i64 a3, .int .i64 a4, .slice A1 L.length c1, .slice A2 R.length c2] 31)) W0.heap.size rfl _ _ 22 31 _ 80 rfl Tryz.underlying22 infoEg rfl (by decide) u6 acc (((a1, a2), (a3, a4)), (L, R)) [.int .i64 a1, .int .i64 a2, .int .i64 a3, .int .i64 a4, .slice A1 L.length c1, .slice A2 R.length c2] _ rfl rfl (by simp) (HE.out _ bq) (OwnR.alloc HO.out _) (by simp; omega) (by omega) ?_; intro v1 w4 HO1 hg1 hat1)
     have BZ : Hid (Below W0.heap.size W0 w4) := below_own (by repeat (first | exact Below.refl _ _ | apply below_alloc | apply below_drewN | apply below_drew | (refine below_set2 ?_ ?_; (first | (simp; done) | (simp; omega))) | (refine below_step ?_ HB.out))) hg1 (fun b e => (OwnR.lt HO.out b e).1)
     have HO4 := Lib.hid (OwnE.of (fun k hk => Nat.lt_of_lt_of_le hk.2 hwz) HO1 rfl)
     clear HO1 hg1 hat1
     go_wp2
     go_roundw
     case rel => exact ⟨k + 1, by omega, by go_num, BZ.out, by rw [HS2.out]; exact HO4.out⟩
     case measure => simp [intOf]; omega
    ·have q2 : (decide (a3 = p1) && decide (a4 = p2)) = false := by simpa using h2
     have HS2 : Hid ((m.take (k + 1)).filter (endE (p1, p2)) = acc) := HS.out.trans (by rw [if_neg (by simp [endE]; exact ⟨fun x y => h1 ⟨x, y⟩, fun x y => h2 ⟨x, y⟩⟩), List.append_nil])
     clear HS h1 h2
     go_wp2
     go_roundw
     case rel => exact ⟨k + 1, by omega, by go_num, (by repeat (first | exact Below.refl _ _ | apply below_alloc | apply below_drewN | apply below_drew | (refine below_set2 ?_ ?_; (first | (simp; done) | (simp; omega))) | (refine below_step ?_ HB.out))), by rw [HS2.out]; exact OwnR.alloc HO.out _⟩
     case measure => simp [intOf]; omega
  ·obtain rfl : k = m.length := by omega
   rw [List.take_length] at HO
   have HZ := blk_below hZ HB.out
   by_cases h2 : (m.filter (endE (p1, p2))).length = 2
   ·have HA : Hid (atZ m (p1, p2) = some (cornerZ (egD (m.filter (endE (p1, p2))) 0) (egD (m.filter (endE (p1, p2))) 1) (p1, p2))) := if_pos h2
    have BW : Hid (Below w.heap.size w wr) := below_step B0 HB.out
    obtain ⟨g, cl, A0, c0, B0', d0, A1, c1, B1, d1, rfl, hgb, hgl, ⟨x0, x1, x2, x3, x4, x5⟩, ⟨y0, y1, y2, y3, y4, y5⟩, ⟨l0, r0, l0', r0'⟩, ⟨l1, r1, l1', r1'⟩⟩ := OwnE.two HO.out h2
    obtain ⟨e0, he0⟩ : ∃ e, e = egD (m.filter (endE (p1, p2))) 0 := ⟨_, rfl⟩
    obtain ⟨e1, he1⟩ : ∃ e, e = egD (m.filter (endE (p1, p2))) 1 := ⟨_, rfl⟩
    rw [← he0] at x0 x1 x2 x3 x4 x5 l0 r0 l0' r0' HA
    rw [← he1] at y0 y1 y2 y3 y4 y5 l1 r1 l1' r1' HA
    clear he0 he1 h2 HO
    obtain ⟨⟨⟨a1, a2⟩, ⟨a3, a4⟩⟩, L0, R0⟩ := e0
    obtain ⟨⟨⟨b1, b2⟩, ⟨b3, b4⟩⟩, L1, R1⟩ := e1
    simp only at x0 x1 x2 x3 x4 x5 l0 r0 l0' r0' y0 y1 y2 y3 y4 y5 l1 r1 l1' r1'
    have C0 := fun W (hb : Below wr.heap.size wr W) => simplify_leave (ok := fun k => (ok k ∧ k < w.heap.size) ∨ k = g) ((a1, a2), (a3, a4)) L0 R0 (p1, p2) A0 B0' c0 d0 W (r0.below hb) l0 (r0'.below hb) l0'
    have C1 := fun W (hb : Below wr.heap.size wr W) => simplify_leave (ok := fun k => (ok k ∧ k < w.heap.size) ∨ k = g) ((b1, b2), (b3, b4)) L1 R1 (p1, p2) A1 B1 c1 d1 W (r1.below hb) l1 (r1'.below hb) l1'
    unfold cornerZ at HA
    obtain ⟨⟨⟨q1, q2⟩, Ya, Yb⟩, hq⟩ : ∃ q, q = leaveZ (((a1, a2), (a3, a4)), (L0, R0)) (p1, p2) := ⟨_, rfl⟩
    obtain ⟨⟨⟨v1, v2⟩, Va, Vb⟩, hv⟩ : ∃ q, q = leaveZ (((b1, b2), (b3, b4)), (L1, R1)) (p1, p2) := ⟨_, rfl⟩
    simp only [← hq, ← hv] at C0 C1 HA
    have C0 := Lib.hid C0
    have C1 := Lib.hid C1
    clear hq hv l0 r0 l0' r0' l1 r1 l1' r1'
    go_wp2_with fail
    refine start_ (n := 13) (S := fun w' => w'.cell? ⟨g, 0, none⟩ = some (.int .i64 a1) ∧ w'.cell? ⟨g, 1, none⟩ = some (.int .i64 a2) ∧ w'.cell? ⟨g, 2, none⟩ = some (.int .i64 a3) ∧ w'.cell? ⟨g, 3, none⟩ = some (.int .i64 a4) ∧ w'.cell? ⟨g, 4, none⟩ = some (.slice A0 L0.length c0) ∧ w'.cell? ⟨g, 5, none⟩ = some (.slice B0' R0.length d0) ∧ w'.cell? ⟨w.heap.size, 0, none⟩ = some (.int .i64 p1) ∧ w'.cell? ⟨w.heap.size, 1, none⟩ = some (.int .i64 p2)) (ds := [10, 11, 12]) #[Z,Z,Z,Z,Z,Z,Z,Z,Z,Z,Z,Z,Z] (by kernel_rfl) rfl rfl ⟨x0, x1, x2, x3, x4, x5, hp0, hp1⟩ (fun hHeld => ?_)
    refine pu 0 42 ?_
    refine pu 1 43 ?_
    refine ta 2 44 hHeld ?_
    refine ta 3 45 hHeld ?_
    refine join_ (σ := Nat × (Option Addr × Nat) × (Option Addr × Nat)) 3 #[J,J,J,J,J,J,J,J,J,J,Z,Z,Z] (fun s => [(46, .tuple #[.agg #[.int .i64 q1, .int .i64 q2], .slice s.2.1.1 Ya.length s.2.1.2, .slice s.2.2.1 Yb.length s.2.2.2]), (41, .tuple #[.agg #[.int .i64 q1, .int .i64 q2], .slice s.2.1.1 Ya.length s.2.1.2, .slice s.2.2.1 Yb.length s.2.2.2]), (47, .agg #[.int .i64 q1, .int .i64 q2]), (48, .slice s.2.1.1 Ya.length s.2.1.2), (49, .slice s.2.2.1 Yb.length s.2.2.2), (9, .pointer (some ⟨s.1, 0, none⟩))]) (fun s w' => Ya.length ≤ s.2.1.2 ∧ Row Ty.i64 (fun k => (ok k ∧ k < w.heap.size) ∨ k = g) w' s.2.1.1 Ya ∧ Yb.length ≤ s.2.2.2 ∧ Row Ty.i64 (fun k => (ok k ∧ k < w.heap.size) ∨ k = g) w' s.2.2.1 Yb ∧ wr.heap.size ≤ s.1 ∧ w'.heap[s.1]? = some (.cells #[.int .i64 0, .int .i64 0] 28 (0, 0)) ∧ Below wr.heap.size wr w') ?_ ?_
    rotate_left
    ·intro hCont
     refine two_ (i := 4) (j := 9) (Ni := some 46) (Nj := some 9) #[J,J,J,J,J,Z,Z,Z,Z,Z,Z,Z,Z] #[J,J,J,J,Z,Z,Z,Z,Z,J,Z,Z,Z] rfl rfl rfl rfl (by kernel_rfl) (by decide) (by decide) (fun K hK => ?_) (fun K hK => ?_)
     ·skip
      refine goes_ Tryz.func39 (by kernel_rfl) rfl #[.agg #[.int .i64 a1, .int .i64 a2, .int .i64 a3, .int .i64 a4, .slice A0 L0.length c0, .slice B0' R0.length d0], .agg #[.int .i64 p1, .int .i64 p2]] (by rfl) rfl rfl (by simp only [List.map_toArray, List.map_cons, List.map_nil]; rfl) ?_
      with_reducible refine (C0.out _ (below_drew (Below.refl _ _))).mono ?_
      rintro e w1 ⟨A', c', B', d', X', Y', Z', rfl, rfl, rfl, rfl, h1, h2, h3, h4, hb1⟩
      refine ⟨_, rfl, ?_⟩
      refine hK.out _ _ ⟨cell_below hb1 x0, cell_below hb1 x1, cell_below hb1 x2, cell_below hb1 x3, cell_below hb1 x4, cell_below hb1 x5, cell_below hb1 hp0, cell_below hb1 hp1⟩ (fun hHeld => ?_)
      clear hK K
      refine nm 46 ?_
      refine pu 5 41 ?_
      refine pu 6 47 ?_
      refine pu 7 48 ?_
      refine pu 8 49 ?_
      refine one_ (i := 9) (N := some 9) #[J,J,J,J,J,J,J,J,J,J,Z,Z,Z] rfl rfl (by kernel_rfl) (by decide) (fun K hK => ?_)
      refine value_ (w1 := ?_) (v := ?_) (by rfl) rfl ?_ ?_
      rotate_left 2
      ·go_simp
       constructor
       ·rfl
       ·rfl
      refine hK.out _ _ ⟨cell_below (below_alloc (Below.refl _ _) _) (cell_below hb1 x0), cell_below (below_alloc (Below.refl _ _) _) (cell_below hb1 x1), cell_below (below_alloc (Below.refl _ _) _) (cell_below hb1 x2), cell_below (below_alloc (Below.refl _ _) _) (cell_below hb1 x3), cell_below (below_alloc (Below.refl _ _) _) (cell_below hb1 x4), cell_below (below_alloc (Below.refl _ _) _) (cell_below hb1 x5), cell_below (below_alloc (Below.refl _ _) _) (cell_below hb1 hp0), cell_below (below_alloc (Below.refl _ _) _) (cell_below hb1 hp1)⟩ (fun hHeld => ?_)
      clear hK K
      refine nm 9 ?_
      exact norm_ (by simp only [putAll, Act.put, List.setIfInBounds_toArray, List.set_cons_zero, List.set_cons_succ]) (hCont (w1.heap.size, (A', c'), (B', d')) _ ⟨h1, h2.alloc _, h3, h4.alloc _, hb1.size, heap_alloc_new _ _, below_alloc (below_step (below_drew (Below.refl _ _)) hb1) _⟩)
     ·skip
      refine value_ (w1 := ?_) (v := ?_) (by rfl) rfl ?_ ?_
      rotate_left 2
      ·go_simp
       constructor
       ·rfl
       ·rfl
      refine hK.out _ _ ⟨cell_below (below_alloc (Below.refl _ _) _) x0, cell_below (below_alloc (Below.refl _ _) _) x1, cell_below (below_alloc (Below.refl _ _) _) x2, cell_below (below_alloc (Below.refl _ _) _) x3, cell_below (below_alloc (Below.refl _ _) _) x4, cell_below (below_alloc (Below.refl _ _) _) x5, cell_below (below_alloc (Below.refl _ _) _) hp0, cell_below (below_alloc (Below.refl _ _) _) hp1⟩ (fun hHeld => ?_)
      clear hK K
      refine nm 9 ?_
      refine one_ (i := 4) (N := some 46) #[J,J,J,J,J,Z,Z,Z,Z,J,Z,Z,Z] rfl rfl (by kernel_rfl) (by decide) (fun K hK => ?_)
      refine goes_ Tryz.func39 (by kernel_rfl) rfl #[.agg #[.int .i64 a1, .int .i64 a2, .int .i64 a3, .int .i64 a4, .slice A0 L0.length c0, .slice B0' R0.length d0], .agg #[.int .i64 p1, .int .i64 p2]] (by rfl) rfl rfl (by simp only [List.map_toArray, List.map_cons, List.map_nil]; rfl) ?_
      with_reducible refine (C0.out _ (below_drew (below_alloc (Below.refl _ _) _))).mono ?_
      rintro e w1 ⟨A', c', B', d', X', Y', Z', rfl, rfl, rfl, rfl, h1, h2, h3, h4, hb1⟩
      refine ⟨_, rfl, ?_⟩
      refine hK.out _ _ ⟨cell_below hb1 (cell_below (below_drew (below_alloc (Below.refl _ _) _)) x0), cell_below hb1 (cell_below (below_drew (below_alloc (Below.refl _ _) _)) x1), cell_below hb1 (cell_below (below_drew (below_alloc (Below.refl _ _) _)) x2), cell_below hb1 (cell_below (below_drew (below_alloc (Below.refl _ _) _)) x3), cell_below hb1 (cell_below (below_drew (below_alloc (Below.refl _ _) _)) x4), cell_below hb1 (cell_below (below_drew (below_alloc (Below.refl _ _) _)) x5), cell_below hb1 (cell_below (below_drew (below_alloc (Below.refl _ _) _)) hp0), cell_below hb1 (cell_below (below_drew (below_alloc (Below.refl _ _) _)) hp1)⟩ (fun hHeld => ?_)
      clear hK K
      refine nm 46 ?_
      refine pu 5 41 ?_
      refine pu 6 47 ?_
      refine pu 7 48 ?_
      refine pu 8 49 ?_
      exact norm_ (by simp only [putAll, Act.put, List.setIfInBounds_toArray, List.set_cons_zero, List.set_cons_succ]) (hCont (wr.heap.size, (A', c'), (B', d')) _ ⟨h1, h2, h3, h4, Nat.le_refl _, (hb1.block _ (lt_of_block (heap_alloc_new _ _))).trans (heap_alloc_new _ _), below_step (below_drew (below_alloc (Below.refl _ _) _)) hb1⟩)
    rintro ⟨gu, ⟨A', c'⟩, ⟨B', d'⟩⟩ w2 ⟨h1, h2, h3, h4, hgu, hbk, hbw⟩
    have hHeld := And.intro (cell_below hbw x0) (And.intro (cell_below hbw x1) (And.intro (cell_below hbw x2) (And.intro (cell_below hbw x3) (And.intro (cell_below hbw x4) (And.intro (cell_below hbw x5) (And.intro (cell_below hbw hp0) ((cell_below hbw hp1))))))))
    have bc0 := blk_cell hbk 0 rfl
    have bc1 := blk_cell hbk 1 rfl
    have bf0 := blk_free hbk 0
    have bf1 := blk_free hbk 1
    refine norm_ (a' := ?_) ?_ ?_
    rotate_left
    ·simp only [putAll, Act.put, List.setIfInBounds_toArray, List.set_cons_zero, List.set_cons_succ]
     rfl
    refine last_ (i := 10) (N := none) #[J,J,J,J,J,J,J,J,J,J,J,Z,Z] rfl rfl (by kernel_rfl) (by decide) (fun K hK => ?_)
    refine skip_ (w1 := ?_) (by rfl) rfl ?_ ?_
    rotate_left
    ·go_simp
     rfl
    refine hK.out _ _ ?_
    clear hK K
    refine pu 11 10 ?_
    refine pu 12 11 ?_
    refine done_ (by kernel_rfl) ?_
    obtain ⟨Wp, hWp⟩ : ∃ Wp, Wp = (w2.setCell ⟨gu, 0, none⟩ (.int .i64 q1)).setCell ⟨gu, 1, none⟩ (.int .i64 q2) := ⟨_, rfl⟩
    have BP : Below wr.heap.size wr Wp := by rw [hWp]; exact below_set2 hgu (below_set2 hgu hbw)
    have hU : Wp.heap[gu]? = some (.cells #[.int .i64 q1, .int .i64 q2] 28 (0, 0)) := by rw [hWp]; exact blk_set (i := 1) (blk_set (i := 0) hbk _) _
    have KP : KeptS (fun k => k = gu) w2 Wp := by rw [hWp]; exact kept_set rfl (kept_set rfl (kept_refl _ _))
    have rY : Row Ty.i64 (fun k => (ok k ∧ k < w.heap.size) ∨ k = g) Wp A' Ya := h2.step (fun k hk hlt => KP.block k hlt (fun e : k = gu => by have := HB.out.size; omega))
    have rZ : Row Ty.i64 (fun k => (ok k ∧ k < w.heap.size) ∨ k = g) Wp B' Yb := h4.step (fun k hk hlt => KP.block k hlt (fun e : k = gu => by have := HB.out.size; omega))
    rw [← hWp]
    have HPp := blk_below HP BP
    have HZp := blk_below HZ BP
    have C1p : Hid (_) := Lib.hid (fun W hb => C1.out W (below_step BP hb))
    have z0 := cell_below BP y0
    have z1 := cell_below BP y1
    have z2 := cell_below BP y2
    have z3 := cell_below BP y3
    have z4 := cell_below BP y4
    have z5 := cell_below BP y5
    have BWp : Hid (Below w.heap.size w Wp) := below_step BW.out BP
    have hwp := BP.size
    have hc1 := h1
    have hc2 := h3
    clear hWp KP h2 h4 hbk hbw bc0 bc1 bf0 bf1 hp0 hp1 HP HZ C0 C1 x0 x1 x2 x3 x4 x5 y0 y1 y2 y3 y4 y5 HB hHeld BW
    have hp0 := blk_cell HPp 0 rfl
    have hp1 := blk_cell HPp 1 rfl
    have hpz := lt_of_block HPp
    have HY := Lib.hid rY
    have HZZ := Lib.hid rZ
    clear rY rZ
    go_wp2_with fail
    refine start_ (n := 13) (S := fun w' => w'.cell? ⟨g, 6, none⟩ = some (.int .i64 b1) ∧ w'.cell? ⟨g, 7, none⟩ = some (.int .i64 b2) ∧ w'.cell? ⟨g, 8, none⟩ = some (.int .i64 b3) ∧ w'.cell? ⟨g, 9, none⟩ = some (.int .i64 b4) ∧ w'.cell? ⟨g, 10, none⟩ = some (.slice A1 L1.length c1) ∧ w'.cell? ⟨g, 11, none⟩ = some (.slice B1 R1.length d1) ∧ w'.cell? ⟨w.heap.size, 0, none⟩ = some (.int .i64 p1) ∧ w'.cell? ⟨w.heap.size, 1, none⟩ = some (.int .i64 p2)) (ds := [10, 11, 12]) #[Z,Z,Z,Z,Z,Z,Z,Z,Z,Z,Z,Z,Z] (by kernel_rfl) rfl rfl ⟨z0, z1, z2, z3, z4, z5, hp0, hp1⟩ (fun hHeld => ?_)
    refine pu 0 51 ?_
    refine pu 1 52 ?_
    refine ta 2 53 hHeld ?_
    refine ta 3 54 hHeld ?_
    refine join_ (σ := Nat × (Option Addr × Nat) × (Option Addr × Nat)) 3 #[J,J,J,J,J,J,J,J,J,J,Z,Z,Z] (fun s => [(55, .tuple #[.agg #[.int .i64 v1, .int .i64 v2], .slice s.2.1.1 Va.length s.2.1.2, .slice s.2.2.1 Vb.length s.2.2.2]), (50, .tuple #[.agg #[.int .i64 v1, .int .i64 v2], .slice s.2.1.1 Va.length s.2.1.2, .slice s.2.2.1 Vb.length s.2.2.2]), (56, .agg #[.int .i64 v1, .int .i64 v2]), (57, .slice s.2.1.1 Va.length s.2.1.2), (58, .slice s.2.2.1 Vb.length s.2.2.2), (12, .pointer (some ⟨s.1, 0, none⟩))]) (fun s w' => Va.length ≤ s.2.1.2 ∧ Row Ty.i64 (fun k => (ok k ∧ k < w.heap.size) ∨ k = g) w' s.2.1.1 Va ∧ Vb.length ≤ s.2.2.2 ∧ Row Ty.i64 (fun k => (ok k ∧ k < w.heap.size) ∨ k = g) w' s.2.2.1 Vb ∧ Wp.heap.size ≤ s.1 ∧ w'.heap[s.1]? = some (.cells #[.int .i64 0, .int .i64 0] 28 (0, 0)) ∧ Below Wp.heap.size Wp w') ?_ ?_
    rotate_left
    ·intro hCont
     refine two_ (i := 4) (j := 9) (Ni := some 55) (Nj := some 12) #[J,J,J,J,J,Z,Z,Z,Z,Z,Z,Z,Z] #[J,J,J,J,Z,Z,Z,Z,Z,J,Z,Z,Z] rfl rfl rfl rfl (by kernel_rfl) (by decide) (by decide) (fun K hK => ?_) (fun K hK => ?_)
     ·skip
      refine goes_ Tryz.func39 (by kernel_rfl) rfl #[.agg #[.int .i64 b1, .int .i64 b2, .int .i64 b3, .int .i64 b4, .slice A1 L1.length c1, .slice B1 R1.length d1], .agg #[.int .i64 p1, .int .i64 p2]] (by rfl) rfl rfl (by simp only [List.map_toArray, List.map_cons, List.map_nil]; rfl) ?_
      with_reducible refine (C1p.out _ (below_drew (Below.refl _ _))).mono ?_
      rintro e w1 ⟨A', c', B', d', X', Y', Z', rfl, rfl, rfl, rfl, h1, h2, h3, h4, hb1⟩
      refine ⟨_, rfl, ?_⟩
      refine hK.out _ _ ⟨cell_below hb1 z0, cell_below hb1 z1, cell_below hb1 z2, cell_below hb1 z3, cell_below hb1 z4, cell_below hb1 z5, cell_below hb1 hp0, cell_below hb1 hp1⟩ (fun hHeld => ?_)
      clear hK K
      refine nm 55 ?_
      refine pu 5 50 ?_
      refine pu 6 56 ?_
      refine pu 7 57 ?_
      refine pu 8 58 ?_
      refine one_ (i := 9) (N := some 12) #[J,J,J,J,J,J,J,J,J,J,Z,Z,Z] rfl rfl (by kernel_rfl) (by decide) (fun K hK => ?_)
      refine value_ (w1 := ?_) (v := ?_) (by rfl) rfl ?_ ?_
      rotate_left 2
      ·go_simp
       constructor
       ·rfl
       ·rfl
      refine hK.out _ _ ⟨cell_below (below_alloc (Below.refl _ _) _) (cell_below hb1 z0), cell_below (below_alloc (Below.refl _ _) _) (cell_below hb1 z1), cell_below (below_alloc (Below.refl _ _) _) (cell_below hb1 z2), cell_below (below_alloc (Below.refl _ _) _) (cell_below hb1 z3), cell_below (below_alloc (Below.refl _ _) _) (cell_below hb1 z4), cell_below (below_alloc (Below.refl _ _) _) (cell_below hb1 z5), cell_below (below_alloc (Below.refl _ _) _) (cell_below hb1 hp0), cell_below (below_alloc (Below.refl _ _) _) (cell_below hb1 hp1)⟩ (fun hHeld => ?_)
      clear hK K
      refine nm 12 ?_
      exact norm_ (by simp only [putAll, Act.put, List.setIfInBounds_toArray, List.set_cons_zero, List.set_cons_succ]) (hCont (w1.heap.size, (A', c'), (B', d')) _ ⟨h1, h2.alloc _, h3, h4.alloc _, hb1.size, heap_alloc_new _ _, below_alloc (below_step (below_drew (Below.refl _ _)) hb1) _⟩)
     ·skip
      refine value_ (w1 := ?_) (v := ?_) (by rfl) rfl ?_ ?_
      rotate_left 2
      ·go_simp
       constructor
       ·rfl
       ·rfl
      refine hK.out _ _ ⟨cell_below (below_alloc (Below.refl _ _) _) z0, cell_below (below_alloc (Below.refl _ _) _) z1, cell_below (below_alloc (Below.refl _ _) _) z2, cell_below (below_alloc (Below.refl _ _) _) z3, cell_below (below_alloc (Below.refl _ _) _) z4, cell_below (below_alloc (Below.refl _ _) _) z5, cell_below (below_alloc (Below.refl _ _) _) hp0, cell_below (below_alloc (Below.refl _ _) _) hp1⟩ (fun hHeld => ?_)
      clear hK K
      refine nm 12 ?_
      refine one_ (i := 4) (N := some 55) #[J,J,J,J,J,Z,Z,Z,Z,J,Z,Z,Z] rfl rfl (by kernel_rfl) (by decide) (fun K hK => ?_)
      refine goes_ Tryz.func39 (by kernel_rfl) rfl #[.agg #[.int .i64 b1, .int .i64 b2, .int .i64 b3, .int .i64 b4, .slice A1 L1.length c1, .slice B1 R1.length d1], .agg #[.int .i64 p1, .int .i64 p2]] (by rfl) rfl rfl (by simp only [List.map_toArray, List.map_cons, List.map_nil]; rfl) ?_
      with_reducible refine (C1p.out _ (below_drew (below_alloc (Below.refl _ _) _))).mono ?_
      rintro e w1 ⟨A', c', B', d', X', Y', Z', rfl, rfl, rfl, rfl, h1, h2, h3, h4, hb1⟩
      refine ⟨_, rfl, ?_⟩
      refine hK.out _ _ ⟨cell_below hb1 (cell_below (below_drew (below_alloc (Below.refl _ _) _)) z0), cell_below hb1 (cell_below (below_drew (below_alloc (Below.refl _ _) _)) z1), cell_below hb1 (cell_below (below_drew (below_alloc (Below.refl _ _) _)) z2), cell_below hb1 (cell_below (below_drew (below_alloc (Below.refl _ _) _)) z3), cell_below hb1 (cell_below (below_drew (below_alloc (Below.refl _ _) _)) z4), cell_below hb1 (cell_below (below_drew (below_alloc (Below.refl _ _) _)) z5), cell_below hb1 (cell_below (below_drew (below_alloc (Below.refl _ _) _)) hp0), cell_below hb1 (cell_below (below_drew (below_alloc (Below.refl _ _) _)) hp1)⟩ (fun hHeld => ?_)
      clear hK K
      refine nm 55 ?_
      refine pu 5 50 ?_
      refine pu 6 56 ?_
      refine pu 7 57 ?_
      refine pu 8 58 ?_
      exact norm_ (by simp only [putAll, Act.put, List.setIfInBounds_toArray, List.set_cons_zero, List.set_cons_succ]) (hCont (Wp.heap.size, (A', c'), (B', d')) _ ⟨h1, h2, h3, h4, Nat.le_refl _, (hb1.block _ (lt_of_block (heap_alloc_new _ _))).trans (heap_alloc_new _ _), below_step (below_drew (below_alloc (Below.refl _ _) _)) hb1⟩)
    rintro ⟨gv, ⟨E', f'⟩, ⟨G', i'⟩⟩ w4 ⟨k1, k2, k3, k4, hgv, hbk, hbv⟩
    have hHeld := And.intro (cell_below hbv z0) (And.intro (cell_below hbv z1) (And.intro (cell_below hbv z2) (And.intro (cell_below hbv z3) (And.intro (cell_below hbv z4) (And.intro (cell_below hbv z5) (And.intro (cell_below hbv hp0) ((cell_below hbv hp1))))))))
    have bc0 := blk_cell hbk 0 rfl
    have bc1 := blk_cell hbk 1 rfl
    have bf0 := blk_free hbk 0
    have bf1 := blk_free hbk 1
    refine norm_ (a' := ?_) ?_ ?_
    rotate_left
    ·simp only [putAll, Act.put, List.setIfInBounds_toArray, List.set_cons_zero, List.set_cons_succ]
     rfl
    refine last_ (i := 10) (N := none) #[J,J,J,J,J,J,J,J,J,J,J,Z,Z] rfl rfl (by kernel_rfl) (by decide) (fun K hK => ?_)
    refine skip_ (w1 := ?_) (by rfl) rfl ?_ ?_
    rotate_left
    ·go_simp
     rfl
    refine hK.out _ _ ?_
    clear hK K
    refine pu 11 13 ?_
    refine pu 12 14 ?_
    refine done_ (by kernel_rfl) ?_
    obtain ⟨Wq, hWq⟩ : ∃ Wq, Wq = (w4.setCell ⟨gv, 0, none⟩ (.int .i64 v1)).setCell ⟨gv, 1, none⟩ (.int .i64 v2) := ⟨_, rfl⟩
    have BQ : Below Wp.heap.size Wp Wq := by rw [hWq]; exact below_set2 hgv (below_set2 hgv hbv)
    have hV : Wq.heap[gv]? = some (.cells #[.int .i64 v1, .int .i64 v2] 28 (0, 0)) := by rw [hWq]; exact blk_set (i := 1) (blk_set (i := 0) hbk _) _
    have KQ : KeptS (fun k => k = gv) w4 Wq := by rw [hWq]; exact kept_set rfl (kept_set rfl (kept_refl _ _))
    have HVa : Hid (Row Ty.i64 (fun k => (ok k ∧ k < w.heap.size) ∨ k = g) Wq E' Va) := k2.step (fun k hk hlt => KQ.block k hlt (fun e : k = gv => by omega))
    have HVb : Hid (Row Ty.i64 (fun k => (ok k ∧ k < w.heap.size) ∨ k = g) Wq G' Vb) := k4.step (fun k hk hlt => KQ.block k hlt (fun e : k = gv => by omega))
    have HYq := Lib.hid (HY.out.below BQ)
    have HZq := Lib.hid (HZZ.out.below BQ)
    rw [← hWq]
    have HPq := blk_below HPp BQ
    have HRq := blk_below HZp BQ
    have hUq := blk_below hU BQ
    have BWq : Hid (Below w.heap.size w Wq) := below_step BWp.out BQ
    clear hWq KQ k2 k4 hbk hbv bc0 bc1 bf0 bf1 hp0 hp1 HPp HZp C1p z0 z1 z2 z3 z4 z5 hHeld BWp HY HZZ hU BQ BP
    have hp0 := blk_cell HPq 0 rfl
    have hp1 := blk_cell HPq 1 rfl
    have hpz := lt_of_block HPq
    have hu0 := blk_cell hUq 0 rfl
    have hu1 := blk_cell hUq 1 rfl
    have hv0 := blk_cell hV 0 rfl
    have hv1 := blk_cell hV 1 rfl
    have htb := turn_bd (q1, q2) (p1, p2) (v1, v2)
    have CT := Lib.hid (fun W => seg_Turn q1 q2 p1 p2 v1 v2 W)
    generalize turnZ (q1, q2) (p1, p2) (v1, v2) = tz at *
    go_wp2_with fail
    refine Calls.mono (CT.out _) ?_
    rintro e w5 ⟨rfl, hb5⟩
    have HP5 := blk_below HPq hb5
    have HR5 := blk_below HRq hb5
    have hU5 := blk_below hUq hb5
    have hV5 := blk_below hV hb5
    have HVa5 := Lib.hid (HVa.out.below hb5)
    have HVb5 := Lib.hid (HVb.out.below hb5)
    have HY5 := Lib.hid (HYq.out.below hb5)
    have HZ5 := Lib.hid (HZq.out.below hb5)
    have BW5 : Hid (Below w.heap.size w w5) := below_step BWq.out hb5
    clear hp0 hp1 hpz hu0 hu1 hv0 hv1 CT HPq HRq hUq hV HVa HVb HYq HZq BWq hb5
    have hp0 := blk_cell HP5 0 rfl
    have hp1 := blk_cell HP5 1 rfl
    have hpz := lt_of_block HP5
    have hu0 := blk_cell hU5 0 rfl
    have hu1 := blk_cell hU5 1 rfl
    have hv0 := blk_cell hV5 0 rfl
    have hv1 := blk_cell hV5 1 rfl
    have hwn : IntKind.i64.wrap (-tz) = -tz := IntWalk.i64_in _ (by omega)
    have E1 := (fun W (hb : Below w5.heap.size w5 W) => Equal_int (ok := fun k => (ok k ∧ k < w.heap.size) ∨ k = g) (ok' := fun k => (ok k ∧ k < w.heap.size) ∨ k = g) Va Yb E' B' Va.length Yb.length f' d' W (HVa5.out.below hb) (HZ5.out.below hb) rfl rfl)
    have E2 := (fun W (hb : Below w5.heap.size w5 W) => Equal_int (ok := fun k => (ok k ∧ k < w.heap.size) ∨ k = g) (ok' := fun k => (ok k ∧ k < w.heap.size) ∨ k = g) Vb Ya G' A' Vb.length Ya.length i' c' W (HVb5.out.below hb) (HY5.out.below hb) rfl rfl)
    obtain ⟨s1, hs1⟩ : ∃ b, b = decide (Va = Yb) := ⟨_, rfl⟩
    obtain ⟨s2, hs2⟩ : ∃ b, b = decide (Vb = Ya) := ⟨_, rfl⟩
    rw [← hs1] at E1
    rw [← hs2] at E2
    simp only [← hs1, ← hs2] at HA
    clear hs1 hs2
    have E1 := Lib.hid E1
    have E2 := Lib.hid E2
    have rc0 := blk_cell HR5 0 rfl
    cases s1
    ·go_wp2_with fail
     refine start_ (n := 20) (S := fun w' => w'.cell? ⟨gu, 0, none⟩ = some (.int .i64 q1) ∧ w'.cell? ⟨gu, 1, none⟩ = some (.int .i64 q2) ∧ w'.cell? ⟨w.heap.size, 0, none⟩ = some (.int .i64 p1) ∧ w'.cell? ⟨w.heap.size, 1, none⟩ = some (.int .i64 p2) ∧ w'.cell? ⟨gv, 0, none⟩ = some (.int .i64 v1) ∧ w'.cell? ⟨gv, 1, none⟩ = some (.int .i64 v2)) (ds := [18, 19]) #[Z,Z,Z,Z,Z,Z,Z,Z,Z,Z,Z,Z,Z,Z,Z,Z,Z,Z,Z,Z] (by kernel_rfl) rfl rfl ⟨hu0, hu1, hp0, hp1, hv0, hv1⟩ (fun hHeld => ?_)
     refine pu 3 66 ?_
     refine pu 4 67 ?_
     refine pu 5 68 ?_
     refine pu 6 69 ?_
     refine pu 7 70 ?_
     refine pu 8 71 ?_
     refine pu 9 72 ?_
     refine pu 10 73 ?_
     refine ta 0 63 hHeld ?_
     refine ta 1 64 hHeld ?_
     refine ta 2 65 hHeld ?_
     refine one_ (i := 11) (N := some 74) #[J,J,J,J,J,J,J,J,J,J,J,J,Z,Z,Z,Z,Z,Z,Z,Z] rfl rfl (by kernel_rfl) (by decide) (fun K hK => ?_)
     refine goes_ Tryz.func41 (by kernel_rfl) rfl #[.slice E' Va.length f', .slice B' Yb.length d'] (by rfl) rfl rfl (by simp only [List.map_toArray, List.map_cons, List.map_nil]; rfl) ?_
     with_reducible refine (E1.out _ (below_drew (Below.refl _ _))).mono ?_
     rintro e w6 ⟨rfl, hb6⟩
     refine ⟨_, rfl, ?_⟩
     have B7 : Below w5.heap.size w5 w6 := (by repeat (first | exact Below.refl _ _ | apply below_alloc | apply below_drewN | apply below_drew | (refine below_set2 ?_ ?_; (first | (simp; done) | (simp; omega))) | (refine below_step ?_ hb6)))
     have HR7 := blk_below HR5 B7
     have rc0 := blk_cell HR7 0 rfl
     have rc1 := blk_cell HR7 1 rfl
     have rc2 := blk_cell HR7 2 rfl
     have rc3 := blk_cell HR7 3 rfl
     have rc4 := blk_cell HR7 4 rfl
     have rc5 := blk_cell HR7 5 rfl
     have rc6 := blk_cell HR7 6 rfl
     have rc7 := blk_cell HR7 7 rfl
     have rc8 := blk_cell HR7 8 rfl
     have rc9 := blk_cell HR7 9 rfl
     have rf0 := blk_free HR7 0
     have rf1 := blk_free HR7 1
     have rf2 := blk_free HR7 2
     have rf3 := blk_free HR7 3
     have rf4 := blk_free HR7 4
     have rf5 := blk_free HR7 5
     have rf6 := blk_free HR7 6
     have rf7 := blk_free HR7 7
     have rf8 := blk_free HR7 8
     have rf9 := blk_free HR7 9
     refine hK.out _ _ ⟨cell_below hb6 hu0, cell_below hb6 hu1, cell_below hb6 hp0, cell_below hb6 hp1, cell_below hb6 hv0, cell_below hb6 hv1⟩ (fun hHeld => ?_)
     clear hK K
     refine nm 74 ?_
     refine pu 12 75 ?_
     refine pn 13 76 ?_
     refine pn 14 77 ?_
     refine pn 15 78 ?_
     refine pu 16 79 ?_
     refine pu 17 80 ?_
     refine last_ (i := 18) (N := none) #[J,J,J,J,J,J,J,J,J,J,J,J,J,J,J,J,J,J,J,Z] rfl rfl (by kernel_rfl) (by decide) (fun K hK => ?_)
     refine skip_ (w1 := ?_) (by rfl) rfl ?_ ?_
     rotate_left
     ·go_simp
      rfl
     refine hK.out _ _ ?_
     clear hK K
     refine pu 19 5 ?_
     refine done_ (by kernel_rfl) ?_
     obtain ⟨WF, hWF⟩ : ∃ WF, WF = (((((((((w6.setCell ⟨w.heap.size + 1, 0, none⟩ (.int .i64 q1)).setCell ⟨w.heap.size + 1, 1, none⟩ (.int .i64 q2)).setCell ⟨w.heap.size + 1, 2, none⟩ (.int .i64 p1)).setCell ⟨w.heap.size + 1, 3, none⟩ (.int .i64 p2)).setCell ⟨w.heap.size + 1, 4, none⟩ (.int .i64 v1)).setCell ⟨w.heap.size + 1, 5, none⟩ (.int .i64 v2)).setCell ⟨w.heap.size + 1, 6, none⟩ (.int .i64 (max tz (-tz)))).setCell ⟨w.heap.size + 1, 7, none⟩ (.slice B' Yb.length d')).setCell ⟨w.heap.size + 1, 8, none⟩ (.slice A' Ya.length c')).setCell ⟨w.heap.size + 1, 9, none⟩ (.bool false) := ⟨_, rfl⟩
     have KF : KeptS (fun k => k = w.heap.size + 1) w6 WF := by rw [hWF]; exact kept_set rfl (kept_set rfl (kept_set rfl (kept_set rfl (kept_set rfl (kept_set rfl (kept_set rfl (kept_set rfl (kept_set rfl (kept_set rfl (kept_refl _ _))))))))))
     have hF := (blk_set (i := 9) (blk_set (i := 8) (blk_set (i := 7) (blk_set (i := 6) (blk_set (i := 5) (blk_set (i := 4) (blk_set (i := 3) (blk_set (i := 2) (blk_set (i := 1) (blk_set (i := 0) HR7 (.int .i64 q1)) (.int .i64 q2)) (.int .i64 p1)) (.int .i64 p2)) (.int .i64 v1)) (.int .i64 v2)) (.int .i64 (max tz (-tz)))) (.slice B' Yb.length d')) (.slice A' Ya.length c')) (.bool false))
     have hwz2 : w.heap.size + 1 < W0.heap.size := lt_of_block hZ
     have HYF : Hid (Row Ty.i64 (fun k => (ok k ∧ k < w.heap.size) ∨ k = g) WF A' Ya) := (HY5.out.below B7).step (fun k hk hlt => KF.block k hlt (fun e : k = w.heap.size + 1 => by omega))
     have HZF : Hid (Row Ty.i64 (fun k => (ok k ∧ k < w.heap.size) ∨ k = g) WF B' Yb) := (HZ5.out.below B7).step (fun k hk hlt => KF.block k hlt (fun e : k = w.heap.size + 1 => by omega))
     have BF : Hid (Below w.heap.size w WF) := below_kept (below_step BW5.out B7) KF (fun b hb => by omega)
     simp only [List.setIfInBounds_toArray, List.set_cons_zero, List.set_cons_succ] at hF
     rw [← hWF] at hF ⊢
     clear hWF KF hHeld rc0 rc1 rc2 rc3 rc4 rc5 rc6 rc7 rc8 rc9 rf0 rf1 rf2 rf3 rf4 rf5 rf6 rf7 rf8 rf9 hu0 hu1 hv0 hv1 hp0 hp1
     have rc0 := blk_cell hF 0 rfl
     have rc1 := blk_cell hF 1 rfl
     have rc2 := blk_cell hF 2 rfl
     have rc3 := blk_cell hF 3 rfl
     have rc4 := blk_cell hF 4 rfl
     have rc5 := blk_cell hF 5 rfl
     have rc6 := blk_cell hF 6 rfl
     have rc7 := blk_cell hF 7 rfl
     have rc8 := blk_cell hF 8 rfl
     have rc9 := blk_cell hF 9 rfl
     go_wp2
     refine bodyPost_ret (v := .tuple #[corV (q1, q2) (p1, p2) (v1, v2) (max tz (-tz)) B' Yb.length d' A' Ya.length c' false, .bool true]) ?_ rfl ⟨?_, BF.out⟩
     ·simp [results, Tryz.results16]
      go_simp
     ·rw [HA.out]
      exact ⟨_, rfl, B', d', A', c', rfl, hc2, HZF.out.mono (fun k hk => hk.elim (fun h => .inl h.1) (fun h => .inr (by omega))), hc1, HYF.out.mono (fun k hk => hk.elim (fun h => .inl h.1) (fun h => .inr (by omega)))⟩
    ·go_wp2_with fail
     refine start_ (n := 20) (S := fun w' => w'.cell? ⟨gu, 0, none⟩ = some (.int .i64 q1) ∧ w'.cell? ⟨gu, 1, none⟩ = some (.int .i64 q2) ∧ w'.cell? ⟨w.heap.size, 0, none⟩ = some (.int .i64 p1) ∧ w'.cell? ⟨w.heap.size, 1, none⟩ = some (.int .i64 p2) ∧ w'.cell? ⟨gv, 0, none⟩ = some (.int .i64 v1) ∧ w'.cell? ⟨gv, 1, none⟩ = some (.int .i64 v2)) (ds := [18, 19]) #[Z,Z,Z,Z,Z,Z,Z,Z,Z,Z,Z,Z,Z,Z,Z,Z,Z,Z,Z,Z] (by kernel_rfl) rfl rfl ⟨hu0, hu1, hp0, hp1, hv0, hv1⟩ (fun hHeld => ?_)
     refine pu 3 66 ?_
     refine pu 4 67 ?_
     refine pu 5 68 ?_
     refine pu 6 69 ?_
     refine pu 7 70 ?_
     refine pu 8 71 ?_
     refine pu 9 72 ?_
     refine pu 10 73 ?_
     refine ta 0 63 hHeld ?_
     refine ta 1 64 hHeld ?_
     refine ta 2 65 hHeld ?_
     refine one_ (i := 11) (N := some 74) #[J,J,J,J,J,J,J,J,J,J,J,J,Z,Z,Z,Z,Z,Z,Z,Z] rfl rfl (by kernel_rfl) (by decide) (fun K hK => ?_)
     refine goes_ Tryz.func41 (by kernel_rfl) rfl #[.slice E' Va.length f', .slice B' Yb.length d'] (by rfl) rfl rfl (by simp only [List.map_toArray, List.map_cons, List.map_nil]; rfl) ?_
     with_reducible refine (E1.out _ (below_drew (Below.refl _ _))).mono ?_
     rintro e w6 ⟨rfl, hb6⟩
     refine ⟨_, rfl, ?_⟩
     refine hK.out _ _ ⟨cell_below hb6 hu0, cell_below hb6 hu1, cell_below hb6 hp0, cell_below hb6 hp1, cell_below hb6 hv0, cell_below hb6 hv1⟩ (fun hHeld => ?_)
     clear hK K
     refine nm 74 ?_
     refine pu 12 75 ?_
     refine pu 13 76 ?_
     refine pu 14 77 ?_
     refine one_ (i := 15) (N := some 78) #[J,J,J,J,J,J,J,J,J,J,J,J,J,J,J,J,Z,Z,Z,Z] rfl rfl (by kernel_rfl) (by decide) (fun K hK => ?_)
     refine goes_ Tryz.func41 (by kernel_rfl) rfl #[.slice G' Vb.length i', .slice A' Ya.length c'] (by rfl) rfl rfl (by simp only [List.map_toArray, List.map_cons, List.map_nil]; rfl) ?_
     with_reducible refine (E2.out _ (below_step (below_drew (Below.refl _ _)) hb6)).mono ?_
     rintro e w7 ⟨rfl, hb7⟩
     refine ⟨_, rfl, ?_⟩
     have B7 : Below w5.heap.size w5 w7 := (by repeat (first | exact Below.refl _ _ | apply below_alloc | apply below_drewN | apply below_drew | (refine below_set2 ?_ ?_; (first | (simp; done) | (simp; omega))) | (refine below_step ?_ hb7) | (refine below_step ?_ hb6)))
     have HR7 := blk_below HR5 B7
     have rc0 := blk_cell HR7 0 rfl
     have rc1 := blk_cell HR7 1 rfl
     have rc2 := blk_cell HR7 2 rfl
     have rc3 := blk_cell HR7 3 rfl
     have rc4 := blk_cell HR7 4 rfl
     have rc5 := blk_cell HR7 5 rfl
     have rc6 := blk_cell HR7 6 rfl
     have rc7 := blk_cell HR7 7 rfl
     have rc8 := blk_cell HR7 8 rfl
     have rc9 := blk_cell HR7 9 rfl
     have rf0 := blk_free HR7 0
     have rf1 := blk_free HR7 1
     have rf2 := blk_free HR7 2
     have rf3 := blk_free HR7 3
     have rf4 := blk_free HR7 4
     have rf5 := blk_free HR7 5
     have rf6 := blk_free HR7 6
     have rf7 := blk_free HR7 7
     have rf8 := blk_free HR7 8
     have rf9 := blk_free HR7 9
     refine hK.out _ _ ⟨cell_below hb7 (cell_below hb6 hu0), cell_below hb7 (cell_below hb6 hu1), cell_below hb7 (cell_below hb6 hp0), cell_below hb7 (cell_below hb6 hp1), cell_below hb7 (cell_below hb6 hv0), cell_below hb7 (cell_below hb6 hv1)⟩ (fun hHeld => ?_)
     clear hK K
     refine nm 78 ?_
     refine pu 16 79 ?_
     refine pu 17 80 ?_
     refine last_ (i := 18) (N := none) #[J,J,J,J,J,J,J,J,J,J,J,J,J,J,J,J,J,J,J,Z] rfl rfl (by kernel_rfl) (by decide) (fun K hK => ?_)
     refine skip_ (w1 := ?_) (by rfl) rfl ?_ ?_
     rotate_left
     ·go_simp
      rfl
     refine hK.out _ _ ?_
     clear hK K
     refine pu 19 5 ?_
     refine done_ (by kernel_rfl) ?_
     obtain ⟨WF, hWF⟩ : ∃ WF, WF = (((((((((w7.setCell ⟨w.heap.size + 1, 0, none⟩ (.int .i64 q1)).setCell ⟨w.heap.size + 1, 1, none⟩ (.int .i64 q2)).setCell ⟨w.heap.size + 1, 2, none⟩ (.int .i64 p1)).setCell ⟨w.heap.size + 1, 3, none⟩ (.int .i64 p2)).setCell ⟨w.heap.size + 1, 4, none⟩ (.int .i64 v1)).setCell ⟨w.heap.size + 1, 5, none⟩ (.int .i64 v2)).setCell ⟨w.heap.size + 1, 6, none⟩ (.int .i64 (max tz (-tz)))).setCell ⟨w.heap.size + 1, 7, none⟩ (.slice B' Yb.length d')).setCell ⟨w.heap.size + 1, 8, none⟩ (.slice A' Ya.length c')).setCell ⟨w.heap.size + 1, 9, none⟩ (.bool s2) := ⟨_, rfl⟩
     have KF : KeptS (fun k => k = w.heap.size + 1) w7 WF := by rw [hWF]; exact kept_set rfl (kept_set rfl (kept_set rfl (kept_set rfl (kept_set rfl (kept_set rfl (kept_set rfl (kept_set rfl (kept_set rfl (kept_set rfl (kept_refl _ _))))))))))
     have hF := (blk_set (i := 9) (blk_set (i := 8) (blk_set (i := 7) (blk_set (i := 6) (blk_set (i := 5) (blk_set (i := 4) (blk_set (i := 3) (blk_set (i := 2) (blk_set (i := 1) (blk_set (i := 0) HR7 (.int .i64 q1)) (.int .i64 q2)) (.int .i64 p1)) (.int .i64 p2)) (.int .i64 v1)) (.int .i64 v2)) (.int .i64 (max tz (-tz)))) (.slice B' Yb.length d')) (.slice A' Ya.length c')) (.bool s2))
     have hwz2 : w.heap.size + 1 < W0.heap.size := lt_of_block hZ
     have HYF : Hid (Row Ty.i64 (fun k => (ok k ∧ k < w.heap.size) ∨ k = g) WF A' Ya) := (HY5.out.below B7).step (fun k hk hlt => KF.block k hlt (fun e : k = w.heap.size + 1 => by omega))
     have HZF : Hid (Row Ty.i64 (fun k => (ok k ∧ k < w.heap.size) ∨ k = g) WF B' Yb) := (HZ5.out.below B7).step (fun k hk hlt => KF.block k hlt (fun e : k = w.heap.size + 1 => by omega))
     have BF : Hid (Below w.heap.size w WF) := below_kept (below_step BW5.out B7) KF (fun b hb => by omega)
     simp only [List.setIfInBounds_toArray, List.set_cons_zero, List.set_cons_succ] at hF
     rw [← hWF] at hF ⊢
     clear hWF KF hHeld rc0 rc1 rc2 rc3 rc4 rc5 rc6 rc7 rc8 rc9 rf0 rf1 rf2 rf3 rf4 rf5 rf6 rf7 rf8 rf9 hu0 hu1 hv0 hv1 hp0 hp1
     have rc0 := blk_cell hF 0 rfl
     have rc1 := blk_cell hF 1 rfl
     have rc2 := blk_cell hF 2 rfl
     have rc3 := blk_cell hF 3 rfl
     have rc4 := blk_cell hF 4 rfl
     have rc5 := blk_cell hF 5 rfl
     have rc6 := blk_cell hF 6 rfl
     have rc7 := blk_cell hF 7 rfl
     have rc8 := blk_cell hF 8 rfl
     have rc9 := blk_cell hF 9 rfl
     go_wp2
     refine bodyPost_ret (v := .tuple #[corV (q1, q2) (p1, p2) (v1, v2) (max tz (-tz)) B' Yb.length d' A' Ya.length c' s2, .bool true]) ?_ rfl ⟨?_, BF.out⟩
     ·simp [results, Tryz.results16]
      go_simp
     ·rw [HA.out]
      exact ⟨_, rfl, B', d', A', c', rfl, hc2, HZF.out.mono (fun k hk => hk.elim (fun h => .inl h.1) (fun h => .inr (by omega))), hc1, HYF.out.mono (fun k hk => hk.elim (fun h => .inl h.1) (fun h => .inr (by omega)))⟩
   ·have HA : Hid (atZ m (p1, p2) = none) := if_neg h2
    have BW : Hid (Below w.heap.size w wr) := below_step B0 HB.out
    have hwz2 : w.heap.size + 1 < W0.heap.size := lt_of_block hZ
    have q : ((((m.filter (endE (p1, p2))).length : Nat) : Int) != 2) = true := by simp; omega
    obtain ⟨Al, cl, rfl, _, _⟩ := OwnR.reads HO.out
    have rc0 := blk_cell HZ 0 rfl
    have rf0 := blk_free HZ 0
    have rc1 := blk_cell HZ 1 rfl
    have rf1 := blk_free HZ 1
    have rc2 := blk_cell HZ 2 rfl
    have rf2 := blk_free HZ 2
    have rc3 := blk_cell HZ 3 rfl
    have rf3 := blk_free HZ 3
    have rc4 := blk_cell HZ 4 rfl
    have rf4 := blk_free HZ 4
    have rc5 := blk_cell HZ 5 rfl
    have rf5 := blk_free HZ 5
    have rc6 := blk_cell HZ 6 rfl
    have rf6 := blk_free HZ 6
    have rc7 := blk_cell HZ 7 rfl
    have rf7 := blk_free HZ 7
    have rc8 := blk_cell HZ 8 rfl
    have rf8 := blk_free HZ 8
    have rc9 := blk_cell HZ 9 rfl
    have rf9 := blk_free HZ 9
    go_wp2
    refine bodyPost_ret (v := .tuple #[corV (0, 0) (0, 0) (0, 0) 0 none 0 0 none 0 0 false, .bool false]) ?_ rfl ⟨by rw [HA.out]; rfl, by (iterate 10 refine below_set2 (Nat.le_succ _) ?_); exact BW.out⟩
    simp [results, Tryz.results16]
    go_simp
end
section
open Go.RowKit Go.Proofs.YtaeflnbjeaoapaaGreatW.PrintLast

attribute [local go_sem high] eqPt eqSg
theorem inside_of (a c d b : Pt) (h : ¬ turnZ a c d < 0) : insideZ a c d b = (decide (turnZ a c b ≥ 0) && decide (turnZ a b d ≥ 0)) := by unfold insideZ; simp [h]
theorem inside_sw (a c d b : Pt) (h : turnZ a c d < 0) : insideZ a c d b = (decide (turnZ a d b ≥ 0) && decide (turnZ a b c ≥ 0)) := by unfold insideZ; simp [h]
set_option maxHeartbeats 1000000 in
theorem simplify_inside (a c d b : Pt) (w : World) : Calls Tryz.prog 77 #[ptA a, ptA c, ptA d, ptA b] w fun e w' => e = .returned (.bool (insideZ a c d b)) ∧ Below w.heap.size w w' := by
 obtain ⟨a1, a2⟩ := a
 obtain ⟨b1, b2⟩ := b
 obtain ⟨c1, c2⟩ := c
 obtain ⟨d1, d2⟩ := d
 obtain ⟨W0, hW0⟩ : ∃ W0, W0 = (((w.alloc (.cells #[.int .i64 a1, .int .i64 a2] 28)).alloc (.cells #[.int .i64 c1, .int .i64 c2] 28)).alloc (.cells #[.int .i64 d1, .int .i64 d2] 28)).alloc (.cells #[.int .i64 b1, .int .i64 b2] 28) := ⟨_, rfl⟩
 have B0 : Below w.heap.size w W0 := by rw [hW0]; exact bq
 have HA : W0.heap[w.heap.size]? = some (.cells #[.int .i64 a1, .int .i64 a2] 28 (0, 0)) := by rw [hW0]; exact blk_alloc (blk_alloc (blk_alloc (heap_alloc_new _ _) _) _) _
 have HC : W0.heap[w.heap.size + 1]? = some (.cells #[.int .i64 c1, .int .i64 c2] 28 (0, 0)) := by rw [hW0]; refine blk_alloc (blk_alloc ?_ _) _; have := heap_alloc_new (w.alloc (.cells #[.int .i64 a1, .int .i64 a2] 28)) (.cells #[.int .i64 c1, .int .i64 c2] 28); simpa using this
 have HD : W0.heap[w.heap.size + 1 + 1]? = some (.cells #[.int .i64 d1, .int .i64 d2] 28 (0, 0)) := by rw [hW0]; refine blk_alloc ?_ _; have := heap_alloc_new ((w.alloc (.cells #[.int .i64 a1, .int .i64 a2] 28)).alloc (.cells #[.int .i64 c1, .int .i64 c2] 28)) (.cells #[.int .i64 d1, .int .i64 d2] 28); simpa using this
 have HB : W0.heap[w.heap.size + 1 + 1 + 1]? = some (.cells #[.int .i64 b1, .int .i64 b2] 28 (0, 0)) := by rw [hW0]; have := heap_alloc_new (((w.alloc (.cells #[.int .i64 a1, .int .i64 a2] 28)).alloc (.cells #[.int .i64 c1, .int .i64 c2] 28)).alloc (.cells #[.int .i64 d1, .int .i64 d2] 28)) (.cells #[.int .i64 b1, .int .i64 b2] 28); simpa using this
 have CT := Lib.hid (fun W => seg_Turn a1 a2 c1 c2 d1 d2 W)
 by_cases ht : turnZ (a1, a2) (c1, c2) (d1, d2) < 0
 ·have HI := Lib.hid (inside_sw (a1, a2) (c1, c2) (d1, d2) (b1, b2) ht)
  have C1 := Lib.hid (fun W => seg_Turn a1 a2 d1 d2 b1 b2 W)
  have C2 := Lib.hid (fun W => seg_Turn a1 a2 b1 b2 c1 c2 W)
  have q0 := decide_eq_true ht
  clear ht
  generalize turnZ (a1, a2) (c1, c2) (d1, d2) = t0 at *
  generalize turnZ (a1, a2) (d1, d2) (b1, b2) = t1 at *
  generalize turnZ (a1, a2) (b1, b2) (c1, c2) = t2 at *
  go_enter Tryz.func77, Tryz.ntmps77
  go_wp2_with fail
  rw [← hW0]
  clear hW0
  refine (CT.out _).mono ?_
  rintro e w1 ⟨rfl, hb1⟩
  have E1 : Below w.heap.size w w1 := below_step B0 hb1
  have EA := blk_below HA hb1
  have EC := blk_below HC hb1
  have ED := blk_below HD hb1
  have EB := blk_below HB hb1
  clear HA HC HD HB B0 hb1 CT
  have xa0 := blk_cell EA 0 rfl
  have xa1 := blk_cell EA 1 rfl
  have xc0 := blk_cell EC 0 rfl
  have xc1 := blk_cell EC 1 rfl
  have xd0 := blk_cell ED 0 rfl
  have xd1 := blk_cell ED 1 rfl
  have xb0 := blk_cell EB 0 rfl
  have xb1 := blk_cell EB 1 rfl
  have fc0 := blk_free EC 0
  have fc1 := blk_free EC 1
  have fd0 := blk_free ED 0
  have fd1 := blk_free ED 1
  go_wp2_with fail
  obtain ⟨WP, hWP⟩ : ∃ WP, WP = (((w1.setCell ⟨w.heap.size + 1, 0, none⟩ (.int .i64 d1)).setCell ⟨w.heap.size + 1, 1, none⟩ (.int .i64 d2)).setCell ⟨w.heap.size + 1 + 1, 0, none⟩ (.int .i64 c1)).setCell ⟨w.heap.size + 1 + 1, 1, none⟩ (.int .i64 c2) := ⟨_, rfl⟩
  have BP : Below w.heap.size w WP := by rw [hWP]; exact below_set2 (Nat.le_add_right _ 2) (below_set2 (Nat.le_add_right _ 2) (below_set2 (Nat.le_add_right _ 1) (below_set2 (Nat.le_add_right _ 1) E1)))
  have KP : KeptS (fun k => k = w.heap.size + 1 ∨ k = w.heap.size + 1 + 1) w1 WP := by rw [hWP]; exact kept_set (.inr rfl) (kept_set (.inr rfl) (kept_set (.inl rfl) (kept_set (.inl rfl) (kept_refl _ _))))
  have FA : WP.heap[w.heap.size]? = some (.cells #[.int .i64 a1, .int .i64 a2] 28 (0, 0)) := (KP.block _ (lt_of_block EA) (by omega)).trans EA
  have FB : WP.heap[w.heap.size + 1 + 1 + 1]? = some (.cells #[.int .i64 b1, .int .i64 b2] 28 (0, 0)) := (KP.block _ (lt_of_block EB) (by omega)).trans EB
  have FC : WP.heap[w.heap.size + 1]? = some (.cells #[.int .i64 d1, .int .i64 d2] 28 (0, 0)) := by rw [hWP]; exact blk_far (blk_far (blk_set (i := 1) (blk_set (i := 0) EC _) _) (by omega) _) (by omega) _
  have FD : WP.heap[w.heap.size + 1 + 1]? = some (.cells #[.int .i64 c1, .int .i64 c2] 28 (0, 0)) := by rw [hWP]; exact blk_set (i := 1) (blk_set (i := 0) (blk_far (blk_far ED (by omega) _) (by omega) _) _) _
  rw [← hWP]
  clear hWP KP EA EB EC ED E1 fc0 fc1 fd0 fd1 xa0 xa1 xc0 xc1 xd0 xd1 xb0 xb1
  have xa0 := blk_cell FA 0 rfl
  have xa1 := blk_cell FA 1 rfl
  have xc0 := blk_cell FC 0 rfl
  have xc1 := blk_cell FC 1 rfl
  have xd0 := blk_cell FD 0 rfl
  have xd1 := blk_cell FD 1 rfl
  have xb0 := blk_cell FB 0 rfl
  have xb1 := blk_cell FB 1 rfl
  rcases Int.lt_or_le t1 0 with h1 | h1
  ·have q1 : decide (t1 ≥ 0) = false := decide_eq_false (by omega)
   have q1' : decide (0 ≤ t1) = false := decide_eq_false (by omega)
   have HI2 : Hid (insideZ (a1, a2) (c1, c2) (d1, d2) (b1, b2) = false) := HI.out.trans (by rw [q1]; rfl)
   clear HI h1
   go_wp2_with fail
   refine (C1.out _).mono ?_
   rintro e w3 ⟨rfl, hb3⟩
   go_wp2
   go_ret
   exact ⟨ret_bool HI2.out.symm, (by repeat (first | exact Below.refl _ _ | apply below_alloc | apply below_drewN | apply below_drew | (refine below_set2 ?_ ?_; (first | (simp; done) | (simp; omega))) | (refine below_step ?_ hb3) | (refine below_step ?_ BP)))⟩
  ·have q1 : decide (t1 ≥ 0) = true := decide_eq_true (by omega)
   have q1' : decide (0 ≤ t1) = true := decide_eq_true (by omega)
   have HI2 : Hid (insideZ (a1, a2) (c1, c2) (d1, d2) (b1, b2) = decide (t2 ≥ 0)) := HI.out.trans (by rw [q1]; rfl)
   clear HI h1
   go_wp2_with fail
   refine (C1.out _).mono ?_
   rintro e w3 ⟨rfl, hb3⟩
   have GA := blk_below FA hb3
   have GC := blk_below FC hb3
   have GD := blk_below FD hb3
   have GB := blk_below FB hb3
   clear xa0 xa1 xc0 xc1 xd0 xd1 xb0 xb1 FA FC FD FB
   have xa0 := blk_cell GA 0 rfl
   have xa1 := blk_cell GA 1 rfl
   have xc0 := blk_cell GC 0 rfl
   have xc1 := blk_cell GC 1 rfl
   have xd0 := blk_cell GD 0 rfl
   have xd1 := blk_cell GD 1 rfl
   have xb0 := blk_cell GB 0 rfl
   have xb1 := blk_cell GB 1 rfl
   go_wp2_with fail
   refine (C2.out _).mono ?_
   rintro e w4 ⟨rfl, hb4⟩
   go_wp2
   go_ret
   exact ⟨ret_bool HI2.out.symm, (by repeat (first | exact Below.refl _ _ | apply below_alloc | apply below_drewN | apply below_drew | (refine below_set2 ?_ ?_; (first | (simp; done) | (simp; omega))) | (refine below_step ?_ hb4) | (refine below_step ?_ hb3) | (refine below_step ?_ BP)))⟩
 ·have HI := Lib.hid (inside_of (a1, a2) (c1, c2) (d1, d2) (b1, b2) ht)
  have C1 := Lib.hid (fun W => seg_Turn a1 a2 c1 c2 b1 b2 W)
  have C2 := Lib.hid (fun W => seg_Turn a1 a2 b1 b2 d1 d2 W)
  have q0 := decide_eq_false ht
  clear ht
  generalize turnZ (a1, a2) (c1, c2) (d1, d2) = t0 at *
  generalize turnZ (a1, a2) (c1, c2) (b1, b2) = t1 at *
  generalize turnZ (a1, a2) (b1, b2) (d1, d2) = t2 at *
  go_enter Tryz.func77, Tryz.ntmps77
  go_wp2_with fail
  rw [← hW0]
  clear hW0
  refine (CT.out _).mono ?_
  rintro e w1 ⟨rfl, hb1⟩
  have BP : Below w.heap.size w w1 := below_step B0 hb1
  have FA := blk_below HA hb1
  have FC := blk_below HC hb1
  have FD := blk_below HD hb1
  have FB := blk_below HB hb1
  clear HA HC HD HB B0 hb1 CT
  have xa0 := blk_cell FA 0 rfl
  have xa1 := blk_cell FA 1 rfl
  have xc0 := blk_cell FC 0 rfl
  have xc1 := blk_cell FC 1 rfl
  have xd0 := blk_cell FD 0 rfl
  have xd1 := blk_cell FD 1 rfl
  have xb0 := blk_cell FB 0 rfl
  have xb1 := blk_cell FB 1 rfl
  rcases Int.lt_or_le t1 0 with h1 | h1
  ·have q1 : decide (t1 ≥ 0) = false := decide_eq_false (by omega)
   have q1' : decide (0 ≤ t1) = false := decide_eq_false (by omega)
   have HI2 : Hid (insideZ (a1, a2) (c1, c2) (d1, d2) (b1, b2) = false) := HI.out.trans (by rw [q1]; rfl)
   clear HI h1
   go_wp2_with fail
   refine (C1.out _).mono ?_
   rintro e w3 ⟨rfl, hb3⟩
   go_wp2
   go_ret
   exact ⟨ret_bool HI2.out.symm, (by repeat (first | exact Below.refl _ _ | apply below_alloc | apply below_drewN | apply below_drew | (refine below_set2 ?_ ?_; (first | (simp; done) | (simp; omega))) | (refine below_step ?_ hb3) | (refine below_step ?_ BP)))⟩
  ·have q1 : decide (t1 ≥ 0) = true := decide_eq_true (by omega)
   have q1' : decide (0 ≤ t1) = true := decide_eq_true (by omega)
   have HI2 : Hid (insideZ (a1, a2) (c1, c2) (d1, d2) (b1, b2) = decide (t2 ≥ 0)) := HI.out.trans (by rw [q1]; rfl)
   clear HI h1
   go_wp2_with fail
   refine (C1.out _).mono ?_
   rintro e w3 ⟨rfl, hb3⟩
   have GA := blk_below FA hb3
   have GC := blk_below FC hb3
   have GD := blk_below FD hb3
   have GB := blk_below FB hb3
   clear xa0 xa1 xc0 xc1 xd0 xd1 xb0 xb1 FA FC FD FB
   have xa0 := blk_cell GA 0 rfl
   have xa1 := blk_cell GA 1 rfl
   have xc0 := blk_cell GC 0 rfl
   have xc1 := blk_cell GC 1 rfl
   have xd0 := blk_cell GD 0 rfl
   have xd1 := blk_cell GD 1 rfl
   have xb0 := blk_cell GB 0 rfl
   have xb1 := blk_cell GB 1 rfl
   go_wp2_with fail
   refine (C2.out _).mono ?_
   rintro e w4 ⟨rfl, hb4⟩
   go_wp2
   go_ret
   exact ⟨ret_bool HI2.out.symm, (by repeat (first | exact Below.refl _ _ | apply below_alloc | apply below_drewN | apply below_drew | (refine below_set2 ?_ ?_; (first | (simp; done) | (simp; omega))) | (refine below_step ?_ hb4) | (refine below_step ?_ hb3) | (refine below_step ?_ BP)))⟩
end
section
open Go.RowKit Go.Proofs.YtaeflnbjeaoapaaGreatW.PrintLast

attribute [local go_sem high] eqPt eqSg
theorem blocks_ends (g : Nat) (a1 a2 b1 b2 : Int) (L R : List Int) (p : Pt) (w : World) (h0 : w.cell? ⟨g, 0, none⟩ = some (.int .i64 a1)) (h1 : w.cell? ⟨g, 1, none⟩ = some (.int .i64 a2)) (h2 : w.cell? ⟨g, 2, none⟩ = some (.int .i64 b1)) (h3 : w.cell? ⟨g, 3, none⟩ = some (.int .i64 b2)) :
  Calls Tryz.prog 74 #[ptA p, .pointer (some ⟨g, 0, none⟩)] w fun e w' => e = .returned (.bool (endE p (((a1, a2), (b1, b2)), (L, R)))) ∧ Below w.heap.size w w' := by
 obtain ⟨p1, p2⟩ := p
 have hg := World.block_lt_of_cell? w _ h0
 simp only at hg
 by_cases q1 : a1 = p1 ∧ a2 = p2
 ·obtain ⟨rfl, rfl⟩ := q1
  go_enter Tryz.func74, Tryz.ntmps74
  go_wp2
  go_ret
  exact ⟨ret_bool (by simp [endE]), bq⟩
 ·have e1 : (decide (a1 = p1) && decide (a2 = p2)) = false := by simpa using q1
  by_cases q2 : b1 = p1 ∧ b2 = p2
  ·obtain ⟨rfl, rfl⟩ := q2
   clear q1
   go_enter Tryz.func74, Tryz.ntmps74
   go_wp2
   go_ret
   exact ⟨ret_bool (by simp [endE]), bq⟩
  ·have e2 : (decide (b1 = p1) && decide (b2 = p2)) = false := by simpa using q2
   have HH : Hid (endE (p1, p2) (((a1, a2), (b1, b2)), (L, R)) = false) := by show _ = false; simp [endE]; exact ⟨fun x y => q1 ⟨x, y⟩, fun x y => q2 ⟨x, y⟩⟩
   clear q1 q2
   go_enter Tryz.func74, Tryz.ntmps74
   go_wp2
   go_ret
   exact ⟨ret_bool HH.out.symm, bq⟩
theorem blocks_far (g : Nat) (a1 a2 b1 b2 : Int) (L R : List Int) (p : Pt) (w : World) (h0 : w.cell? ⟨g, 0, none⟩ = some (.int .i64 a1)) (h1 : w.cell? ⟨g, 1, none⟩ = some (.int .i64 a2)) (h2 : w.cell? ⟨g, 2, none⟩ = some (.int .i64 b1)) (h3 : w.cell? ⟨g, 3, none⟩ = some (.int .i64 b2)) :
  Calls Tryz.prog 75 #[ptA p, .pointer (some ⟨g, 0, none⟩)] w fun e w' => e = .returned (ptA (farE (((a1, a2), (b1, b2)), (L, R)) p)) ∧ Below w.heap.size w w' := by
 obtain ⟨p1, p2⟩ := p
 have hg := World.block_lt_of_cell? w _ h0
 simp only at hg
 by_cases q1 : a1 = p1 ∧ a2 = p2
 ·obtain ⟨rfl, rfl⟩ := q1
  go_enter Tryz.func75, Tryz.ntmps75
  go_wp2
  refine bodyPost_ret (v := .agg #[.int .i64 b1, .int .i64 b2]) ?_ rfl ⟨by simp [farE, ptA], bq⟩
  simp [results, Tryz.results75]
  go_simp
 ·have e1 : (decide (a1 = p1) && decide (a2 = p2)) = false := by simpa using q1
  have HH : Hid (farE (((a1, a2), (b1, b2)), (L, R)) (p1, p2) = (a1, a2)) := by show farE _ _ = _; unfold farE; rw [if_neg (by simpa using q1)]
  clear q1
  go_enter Tryz.func75, Tryz.ntmps75
  go_wp2
  refine bodyPost_ret (v := .agg #[.int .i64 a1, .int .i64 a2]) ?_ rfl ⟨by rw [HH.out], bq⟩
  simp [results, Tryz.results75]
  go_simp
end
end Go.Proofs.YtaeflnbjeaoapaaGreat
