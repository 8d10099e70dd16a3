/- Words of this session's own: rows of edges that a call owns; corners as values. Contract of simplify.at. -/
import Derived.Test.YtaeflnbjeaoapaaKS4
namespace Go.Proofs.Ytaeflnbjeaoapaa
set_option linter.unusedVariables false
set_option linter.unusedSimpArgs false
section
open Go.RowKit Go.Proofs.YtaeflnbjeaoapaaW.PrintLast

theorem infoEg : (Try.prog.info? 35).map (fun i => (i.zero, i.size, i.bytes)) = some (some (.agg #[.int .i64 0, .int .i64 0, .int .i64 0, .int .i64 0, .slice none 0 0, .slice none 0 0]), 6, 80) := by kernel_rfl
/-- A row of edges of the call's own; the edges' lists lie in elder blocks. -/
abbrev OwnE (okk : Nat → Prop) (base : Nat) (w : World) (v : Value) (xs : Msh) : Prop := OwnR Ty.edge 35 base (fun k => ¬ okk k) w v xs
theorem OwnE.of {okk : Nat → Prop} {base : Nat} (hlo : ∀ k, okk k → k < base) {w : World} {v v1 : Value} {xs : Msh} (h : OwnR Ty.edge 35 base (fun k => ¬ okk k ∨ v1.ownBlock = some k) w v xs) (hv : v1 = v) : OwnE okk base w v xs := by
 subst hv
 exact h.remut (fun k _ hk => .inl hk) (fun k hk hok => absurd (OwnR.lt h k hk).1 (Nat.not_le_of_lt (hlo k hok)))
theorem edgeR {ok : Nat → Prop} {w : World} {A B : Option Addr} {n m : Nat} {s : Sg} {L R : List Int} (hn : L.length ≤ n) (hA : Row Ty.i64 ok w A L) (hm : R.length ≤ m) (hB : Row Ty.i64 ok w B R) :
  Ty.edge.R ok w (s, (L, R)) [.int .i64 s.1.1, .int .i64 s.1.2, .int .i64 s.2.1, .int .i64 s.2.2, .slice A L.length n, .slice B R.length m] :=
 ⟨[.int .i64 s.1.1, .int .i64 s.1.2, .int .i64 s.2.1, .int .i64 s.2.2], [.slice A L.length n, .slice B R.length m], rfl, rfl, [.slice A L.length n], [.slice B R.length m], rfl, ⟨A, n, rfl, hn, hA⟩, B, m, rfl, hm, hB⟩
theorem Row.bnd' {α : Type} {T : Ty α} {ok : Nat → Prop} {w : World} {A : Option Addr} {xs : List α} (h : Row T ok w A xs) : Row T (fun k => k < w.heap.size) w A xs := Row.mono (Row.bnd h) (fun _ hk => hk.2)
/-- The first two of an own row of edges. -/
theorem OwnE.two {okk : Nat → Prop} {base : Nat} {w : World} {v : Value} {xs : Msh} (h : OwnE okk base w v xs) (h2 : xs.length = 2) :
  ∃ g c A0 c0 B0 d0 A1 c1 B1 d1, v = .slice (some ⟨g, 0, none⟩) 2 c ∧ base ≤ g ∧ g < w.heap.size ∧
   (w.cell? ⟨g, 0, none⟩ = some (.int .i64 (egD xs 0).1.1.1) ∧ w.cell? ⟨g, 1, none⟩ = some (.int .i64 (egD xs 0).1.1.2) ∧ w.cell? ⟨g, 2, none⟩ = some (.int .i64 (egD xs 0).1.2.1) ∧ w.cell? ⟨g, 3, none⟩ = some (.int .i64 (egD xs 0).1.2.2) ∧
    w.cell? ⟨g, 4, none⟩ = some (.slice A0 (egD xs 0).2.1.length c0) ∧ w.cell? ⟨g, 5, none⟩ = some (.slice B0 (egD xs 0).2.2.length d0)) ∧
   (w.cell? ⟨g, 6, none⟩ = some (.int .i64 (egD xs 1).1.1.1) ∧ w.cell? ⟨g, 7, none⟩ = some (.int .i64 (egD xs 1).1.1.2) ∧ w.cell? ⟨g, 8, none⟩ = some (.int .i64 (egD xs 1).1.2.1) ∧ w.cell? ⟨g, 9, none⟩ = some (.int .i64 (egD xs 1).1.2.2) ∧
    w.cell? ⟨g, 10, none⟩ = some (.slice A1 (egD xs 1).2.1.length c1) ∧ w.cell? ⟨g, 11, none⟩ = some (.slice B1 (egD xs 1).2.2.length d1)) ∧
   ((egD xs 0).2.1.length ≤ c0 ∧ Row Ty.i64 (fun k => okk k ∨ k = g) w A0 (egD xs 0).2.1 ∧ (egD xs 0).2.2.length ≤ d0 ∧ Row Ty.i64 (fun k => okk k ∨ k = g) w B0 (egD xs 0).2.2) ∧
   ((egD xs 1).2.1.length ≤ c1 ∧ Row Ty.i64 (fun k => okk k ∨ k = g) w A1 (egD xs 1).2.1 ∧ (egD xs 1).2.2.length ≤ d1 ∧ Row Ty.i64 (fun k => okk k ∨ k = g) w B1 (egD xs 1).2.2) := by
 obtain ⟨A, c, rfl, hl, hr, hg⟩ := OwnR.reads h
 obtain ⟨g, rfl, hb, hlt, _⟩ := hg (by omega)
 obtain ⟨ad, A0, c0, B0, d0, e0, x0, x1, x2, x3, x4, x5, r0, r1, r2, r3⟩ := hr.edge_at 0 (by omega)
 cases e0
 obtain ⟨ad, A1, c1, B1, d1, e1, y0, y1, y2, y3, y4, y5, s0, s1, s2, s3⟩ := hr.edge_at 1 (by omega)
 cases e1
 rw [h2] at r1 r3 s1 s3 ⊢
 rw [add_at] at x0 x1 x2 x3 x4 x5 y0 y1 y2 y3 y4 y5
 have t : ∀ {A : Option Addr} {xs : List Int}, Row Ty.i64 (fun k => ¬ ¬ okk k ∨ (Value.slice (some ⟨g, 0, none⟩) 2 c).ownBlock = some k) w A xs → Row Ty.i64 (fun k => okk k ∨ k = g) w A xs := fun h => h.mono (fun k hk => by rcases hk with hk | hk; exact .inl (Classical.not_not.1 hk); exact .inr (by simpa [Value.ownBlock, eq_comm] using hk))
 exact ⟨g, c, A0, c0, B0, d0, A1, c1, B1, d1, rfl, hb, hlt, ⟨x0, x1, x2, x3, x4, x5⟩, ⟨y0, y1, y2, y3, y4, y5⟩, ⟨r0, t r1, r2, t r3⟩, s0, t s1, s2, t s3⟩
theorem filter_snoc (m : Msh) (f : Edg → Bool) (k : Nat) (h : k < m.length) : (m.take (k + 1)).filter f = (m.take k).filter f ++ if f (egD m k) = true then [egD m k] else [] := by
 rw [take_snoc m k (((0, 0), (0, 0)), ([], [])) h, List.filter_append]
 congr 1
 show [egD m k].filter f = _
 cases hb : f (egD m k)
 ·rw [List.filter_cons_of_neg (by rw [hb]; decide)]; rfl
 ·rw [List.filter_cons_of_pos hb]; rfl
theorem filter_take_len (m : Msh) (f : Edg → Bool) (k : Nat) : ((m.take k).filter f).length ≤ k :=
 Nat.le_trans (List.length_filter_le _ _) (by rw [List.length_take]; omega)
/-- A corner as a value. -/
abbrev corV (u p w : Pt) (size : Int) (A : Option Addr) (n c : Nat) (B : Option Addr) (m d : Nat) (s : Bool) : Value :=
 .agg #[.int .i64 u.1, .int .i64 u.2, .int .i64 p.1, .int .i64 p.2, .int .i64 w.1, .int .i64 w.2, .int .i64 size, .slice A n c, .slice B m d, .bool s]
def CorR (ok : Nat → Prop) (w : World) (v : Value) (c : Cor) : Prop := ∃ A n B m, v = corV c.u c.p c.w c.size A c.left.length n B c.right.length m c.smooth ∧ c.left.length ≤ n ∧ Row Ty.i64 ok w A c.left ∧ c.right.length ≤ m ∧ Row Ty.i64 ok w B c.right
theorem CorR.below {ok : Nat → Prop} {w w' : World} {v : Value} {c : Cor} (h : CorR ok w v c) (hb : Below w.heap.size w w') : CorR ok w' v c := by
 obtain ⟨A, n, B, m, e, h1, h2, h3, h4⟩ := h
 exact ⟨A, n, B, m, e, h1, h2.below hb, h3, h4.below hb⟩
theorem CorR.zero (ok : Nat → Prop) (w : World) : CorR ok w (corV (0, 0) (0, 0) (0, 0) 0 none 0 0 none 0 0 false) cor0 := ⟨none, 0, none, 0, rfl, Nat.le_refl _, Row.nil _ _ _ _, Nat.le_refl _, Row.nil _ _ _ _⟩
/-- simplify.leave -/
theorem simplify_leave {ok : Nat → Prop} (s : Sg) (L R : List Int) (p : Pt) (A B : Option Addr) (c d : Nat) (w : World) (hL : Row Ty.i64 ok w A L) (hc : L.length ≤ c) (hR : Row Ty.i64 ok w B R) (hd : R.length ≤ d) :
  Calls Try.prog 31 #[.agg #[.int .i64 s.1.1, .int .i64 s.1.2, .int .i64 s.2.1, .int .i64 s.2.2, .slice A L.length c, .slice B R.length d], .agg #[.int .i64 p.1, .int .i64 p.2]] w fun e w' =>
   ∃ A' c' B' d' X Y Z, e = .returned (.tuple #[X, Y, Z]) ∧ X = ptA (leaveZ (s, (L, R)) p).1 ∧ Y = .slice A' (leaveZ (s, (L, R)) p).2.1.length c' ∧ Z = .slice B' (leaveZ (s, (L, R)) p).2.2.length d' ∧
    (leaveZ (s, (L, R)) p).2.1.length ≤ c' ∧ Row Ty.i64 ok w' A' (leaveZ (s, (L, R)) p).2.1 ∧ (leaveZ (s, (L, R)) p).2.2.length ≤ d' ∧ Row Ty.i64 ok w' B' (leaveZ (s, (L, R)) p).2.2 ∧ Below w.heap.size w w' := by
 obtain ⟨⟨a1, a2⟩, a3, a4⟩ := s
 obtain ⟨p1, p2⟩ := p
 simp only
 by_cases h : ((a1, a2) : Pt) = (p1, p2)
 ·have e : leaveZ (((a1, a2), (a3, a4)), (L, R)) (p1, p2) = ((a3, a4), (L, R)) := if_pos h
  rw [e]
  cases h
  refine (leave_here a1 a2 a3 a4 A B L.length R.length c d w).mono ?_
  rintro _ w1 ⟨rfl, hb⟩
  exact ⟨A, c, B, d, _, _, _, rfl, rfl, rfl, rfl, hc, hL.below hb, hd, hR.below hb, hb⟩
 ·have e : leaveZ (((a1, a2), (a3, a4)), (L, R)) (p1, p2) = ((a1, a2), (R, L)) := if_neg h
  rw [e]
  refine (leave_there a1 a2 a3 a4 p1 p2 A B L.length R.length c d w (by simpa using h)).mono ?_
  rintro _ w1 ⟨rfl, hb⟩
  exact ⟨B, d, A, c, _, _, _, rfl, rfl, rfl, rfl, hd, hR.below hb, hc, hL.below hb, hb⟩
theorem turn_bd (a b c : Pt) : -4611686018427387904 ≤ turnZ a b c ∧ turnZ a b c ≤ 4611686018427387904 := by
 cases hv : (validB a && validB b && validB c)
 ·simp [turnZ, hv]
 ·rw [turn_valid hv]
  rw [Bool.and_eq_true, Bool.and_eq_true] at hv
  obtain ⟨a1, a2, a3, a4⟩ := valid_bd hv.1.1
  obtain ⟨b1, b2, b3, b4⟩ := valid_bd hv.1.2
  obtain ⟨c1, c2, c3, c4⟩ := valid_bd hv.2
  unfold crossZ
  have k1 := mul_bd2 (a := b.1 - a.1) (b := c.2 - a.2) (by omega) (by omega) (by omega) (by omega)
  have k2 := mul_bd2 (a := b.2 - a.2) (b := c.1 - a.1) (by omega) (by omega) (by omega) (by omega)
  first | omega | (simp only [Int.mul_comm] at *; omega)
end
section
open Go.RowKit Go.Proofs.YtaeflnbjeaoapaaW.PrintLast

attribute [local go_sem high] eqPt eqSg
def AtR (ok : Nat → Prop) (w : World) (e : Ending) (r : Option Cor) : Prop := match r with
 | none => e = .returned (.tuple #[corV (0, 0) (0, 0) (0, 0) 0 none 0 0 none 0 0 false, .bool false])
 | some c => ∃ v, e = .returned (.tuple #[v, .bool true]) ∧ CorR ok w v c
set_option maxRecDepth 100000 in
set_option maxHeartbeats 8000000 in
theorem simplify_at {ok : Nat → Prop} (m : Msh) (A : Option Addr) (n c : Nat) (p1 p2 : Int) (w : World) (hr : Row Ty.edge ok w A m) (hn : n = m.length) (hlen : m.length ≤ 1000000) :
  Calls Try.prog 17 #[.slice A n c, .agg #[.int .i64 p1, .int .i64 p2]] w fun e w' => AtR (fun k => ok k ∨ w.heap.size ≤ k) w' e (atZ m (p1, p2)) ∧ Below w.heap.size w w' := by
 subst hn
 have HR := Lib.hid hr.bnd
 have hmx := hr.len
 clear hr
 obtain ⟨W0, hW0⟩ : ∃ W0, W0 = (w.alloc (.cells #[.int .i64 p1, .int .i64 p2] 31)).alloc (.cells #[.int .i64 0, .int .i64 0, .int .i64 0, .int .i64 0, .int .i64 0, .int .i64 0, .int .i64 0, .slice none 0 0, .slice none 0 0, .bool false] 46) := ⟨_, rfl⟩
 have hP : W0.heap[w.heap.size]? = some (.cells #[.int .i64 p1, .int .i64 p2] 31 (0, 0)) := by rw [hW0]; exact blk_alloc (heap_alloc_new _ _) _
 have hZ : W0.heap[w.heap.size + 1]? = some (.cells #[.int .i64 0, .int .i64 0, .int .i64 0, .int .i64 0, .int .i64 0, .int .i64 0, .int .i64 0, .slice none 0 0, .slice none 0 0, .bool false] 46 (0, 0)) := by
  rw [hW0]; have := heap_alloc_new (w.alloc (.cells #[.int .i64 p1, .int .i64 p2] 31)) (.cells #[.int .i64 0, .int .i64 0, .int .i64 0, .int .i64 0, .int .i64 0, .int .i64 0, .int .i64 0, .slice none 0 0, .slice none 0 0, .bool false] 46); simpa using this
 have B0 : Below w.heap.size w W0 := by rw [hW0]; exact bq
 have hwz := B0.size
 have HR0 := Lib.hid (HR.out.below B0)
 clear HR
 go_enter Try.func17, Try.ntmps17
 go_wp2_with fail
 rw [← hW0]
 clear hW0
 go_wp2_with fail
 go_loopw [6, 18] (fun v i wr => ∃ k : Nat, k ≤ m.length ∧ i = .int .i64 k ∧ Hid (Below W0.heap.size W0 wr) ∧ Hid (OwnE (fun k => ok k ∧ k < w.heap.size) W0.heap.size wr v ((m.take k).filter (endE (p1, p2))))) (fun _ i _ => m.length - (intOf i).toNat)
 case atStart => exact ⟨0, Nat.zero_le _, rfl, Below.refl _ _, OwnR.nil _ _ _ _ _⟩
 case round =>
  obtain ⟨k, hk, rfl, HB, HO⟩ := hrel
  have hzw := HB.out.size
  have HP := blk_below hP HB.out
  have hp0 := blk_cell HP 0 rfl
  have hp1 := blk_cell HP 1 rfl
  have hpz := lt_of_block HP
  by_cases hlt : k < m.length
  ·have HS := Lib.hid (filter_snoc m (endE (p1, p2)) k hlt)
   have HL := filter_take_len m (endE (p1, p2)) k
   obtain ⟨ad, A1, c1, A2, c2, rfl, hx0, hx1, hx2, hx3, hx4, hx5, hc1, hr1, hc2, hr2⟩ := (HR0.out.below HB.out).edge_at k hlt
   obtain ⟨e, he⟩ : ∃ e, e = egD m k := ⟨_, rfl⟩
   rw [← he] at hx0 hx1 hx2 hx3 hx4 hx5 hc1 hr1 hc2 hr2 HS
   clear he
   obtain ⟨⟨⟨a1, a2⟩, ⟨a3, a4⟩⟩, L, R⟩ := e
   simp only at hx0 hx1 hx2 hx3 hx4 hx5 hc1 hr1 hc2 hr2 HS
   have HE : Hid (∀ W, Below wr.heap.size wr W → Ty.edge.R (fun k => ¬ ¬ (ok k ∧ k < w.heap.size)) W (((a1, a2), (a3, a4)), (L, R)) [.int .i64 a1, .int .i64 a2, .int .i64 a3, .int .i64 a4, .slice A1 L.length c1, .slice A2 R.length c2]) := fun W hb =>
    edgeR (s := ((a1, a2), (a3, a4))) hc1 ((hr1.below hb).mono (fun j hj => not_not_intro hj)) hc2 ((hr2.below hb).mono (fun j hj => not_not_intro hj))
   clear hr1 hr2
   generalize (m.take k).filter (endE (p1, p2)) = acc at *
   by_cases h1 : a1 = p1 ∧ a2 = p2
   ·obtain ⟨rfl, rfl⟩ := h1
    have HS2 : Hid ((m.take (k + 1)).filter (endE (a1, a2)) = acc ++ [(((a1, a2), (a3, a4)), (L, R))]) := HS.out.trans (by rw [if_pos (by simp [endE])])
    clear HS
    go_wp2_with (at_builtin; refine app_one Ty.edge (W := wr.alloc (.cells #[.int .i64 a1, .int .i64 a2, .int .i64 a3, .int .i64 a4, .slice A1 L.length c1, .slice A2 R.length c2] 35)) W0.heap.size rfl _ _ 22 35 _ 80 rfl Try.underlying22 infoEg rfl (by decide) u6 acc (((a1, a2), (a3, a4)), (L, R)) [.int .i64 a1, .int .i64 a2, .int .i64 a3, .int .i64 a4, .slice A1 L.length c1, .slice A2 R.length c2] _ rfl rfl (by simp) (HE.out _ bq) (OwnR.alloc HO.out _) (by simp; omega) (by omega) ?_; intro v1 w4 HO1 hg1 hat1)
    have BZ : Hid (Below W0.heap.size W0 w4) := below_own (by repeat (first | exact Below.refl _ _ | apply below_alloc | apply below_drewN | apply below_drew | (refine below_set2 ?_ ?_; (first | (simp; done) | (simp; omega))) | (refine below_step ?_ HB.out))) hg1 (fun b e => (OwnR.lt HO.out b e).1)
    have HO4 := Lib.hid (OwnE.of (fun k hk => Nat.lt_of_lt_of_le hk.2 hwz) HO1 rfl)
    clear HO1 hg1 hat1
    go_wp2
    go_roundw
    case rel => exact ⟨k + 1, by omega, by go_num, BZ.out, by rw [HS2.out]; exact HO4.out⟩
    case measure => simp [intOf]; omega
   ·have q1 : (decide (a1 = p1) && decide (a2 = p2)) = false := by simpa using h1
    by_cases h2 : a3 = p1 ∧ a4 = p2
    ·obtain ⟨rfl, rfl⟩ := h2
     have HS2 : Hid ((m.take (k + 1)).filter (endE (a3, a4)) = acc ++ [(((a1, a2), (a3, a4)), (L, R))]) := HS.out.trans (by rw [if_pos (by simp [endE])])
     clear HS h1
     go_wp2_with (at_builtin; refine app_one Ty.edge (W := wr.alloc (.cells #[.int .i64 a1, .int .i64 a2, .int .i64 a3, .int .i64 a4, .slice A1 L.length c1, .slice A2 R.length c2] 35)) W0.heap.size rfl _ _ 22 35 _ 80 rfl Try.underlying22 infoEg rfl (by decide) u6 acc (((a1, a2), (a3, a4)), (L, R)) [.int .i64 a1, .int .i64 a2, .int .i64 a3, .int .i64 a4, .slice A1 L.length c1, .slice A2 R.length c2] _ rfl rfl (by simp) (HE.out _ bq) (OwnR.alloc HO.out _) (by simp; omega) (by omega) ?_; intro v1 w4 HO1 hg1 hat1)
     have BZ : Hid (Below W0.heap.size W0 w4) := below_own (by repeat (first | exact Below.refl _ _ | apply below_alloc | apply below_drewN | apply below_drew | (refine below_set2 ?_ ?_; (first | (simp; done) | (simp; omega))) | (refine below_step ?_ HB.out))) hg1 (fun b e => (OwnR.lt HO.out b e).1)
     have HO4 := Lib.hid (OwnE.of (fun k hk => Nat.lt_of_lt_of_le hk.2 hwz) HO1 rfl)
     clear HO1 hg1 hat1
     go_wp2
     go_roundw
     case rel => exact ⟨k + 1, by omega, by go_num, BZ.out, by rw [HS2.out]; exact HO4.out⟩
     case measure => simp [intOf]; omega
    ·have q2 : (decide (a3 = p1) && decide (a4 = p2)) = false := by simpa using h2
     have HS2 : Hid ((m.take (k + 1)).filter (endE (p1, p2)) = acc) := HS.out.trans (by rw [if_neg (by simp [endE]; exact ⟨fun x y => h1 ⟨x, y⟩, fun x y => h2 ⟨x, y⟩⟩), List.append_nil])
     clear HS h1 h2
     go_wp2
     go_roundw
     case rel => exact ⟨k + 1, by omega, by go_num, (by repeat (first | exact Below.refl _ _ | apply below_alloc | apply below_drewN | apply below_drew | (refine below_set2 ?_ ?_; (first | (simp; done) | (simp; omega))) | (refine below_step ?_ HB.out))), by rw [HS2.out]; exact OwnR.alloc HO.out _⟩
     case measure => simp [intOf]; omega
  ·obtain rfl : k = m.length := by omega
   rw [List.take_length] at HO
   have HZ := blk_below hZ HB.out
   by_cases h2 : (m.filter (endE (p1, p2))).length = 2
   ·have HA : Hid (atZ m (p1, p2) = some (cornerZ (egD (m.filter (endE (p1, p2))) 0) (egD (m.filter (endE (p1, p2))) 1) (p1, p2))) := if_pos h2
    have BW : Hid (Below w.heap.size w wr) := below_step B0 HB.out
    obtain ⟨g, cl, A0, c0, B0', d0, A1, c1, B1, d1, rfl, hgb, hgl, ⟨x0, x1, x2, x3, x4, x5⟩, ⟨y0, y1, y2, y3, y4, y5⟩, ⟨l0, r0, l0', r0'⟩, ⟨l1, r1, l1', r1'⟩⟩ := OwnE.two HO.out h2
    obtain ⟨e0, he0⟩ : ∃ e, e = egD (m.filter (endE (p1, p2))) 0 := ⟨_, rfl⟩
    obtain ⟨e1, he1⟩ : ∃ e, e = egD (m.filter (endE (p1, p2))) 1 := ⟨_, rfl⟩
    rw [← he0] at x0 x1 x2 x3 x4 x5 l0 r0 l0' r0' HA
    rw [← he1] at y0 y1 y2 y3 y4 y5 l1 r1 l1' r1' HA
    clear he0 he1 h2 HO
    obtain ⟨⟨⟨a1, a2⟩, ⟨a3, a4⟩⟩, L0, R0⟩ := e0
    obtain ⟨⟨⟨b1, b2⟩, ⟨b3, b4⟩⟩, L1, R1⟩ := e1
    simp only at x0 x1 x2 x3 x4 x5 l0 r0 l0' r0' y0 y1 y2 y3 y4 y5 l1 r1 l1' r1'
    have C0 := fun W (hb : Below wr.heap.size wr W) => simplify_leave (ok := fun k => (ok k ∧ k < w.heap.size) ∨ k = g) ((a1, a2), (a3, a4)) L0 R0 (p1, p2) A0 B0' c0 d0 W (r0.below hb) l0 (r0'.below hb) l0'
    have C1 := fun W (hb : Below wr.heap.size wr W) => simplify_leave (ok := fun k => (ok k ∧ k < w.heap.size) ∨ k = g) ((b1, b2), (b3, b4)) L1 R1 (p1, p2) A1 B1 c1 d1 W (r1.below hb) l1 (r1'.below hb) l1'
    unfold cornerZ at HA
    obtain ⟨⟨⟨q1, q2⟩, Ya, Yb⟩, hq⟩ : ∃ q, q = leaveZ (((a1, a2), (a3, a4)), (L0, R0)) (p1, p2) := ⟨_, rfl⟩
    obtain ⟨⟨⟨v1, v2⟩, Va, Vb⟩, hv⟩ : ∃ q, q = leaveZ (((b1, b2), (b3, b4)), (L1, R1)) (p1, p2) := ⟨_, rfl⟩
    simp only [← hq, ← hv] at C0 C1 HA
    have C0 := Lib.hid C0
    have C1 := Lib.hid C1
    clear hq hv l0 r0 l0' r0' l1 r1 l1' r1'
    go_wp2_with fail
    refine start_ (n := 13) (S := fun w' => w'.cell? ⟨g, 0, none⟩ = some (.int .i64 a1) ∧ w'.cell? ⟨g, 1, none⟩ = some (.int .i64 a2) ∧ w'.cell? ⟨g, 2, none⟩ = some (.int .i64 a3) ∧ w'.cell? ⟨g, 3, none⟩ = some (.int .i64 a4) ∧ w'.cell? ⟨g, 4, none⟩ = some (.slice A0 L0.length c0) ∧ w'.cell? ⟨g, 5, none⟩ = some (.slice B0' R0.length d0) ∧ w'.cell? ⟨w.heap.size, 0, none⟩ = some (.int .i64 p1) ∧ w'.cell? ⟨w.heap.size, 1, none⟩ = some (.int .i64 p2)) (ds := [10, 11, 12]) #[Z,Z,Z,Z,Z,Z,Z,Z,Z,Z,Z,Z,Z] (by kernel_rfl) rfl rfl ⟨x0, x1, x2, x3, x4, x5, hp0, hp1⟩ (fun hHeld => ?_)
    refine pure_ (i := 0) (N := some 42) (v := ?_) (a' := ?_) #[J,Z,Z,Z,Z,Z,Z,Z,Z,Z,Z,Z,Z] rfl rfl (by kernel_rfl) (fun _ _ _ h => h) (Or.inl ⟨by rfl, ?_⟩) ?_ ?_
    rotate_left
    ·intro w'; go_simp; with_reducible rfl
    rotate_left
    ·simp only [Act.put, sA, sB, sC, i64_w, i32_w]; rfl
    refine pure_ (i := 1) (N := some 43) (v := ?_) (a' := ?_) #[J,J,Z,Z,Z,Z,Z,Z,Z,Z,Z,Z,Z] rfl rfl (by kernel_rfl) (fun _ _ _ h => h) (Or.inl ⟨by rfl, ?_⟩) ?_ ?_
    rotate_left
    ·intro w'; go_simp; with_reducible rfl
    rotate_left
    ·simp only [Act.put, sA, sB, sC, i64_w, i32_w]; rfl
    refine take_ (i := 2) (N := some 44) (v := ?_) (a' := ?_) #[J,J,J,Z,Z,Z,Z,Z,Z,Z,Z,Z,Z] rfl rfl (by kernel_rfl) (fun _ _ _ h => h) (Or.inl ⟨by rfl, ?_⟩) hHeld ?_ ?_
    rotate_left
    ·rintro w' ⟨s0, s1, s2, s3, s4, s5, s6, s7⟩; go_simp; with_reducible rfl
    rotate_left
    ·simp only [Act.put, sA, sB, sC, i64_w, i32_w]; rfl
    refine take_ (i := 3) (N := some 45) (v := ?_) (a' := ?_) #[J,J,J,J,Z,Z,Z,Z,Z,Z,Z,Z,Z] rfl rfl (by kernel_rfl) (fun _ _ _ h => h) (Or.inl ⟨by rfl, ?_⟩) hHeld ?_ ?_
    rotate_left
    ·rintro w' ⟨s0, s1, s2, s3, s4, s5, s6, s7⟩; go_simp; with_reducible rfl
    rotate_left
    ·simp only [Act.put, sA, sB, sC, i64_w, i32_w]; rfl
    refine join_ (σ := Nat × (Option Addr × Nat) × (Option Addr × Nat)) 3 #[J,J,J,J,J,J,J,J,J,J,Z,Z,Z] (fun s => [(46, .tuple #[.agg #[.int .i64 q1, .int .i64 q2], .slice s.2.1.1 Ya.length s.2.1.2, .slice s.2.2.1 Yb.length s.2.2.2]), (41, .tuple #[.agg #[.int .i64 q1, .int .i64 q2], .slice s.2.1.1 Ya.length s.2.1.2, .slice s.2.2.1 Yb.length s.2.2.2]), (47, .agg #[.int .i64 q1, .int .i64 q2]), (48, .slice s.2.1.1 Ya.length s.2.1.2), (49, .slice s.2.2.1 Yb.length s.2.2.2), (9, .pointer (some ⟨s.1, 0, none⟩))]) (fun s w' => Ya.length ≤ s.2.1.2 ∧ Row Ty.i64 (fun k => (ok k ∧ k < w.heap.size) ∨ k = g) w' s.2.1.1 Ya ∧ Yb.length ≤ s.2.2.2 ∧ Row Ty.i64 (fun k => (ok k ∧ k < w.heap.size) ∨ k = g) w' s.2.2.1 Yb ∧ wr.heap.size ≤ s.1 ∧ w'.heap[s.1]? = some (.cells #[.int .i64 0, .int .i64 0] 31 (0, 0)) ∧ Below wr.heap.size wr w') ?_ ?_
    rotate_left
    ·intro hCont
     refine two_ (i := 4) (j := 9) (Ni := some 46) (Nj := some 9) #[J,J,J,J,J,Z,Z,Z,Z,Z,Z,Z,Z] #[J,J,J,J,Z,Z,Z,Z,Z,J,Z,Z,Z] rfl rfl rfl rfl (by kernel_rfl) (by decide) (by decide) (fun K hK => ?_) (fun K hK => ?_)
     ·skip
      refine goes_ Try.func31 (by kernel_rfl) rfl #[.agg #[.int .i64 a1, .int .i64 a2, .int .i64 a3, .int .i64 a4, .slice A0 L0.length c0, .slice B0' R0.length d0], .agg #[.int .i64 p1, .int .i64 p2]] (by rfl) rfl rfl (by simp only [List.map_toArray, List.map_cons, List.map_nil]; rfl) ?_
      with_reducible refine (C0.out _ (below_drew (Below.refl _ _))).mono ?_
      rintro e w1 ⟨A', c', B', d', X', Y', Z', rfl, rfl, rfl, rfl, h1, h2, h3, h4, hb1⟩
      refine ⟨_, rfl, ?_⟩
      refine hK.out _ _ ⟨cell_below hb1 x0, cell_below hb1 x1, cell_below hb1 x2, cell_below hb1 x3, cell_below hb1 x4, cell_below hb1 x5, cell_below hb1 hp0, cell_below hb1 hp1⟩ (fun hHeld => ?_)
      clear hK K
      refine norm_ (a' := ?_) ?_ ?_
      rotate_left
      ·show Act.put _ (some 46) _ = _
       simp only [Act.put, sA, sB, sC, i64_w, i32_w]; rfl
      refine pure_ (i := 5) (N := some 41) (v := ?_) (a' := ?_) #[J,J,J,J,J,J,Z,Z,Z,Z,Z,Z,Z] rfl rfl (by kernel_rfl) (fun _ _ _ h => h) (Or.inl ⟨by rfl, ?_⟩) ?_ ?_
      rotate_left
      ·intro w'; go_simp; with_reducible rfl
      rotate_left
      ·simp only [Act.put, sA, sB, sC, i64_w, i32_w]; rfl
      refine pure_ (i := 6) (N := some 47) (v := ?_) (a' := ?_) #[J,J,J,J,J,J,J,Z,Z,Z,Z,Z,Z] rfl rfl (by kernel_rfl) (fun _ _ _ h => h) (Or.inl ⟨by rfl, ?_⟩) ?_ ?_
      rotate_left
      ·intro w'; go_simp; with_reducible rfl
      rotate_left
      ·simp only [Act.put, sA, sB, sC, i64_w, i32_w]; rfl
      refine pure_ (i := 7) (N := some 48) (v := ?_) (a' := ?_) #[J,J,J,J,J,J,J,J,Z,Z,Z,Z,Z] rfl rfl (by kernel_rfl) (fun _ _ _ h => h) (Or.inl ⟨by rfl, ?_⟩) ?_ ?_
      rotate_left
      ·intro w'; go_simp; with_reducible rfl
      rotate_left
      ·simp only [Act.put, sA, sB, sC, i64_w, i32_w]; rfl
      refine pure_ (i := 8) (N := some 49) (v := ?_) (a' := ?_) #[J,J,J,J,J,J,J,J,J,Z,Z,Z,Z] rfl rfl (by kernel_rfl) (fun _ _ _ h => h) (Or.inl ⟨by rfl, ?_⟩) ?_ ?_
      rotate_left
      ·intro w'; go_simp; with_reducible rfl
      rotate_left
      ·simp only [Act.put, sA, sB, sC, i64_w, i32_w]; rfl
      refine one_ (i := 9) (N := some 9) #[J,J,J,J,J,J,J,J,J,J,Z,Z,Z] rfl rfl (by kernel_rfl) (by decide) (fun K hK => ?_)
      refine value_ (w1 := ?_) (v := ?_) (by rfl) rfl ?_ ?_
      rotate_left 2
      ·go_simp
       constructor
       ·rfl
       ·rfl
      refine hK.out _ _ ⟨cell_below (below_alloc (Below.refl _ _) _) (cell_below hb1 x0), cell_below (below_alloc (Below.refl _ _) _) (cell_below hb1 x1), cell_below (below_alloc (Below.refl _ _) _) (cell_below hb1 x2), cell_below (below_alloc (Below.refl _ _) _) (cell_below hb1 x3), cell_below (below_alloc (Below.refl _ _) _) (cell_below hb1 x4), cell_below (below_alloc (Below.refl _ _) _) (cell_below hb1 x5), cell_below (below_alloc (Below.refl _ _) _) (cell_below hb1 hp0), cell_below (below_alloc (Below.refl _ _) _) (cell_below hb1 hp1)⟩ (fun hHeld => ?_)
      clear hK K
      refine norm_ (a' := ?_) ?_ ?_
      rotate_left
      ·show Act.put _ (some 9) _ = _
       simp only [Act.put, sA, sB, sC, i64_w, i32_w]; rfl
      exact norm_ (by simp only [putAll, Act.put, List.setIfInBounds_toArray, List.set_cons_zero, List.set_cons_succ]) (hCont (w1.heap.size, (A', c'), (B', d')) _ ⟨h1, h2.alloc _, h3, h4.alloc _, hb1.size, heap_alloc_new _ _, below_alloc (below_step (below_drew (Below.refl _ _)) hb1) _⟩)
     ·skip
      refine value_ (w1 := ?_) (v := ?_) (by rfl) rfl ?_ ?_
      rotate_left 2
      ·go_simp
       constructor
       ·rfl
       ·rfl
      refine hK.out _ _ ⟨cell_below (below_alloc (Below.refl _ _) _) x0, cell_below (below_alloc (Below.refl _ _) _) x1, cell_below (below_alloc (Below.refl _ _) _) x2, cell_below (below_alloc (Below.refl _ _) _) x3, cell_below (below_alloc (Below.refl _ _) _) x4, cell_below (below_alloc (Below.refl _ _) _) x5, cell_below (below_alloc (Below.refl _ _) _) hp0, cell_below (below_alloc (Below.refl _ _) _) hp1⟩ (fun hHeld => ?_)
      clear hK K
      refine norm_ (a' := ?_) ?_ ?_
      rotate_left
      ·show Act.put _ (some 9) _ = _
       simp only [Act.put, sA, sB, sC, i64_w, i32_w]; rfl
      refine one_ (i := 4) (N := some 46) #[J,J,J,J,J,Z,Z,Z,Z,J,Z,Z,Z] rfl rfl (by kernel_rfl) (by decide) (fun K hK => ?_)
      refine goes_ Try.func31 (by kernel_rfl) rfl #[.agg #[.int .i64 a1, .int .i64 a2, .int .i64 a3, .int .i64 a4, .slice A0 L0.length c0, .slice B0' R0.length d0], .agg #[.int .i64 p1, .int .i64 p2]] (by rfl) rfl rfl (by simp only [List.map_toArray, List.map_cons, List.map_nil]; rfl) ?_
      with_reducible refine (C0.out _ (below_drew (below_alloc (Below.refl _ _) _))).mono ?_
      rintro e w1 ⟨A', c', B', d', X', Y', Z', rfl, rfl, rfl, rfl, h1, h2, h3, h4, hb1⟩
      refine ⟨_, rfl, ?_⟩
      refine hK.out _ _ ⟨cell_below hb1 (cell_below (below_drew (below_alloc (Below.refl _ _) _)) x0), cell_below hb1 (cell_below (below_drew (below_alloc (Below.refl _ _) _)) x1), cell_below hb1 (cell_below (below_drew (below_alloc (Below.refl _ _) _)) x2), cell_below hb1 (cell_below (below_drew (below_alloc (Below.refl _ _) _)) x3), cell_below hb1 (cell_below (below_drew (below_alloc (Below.refl _ _) _)) x4), cell_below hb1 (cell_below (below_drew (below_alloc (Below.refl _ _) _)) x5), cell_below hb1 (cell_below (below_drew (below_alloc (Below.refl _ _) _)) hp0), cell_below hb1 (cell_below (below_drew (below_alloc (Below.refl _ _) _)) hp1)⟩ (fun hHeld => ?_)
      clear hK K
      refine norm_ (a' := ?_) ?_ ?_
      rotate_left
      ·show Act.put _ (some 46) _ = _
       simp only [Act.put, sA, sB, sC, i64_w, i32_w]; rfl
      refine pure_ (i := 5) (N := some 41) (v := ?_) (a' := ?_) #[J,J,J,J,J,J,Z,Z,Z,J,Z,Z,Z] rfl rfl (by kernel_rfl) (fun _ _ _ h => h) (Or.inl ⟨by rfl, ?_⟩) ?_ ?_
      rotate_left
      ·intro w'; go_simp; with_reducible rfl
      rotate_left
      ·simp only [Act.put, sA, sB, sC, i64_w, i32_w]; rfl
      refine pure_ (i := 6) (N := some 47) (v := ?_) (a' := ?_) #[J,J,J,J,J,J,J,Z,Z,J,Z,Z,Z] rfl rfl (by kernel_rfl) (fun _ _ _ h => h) (Or.inl ⟨by rfl, ?_⟩) ?_ ?_
      rotate_left
      ·intro w'; go_simp; with_reducible rfl
      rotate_left
      ·simp only [Act.put, sA, sB, sC, i64_w, i32_w]; rfl
      refine pure_ (i := 7) (N := some 48) (v := ?_) (a' := ?_) #[J,J,J,J,J,J,J,J,Z,J,Z,Z,Z] rfl rfl (by kernel_rfl) (fun _ _ _ h => h) (Or.inl ⟨by rfl, ?_⟩) ?_ ?_
      rotate_left
      ·intro w'; go_simp; with_reducible rfl
      rotate_left
      ·simp only [Act.put, sA, sB, sC, i64_w, i32_w]; rfl
      refine pure_ (i := 8) (N := some 49) (v := ?_) (a' := ?_) #[J,J,J,J,J,J,J,J,J,J,Z,Z,Z] rfl rfl (by kernel_rfl) (fun _ _ _ h => h) (Or.inl ⟨by rfl, ?_⟩) ?_ ?_
      rotate_left
      ·intro w'; go_simp; with_reducible rfl
      rotate_left
      ·simp only [Act.put, sA, sB, sC, i64_w, i32_w]; rfl
      exact norm_ (by simp only [putAll, Act.put, List.setIfInBounds_toArray, List.set_cons_zero, List.set_cons_succ]) (hCont (wr.heap.size, (A', c'), (B', d')) _ ⟨h1, h2, h3, h4, Nat.le_refl _, (hb1.block _ (lt_of_block (heap_alloc_new _ _))).trans (heap_alloc_new _ _), below_step (below_drew (below_alloc (Below.refl _ _) _)) hb1⟩)
    rintro ⟨gu, ⟨A', c'⟩, ⟨B', d'⟩⟩ w2 ⟨h1, h2, h3, h4, hgu, hbk, hbw⟩
    have hHeld := And.intro (cell_below hbw x0) (And.intro (cell_below hbw x1) (And.intro (cell_below hbw x2) (And.intro (cell_below hbw x3) (And.intro (cell_below hbw x4) (And.intro (cell_below hbw x5) (And.intro (cell_below hbw hp0) ((cell_below hbw hp1))))))))
    have bc0 := blk_cell hbk 0 rfl
    have bc1 := blk_cell hbk 1 rfl
    have bf0 := blk_free hbk 0
    have bf1 := blk_free hbk 1
    refine norm_ (a' := ?_) ?_ ?_
    rotate_left
    ·simp only [putAll, Act.put, List.setIfInBounds_toArray, List.set_cons_zero, List.set_cons_succ]
     rfl
    refine last_ (i := 10) (N := none) #[J,J,J,J,J,J,J,J,J,J,J,Z,Z] rfl rfl (by kernel_rfl) (by decide) (fun K hK => ?_)
    refine skip_ (w1 := ?_) (by rfl) rfl ?_ ?_
    rotate_left
    ·go_simp
     rfl
    refine hK.out _ _ ?_
    clear hK K
    refine pure_ (i := 11) (N := some 10) (v := ?_) (a' := ?_) #[J,J,J,J,J,J,J,J,J,J,J,J,Z] rfl rfl (by kernel_rfl) (fun _ _ _ h => h) (Or.inl ⟨by rfl, ?_⟩) ?_ ?_
    rotate_left
    ·intro w'; go_simp; with_reducible rfl
    rotate_left
    ·simp only [Act.put, sA, sB, sC, i64_w, i32_w]; rfl
    refine pure_ (i := 12) (N := some 11) (v := ?_) (a' := ?_) #[J,J,J,J,J,J,J,J,J,J,J,J,J] rfl rfl (by kernel_rfl) (fun _ _ _ h => h) (Or.inl ⟨by rfl, ?_⟩) ?_ ?_
    rotate_left
    ·intro w'; go_simp; with_reducible rfl
    rotate_left
    ·simp only [Act.put, sA, sB, sC, i64_w, i32_w]; rfl
    refine done_ (by kernel_rfl) ?_
    obtain ⟨Wp, hWp⟩ : ∃ Wp, Wp = (w2.setCell ⟨gu, 0, none⟩ (.int .i64 q1)).setCell ⟨gu, 1, none⟩ (.int .i64 q2) := ⟨_, rfl⟩
    have BP : Below wr.heap.size wr Wp := by rw [hWp]; exact below_set2 hgu (below_set2 hgu hbw)
    have hU : Wp.heap[gu]? = some (.cells #[.int .i64 q1, .int .i64 q2] 31 (0, 0)) := by rw [hWp]; exact blk_set (i := 1) (blk_set (i := 0) hbk _) _
    have KP : KeptS (fun k => k = gu) w2 Wp := by rw [hWp]; exact kept_set rfl (kept_set rfl (kept_refl _ _))
    have rY : Row Ty.i64 (fun k => (ok k ∧ k < w.heap.size) ∨ k = g) Wp A' Ya := h2.step (fun k hk hlt => KP.block k hlt (fun e : k = gu => by have := HB.out.size; omega))
    have rZ : Row Ty.i64 (fun k => (ok k ∧ k < w.heap.size) ∨ k = g) Wp B' Yb := h4.step (fun k hk hlt => KP.block k hlt (fun e : k = gu => by have := HB.out.size; omega))
    rw [← hWp]
    have HPp := blk_below HP BP
    have HZp := blk_below HZ BP
    have C1p : Hid (_) := Lib.hid (fun W hb => C1.out W (below_step BP hb))
    have z0 := cell_below BP y0
    have z1 := cell_below BP y1
    have z2 := cell_below BP y2
    have z3 := cell_below BP y3
    have z4 := cell_below BP y4
    have z5 := cell_below BP y5
    have BWp : Hid (Below w.heap.size w Wp) := below_step BW.out BP
    have hwp := BP.size
    have hc1 := h1
    have hc2 := h3
    clear hWp KP h2 h4 hbk hbw bc0 bc1 bf0 bf1 hp0 hp1 HP HZ C0 C1 x0 x1 x2 x3 x4 x5 y0 y1 y2 y3 y4 y5 HB hHeld BW
    have hp0 := blk_cell HPp 0 rfl
    have hp1 := blk_cell HPp 1 rfl
    have hpz := lt_of_block HPp
    have HY := Lib.hid rY
    have HZZ := Lib.hid rZ
    clear rY rZ
    go_wp2_with fail
    refine start_ (n := 13) (S := fun w' => w'.cell? ⟨g, 6, none⟩ = some (.int .i64 b1) ∧ w'.cell? ⟨g, 7, none⟩ = some (.int .i64 b2) ∧ w'.cell? ⟨g, 8, none⟩ = some (.int .i64 b3) ∧ w'.cell? ⟨g, 9, none⟩ = some (.int .i64 b4) ∧ w'.cell? ⟨g, 10, none⟩ = some (.slice A1 L1.length c1) ∧ w'.cell? ⟨g, 11, none⟩ = some (.slice B1 R1.length d1) ∧ w'.cell? ⟨w.heap.size, 0, none⟩ = some (.int .i64 p1) ∧ w'.cell? ⟨w.heap.size, 1, none⟩ = some (.int .i64 p2)) (ds := [10, 11, 12]) #[Z,Z,Z,Z,Z,Z,Z,Z,Z,Z,Z,Z,Z] (by kernel_rfl) rfl rfl ⟨z0, z1, z2, z3, z4, z5, hp0, hp1⟩ (fun hHeld => ?_)
    refine pure_ (i := 0) (N := some 51) (v := ?_) (a' := ?_) #[J,Z,Z,Z,Z,Z,Z,Z,Z,Z,Z,Z,Z] rfl rfl (by kernel_rfl) (fun _ _ _ h => h) (Or.inl ⟨by rfl, ?_⟩) ?_ ?_
    rotate_left
    ·intro w'; go_simp; with_reducible rfl
    rotate_left
    ·simp only [Act.put, sA, sB, sC, i64_w, i32_w]; rfl
    refine pure_ (i := 1) (N := some 52) (v := ?_) (a' := ?_) #[J,J,Z,Z,Z,Z,Z,Z,Z,Z,Z,Z,Z] rfl rfl (by kernel_rfl) (fun _ _ _ h => h) (Or.inl ⟨by rfl, ?_⟩) ?_ ?_
    rotate_left
    ·intro w'; go_simp; with_reducible rfl
    rotate_left
    ·simp only [Act.put, sA, sB, sC, i64_w, i32_w]; rfl
    refine take_ (i := 2) (N := some 53) (v := ?_) (a' := ?_) #[J,J,J,Z,Z,Z,Z,Z,Z,Z,Z,Z,Z] rfl rfl (by kernel_rfl) (fun _ _ _ h => h) (Or.inl ⟨by rfl, ?_⟩) hHeld ?_ ?_
    rotate_left
    ·rintro w' ⟨s0, s1, s2, s3, s4, s5, s6, s7⟩; go_simp; with_reducible rfl
    rotate_left
    ·simp only [Act.put, sA, sB, sC, i64_w, i32_w]; rfl
    refine take_ (i := 3) (N := some 54) (v := ?_) (a' := ?_) #[J,J,J,J,Z,Z,Z,Z,Z,Z,Z,Z,Z] rfl rfl (by kernel_rfl) (fun _ _ _ h => h) (Or.inl ⟨by rfl, ?_⟩) hHeld ?_ ?_
    rotate_left
    ·rintro w' ⟨s0, s1, s2, s3, s4, s5, s6, s7⟩; go_simp; with_reducible rfl
    rotate_left
    ·simp only [Act.put, sA, sB, sC, i64_w, i32_w]; rfl
    refine join_ (σ := Nat × (Option Addr × Nat) × (Option Addr × Nat)) 3 #[J,J,J,J,J,J,J,J,J,J,Z,Z,Z] (fun s => [(55, .tuple #[.agg #[.int .i64 v1, .int .i64 v2], .slice s.2.1.1 Va.length s.2.1.2, .slice s.2.2.1 Vb.length s.2.2.2]), (50, .tuple #[.agg #[.int .i64 v1, .int .i64 v2], .slice s.2.1.1 Va.length s.2.1.2, .slice s.2.2.1 Vb.length s.2.2.2]), (56, .agg #[.int .i64 v1, .int .i64 v2]), (57, .slice s.2.1.1 Va.length s.2.1.2), (58, .slice s.2.2.1 Vb.length s.2.2.2), (12, .pointer (some ⟨s.1, 0, none⟩))]) (fun s w' => Va.length ≤ s.2.1.2 ∧ Row Ty.i64 (fun k => (ok k ∧ k < w.heap.size) ∨ k = g) w' s.2.1.1 Va ∧ Vb.length ≤ s.2.2.2 ∧ Row Ty.i64 (fun k => (ok k ∧ k < w.heap.size) ∨ k = g) w' s.2.2.1 Vb ∧ Wp.heap.size ≤ s.1 ∧ w'.heap[s.1]? = some (.cells #[.int .i64 0, .int .i64 0] 31 (0, 0)) ∧ Below Wp.heap.size Wp w') ?_ ?_
    rotate_left
    ·intro hCont
     refine two_ (i := 4) (j := 9) (Ni := some 55) (Nj := some 12) #[J,J,J,J,J,Z,Z,Z,Z,Z,Z,Z,Z] #[J,J,J,J,Z,Z,Z,Z,Z,J,Z,Z,Z] rfl rfl rfl rfl (by kernel_rfl) (by decide) (by decide) (fun K hK => ?_) (fun K hK => ?_)
     ·skip
      refine goes_ Try.func31 (by kernel_rfl) rfl #[.agg #[.int .i64 b1, .int .i64 b2, .int .i64 b3, .int .i64 b4, .slice A1 L1.length c1, .slice B1 R1.length d1], .agg #[.int .i64 p1, .int .i64 p2]] (by rfl) rfl rfl (by simp only [List.map_toArray, List.map_cons, List.map_nil]; rfl) ?_
      with_reducible refine (C1p.out _ (below_drew (Below.refl _ _))).mono ?_
      rintro e w1 ⟨A', c', B', d', X', Y', Z', rfl, rfl, rfl, rfl, h1, h2, h3, h4, hb1⟩
      refine ⟨_, rfl, ?_⟩
      refine hK.out _ _ ⟨cell_below hb1 z0, cell_below hb1 z1, cell_below hb1 z2, cell_below hb1 z3, cell_below hb1 z4, cell_below hb1 z5, cell_below hb1 hp0, cell_below hb1 hp1⟩ (fun hHeld => ?_)
      clear hK K
      refine norm_ (a' := ?_) ?_ ?_
      rotate_left
      ·show Act.put _ (some 55) _ = _
       simp only [Act.put, sA, sB, sC, i64_w, i32_w]; rfl
      refine pure_ (i := 5) (N := some 50) (v := ?_) (a' := ?_) #[J,J,J,J,J,J,Z,Z,Z,Z,Z,Z,Z] rfl rfl (by kernel_rfl) (fun _ _ _ h => h) (Or.inl ⟨by rfl, ?_⟩) ?_ ?_
      rotate_left
      ·intro w'; go_simp; with_reducible rfl
      rotate_left
      ·simp only [Act.put, sA, sB, sC, i64_w, i32_w]; rfl
      refine pure_ (i := 6) (N := some 56) (v := ?_) (a' := ?_) #[J,J,J,J,J,J,J,Z,Z,Z,Z,Z,Z] rfl rfl (by kernel_rfl) (fun _ _ _ h => h) (Or.inl ⟨by rfl, ?_⟩) ?_ ?_
      rotate_left
      ·intro w'; go_simp; with_reducible rfl
      rotate_left
      ·simp only [Act.put, sA, sB, sC, i64_w, i32_w]; rfl
      refine pure_ (i := 7) (N := some 57) (v := ?_) (a' := ?_) #[J,J,J,J,J,J,J,J,Z,Z,Z,Z,Z] rfl rfl (by kernel_rfl) (fun _ _ _ h => h) (Or.inl ⟨by rfl, ?_⟩) ?_ ?_
      rotate_left
      ·intro w'; go_simp; with_reducible rfl
      rotate_left
      ·simp only [Act.put, sA, sB, sC, i64_w, i32_w]; rfl
      refine pure_ (i := 8) (N := some 58) (v := ?_) (a' := ?_) #[J,J,J,J,J,J,J,J,J,Z,Z,Z,Z] rfl rfl (by kernel_rfl) (fun _ _ _ h => h) (Or.inl ⟨by rfl, ?_⟩) ?_ ?_
      rotate_left
      ·intro w'; go_simp; with_reducible rfl
      rotate_left
      ·simp only [Act.put, sA, sB, sC, i64_w, i32_w]; rfl
      refine one_ (i := 9) (N := some 12) #[J,J,J,J,J,J,J,J,J,J,Z,Z,Z] rfl rfl (by kernel_rfl) (by decide) (fun K hK => ?_)
      refine value_ (w1 := ?_) (v := ?_) (by rfl) rfl ?_ ?_
      rotate_left 2
      ·go_simp
       constructor
       ·rfl
       ·rfl
      refine hK.out _ _ ⟨cell_below (below_alloc (Below.refl _ _) _) (cell_below hb1 z0), cell_below (below_alloc (Below.refl _ _) _) (cell_below hb1 z1), cell_below (below_alloc (Below.refl _ _) _) (cell_below hb1 z2), cell_below (below_alloc (Below.refl _ _) _) (cell_below hb1 z3), cell_below (below_alloc (Below.refl _ _) _) (cell_below hb1 z4), cell_below (below_alloc (Below.refl _ _) _) (cell_below hb1 z5), cell_below (below_alloc (Below.refl _ _) _) (cell_below hb1 hp0), cell_below (below_alloc (Below.refl _ _) _) (cell_below hb1 hp1)⟩ (fun hHeld => ?_)
      clear hK K
      refine norm_ (a' := ?_) ?_ ?_
      rotate_left
      ·show Act.put _ (some 12) _ = _
       simp only [Act.put, sA, sB, sC, i64_w, i32_w]; rfl
      exact norm_ (by simp only [putAll, Act.put, List.setIfInBounds_toArray, List.set_cons_zero, List.set_cons_succ]) (hCont (w1.heap.size, (A', c'), (B', d')) _ ⟨h1, h2.alloc _, h3, h4.alloc _, hb1.size, heap_alloc_new _ _, below_alloc (below_step (below_drew (Below.refl _ _)) hb1) _⟩)
     ·skip
      refine value_ (w1 := ?_) (v := ?_) (by rfl) rfl ?_ ?_
      rotate_left 2
      ·go_simp
       constructor
       ·rfl
       ·rfl
      refine hK.out _ _ ⟨cell_below (below_alloc (Below.refl _ _) _) z0, cell_below (below_alloc (Below.refl _ _) _) z1, cell_below (below_alloc (Below.refl _ _) _) z2, cell_below (below_alloc (Below.refl _ _) _) z3, cell_below (below_alloc (Below.refl _ _) _) z4, cell_below (below_alloc (Below.refl _ _) _) z5, cell_below (below_alloc (Below.refl _ _) _) hp0, cell_below (below_alloc (Below.refl _ _) _) hp1⟩ (fun hHeld => ?_)
      clear hK K
      refine norm_ (a' := ?_) ?_ ?_
      rotate_left
      ·show Act.put _ (some 12) _ = _
       simp only [Act.put, sA, sB, sC, i64_w, i32_w]; rfl
      refine one_ (i := 4) (N := some 55) #[J,J,J,J,J,Z,Z,Z,Z,J,Z,Z,Z] rfl rfl (by kernel_rfl) (by decide) (fun K hK => ?_)
      refine goes_ Try.func31 (by kernel_rfl) rfl #[.agg #[.int .i64 b1, .int .i64 b2, .int .i64 b3, .int .i64 b4, .slice A1 L1.length c1, .slice B1 R1.length d1], .agg #[.int .i64 p1, .int .i64 p2]] (by rfl) rfl rfl (by simp only [List.map_toArray, List.map_cons, List.map_nil]; rfl) ?_
      with_reducible refine (C1p.out _ (below_drew (below_alloc (Below.refl _ _) _))).mono ?_
      rintro e w1 ⟨A', c', B', d', X', Y', Z', rfl, rfl, rfl, rfl, h1, h2, h3, h4, hb1⟩
      refine ⟨_, rfl, ?_⟩
      refine hK.out _ _ ⟨cell_below hb1 (cell_below (below_drew (below_alloc (Below.refl _ _) _)) z0), cell_below hb1 (cell_below (below_drew (below_alloc (Below.refl _ _) _)) z1), cell_below hb1 (cell_below (below_drew (below_alloc (Below.refl _ _) _)) z2), cell_below hb1 (cell_below (below_drew (below_alloc (Below.refl _ _) _)) z3), cell_below hb1 (cell_below (below_drew (below_alloc (Below.refl _ _) _)) z4), cell_below hb1 (cell_below (below_drew (below_alloc (Below.refl _ _) _)) z5), cell_below hb1 (cell_below (below_drew (below_alloc (Below.refl _ _) _)) hp0), cell_below hb1 (cell_below (below_drew (below_alloc (Below.refl _ _) _)) hp1)⟩ (fun hHeld => ?_)
      clear hK K
      refine norm_ (a' := ?_) ?_ ?_
      rotate_left
      ·show Act.put _ (some 55) _ = _
       simp only [Act.put, sA, sB, sC, i64_w, i32_w]; rfl
      refine pure_ (i := 5) (N := some 50) (v := ?_) (a' := ?_) #[J,J,J,J,J,J,Z,Z,Z,J,Z,Z,Z] rfl rfl (by kernel_rfl) (fun _ _ _ h => h) (Or.inl ⟨by rfl, ?_⟩) ?_ ?_
      rotate_left
      ·intro w'; go_simp; with_reducible rfl
      rotate_left
      ·simp only [Act.put, sA, sB, sC, i64_w, i32_w]; rfl
      refine pure_ (i := 6) (N := some 56) (v := ?_) (a' := ?_) #[J,J,J,J,J,J,J,Z,Z,J,Z,Z,Z] rfl rfl (by kernel_rfl) (fun _ _ _ h => h) (Or.inl ⟨by rfl, ?_⟩) ?_ ?_
      rotate_left
      ·intro w'; go_simp; with_reducible rfl
      rotate_left
      ·simp only [Act.put, sA, sB, sC, i64_w, i32_w]; rfl
      refine pure_ (i := 7) (N := some 57) (v := ?_) (a' := ?_) #[J,J,J,J,J,J,J,J,Z,J,Z,Z,Z] rfl rfl (by kernel_rfl) (fun _ _ _ h => h) (Or.inl ⟨by rfl, ?_⟩) ?_ ?_
      rotate_left
      ·intro w'; go_simp; with_reducible rfl
      rotate_left
      ·simp only [Act.put, sA, sB, sC, i64_w, i32_w]; rfl
      refine pure_ (i := 8) (N := some 58) (v := ?_) (a' := ?_) #[J,J,J,J,J,J,J,J,J,J,Z,Z,Z] rfl rfl (by kernel_rfl) (fun _ _ _ h => h) (Or.inl ⟨by rfl, ?_⟩) ?_ ?_
      rotate_left
      ·intro w'; go_simp; with_reducible rfl
      rotate_left
      ·simp only [Act.put, sA, sB, sC, i64_w, i32_w]; rfl
      exact norm_ (by simp only [putAll, Act.put, List.setIfInBounds_toArray, List.set_cons_zero, List.set_cons_succ]) (hCont (Wp.heap.size, (A', c'), (B', d')) _ ⟨h1, h2, h3, h4, Nat.le_refl _, (hb1.block _ (lt_of_block (heap_alloc_new _ _))).trans (heap_alloc_new _ _), below_step (below_drew (below_alloc (Below.refl _ _) _)) hb1⟩)
    rintro ⟨gv, ⟨E', f'⟩, ⟨G', i'⟩⟩ w4 ⟨k1, k2, k3, k4, hgv, hbk, hbv⟩
    have hHeld := And.intro (cell_below hbv z0) (And.intro (cell_below hbv z1) (And.intro (cell_below hbv z2) (And.intro (cell_below hbv z3) (And.intro (cell_below hbv z4) (And.intro (cell_below hbv z5) (And.intro (cell_below hbv hp0) ((cell_below hbv hp1))))))))
    have bc0 := blk_cell hbk 0 rfl
    have bc1 := blk_cell hbk 1 rfl
    have bf0 := blk_free hbk 0
    have bf1 := blk_free hbk 1
    refine norm_ (a' := ?_) ?_ ?_
    rotate_left
    ·simp only [putAll, Act.put, List.setIfInBounds_toArray, List.set_cons_zero, List.set_cons_succ]
     rfl
    refine last_ (i := 10) (N := none) #[J,J,J,J,J,J,J,J,J,J,J,Z,Z] rfl rfl (by kernel_rfl) (by decide) (fun K hK => ?_)
    refine skip_ (w1 := ?_) (by rfl) rfl ?_ ?_
    rotate_left
    ·go_simp
     rfl
    refine hK.out _ _ ?_
    clear hK K
    refine pure_ (i := 11) (N := some 13) (v := ?_) (a' := ?_) #[J,J,J,J,J,J,J,J,J,J,J,J,Z] rfl rfl (by kernel_rfl) (fun _ _ _ h => h) (Or.inl ⟨by rfl, ?_⟩) ?_ ?_
    rotate_left
    ·intro w'; go_simp; with_reducible rfl
    rotate_left
    ·simp only [Act.put, sA, sB, sC, i64_w, i32_w]; rfl
    refine pure_ (i := 12) (N := some 14) (v := ?_) (a' := ?_) #[J,J,J,J,J,J,J,J,J,J,J,J,J] rfl rfl (by kernel_rfl) (fun _ _ _ h => h) (Or.inl ⟨by rfl, ?_⟩) ?_ ?_
    rotate_left
    ·intro w'; go_simp; with_reducible rfl
    rotate_left
    ·simp only [Act.put, sA, sB, sC, i64_w, i32_w]; rfl
    refine done_ (by kernel_rfl) ?_
    obtain ⟨Wq, hWq⟩ : ∃ Wq, Wq = (w4.setCell ⟨gv, 0, none⟩ (.int .i64 v1)).setCell ⟨gv, 1, none⟩ (.int .i64 v2) := ⟨_, rfl⟩
    have BQ : Below Wp.heap.size Wp Wq := by rw [hWq]; exact below_set2 hgv (below_set2 hgv hbv)
    have hV : Wq.heap[gv]? = some (.cells #[.int .i64 v1, .int .i64 v2] 31 (0, 0)) := by rw [hWq]; exact blk_set (i := 1) (blk_set (i := 0) hbk _) _
    have KQ : KeptS (fun k => k = gv) w4 Wq := by rw [hWq]; exact kept_set rfl (kept_set rfl (kept_refl _ _))
    have HVa : Hid (Row Ty.i64 (fun k => (ok k ∧ k < w.heap.size) ∨ k = g) Wq E' Va) := k2.step (fun k hk hlt => KQ.block k hlt (fun e : k = gv => by omega))
    have HVb : Hid (Row Ty.i64 (fun k => (ok k ∧ k < w.heap.size) ∨ k = g) Wq G' Vb) := k4.step (fun k hk hlt => KQ.block k hlt (fun e : k = gv => by omega))
    have HYq := Lib.hid (HY.out.below BQ)
    have HZq := Lib.hid (HZZ.out.below BQ)
    rw [← hWq]
    have HPq := blk_below HPp BQ
    have HRq := blk_below HZp BQ
    have hUq := blk_below hU BQ
    have BWq : Hid (Below w.heap.size w Wq) := below_step BWp.out BQ
    clear hWq KQ k2 k4 hbk hbv bc0 bc1 bf0 bf1 hp0 hp1 HPp HZp C1p z0 z1 z2 z3 z4 z5 hHeld BWp HY HZZ hU BQ BP
    have hp0 := blk_cell HPq 0 rfl
    have hp1 := blk_cell HPq 1 rfl
    have hpz := lt_of_block HPq
    have hu0 := blk_cell hUq 0 rfl
    have hu1 := blk_cell hUq 1 rfl
    have hv0 := blk_cell hV 0 rfl
    have hv1 := blk_cell hV 1 rfl
    have htb := turn_bd (q1, q2) (p1, p2) (v1, v2)
    have CT := Lib.hid (fun W => seg_Turn q1 q2 p1 p2 v1 v2 W)
    generalize turnZ (q1, q2) (p1, p2) (v1, v2) = tz at *
    go_wp2_with fail
    refine Calls.mono (CT.out _) ?_
    rintro e w5 ⟨rfl, hb5⟩
    have HP5 := blk_below HPq hb5
    have HR5 := blk_below HRq hb5
    have hU5 := blk_below hUq hb5
    have hV5 := blk_below hV hb5
    have HVa5 := Lib.hid (HVa.out.below hb5)
    have HVb5 := Lib.hid (HVb.out.below hb5)
    have HY5 := Lib.hid (HYq.out.below hb5)
    have HZ5 := Lib.hid (HZq.out.below hb5)
    have BW5 : Hid (Below w.heap.size w w5) := below_step BWq.out hb5
    clear hp0 hp1 hpz hu0 hu1 hv0 hv1 CT HPq HRq hUq hV HVa HVb HYq HZq BWq hb5
    have hp0 := blk_cell HP5 0 rfl
    have hp1 := blk_cell HP5 1 rfl
    have hpz := lt_of_block HP5
    have hu0 := blk_cell hU5 0 rfl
    have hu1 := blk_cell hU5 1 rfl
    have hv0 := blk_cell hV5 0 rfl
    have hv1 := blk_cell hV5 1 rfl
    have hwn : IntKind.i64.wrap (-tz) = -tz := IntWalk.i64_in _ (by omega)
    have E1 := (fun W (hb : Below w5.heap.size w5 W) => Equal_int (ok := fun k => (ok k ∧ k < w.heap.size) ∨ k = g) (ok' := fun k => (ok k ∧ k < w.heap.size) ∨ k = g) Va Yb E' B' Va.length Yb.length f' d' W (HVa5.out.below hb) (HZ5.out.below hb) rfl rfl)
    have E2 := (fun W (hb : Below w5.heap.size w5 W) => Equal_int (ok := fun k => (ok k ∧ k < w.heap.size) ∨ k = g) (ok' := fun k => (ok k ∧ k < w.heap.size) ∨ k = g) Vb Ya G' A' Vb.length Ya.length i' c' W (HVb5.out.below hb) (HY5.out.below hb) rfl rfl)
    obtain ⟨s1, hs1⟩ : ∃ b, b = decide (Va = Yb) := ⟨_, rfl⟩
    obtain ⟨s2, hs2⟩ : ∃ b, b = decide (Vb = Ya) := ⟨_, rfl⟩
    rw [← hs1] at E1
    rw [← hs2] at E2
    simp only [← hs1, ← hs2] at HA
    clear hs1 hs2
    have E1 := Lib.hid E1
    have E2 := Lib.hid E2
    have rc0 := blk_cell HR5 0 rfl
    cases s1
    ·go_wp2_with fail
     refine start_ (n := 20) (S := fun w' => w'.cell? ⟨gu, 0, none⟩ = some (.int .i64 q1) ∧ w'.cell? ⟨gu, 1, none⟩ = some (.int .i64 q2) ∧ w'.cell? ⟨w.heap.size, 0, none⟩ = some (.int .i64 p1) ∧ w'.cell? ⟨w.heap.size, 1, none⟩ = some (.int .i64 p2) ∧ w'.cell? ⟨gv, 0, none⟩ = some (.int .i64 v1) ∧ w'.cell? ⟨gv, 1, none⟩ = some (.int .i64 v2)) (ds := [18, 19]) #[Z,Z,Z,Z,Z,Z,Z,Z,Z,Z,Z,Z,Z,Z,Z,Z,Z,Z,Z,Z] (by kernel_rfl) rfl rfl ⟨hu0, hu1, hp0, hp1, hv0, hv1⟩ (fun hHeld => ?_)
     refine pure_ (i := 3) (N := some 66) (v := ?_) (a' := ?_) #[Z,Z,Z,J,Z,Z,Z,Z,Z,Z,Z,Z,Z,Z,Z,Z,Z,Z,Z,Z] rfl rfl (by kernel_rfl) (fun _ _ _ h => h) (Or.inl ⟨by rfl, ?_⟩) ?_ ?_
     rotate_left
     ·intro w'; go_simp; with_reducible rfl
     rotate_left
     ·simp only [Act.put, sA, sB, sC, i64_w, i32_w]; rfl
     refine pure_ (i := 4) (N := some 67) (v := ?_) (a' := ?_) #[Z,Z,Z,J,J,Z,Z,Z,Z,Z,Z,Z,Z,Z,Z,Z,Z,Z,Z,Z] rfl rfl (by kernel_rfl) (fun _ _ _ h => h) (Or.inl ⟨by rfl, ?_⟩) ?_ ?_
     rotate_left
     ·intro w'; go_simp; with_reducible rfl
     rotate_left
     ·simp only [Act.put, sA, sB, sC, i64_w, i32_w]; rfl
     refine pure_ (i := 5) (N := some 68) (v := ?_) (a' := ?_) #[Z,Z,Z,J,J,J,Z,Z,Z,Z,Z,Z,Z,Z,Z,Z,Z,Z,Z,Z] rfl rfl (by kernel_rfl) (fun _ _ _ h => h) (Or.inl ⟨by rfl, ?_⟩) ?_ ?_
     rotate_left
     ·intro w'; go_simp; with_reducible rfl
     rotate_left
     ·simp only [Act.put, sA, sB, sC, i64_w, i32_w]; rfl
     refine pure_ (i := 6) (N := some 69) (v := ?_) (a' := ?_) #[Z,Z,Z,J,J,J,J,Z,Z,Z,Z,Z,Z,Z,Z,Z,Z,Z,Z,Z] rfl rfl (by kernel_rfl) (fun _ _ _ h => h) (Or.inl ⟨by rfl, ?_⟩) ?_ ?_
     rotate_left
     ·intro w'; go_simp; with_reducible rfl
     rotate_left
     ·simp only [Act.put, sA, sB, sC, i64_w, i32_w]; rfl
     refine pure_ (i := 7) (N := some 70) (v := ?_) (a' := ?_) #[Z,Z,Z,J,J,J,J,J,Z,Z,Z,Z,Z,Z,Z,Z,Z,Z,Z,Z] rfl rfl (by kernel_rfl) (fun _ _ _ h => h) (Or.inl ⟨by rfl, ?_⟩) ?_ ?_
     rotate_left
     ·intro w'; go_simp; with_reducible rfl
     rotate_left
     ·simp only [Act.put, sA, sB, sC, i64_w, i32_w]; rfl
     refine pure_ (i := 8) (N := some 71) (v := ?_) (a' := ?_) #[Z,Z,Z,J,J,J,J,J,J,Z,Z,Z,Z,Z,Z,Z,Z,Z,Z,Z] rfl rfl (by kernel_rfl) (fun _ _ _ h => h) (Or.inl ⟨by rfl, ?_⟩) ?_ ?_
     rotate_left
     ·intro w'; go_simp; with_reducible rfl
     rotate_left
     ·simp only [Act.put, sA, sB, sC, i64_w, i32_w]; rfl
     refine pure_ (i := 9) (N := some 72) (v := ?_) (a' := ?_) #[Z,Z,Z,J,J,J,J,J,J,J,Z,Z,Z,Z,Z,Z,Z,Z,Z,Z] rfl rfl (by kernel_rfl) (fun _ _ _ h => h) (Or.inl ⟨by rfl, ?_⟩) ?_ ?_
     rotate_left
     ·intro w'; go_simp; with_reducible rfl
     rotate_left
     ·simp only [Act.put, sA, sB, sC, i64_w, i32_w]; rfl
     refine pure_ (i := 10) (N := some 73) (v := ?_) (a' := ?_) #[Z,Z,Z,J,J,J,J,J,J,J,J,Z,Z,Z,Z,Z,Z,Z,Z,Z] rfl rfl (by kernel_rfl) (fun _ _ _ h => h) (Or.inl ⟨by rfl, ?_⟩) ?_ ?_
     rotate_left
     ·intro w'; go_simp; with_reducible rfl
     rotate_left
     ·simp only [Act.put, sA, sB, sC, i64_w, i32_w]; rfl
     refine take_ (i := 0) (N := some 63) (v := ?_) (a' := ?_) #[J,Z,Z,J,J,J,J,J,J,J,J,Z,Z,Z,Z,Z,Z,Z,Z,Z] rfl rfl (by kernel_rfl) (fun _ _ _ h => h) (Or.inl ⟨by rfl, ?_⟩) hHeld ?_ ?_
     rotate_left
     ·rintro w' ⟨s0, s1, s2, s3, s4, s5⟩; go_simp; with_reducible rfl
     rotate_left
     ·simp only [Act.put, sA, sB, sC, i64_w, i32_w]; rfl
     refine take_ (i := 1) (N := some 64) (v := ?_) (a' := ?_) #[J,J,Z,J,J,J,J,J,J,J,J,Z,Z,Z,Z,Z,Z,Z,Z,Z] rfl rfl (by kernel_rfl) (fun _ _ _ h => h) (Or.inl ⟨by rfl, ?_⟩) hHeld ?_ ?_
     rotate_left
     ·rintro w' ⟨s0, s1, s2, s3, s4, s5⟩; go_simp; with_reducible rfl
     rotate_left
     ·simp only [Act.put, sA, sB, sC, i64_w, i32_w]; rfl
     refine take_ (i := 2) (N := some 65) (v := ?_) (a' := ?_) #[J,J,J,J,J,J,J,J,J,J,J,Z,Z,Z,Z,Z,Z,Z,Z,Z] rfl rfl (by kernel_rfl) (fun _ _ _ h => h) (Or.inl ⟨by rfl, ?_⟩) hHeld ?_ ?_
     rotate_left
     ·rintro w' ⟨s0, s1, s2, s3, s4, s5⟩; go_simp; with_reducible rfl
     rotate_left
     ·simp only [Act.put, sA, sB, sC, i64_w, i32_w]; rfl
     refine one_ (i := 11) (N := some 74) #[J,J,J,J,J,J,J,J,J,J,J,J,Z,Z,Z,Z,Z,Z,Z,Z] rfl rfl (by kernel_rfl) (by decide) (fun K hK => ?_)
     refine goes_ Try.func33 (by kernel_rfl) rfl #[.slice E' Va.length f', .slice B' Yb.length d'] (by rfl) rfl rfl (by simp only [List.map_toArray, List.map_cons, List.map_nil]; rfl) ?_
     with_reducible refine (E1.out _ (below_drew (Below.refl _ _))).mono ?_
     rintro e w6 ⟨rfl, hb6⟩
     refine ⟨_, rfl, ?_⟩
     have B7 : Below w5.heap.size w5 w6 := (by repeat (first | exact Below.refl _ _ | apply below_alloc | apply below_drewN | apply below_drew | (refine below_set2 ?_ ?_; (first | (simp; done) | (simp; omega))) | (refine below_step ?_ hb6)))
     have HR7 := blk_below HR5 B7
     have rc0 := blk_cell HR7 0 rfl
     have rc1 := blk_cell HR7 1 rfl
     have rc2 := blk_cell HR7 2 rfl
     have rc3 := blk_cell HR7 3 rfl
     have rc4 := blk_cell HR7 4 rfl
     have rc5 := blk_cell HR7 5 rfl
     have rc6 := blk_cell HR7 6 rfl
     have rc7 := blk_cell HR7 7 rfl
     have rc8 := blk_cell HR7 8 rfl
     have rc9 := blk_cell HR7 9 rfl
     have rf0 := blk_free HR7 0
     have rf1 := blk_free HR7 1
     have rf2 := blk_free HR7 2
     have rf3 := blk_free HR7 3
     have rf4 := blk_free HR7 4
     have rf5 := blk_free HR7 5
     have rf6 := blk_free HR7 6
     have rf7 := blk_free HR7 7
     have rf8 := blk_free HR7 8
     have rf9 := blk_free HR7 9
     refine hK.out _ _ ⟨cell_below hb6 hu0, cell_below hb6 hu1, cell_below hb6 hp0, cell_below hb6 hp1, cell_below hb6 hv0, cell_below hb6 hv1⟩ (fun hHeld => ?_)
     clear hK K
     refine norm_ (a' := ?_) ?_ ?_
     rotate_left
     ·show Act.put _ (some 74) _ = _
      simp only [Act.put, sA, sB, sC, i64_w, i32_w]; rfl
     refine pure_ (i := 12) (N := some 75) (v := ?_) (a' := ?_) #[J,J,J,J,J,J,J,J,J,J,J,J,J,Z,Z,Z,Z,Z,Z,Z] rfl rfl (by kernel_rfl) (fun _ _ _ h => h) (Or.inl ⟨by rfl, ?_⟩) ?_ ?_
     rotate_left
     ·intro w'; go_simp; with_reducible rfl
     rotate_left
     ·simp only [Act.put, sA, sB, sC, i64_w, i32_w]; rfl
     refine pure_ (i := 13) (N := some 76) (v := undef) (a' := ?_) #[J,J,J,J,J,J,J,J,J,J,J,J,J,J,Z,Z,Z,Z,Z,Z] rfl rfl (by kernel_rfl) (fun _ _ _ h => h) (Or.inr ⟨by rfl, rfl⟩) ?_ ?_
     rotate_left
     ·simp only [Act.put, sA, sB, sC, i64_w, i32_w]; rfl
     refine pure_ (i := 14) (N := some 77) (v := undef) (a' := ?_) #[J,J,J,J,J,J,J,J,J,J,J,J,J,J,J,Z,Z,Z,Z,Z] rfl rfl (by kernel_rfl) (fun _ _ _ h => h) (Or.inr ⟨by rfl, rfl⟩) ?_ ?_
     rotate_left
     ·simp only [Act.put, sA, sB, sC, i64_w, i32_w]; rfl
     refine pure_ (i := 15) (N := some 78) (v := undef) (a' := ?_) #[J,J,J,J,J,J,J,J,J,J,J,J,J,J,J,J,Z,Z,Z,Z] rfl rfl (by kernel_rfl) (fun _ _ _ h => h) (Or.inr ⟨by rfl, rfl⟩) ?_ ?_
     rotate_left
     ·simp only [Act.put, sA, sB, sC, i64_w, i32_w]; rfl
     refine pure_ (i := 16) (N := some 79) (v := ?_) (a' := ?_) #[J,J,J,J,J,J,J,J,J,J,J,J,J,J,J,J,J,Z,Z,Z] rfl rfl (by kernel_rfl) (fun _ _ _ h => h) (Or.inl ⟨by rfl, ?_⟩) ?_ ?_
     rotate_left
     ·intro w'; go_simp; with_reducible rfl
     rotate_left
     ·simp only [Act.put, sA, sB, sC, i64_w, i32_w]; rfl
     refine pure_ (i := 17) (N := some 80) (v := ?_) (a' := ?_) #[J,J,J,J,J,J,J,J,J,J,J,J,J,J,J,J,J,J,Z,Z] rfl rfl (by kernel_rfl) (fun _ _ _ h => h) (Or.inl ⟨by rfl, ?_⟩) ?_ ?_
     rotate_left
     ·intro w'; go_simp; with_reducible rfl
     rotate_left
     ·simp only [Act.put, sA, sB, sC, i64_w, i32_w]; rfl
     refine last_ (i := 18) (N := none) #[J,J,J,J,J,J,J,J,J,J,J,J,J,J,J,J,J,J,J,Z] rfl rfl (by kernel_rfl) (by decide) (fun K hK => ?_)
     refine skip_ (w1 := ?_) (by rfl) rfl ?_ ?_
     rotate_left
     ·go_simp
      rfl
     refine hK.out _ _ ?_
     clear hK K
     refine pure_ (i := 19) (N := some 5) (v := ?_) (a' := ?_) #[J,J,J,J,J,J,J,J,J,J,J,J,J,J,J,J,J,J,J,J] rfl rfl (by kernel_rfl) (fun _ _ _ h => h) (Or.inl ⟨by rfl, ?_⟩) ?_ ?_
     rotate_left
     ·intro w'; go_simp; with_reducible rfl
     rotate_left
     ·simp only [Act.put, sA, sB, sC, i64_w, i32_w]; rfl
     refine done_ (by kernel_rfl) ?_
     obtain ⟨WF, hWF⟩ : ∃ WF, WF = (((((((((w6.setCell ⟨w.heap.size + 1, 0, none⟩ (.int .i64 q1)).setCell ⟨w.heap.size + 1, 1, none⟩ (.int .i64 q2)).setCell ⟨w.heap.size + 1, 2, none⟩ (.int .i64 p1)).setCell ⟨w.heap.size + 1, 3, none⟩ (.int .i64 p2)).setCell ⟨w.heap.size + 1, 4, none⟩ (.int .i64 v1)).setCell ⟨w.heap.size + 1, 5, none⟩ (.int .i64 v2)).setCell ⟨w.heap.size + 1, 6, none⟩ (.int .i64 (max tz (-tz)))).setCell ⟨w.heap.size + 1, 7, none⟩ (.slice B' Yb.length d')).setCell ⟨w.heap.size + 1, 8, none⟩ (.slice A' Ya.length c')).setCell ⟨w.heap.size + 1, 9, none⟩ (.bool false) := ⟨_, rfl⟩
     have KF : KeptS (fun k => k = w.heap.size + 1) w6 WF := by rw [hWF]; exact kept_set rfl (kept_set rfl (kept_set rfl (kept_set rfl (kept_set rfl (kept_set rfl (kept_set rfl (kept_set rfl (kept_set rfl (kept_set rfl (kept_refl _ _))))))))))
     have hF := (blk_set (i := 9) (blk_set (i := 8) (blk_set (i := 7) (blk_set (i := 6) (blk_set (i := 5) (blk_set (i := 4) (blk_set (i := 3) (blk_set (i := 2) (blk_set (i := 1) (blk_set (i := 0) HR7 (.int .i64 q1)) (.int .i64 q2)) (.int .i64 p1)) (.int .i64 p2)) (.int .i64 v1)) (.int .i64 v2)) (.int .i64 (max tz (-tz)))) (.slice B' Yb.length d')) (.slice A' Ya.length c')) (.bool false))
     have hwz2 : w.heap.size + 1 < W0.heap.size := lt_of_block hZ
     have HYF : Hid (Row Ty.i64 (fun k => (ok k ∧ k < w.heap.size) ∨ k = g) WF A' Ya) := (HY5.out.below B7).step (fun k hk hlt => KF.block k hlt (fun e : k = w.heap.size + 1 => by omega))
     have HZF : Hid (Row Ty.i64 (fun k => (ok k ∧ k < w.heap.size) ∨ k = g) WF B' Yb) := (HZ5.out.below B7).step (fun k hk hlt => KF.block k hlt (fun e : k = w.heap.size + 1 => by omega))
     have BF : Hid (Below w.heap.size w WF) := below_kept (below_step BW5.out B7) KF (fun b hb => by omega)
     simp only [List.setIfInBounds_toArray, List.set_cons_zero, List.set_cons_succ] at hF
     rw [← hWF] at hF ⊢
     clear hWF KF hHeld rc0 rc1 rc2 rc3 rc4 rc5 rc6 rc7 rc8 rc9 rf0 rf1 rf2 rf3 rf4 rf5 rf6 rf7 rf8 rf9 hu0 hu1 hv0 hv1 hp0 hp1
     have rc0 := blk_cell hF 0 rfl
     have rc1 := blk_cell hF 1 rfl
     have rc2 := blk_cell hF 2 rfl
     have rc3 := blk_cell hF 3 rfl
     have rc4 := blk_cell hF 4 rfl
     have rc5 := blk_cell hF 5 rfl
     have rc6 := blk_cell hF 6 rfl
     have rc7 := blk_cell hF 7 rfl
     have rc8 := blk_cell hF 8 rfl
     have rc9 := blk_cell hF 9 rfl
     go_wp2
     refine bodyPost_ret (v := .tuple #[corV (q1, q2) (p1, p2) (v1, v2) (max tz (-tz)) B' Yb.length d' A' Ya.length c' false, .bool true]) ?_ rfl ⟨?_, BF.out⟩
     ·simp [results, Try.results17]
      go_simp
     ·rw [HA.out]
      exact ⟨_, rfl, B', d', A', c', rfl, hc2, HZF.out.mono (fun k hk => hk.elim (fun h => .inl h.1) (fun h => .inr (by omega))), hc1, HYF.out.mono (fun k hk => hk.elim (fun h => .inl h.1) (fun h => .inr (by omega)))⟩
    ·go_wp2_with fail
     refine start_ (n := 20) (S := fun w' => w'.cell? ⟨gu, 0, none⟩ = some (.int .i64 q1) ∧ w'.cell? ⟨gu, 1, none⟩ = some (.int .i64 q2) ∧ w'.cell? ⟨w.heap.size, 0, none⟩ = some (.int .i64 p1) ∧ w'.cell? ⟨w.heap.size, 1, none⟩ = some (.int .i64 p2) ∧ w'.cell? ⟨gv, 0, none⟩ = some (.int .i64 v1) ∧ w'.cell? ⟨gv, 1, none⟩ = some (.int .i64 v2)) (ds := [18, 19]) #[Z,Z,Z,Z,Z,Z,Z,Z,Z,Z,Z,Z,Z,Z,Z,Z,Z,Z,Z,Z] (by kernel_rfl) rfl rfl ⟨hu0, hu1, hp0, hp1, hv0, hv1⟩ (fun hHeld => ?_)
     refine pure_ (i := 3) (N := some 66) (v := ?_) (a' := ?_) #[Z,Z,Z,J,Z,Z,Z,Z,Z,Z,Z,Z,Z,Z,Z,Z,Z,Z,Z,Z] rfl rfl (by kernel_rfl) (fun _ _ _ h => h) (Or.inl ⟨by rfl, ?_⟩) ?_ ?_
     rotate_left
     ·intro w'; go_simp; with_reducible rfl
     rotate_left
     ·simp only [Act.put, sA, sB, sC, i64_w, i32_w]; rfl
     refine pure_ (i := 4) (N := some 67) (v := ?_) (a' := ?_) #[Z,Z,Z,J,J,Z,Z,Z,Z,Z,Z,Z,Z,Z,Z,Z,Z,Z,Z,Z] rfl rfl (by kernel_rfl) (fun _ _ _ h => h) (Or.inl ⟨by rfl, ?_⟩) ?_ ?_
     rotate_left
     ·intro w'; go_simp; with_reducible rfl
     rotate_left
     ·simp only [Act.put, sA, sB, sC, i64_w, i32_w]; rfl
     refine pure_ (i := 5) (N := some 68) (v := ?_) (a' := ?_) #[Z,Z,Z,J,J,J,Z,Z,Z,Z,Z,Z,Z,Z,Z,Z,Z,Z,Z,Z] rfl rfl (by kernel_rfl) (fun _ _ _ h => h) (Or.inl ⟨by rfl, ?_⟩) ?_ ?_
     rotate_left
     ·intro w'; go_simp; with_reducible rfl
     rotate_left
     ·simp only [Act.put, sA, sB, sC, i64_w, i32_w]; rfl
     refine pure_ (i := 6) (N := some 69) (v := ?_) (a' := ?_) #[Z,Z,Z,J,J,J,J,Z,Z,Z,Z,Z,Z,Z,Z,Z,Z,Z,Z,Z] rfl rfl (by kernel_rfl) (fun _ _ _ h => h) (Or.inl ⟨by rfl, ?_⟩) ?_ ?_
     rotate_left
     ·intro w'; go_simp; with_reducible rfl
     rotate_left
     ·simp only [Act.put, sA, sB, sC, i64_w, i32_w]; rfl
     refine pure_ (i := 7) (N := some 70) (v := ?_) (a' := ?_) #[Z,Z,Z,J,J,J,J,J,Z,Z,Z,Z,Z,Z,Z,Z,Z,Z,Z,Z] rfl rfl (by kernel_rfl) (fun _ _ _ h => h) (Or.inl ⟨by rfl, ?_⟩) ?_ ?_
     rotate_left
     ·intro w'; go_simp; with_reducible rfl
     rotate_left
     ·simp only [Act.put, sA, sB, sC, i64_w, i32_w]; rfl
     refine pure_ (i := 8) (N := some 71) (v := ?_) (a' := ?_) #[Z,Z,Z,J,J,J,J,J,J,Z,Z,Z,Z,Z,Z,Z,Z,Z,Z,Z] rfl rfl (by kernel_rfl) (fun _ _ _ h => h) (Or.inl ⟨by rfl, ?_⟩) ?_ ?_
     rotate_left
     ·intro w'; go_simp; with_reducible rfl
     rotate_left
     ·simp only [Act.put, sA, sB, sC, i64_w, i32_w]; rfl
     refine pure_ (i := 9) (N := some 72) (v := ?_) (a' := ?_) #[Z,Z,Z,J,J,J,J,J,J,J,Z,Z,Z,Z,Z,Z,Z,Z,Z,Z] rfl rfl (by kernel_rfl) (fun _ _ _ h => h) (Or.inl ⟨by rfl, ?_⟩) ?_ ?_
     rotate_left
     ·intro w'; go_simp; with_reducible rfl
     rotate_left
     ·simp only [Act.put, sA, sB, sC, i64_w, i32_w]; rfl
     refine pure_ (i := 10) (N := some 73) (v := ?_) (a' := ?_) #[Z,Z,Z,J,J,J,J,J,J,J,J,Z,Z,Z,Z,Z,Z,Z,Z,Z] rfl rfl (by kernel_rfl) (fun _ _ _ h => h) (Or.inl ⟨by rfl, ?_⟩) ?_ ?_
     rotate_left
     ·intro w'; go_simp; with_reducible rfl
     rotate_left
     ·simp only [Act.put, sA, sB, sC, i64_w, i32_w]; rfl
     refine take_ (i := 0) (N := some 63) (v := ?_) (a' := ?_) #[J,Z,Z,J,J,J,J,J,J,J,J,Z,Z,Z,Z,Z,Z,Z,Z,Z] rfl rfl (by kernel_rfl) (fun _ _ _ h => h) (Or.inl ⟨by rfl, ?_⟩) hHeld ?_ ?_
     rotate_left
     ·rintro w' ⟨s0, s1, s2, s3, s4, s5⟩; go_simp; with_reducible rfl
     rotate_left
     ·simp only [Act.put, sA, sB, sC, i64_w, i32_w]; rfl
     refine take_ (i := 1) (N := some 64) (v := ?_) (a' := ?_) #[J,J,Z,J,J,J,J,J,J,J,J,Z,Z,Z,Z,Z,Z,Z,Z,Z] rfl rfl (by kernel_rfl) (fun _ _ _ h => h) (Or.inl ⟨by rfl, ?_⟩) hHeld ?_ ?_
     rotate_left
     ·rintro w' ⟨s0, s1, s2, s3, s4, s5⟩; go_simp; with_reducible rfl
     rotate_left
     ·simp only [Act.put, sA, sB, sC, i64_w, i32_w]; rfl
     refine take_ (i := 2) (N := some 65) (v := ?_) (a' := ?_) #[J,J,J,J,J,J,J,J,J,J,J,Z,Z,Z,Z,Z,Z,Z,Z,Z] rfl rfl (by kernel_rfl) (fun _ _ _ h => h) (Or.inl ⟨by rfl, ?_⟩) hHeld ?_ ?_
     rotate_left
     ·rintro w' ⟨s0, s1, s2, s3, s4, s5⟩; go_simp; with_reducible rfl
     rotate_left
     ·simp only [Act.put, sA, sB, sC, i64_w, i32_w]; rfl
     refine one_ (i := 11) (N := some 74) #[J,J,J,J,J,J,J,J,J,J,J,J,Z,Z,Z,Z,Z,Z,Z,Z] rfl rfl (by kernel_rfl) (by decide) (fun K hK => ?_)
     refine goes_ Try.func33 (by kernel_rfl) rfl #[.slice E' Va.length f', .slice B' Yb.length d'] (by rfl) rfl rfl (by simp only [List.map_toArray, List.map_cons, List.map_nil]; rfl) ?_
     with_reducible refine (E1.out _ (below_drew (Below.refl _ _))).mono ?_
     rintro e w6 ⟨rfl, hb6⟩
     refine ⟨_, rfl, ?_⟩
     refine hK.out _ _ ⟨cell_below hb6 hu0, cell_below hb6 hu1, cell_below hb6 hp0, cell_below hb6 hp1, cell_below hb6 hv0, cell_below hb6 hv1⟩ (fun hHeld => ?_)
     clear hK K
     refine norm_ (a' := ?_) ?_ ?_
     rotate_left
     ·show Act.put _ (some 74) _ = _
      simp only [Act.put, sA, sB, sC, i64_w, i32_w]; rfl
     refine pure_ (i := 12) (N := some 75) (v := ?_) (a' := ?_) #[J,J,J,J,J,J,J,J,J,J,J,J,J,Z,Z,Z,Z,Z,Z,Z] rfl rfl (by kernel_rfl) (fun _ _ _ h => h) (Or.inl ⟨by rfl, ?_⟩) ?_ ?_
     rotate_left
     ·intro w'; go_simp; with_reducible rfl
     rotate_left
     ·simp only [Act.put, sA, sB, sC, i64_w, i32_w]; rfl
     refine pure_ (i := 13) (N := some 76) (v := ?_) (a' := ?_) #[J,J,J,J,J,J,J,J,J,J,J,J,J,J,Z,Z,Z,Z,Z,Z] rfl rfl (by kernel_rfl) (fun _ _ _ h => h) (Or.inl ⟨by rfl, ?_⟩) ?_ ?_
     rotate_left
     ·intro w'; go_simp; with_reducible rfl
     rotate_left
     ·simp only [Act.put, sA, sB, sC, i64_w, i32_w]; rfl
     refine pure_ (i := 14) (N := some 77) (v := ?_) (a' := ?_) #[J,J,J,J,J,J,J,J,J,J,J,J,J,J,J,Z,Z,Z,Z,Z] rfl rfl (by kernel_rfl) (fun _ _ _ h => h) (Or.inl ⟨by rfl, ?_⟩) ?_ ?_
     rotate_left
     ·intro w'; go_simp; with_reducible rfl
     rotate_left
     ·simp only [Act.put, sA, sB, sC, i64_w, i32_w]; rfl
     refine one_ (i := 15) (N := some 78) #[J,J,J,J,J,J,J,J,J,J,J,J,J,J,J,J,Z,Z,Z,Z] rfl rfl (by kernel_rfl) (by decide) (fun K hK => ?_)
     refine goes_ Try.func33 (by kernel_rfl) rfl #[.slice G' Vb.length i', .slice A' Ya.length c'] (by rfl) rfl rfl (by simp only [List.map_toArray, List.map_cons, List.map_nil]; rfl) ?_
     with_reducible refine (E2.out _ (below_step (below_drew (Below.refl _ _)) hb6)).mono ?_
     rintro e w7 ⟨rfl, hb7⟩
     refine ⟨_, rfl, ?_⟩
     have B7 : Below w5.heap.size w5 w7 := (by repeat (first | exact Below.refl _ _ | apply below_alloc | apply below_drewN | apply below_drew | (refine below_set2 ?_ ?_; (first | (simp; done) | (simp; omega))) | (refine below_step ?_ hb7) | (refine below_step ?_ hb6)))
     have HR7 := blk_below HR5 B7
     have rc0 := blk_cell HR7 0 rfl
     have rc1 := blk_cell HR7 1 rfl
     have rc2 := blk_cell HR7 2 rfl
     have rc3 := blk_cell HR7 3 rfl
     have rc4 := blk_cell HR7 4 rfl
     have rc5 := blk_cell HR7 5 rfl
     have rc6 := blk_cell HR7 6 rfl
     have rc7 := blk_cell HR7 7 rfl
     have rc8 := blk_cell HR7 8 rfl
     have rc9 := blk_cell HR7 9 rfl
     have rf0 := blk_free HR7 0
     have rf1 := blk_free HR7 1
     have rf2 := blk_free HR7 2
     have rf3 := blk_free HR7 3
     have rf4 := blk_free HR7 4
     have rf5 := blk_free HR7 5
     have rf6 := blk_free HR7 6
     have rf7 := blk_free HR7 7
     have rf8 := blk_free HR7 8
     have rf9 := blk_free HR7 9
     refine hK.out _ _ ⟨cell_below hb7 (cell_below hb6 hu0), cell_below hb7 (cell_below hb6 hu1), cell_below hb7 (cell_below hb6 hp0), cell_below hb7 (cell_below hb6 hp1), cell_below hb7 (cell_below hb6 hv0), cell_below hb7 (cell_below hb6 hv1)⟩ (fun hHeld => ?_)
     clear hK K
     refine norm_ (a' := ?_) ?_ ?_
     rotate_left
     ·show Act.put _ (some 78) _ = _
      simp only [Act.put, sA, sB, sC, i64_w, i32_w]; rfl
     refine pure_ (i := 16) (N := some 79) (v := ?_) (a' := ?_) #[J,J,J,J,J,J,J,J,J,J,J,J,J,J,J,J,J,Z,Z,Z] rfl rfl (by kernel_rfl) (fun _ _ _ h => h) (Or.inl ⟨by rfl, ?_⟩) ?_ ?_
     rotate_left
     ·intro w'; go_simp; with_reducible rfl
     rotate_left
     ·simp only [Act.put, sA, sB, sC, i64_w, i32_w]; rfl
     refine pure_ (i := 17) (N := some 80) (v := ?_) (a' := ?_) #[J,J,J,J,J,J,J,J,J,J,J,J,J,J,J,J,J,J,Z,Z] rfl rfl (by kernel_rfl) (fun _ _ _ h => h) (Or.inl ⟨by rfl, ?_⟩) ?_ ?_
     rotate_left
     ·intro w'; go_simp; with_reducible rfl
     rotate_left
     ·simp only [Act.put, sA, sB, sC, i64_w, i32_w]; rfl
     refine last_ (i := 18) (N := none) #[J,J,J,J,J,J,J,J,J,J,J,J,J,J,J,J,J,J,J,Z] rfl rfl (by kernel_rfl) (by decide) (fun K hK => ?_)
     refine skip_ (w1 := ?_) (by rfl) rfl ?_ ?_
     rotate_left
     ·go_simp
      rfl
     refine hK.out _ _ ?_
     clear hK K
     refine pure_ (i := 19) (N := some 5) (v := ?_) (a' := ?_) #[J,J,J,J,J,J,J,J,J,J,J,J,J,J,J,J,J,J,J,J] rfl rfl (by kernel_rfl) (fun _ _ _ h => h) (Or.inl ⟨by rfl, ?_⟩) ?_ ?_
     rotate_left
     ·intro w'; go_simp; with_reducible rfl
     rotate_left
     ·simp only [Act.put, sA, sB, sC, i64_w, i32_w]; rfl
     refine done_ (by kernel_rfl) ?_
     obtain ⟨WF, hWF⟩ : ∃ WF, WF = (((((((((w7.setCell ⟨w.heap.size + 1, 0, none⟩ (.int .i64 q1)).setCell ⟨w.heap.size + 1, 1, none⟩ (.int .i64 q2)).setCell ⟨w.heap.size + 1, 2, none⟩ (.int .i64 p1)).setCell ⟨w.heap.size + 1, 3, none⟩ (.int .i64 p2)).setCell ⟨w.heap.size + 1, 4, none⟩ (.int .i64 v1)).setCell ⟨w.heap.size + 1, 5, none⟩ (.int .i64 v2)).setCell ⟨w.heap.size + 1, 6, none⟩ (.int .i64 (max tz (-tz)))).setCell ⟨w.heap.size + 1, 7, none⟩ (.slice B' Yb.length d')).setCell ⟨w.heap.size + 1, 8, none⟩ (.slice A' Ya.length c')).setCell ⟨w.heap.size + 1, 9, none⟩ (.bool s2) := ⟨_, rfl⟩
     have KF : KeptS (fun k => k = w.heap.size + 1) w7 WF := by rw [hWF]; exact kept_set rfl (kept_set rfl (kept_set rfl (kept_set rfl (kept_set rfl (kept_set rfl (kept_set rfl (kept_set rfl (kept_set rfl (kept_set rfl (kept_refl _ _))))))))))
     have hF := (blk_set (i := 9) (blk_set (i := 8) (blk_set (i := 7) (blk_set (i := 6) (blk_set (i := 5) (blk_set (i := 4) (blk_set (i := 3) (blk_set (i := 2) (blk_set (i := 1) (blk_set (i := 0) HR7 (.int .i64 q1)) (.int .i64 q2)) (.int .i64 p1)) (.int .i64 p2)) (.int .i64 v1)) (.int .i64 v2)) (.int .i64 (max tz (-tz)))) (.slice B' Yb.length d')) (.slice A' Ya.length c')) (.bool s2))
     have hwz2 : w.heap.size + 1 < W0.heap.size := lt_of_block hZ
     have HYF : Hid (Row Ty.i64 (fun k => (ok k ∧ k < w.heap.size) ∨ k = g) WF A' Ya) := (HY5.out.below B7).step (fun k hk hlt => KF.block k hlt (fun e : k = w.heap.size + 1 => by omega))
     have HZF : Hid (Row Ty.i64 (fun k => (ok k ∧ k < w.heap.size) ∨ k = g) WF B' Yb) := (HZ5.out.below B7).step (fun k hk hlt => KF.block k hlt (fun e : k = w.heap.size + 1 => by omega))
     have BF : Hid (Below w.heap.size w WF) := below_kept (below_step BW5.out B7) KF (fun b hb => by omega)
     simp only [List.setIfInBounds_toArray, List.set_cons_zero, List.set_cons_succ] at hF
     rw [← hWF] at hF ⊢
     clear hWF KF hHeld rc0 rc1 rc2 rc3 rc4 rc5 rc6 rc7 rc8 rc9 rf0 rf1 rf2 rf3 rf4 rf5 rf6 rf7 rf8 rf9 hu0 hu1 hv0 hv1 hp0 hp1
     have rc0 := blk_cell hF 0 rfl
     have rc1 := blk_cell hF 1 rfl
     have rc2 := blk_cell hF 2 rfl
     have rc3 := blk_cell hF 3 rfl
     have rc4 := blk_cell hF 4 rfl
     have rc5 := blk_cell hF 5 rfl
     have rc6 := blk_cell hF 6 rfl
     have rc7 := blk_cell hF 7 rfl
     have rc8 := blk_cell hF 8 rfl
     have rc9 := blk_cell hF 9 rfl
     go_wp2
     refine bodyPost_ret (v := .tuple #[corV (q1, q2) (p1, p2) (v1, v2) (max tz (-tz)) B' Yb.length d' A' Ya.length c' s2, .bool true]) ?_ rfl ⟨?_, BF.out⟩
     ·simp [results, Try.results17]
      go_simp
     ·rw [HA.out]
      exact ⟨_, rfl, B', d', A', c', rfl, hc2, HZF.out.mono (fun k hk => hk.elim (fun h => .inl h.1) (fun h => .inr (by omega))), hc1, HYF.out.mono (fun k hk => hk.elim (fun h => .inl h.1) (fun h => .inr (by omega)))⟩
   ·have HA : Hid (atZ m (p1, p2) = none) := if_neg h2
    have BW : Hid (Below w.heap.size w wr) := below_step B0 HB.out
    have hwz2 : w.heap.size + 1 < W0.heap.size := lt_of_block hZ
    have q : ((((m.filter (endE (p1, p2))).length : Nat) : Int) != 2) = true := by simp; omega
    obtain ⟨Al, cl, rfl, _, _⟩ := OwnR.reads HO.out
    have rc0 := blk_cell HZ 0 rfl
    have rf0 := blk_free HZ 0
    have rc1 := blk_cell HZ 1 rfl
    have rf1 := blk_free HZ 1
    have rc2 := blk_cell HZ 2 rfl
    have rf2 := blk_free HZ 2
    have rc3 := blk_cell HZ 3 rfl
    have rf3 := blk_free HZ 3
    have rc4 := blk_cell HZ 4 rfl
    have rf4 := blk_free HZ 4
    have rc5 := blk_cell HZ 5 rfl
    have rf5 := blk_free HZ 5
    have rc6 := blk_cell HZ 6 rfl
    have rf6 := blk_free HZ 6
    have rc7 := blk_cell HZ 7 rfl
    have rf7 := blk_free HZ 7
    have rc8 := blk_cell HZ 8 rfl
    have rf8 := blk_free HZ 8
    have rc9 := blk_cell HZ 9 rfl
    have rf9 := blk_free HZ 9
    go_wp2
    refine bodyPost_ret (v := .tuple #[corV (0, 0) (0, 0) (0, 0) 0 none 0 0 none 0 0 false, .bool false]) ?_ rfl ⟨by rw [HA.out]; rfl, by (iterate 10 refine below_set2 (Nat.le_succ _) ?_); exact BW.out⟩
    simp [results, Try.results17]
    go_simp
end
end Go.Proofs.Ytaeflnbjeaoapaa
