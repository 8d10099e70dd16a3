/- Contract of (simplify.corner).blocks. -/
import Derived.Test.YtaeflnbjeaoapaaGreatKPW
import Derived.Test.YtaeflnbjeaoapaaGreatKP5
import Derived.Test.YtaeflnbjeaoapaaGreatKP6
namespace Go.Proofs.YtaeflnbjeaoapaaGreat
set_option linter.unusedVariables false
set_option linter.unusedSimpArgs false
section
open Go.RowKit Go.Proofs.YtaeflnbjeaoapaaGreatW.PrintLast

attribute [local go_sem high] eqPt eqSg
section
variable {P : Program} {ops : Array Oper} {Q : Exit → Act → World → Prop}
/-- A call of a function value that has caught variables, in a region that draws. -/
theorem goesV_ {oi : Oper} {N : Option Tmp} {a : Act} {w : World} {K : Act → World → Prop} {f : FuncId} {fn : Func} {x : Operand} {cap : Array Value} {os : Array Operand} {ts : Array TypeId} (hf : P.funcs[f]? = some fn) (hname : (fn.name == "runtime.NumGoroutine") = false) (hb : fn.body.isSome = true) (args : Array Value)
  (hw : Region.wanted oi (yielded ops a.tmps) = true) (hN : oi.dst = N) (hop : oi.op = .call { callee := .value x, args := os, argTypes := ts }) (hx : a.eval x = .func (.func f) #[] cap) (hargs : os.map a.eval ++ cap = args)
  (h : Calls P f args w fun e w' => ∃ v, e = .returned v ∧ K (a.put N v) w') : if Region.wanted oi (yielded ops a.tmps) = true then Oper.wp P oi a w K Q else K (a.put N undef) w := by
 refine call_ f args hw hN ?_ h
 have he := enters_ hf hname hb args w
 unfold execOp
 simp [hop, resolve, Deferred.ofValue, invoke, hx, hargs, he]
end
theorem lit3 {w : World} {g : Nat} {t : TypeId} {u1 u2 p1 p2 q1 q2 : Int} (h : w.heap[g]? = some (.cells #[.int .i64 u1, .int .i64 u2, .int .i64 q1, .int .i64 q2, .int .i64 u1, .int .i64 u2, .int .i64 p1, .int .i64 p2, .int .i64 p1, .int .i64 p2, .int .i64 q1, .int .i64 q2] t (0, 0))) (k : Nat) (hk : k < 3) :
  w.cell? ⟨g, k * 4, none⟩ = some (.int .i64 (sgD [((u1, u2), (q1, q2)), ((u1, u2), (p1, p2)), ((p1, p2), (q1, q2))] k).1.1) ∧ w.cell? ⟨g, k * 4 + 1, none⟩ = some (.int .i64 (sgD [((u1, u2), (q1, q2)), ((u1, u2), (p1, p2)), ((p1, p2), (q1, q2))] k).1.2) ∧
   w.cell? ⟨g, k * 4 + 2, none⟩ = some (.int .i64 (sgD [((u1, u2), (q1, q2)), ((u1, u2), (p1, p2)), ((p1, p2), (q1, q2))] k).2.1) ∧ w.cell? ⟨g, k * 4 + 3, none⟩ = some (.int .i64 (sgD [((u1, u2), (q1, q2)), ((u1, u2), (p1, p2)), ((p1, p2), (q1, q2))] k).2.2) := by
 match k, hk with
 | 0, _ => exact ⟨blk_cell h 0 rfl, blk_cell h 1 rfl, blk_cell h 2 rfl, blk_cell h 3 rfl⟩
 | 1, _ => exact ⟨blk_cell h 4 rfl, blk_cell h 5 rfl, blk_cell h 6 rfl, blk_cell h 7 rfl⟩
 | 2, _ => exact ⟨blk_cell h 8 rfl, blk_cell h 9 rfl, blk_cell h 10 rfl, blk_cell h 11 rfl⟩
theorem any3 (f : Sg → Bool) (x y z : Sg) : (f x || (f y || f z)) = [x, y, z].any f := by simp
theorem blocks_tt {c : Cor} {e : Edg} (h1 : endE c.u e = true) (h2 : endE c.w e = true) : blocksZ c e = true := by unfold blocksZ; simp [h1, h2]
theorem blocks_z1 {c : Cor} {e : Edg} (h1 : endE c.u e = true) (h2 : endE c.w e = false) (hz : c.size = 0) : blocksZ c e = decide (relZ e.1 (ofB c.u c.w) = 3) := by unfold blocksZ; simp [h1, h2, hz]
theorem blocks_z2 {c : Cor} {e : Edg} (h1 : endE c.u e = false) (h2 : endE c.w e = true) (hz : c.size = 0) : blocksZ c e = decide (relZ e.1 (ofB c.u c.w) = 3) := by unfold blocksZ; simp [h1, h2, hz]
theorem blocks_u {c : Cor} {e : Edg} (h1 : endE c.u e = true) (h2 : endE c.w e = false) (hz : ¬ c.size = 0) : blocksZ c e = insideZ c.u c.p c.w (farE e c.u) := by unfold blocksZ; simp [h1, h2, hz]
theorem blocks_q {c : Cor} {e : Edg} (h1 : endE c.u e = false) (h2 : endE c.w e = true) (hz : ¬ c.size = 0) : blocksZ c e = insideZ c.w c.p c.u (farE e c.w) := by unfold blocksZ; simp [h1, h2, hz]
theorem blocks_ff {c : Cor} {e : Edg} (h1 : endE c.u e = false) (h2 : endE c.w e = false) : blocksZ c e = if [(c.u, c.w), (c.u, c.p), (c.p, c.w)].any (fun x : Sg => decide (relZ e.1 (ofB x.1 x.2) ≠ 0)) = true then true else decide (c.size > 0) && (insideZ c.u c.p c.w e.1.1 && insideZ c.w c.p c.u e.1.1) := by
 unfold blocksZ
 rw [h1, h2, ← any3 (fun x : Sg => decide (relZ e.1 (ofB x.1 x.2) ≠ 0))]
 simp
set_option maxRecDepth 100000 in
set_option maxHeartbeats 4000000 in
theorem corner_blocks (u1 u2 p1 p2 q1 q2 sz : Int) (l r : List Int) (sm sm' : Bool) (A B : Option Addr) (n c m d : Nat) (a1 a2 b1 b2 : Int) (L R : List Int) (A1 B1 : Option Addr) (n1 c1 m1 d1 : Nat) (w : World) :
  Calls Tryz.prog 43 #[corV (u1, u2) (p1, p2) (q1, q2) sz A n c B m d sm', .agg #[.int .i64 a1, .int .i64 a2, .int .i64 b1, .int .i64 b2, .slice A1 n1 c1, .slice B1 m1 d1]] w fun e w' =>
   e = .returned (.bool (blocksZ ⟨(u1, u2), (p1, p2), (q1, q2), sz, l, r, sm⟩ (((a1, a2), (b1, b2)), (L, R)))) ∧ Below w.heap.size w w' := by
 obtain ⟨W0, hW0⟩ : ∃ W0, W0 = ((w.alloc (.cells #[.int .i64 u1, .int .i64 u2, .int .i64 p1, .int .i64 p2, .int .i64 q1, .int .i64 q2, .int .i64 sz, .slice A n c, .slice B m d, .bool sm'] 41)).alloc (.cells #[.int .i64 a1, .int .i64 a2, .int .i64 b1, .int .i64 b2, .slice A1 n1 c1, .slice B1 m1 d1] 31)).alloc (.cells #[.int .i64 a1, .int .i64 a2, .int .i64 b1, .int .i64 b2] 48) := ⟨_, rfl⟩
 have BB : Hid (Below w.heap.size w W0) := by rw [hW0]; exact bq
 have HC : Hid (W0.heap[w.heap.size]? = some (.cells #[.int .i64 u1, .int .i64 u2, .int .i64 p1, .int .i64 p2, .int .i64 q1, .int .i64 q2, .int .i64 sz, .slice A n c, .slice B m d, .bool sm'] 41 (0, 0))) := Lib.hid (by rw [hW0]; exact blk_alloc (blk_alloc (heap_alloc_new _ _) _) _)
 have HE : Hid (W0.heap[w.heap.size + 1]? = some (.cells #[.int .i64 a1, .int .i64 a2, .int .i64 b1, .int .i64 b2, .slice A1 n1 c1, .slice B1 m1 d1] 31 (0, 0))) := Lib.hid <| by
  rw [hW0]; refine blk_alloc ?_ _; have := heap_alloc_new (w.alloc (.cells #[.int .i64 u1, .int .i64 u2, .int .i64 p1, .int .i64 p2, .int .i64 q1, .int .i64 q2, .int .i64 sz, .slice A n c, .slice B m d, .bool sm'] 41)) (.cells #[.int .i64 a1, .int .i64 a2, .int .i64 b1, .int .i64 b2, .slice A1 n1 c1, .slice B1 m1 d1] 31); simpa using this
 have HS : Hid (W0.heap[w.heap.size + 1 + 1]? = some (.cells #[.int .i64 a1, .int .i64 a2, .int .i64 b1, .int .i64 b2] 48 (0, 0))) := Lib.hid <| by
  rw [hW0]; have := heap_alloc_new ((w.alloc (.cells #[.int .i64 u1, .int .i64 u2, .int .i64 p1, .int .i64 p2, .int .i64 q1, .int .i64 q2, .int .i64 sz, .slice A n c, .slice B m d, .bool sm'] 41)).alloc (.cells #[.int .i64 a1, .int .i64 a2, .int .i64 b1, .int .i64 b2, .slice A1 n1 c1, .slice B1 m1 d1] 31)) (.cells #[.int .i64 a1, .int .i64 a2, .int .i64 b1, .int .i64 b2] 48); simpa using this
 go_enter Tryz.func43, Tryz.ntmps43
 go_wp2_with fail
 rw [← hW0]
 clear hW0
 have rc0 := blk_cell HC.out 0 rfl
 have rc1 := blk_cell HC.out 1 rfl
 have rc2 := blk_cell HC.out 2 rfl
 have rc3 := blk_cell HC.out 3 rfl
 have rc4 := blk_cell HC.out 4 rfl
 have rc5 := blk_cell HC.out 5 rfl
 have rc6 := blk_cell HC.out 6 rfl
 have re0 := blk_cell HE.out 0 rfl
 have re1 := blk_cell HE.out 1 rfl
 have re2 := blk_cell HE.out 2 rfl
 have re3 := blk_cell HE.out 3 rfl
 have rs0 := blk_cell HS.out 0 rfl
 have rs1 := blk_cell HS.out 1 rfl
 have rs2 := blk_cell HS.out 2 rfl
 have rs3 := blk_cell HS.out 3 rfl
 by_cases hz : sz = 0
 ·subst hz
  cases hx : endE (u1, u2) (((a1, a2), (b1, b2)), (L, R)) <;> cases hy : endE (q1, q2) (((a1, a2), (b1, b2)), (L, R))
  ·have e1 : endE (u1, u2) (((a1, a2), (b1, b2)), (L, R)) = false := hx
   have e2 : endE (q1, q2) (((a1, a2), (b1, b2)), (L, R)) = false := hy
   have HB := Lib.hid (blocks_ff (c := ⟨(u1, u2), (p1, p2), (q1, q2), 0, l, r, sm⟩) (e := (((a1, a2), (b1, b2)), (L, R))) e1 e2)
   go_wp2_with fail
   refine (blocks_ends (w.heap.size + 1) a1 a2 b1 b2 L R (u1, u2) _ re0 re1 re2 re3).mono ?_
   rintro e v1 ⟨rfl, hb1⟩
   have HC' := Lib.hid (blk_below HC.out hb1)
   have HE' := Lib.hid (blk_below HE.out hb1)
   have HS' := Lib.hid (blk_below HS.out hb1)
   have BB' := Lib.hid (below_step BB.out hb1)
   clear HC HE HS BB rc0 rc1 rc2 rc3 rc4 rc5 rc6 re0 re1 re2 re3 rs0 rs1 rs2 rs3 
   have HC := HC'
   have HE := HE'
   have HS := HS'
   have BB := BB'
   clear HC' HE' HS' BB' 
   have hzc := lt_of_block HS.out
   have rc0 := blk_cell HC.out 0 rfl
   have rc1 := blk_cell HC.out 1 rfl
   have rc2 := blk_cell HC.out 2 rfl
   have rc3 := blk_cell HC.out 3 rfl
   have rc4 := blk_cell HC.out 4 rfl
   have rc5 := blk_cell HC.out 5 rfl
   have rc6 := blk_cell HC.out 6 rfl
   have re0 := blk_cell HE.out 0 rfl
   have re1 := blk_cell HE.out 1 rfl
   have re2 := blk_cell HE.out 2 rfl
   have re3 := blk_cell HE.out 3 rfl
   have rs0 := blk_cell HS.out 0 rfl
   have rs1 := blk_cell HS.out 1 rfl
   have rs2 := blk_cell HS.out 2 rfl
   have rs3 := blk_cell HS.out 3 rfl
   clear hb1
   rw [e1]
   go_wp2_with fail
   refine (blocks_ends (w.heap.size + 1) a1 a2 b1 b2 L R (u1, u2) _ re0 re1 re2 re3).mono ?_
   rintro e v2 ⟨rfl, hb2⟩
   have HC' := Lib.hid (blk_below HC.out hb2)
   have HE' := Lib.hid (blk_below HE.out hb2)
   have HS' := Lib.hid (blk_below HS.out hb2)
   have BB' := Lib.hid (below_step BB.out hb2)
   clear HC HE HS BB rc0 rc1 rc2 rc3 rc4 rc5 rc6 re0 re1 re2 re3 rs0 rs1 rs2 rs3 
   have HC := HC'
   have HE := HE'
   have HS := HS'
   have BB := BB'
   clear HC' HE' HS' BB' 
   have hzc := lt_of_block HS.out
   have rc0 := blk_cell HC.out 0 rfl
   have rc1 := blk_cell HC.out 1 rfl
   have rc2 := blk_cell HC.out 2 rfl
   have rc3 := blk_cell HC.out 3 rfl
   have rc4 := blk_cell HC.out 4 rfl
   have rc5 := blk_cell HC.out 5 rfl
   have rc6 := blk_cell HC.out 6 rfl
   have re0 := blk_cell HE.out 0 rfl
   have re1 := blk_cell HE.out 1 rfl
   have re2 := blk_cell HE.out 2 rfl
   have re3 := blk_cell HE.out 3 rfl
   have rs0 := blk_cell HS.out 0 rfl
   have rs1 := blk_cell HS.out 1 rfl
   have rs2 := blk_cell HS.out 2 rfl
   have rs3 := blk_cell HS.out 3 rfl
   clear hb2
   rw [e1]
   go_wp2_with fail
   refine (blocks_ends (w.heap.size + 1) a1 a2 b1 b2 L R (q1, q2) _ re0 re1 re2 re3).mono ?_
   rintro e v3 ⟨rfl, hb3⟩
   have HC' := Lib.hid (blk_below HC.out hb3)
   have HE' := Lib.hid (blk_below HE.out hb3)
   have HS' := Lib.hid (blk_below HS.out hb3)
   have BB' := Lib.hid (below_step BB.out hb3)
   clear HC HE HS BB rc0 rc1 rc2 rc3 rc4 rc5 rc6 re0 re1 re2 re3 rs0 rs1 rs2 rs3 
   have HC := HC'
   have HE := HE'
   have HS := HS'
   have BB := BB'
   clear HC' HE' HS' BB' 
   have hzc := lt_of_block HS.out
   have rc0 := blk_cell HC.out 0 rfl
   have rc1 := blk_cell HC.out 1 rfl
   have rc2 := blk_cell HC.out 2 rfl
   have rc3 := blk_cell HC.out 3 rfl
   have rc4 := blk_cell HC.out 4 rfl
   have rc5 := blk_cell HC.out 5 rfl
   have rc6 := blk_cell HC.out 6 rfl
   have re0 := blk_cell HE.out 0 rfl
   have re1 := blk_cell HE.out 1 rfl
   have re2 := blk_cell HE.out 2 rfl
   have re3 := blk_cell HE.out 3 rfl
   have rs0 := blk_cell HS.out 0 rfl
   have rs1 := blk_cell HS.out 1 rfl
   have rs2 := blk_cell HS.out 2 rfl
   have rs3 := blk_cell HS.out 3 rfl
   clear hb3
   rw [e2]
   go_wp2_with fail
   refine (blocks_ends (w.heap.size + 1) a1 a2 b1 b2 L R (u1, u2) _ re0 re1 re2 re3).mono ?_
   rintro e v4 ⟨rfl, hb4⟩
   have HC' := Lib.hid (blk_below HC.out hb4)
   have HE' := Lib.hid (blk_below HE.out hb4)
   have HS' := Lib.hid (blk_below HS.out hb4)
   have BB' := Lib.hid (below_step BB.out hb4)
   clear HC HE HS BB rc0 rc1 rc2 rc3 rc4 rc5 rc6 re0 re1 re2 re3 rs0 rs1 rs2 rs3 
   have HC := HC'
   have HE := HE'
   have HS := HS'
   have BB := BB'
   clear HC' HE' HS' BB' 
   have hzc := lt_of_block HS.out
   have rc0 := blk_cell HC.out 0 rfl
   have rc1 := blk_cell HC.out 1 rfl
   have rc2 := blk_cell HC.out 2 rfl
   have rc3 := blk_cell HC.out 3 rfl
   have rc4 := blk_cell HC.out 4 rfl
   have rc5 := blk_cell HC.out 5 rfl
   have rc6 := blk_cell HC.out 6 rfl
   have re0 := blk_cell HE.out 0 rfl
   have re1 := blk_cell HE.out 1 rfl
   have re2 := blk_cell HE.out 2 rfl
   have re3 := blk_cell HE.out 3 rfl
   have rs0 := blk_cell HS.out 0 rfl
   have rs1 := blk_cell HS.out 1 rfl
   have rs2 := blk_cell HS.out 2 rfl
   have rs3 := blk_cell HS.out 3 rfl
   clear hb4
   rw [e1]
   go_wp2_with fail
   refine (blocks_ends (w.heap.size + 1) a1 a2 b1 b2 L R (q1, q2) _ re0 re1 re2 re3).mono ?_
   rintro e v5 ⟨rfl, hb5⟩
   have HC' := Lib.hid (blk_below HC.out hb5)
   have HE' := Lib.hid (blk_below HE.out hb5)
   have HS' := Lib.hid (blk_below HS.out hb5)
   have BB' := Lib.hid (below_step BB.out hb5)
   clear HC HE HS BB rc0 rc1 rc2 rc3 rc4 rc5 rc6 re0 re1 re2 re3 rs0 rs1 rs2 rs3 
   have HC := HC'
   have HE := HE'
   have HS := HS'
   have BB := BB'
   clear HC' HE' HS' BB' 
   have hzc := lt_of_block HS.out
   have rc0 := blk_cell HC.out 0 rfl
   have rc1 := blk_cell HC.out 1 rfl
   have rc2 := blk_cell HC.out 2 rfl
   have rc3 := blk_cell HC.out 3 rfl
   have rc4 := blk_cell HC.out 4 rfl
   have rc5 := blk_cell HC.out 5 rfl
   have rc6 := blk_cell HC.out 6 rfl
   have re0 := blk_cell HE.out 0 rfl
   have re1 := blk_cell HE.out 1 rfl
   have re2 := blk_cell HE.out 2 rfl
   have re3 := blk_cell HE.out 3 rfl
   have rs0 := blk_cell HS.out 0 rfl
   have rs1 := blk_cell HS.out 1 rfl
   have rs2 := blk_cell HS.out 2 rfl
   have rs3 := blk_cell HS.out 3 rfl
   clear hb5
   rw [e2]
   go_wp2_with fail
   obtain ⟨WL, hWL⟩ : ∃ WL, WL = v5.alloc (.cells #[.int .i64 u1, .int .i64 u2, .int .i64 q1, .int .i64 q2, .int .i64 u1, .int .i64 u2, .int .i64 p1, .int .i64 p2, .int .i64 p1, .int .i64 p2, .int .i64 q1, .int .i64 q2] 96) := ⟨_, rfl⟩
   rw [← hWL]
   have hbL : Below v5.heap.size v5 WL := by rw [hWL]; exact below_alloc (Below.refl _ _) _
   have HQ : Hid (WL.heap[v5.heap.size]? = some (.cells #[.int .i64 u1, .int .i64 u2, .int .i64 q1, .int .i64 q2, .int .i64 u1, .int .i64 u2, .int .i64 p1, .int .i64 p2, .int .i64 p1, .int .i64 p2, .int .i64 q1, .int .i64 q2] 96 (0, 0))) := Lib.hid (by rw [hWL]; exact heap_alloc_new _ _)
   have hqz := lt_of_block HQ.out
   clear hWL
   have HC' := Lib.hid (blk_below HC.out hbL)
   have HE' := Lib.hid (blk_below HE.out hbL)
   have HS' := Lib.hid (blk_below HS.out hbL)
   have BB' := Lib.hid (below_step BB.out hbL)
   clear HC HE HS BB rc0 rc1 rc2 rc3 rc4 rc5 rc6 re0 re1 re2 re3 rs0 rs1 rs2 rs3 
   have HC := HC'
   have HE := HE'
   have HS := HS'
   have BB := BB'
   clear HC' HE' HS' BB' 
   have hzc := lt_of_block HS.out
   have rc0 := blk_cell HC.out 0 rfl
   have rc1 := blk_cell HC.out 1 rfl
   have rc2 := blk_cell HC.out 2 rfl
   have rc3 := blk_cell HC.out 3 rfl
   have rc4 := blk_cell HC.out 4 rfl
   have rc5 := blk_cell HC.out 5 rfl
   have rc6 := blk_cell HC.out 6 rfl
   have re0 := blk_cell HE.out 0 rfl
   have re1 := blk_cell HE.out 1 rfl
   have re2 := blk_cell HE.out 2 rfl
   have re3 := blk_cell HE.out 3 rfl
   have rs0 := blk_cell HS.out 0 rfl
   have rs1 := blk_cell HS.out 1 rfl
   have rs2 := blk_cell HS.out 2 rfl
   have rs3 := blk_cell HS.out 3 rfl
   clear hbL
   generalize hff : (fun x : Sg => decide (relZ ((a1, a2), (b1, b2)) (ofB x.1 x.2) ≠ 0)) = ff at *
   have HF : Hid (∀ x1 x2 x3 x4 : Int, ff ((x1, x2), (x3, x4)) = decide (relZ ((a1, a2), (b1, b2)) (ofB (x1, x2) (x3, x4)) ≠ 0)) := Lib.hid (fun _ _ _ _ => by rw [← hff])
   clear hff
   generalize hxs : ([((u1, u2), (q1, q2)), ((u1, u2), (p1, p2)), ((p1, p2), (q1, q2))] : Sgs) = xs at *
   have HXL : xs.length = 3 := by rw [← hxs]; rfl
   have HXS := Lib.hid hxs
   clear hxs
   go_loopw [101] (fun i wr => ∃ k : Nat, k ≤ 3 ∧ i = .int .i64 k ∧ Hid (Below WL.heap.size WL wr) ∧ Hid ((xs.take k).any ff = false)) (fun i _ => 3 - (intOf i).toNat)
   case atStart => exact ⟨0, Nat.zero_le _, rfl, Below.refl _ _, by simp [Hid]⟩
   case round =>
    obtain ⟨k, hk, rfl, HBr, hall⟩ := hrel
    have hbr := HBr.out
    have HC' := Lib.hid (blk_below HC.out hbr)
    have HE' := Lib.hid (blk_below HE.out hbr)
    have HS' := Lib.hid (blk_below HS.out hbr)
    have BB' := Lib.hid (below_step BB.out hbr)
    have HQ' := Lib.hid (blk_below HQ.out hbr)
    clear HC HE HS BB rc0 rc1 rc2 rc3 rc4 rc5 rc6 re0 re1 re2 re3 rs0 rs1 rs2 rs3 HQ
    have HC := HC'
    have HE := HE'
    have HS := HS'
    have BB := BB'
    have HQ := HQ'
    clear HC' HE' HS' BB' HQ'
    have hzc := lt_of_block HS.out
    have rc0 := blk_cell HC.out 0 rfl
    have rc1 := blk_cell HC.out 1 rfl
    have rc2 := blk_cell HC.out 2 rfl
    have rc3 := blk_cell HC.out 3 rfl
    have rc4 := blk_cell HC.out 4 rfl
    have rc5 := blk_cell HC.out 5 rfl
    have rc6 := blk_cell HC.out 6 rfl
    have re0 := blk_cell HE.out 0 rfl
    have re1 := blk_cell HE.out 1 rfl
    have re2 := blk_cell HE.out 2 rfl
    have re3 := blk_cell HE.out 3 rfl
    have rs0 := blk_cell HS.out 0 rfl
    have rs1 := blk_cell HS.out 1 rfl
    have rs2 := blk_cell HS.out 2 rfl
    have rs3 := blk_cell HS.out 3 rfl
    have hszr := hbr.size
    clear hbr
    by_cases hlt : k < 3
    ·have hl3 := lit3 HQ.out k hlt
     rw [HXS.out] at hl3
     have HSN : Hid ((xs.take (k + 1)).any ff = ((xs.take k).any ff || ff (sgD xs k))) := Lib.hid (by rw [take_snoc xs k ((0, 0), (0, 0)) (by omega), List.any_append]; simp [sgD])
     have HIN : Hid (sgD xs k ∈ xs) := Lib.hid (by rw [sgD_eq (by omega : k < xs.length)]; exact List.getElem_mem _)
     generalize sgD xs k = xk at *
     obtain ⟨⟨x1, x2⟩, x3, x4⟩ := xk
     simp only at hl3
     obtain ⟨l0, l1, l2, l3⟩ := hl3
     have HFX := Lib.hid (HF.out x1 x2 x3 x4)
     have CO := Lib.hid (fun W => seg_Of x1 x2 x3 x4 W)
     have CR := Lib.hid (fun W => seg_Relate a1 a2 b1 b2 (ofB (x1, x2) (x3, x4)).1.1 (ofB (x1, x2) (x3, x4)).1.2 (ofB (x1, x2) (x3, x4)).2.1 (ofB (x1, x2) (x3, x4)).2.2 W)
     generalize ofB (x1, x2) (x3, x4) = oz at *
     obtain ⟨⟨o1, o2⟩, o3, o4⟩ := oz
     simp only at CO CR HFX
     generalize relZ ((a1, a2), (b1, b2)) ((o1, o2), (o3, o4)) = rz at *
     go_wp2_with fail
     obtain ⟨WX, hWX⟩ : ∃ WX, WX = wr.alloc (.cells #[.int .i64 x1, .int .i64 x2, .int .i64 x3, .int .i64 x4] 96) := ⟨_, rfl⟩
     rw [← hWX]
     have hbX : Below wr.heap.size wr WX := by rw [hWX]; exact below_alloc (Below.refl _ _) _
     have HT : WX.heap[wr.heap.size]? = some (.cells #[.int .i64 x1, .int .i64 x2, .int .i64 x3, .int .i64 x4] 96 (0, 0)) := by rw [hWX]; exact heap_alloc_new _ _
     clear hWX l0 l1 l2 l3
     have HC' := Lib.hid (blk_below HC.out hbX)
     have HE' := Lib.hid (blk_below HE.out hbX)
     have HS' := Lib.hid (blk_below HS.out hbX)
     have BB' := Lib.hid (below_step BB.out hbX)
     clear HC HE HS BB rc0 rc1 rc2 rc3 rc4 rc5 rc6 re0 re1 re2 re3 rs0 rs1 rs2 rs3 
     have HC := HC'
     have HE := HE'
     have HS := HS'
     have BB := BB'
     clear HC' HE' HS' BB' 
     have hzc := lt_of_block HS.out
     have rc0 := blk_cell HC.out 0 rfl
     have rc1 := blk_cell HC.out 1 rfl
     have rc2 := blk_cell HC.out 2 rfl
     have rc3 := blk_cell HC.out 3 rfl
     have rc4 := blk_cell HC.out 4 rfl
     have rc5 := blk_cell HC.out 5 rfl
     have rc6 := blk_cell HC.out 6 rfl
     have re0 := blk_cell HE.out 0 rfl
     have re1 := blk_cell HE.out 1 rfl
     have re2 := blk_cell HE.out 2 rfl
     have re3 := blk_cell HE.out 3 rfl
     have rs0 := blk_cell HS.out 0 rfl
     have rs1 := blk_cell HS.out 1 rfl
     have rs2 := blk_cell HS.out 2 rfl
     have rs3 := blk_cell HS.out 3 rfl
     have t0 := blk_cell HT 0 rfl
     have t1 := blk_cell HT 1 rfl
     have t2 := blk_cell HT 2 rfl
     have t3 := blk_cell HT 3 rfl
     by_cases h3 : rz = 0
     ·have h31 : (rz != 0) = false := by simpa using h3
      have HFx : Hid (ff ((x1, x2), (x3, x4)) = false) := Lib.hid (HFX.out.trans (by simpa using h3))
      refine start_ (n := 8) (S := fun w' => w'.cell? ⟨w.heap.size + 1 + 1, 0, none⟩ = some (.int .i64 a1) ∧ w'.cell? ⟨w.heap.size + 1 + 1, 1, none⟩ = some (.int .i64 a2) ∧ w'.cell? ⟨w.heap.size + 1 + 1, 2, none⟩ = some (.int .i64 b1) ∧ w'.cell? ⟨w.heap.size + 1 + 1, 3, none⟩ = some (.int .i64 b2) ∧ w'.cell? ⟨wr.heap.size, 0, none⟩ = some (.int .i64 x1) ∧ w'.cell? ⟨wr.heap.size, 1, none⟩ = some (.int .i64 x2) ∧ w'.cell? ⟨wr.heap.size, 2, none⟩ = some (.int .i64 x3) ∧ w'.cell? ⟨wr.heap.size, 3, none⟩ = some (.int .i64 x4)) (ds := []) #[Z,Z,Z,Z,Z,Z,Z,Z] (by kernel_rfl) rfl rfl ⟨rs0, rs1, rs2, rs3, t0, t1, t2, t3⟩ (fun hHeld => ?_)
      refine pu 1 106 ?_
      refine pu 3 108 ?_
      refine ta 0 105 hHeld ?_
      refine ta 2 107 hHeld ?_
      refine ta 4 109 hHeld ?_
      refine one_ (i := 5) (N := some 110) #[J,J,J,J,J,J,Z,Z] rfl rfl (by kernel_rfl) (by decide) (fun K hK => ?_)
      refine goes_ Tryz.func67 (by kernel_rfl) rfl #[.agg #[.int .i64 x1, .int .i64 x2], .agg #[.int .i64 x3, .int .i64 x4]] (by rfl) rfl rfl (by simp only [List.map_toArray, List.map_cons, List.map_nil]; rfl) ?_
      with_reducible refine (CO.out _).mono ?_
      rintro e whA ⟨rfl, hA⟩
      refine ⟨_, rfl, ?_⟩
      refine hK.out _ _ ⟨cell_below hA rs0, cell_below hA rs1, cell_below hA rs2, cell_below hA rs3, cell_below hA t0, cell_below hA t1, cell_below hA t2, cell_below hA t3⟩ (fun hHeld => ?_)
      clear hK K
      refine nm 110 ?_
      refine one_ (i := 6) (N := some 111) #[J,J,J,J,J,J,J,Z] rfl rfl (by kernel_rfl) (by decide) (fun K hK => ?_)
      refine goes_ Tryz.func76 (by kernel_rfl) rfl #[.agg #[.int .i64 a1, .int .i64 a2, .int .i64 b1, .int .i64 b2], .agg #[.int .i64 o1, .int .i64 o2, .int .i64 o3, .int .i64 o4]] (by rfl) rfl rfl (by simp only [List.map_toArray, List.map_cons, List.map_nil]; rfl) ?_
      with_reducible refine (CR.out _).mono ?_
      rintro e whB ⟨rfl, hB⟩
      refine ⟨_, rfl, ?_⟩
      refine hK.out _ _ ⟨cell_below hB (cell_below hA rs0), cell_below hB (cell_below hA rs1), cell_below hB (cell_below hA rs2), cell_below hB (cell_below hA rs3), cell_below hB (cell_below hA t0), cell_below hB (cell_below hA t1), cell_below hB (cell_below hA t2), cell_below hB (cell_below hA t3)⟩ (fun hHeld => ?_)
      clear hK K
      refine nm 111 ?_
      refine pu 7 112 ?_
      refine done_ (by kernel_rfl) ?_
      have hbE : Below wr.heap.size wr whB := (by repeat (first | exact Below.refl _ _ | apply below_alloc | apply below_drewN | apply below_drew | (refine below_set2 ?_ ?_; (first | (simp; done) | (simp; omega))) | (refine below_step ?_ hB) | (refine below_step ?_ hA) | (refine below_step ?_ hbX)))
      clear t0 t1 t2 t3 HT CO CR HFX HC HE HS BB hA hB hHeld rc0 rc1 rc2 rc3 rc4 rc5 rc6 re0 re1 re2 re3 rs0 rs1 rs2 rs3
      go_wp2
      go_roundw
      case rel => exact ⟨k + 1, by omega, by go_num, (by repeat (first | exact Below.refl _ _ | apply below_alloc | apply below_drewN | apply below_drew | (refine below_set2 ?_ ?_; (first | (simp; done) | (simp; omega))) | (refine below_step ?_ hbE) | (refine below_step ?_ HBr.out))), Lib.hid (by rw [HSN.out, hall.out, HFx.out]; rfl)⟩
      case measure => simp [intOf]; omega
     ·have h31 : (rz != 0) = true := by simpa using h3
      have HA : Hid (xs.any ff = true) := Lib.hid (List.any_eq_true.2 ⟨((x1, x2), (x3, x4)), HIN.out, HFX.out.trans (by simpa using h3)⟩)
      refine start_ (n := 8) (S := fun w' => w'.cell? ⟨w.heap.size + 1 + 1, 0, none⟩ = some (.int .i64 a1) ∧ w'.cell? ⟨w.heap.size + 1 + 1, 1, none⟩ = some (.int .i64 a2) ∧ w'.cell? ⟨w.heap.size + 1 + 1, 2, none⟩ = some (.int .i64 b1) ∧ w'.cell? ⟨w.heap.size + 1 + 1, 3, none⟩ = some (.int .i64 b2) ∧ w'.cell? ⟨wr.heap.size, 0, none⟩ = some (.int .i64 x1) ∧ w'.cell? ⟨wr.heap.size, 1, none⟩ = some (.int .i64 x2) ∧ w'.cell? ⟨wr.heap.size, 2, none⟩ = some (.int .i64 x3) ∧ w'.cell? ⟨wr.heap.size, 3, none⟩ = some (.int .i64 x4)) (ds := []) #[Z,Z,Z,Z,Z,Z,Z,Z] (by kernel_rfl) rfl rfl ⟨rs0, rs1, rs2, rs3, t0, t1, t2, t3⟩ (fun hHeld => ?_)
      refine pu 1 106 ?_
      refine pu 3 108 ?_
      refine ta 0 105 hHeld ?_
      refine ta 2 107 hHeld ?_
      refine ta 4 109 hHeld ?_
      refine one_ (i := 5) (N := some 110) #[J,J,J,J,J,J,Z,Z] rfl rfl (by kernel_rfl) (by decide) (fun K hK => ?_)
      refine goes_ Tryz.func67 (by kernel_rfl) rfl #[.agg #[.int .i64 x1, .int .i64 x2], .agg #[.int .i64 x3, .int .i64 x4]] (by rfl) rfl rfl (by simp only [List.map_toArray, List.map_cons, List.map_nil]; rfl) ?_
      with_reducible refine (CO.out _).mono ?_
      rintro e whA ⟨rfl, hA⟩
      refine ⟨_, rfl, ?_⟩
      refine hK.out _ _ ⟨cell_below hA rs0, cell_below hA rs1, cell_below hA rs2, cell_below hA rs3, cell_below hA t0, cell_below hA t1, cell_below hA t2, cell_below hA t3⟩ (fun hHeld => ?_)
      clear hK K
      refine nm 110 ?_
      refine one_ (i := 6) (N := some 111) #[J,J,J,J,J,J,J,Z] rfl rfl (by kernel_rfl) (by decide) (fun K hK => ?_)
      refine goes_ Tryz.func76 (by kernel_rfl) rfl #[.agg #[.int .i64 a1, .int .i64 a2, .int .i64 b1, .int .i64 b2], .agg #[.int .i64 o1, .int .i64 o2, .int .i64 o3, .int .i64 o4]] (by rfl) rfl rfl (by simp only [List.map_toArray, List.map_cons, List.map_nil]; rfl) ?_
      with_reducible refine (CR.out _).mono ?_
      rintro e whB ⟨rfl, hB⟩
      refine ⟨_, rfl, ?_⟩
      refine hK.out _ _ ⟨cell_below hB (cell_below hA rs0), cell_below hB (cell_below hA rs1), cell_below hB (cell_below hA rs2), cell_below hB (cell_below hA rs3), cell_below hB (cell_below hA t0), cell_below hB (cell_below hA t1), cell_below hB (cell_below hA t2), cell_below hB (cell_below hA t3)⟩ (fun hHeld => ?_)
      clear hK K
      refine nm 111 ?_
      refine pu 7 112 ?_
      refine done_ (by kernel_rfl) ?_
      have hb6 : Below WX.heap.size WX whB := (by repeat (first | exact Below.refl _ _ | apply below_alloc | apply below_drewN | apply below_drew | (refine below_set2 ?_ ?_; (first | (simp; done) | (simp; omega))) | (refine below_step ?_ hB) | (refine below_step ?_ hA)))
      have HC' := Lib.hid (blk_below HC.out hb6)
      have HE' := Lib.hid (blk_below HE.out hb6)
      have HS' := Lib.hid (blk_below HS.out hb6)
      have BB' := Lib.hid (below_step BB.out hb6)
      clear HC HE HS BB rc0 rc1 rc2 rc3 rc4 rc5 rc6 re0 re1 re2 re3 rs0 rs1 rs2 rs3 
      have HC := HC'
      have HE := HE'
      have HS := HS'
      have BB := BB'
      clear HC' HE' HS' BB' 
      have hzc := lt_of_block HS.out
      have rc0 := blk_cell HC.out 0 rfl
      have rc1 := blk_cell HC.out 1 rfl
      have rc2 := blk_cell HC.out 2 rfl
      have rc3 := blk_cell HC.out 3 rfl
      have rc4 := blk_cell HC.out 4 rfl
      have rc5 := blk_cell HC.out 5 rfl
      have rc6 := blk_cell HC.out 6 rfl
      have re0 := blk_cell HE.out 0 rfl
      have re1 := blk_cell HE.out 1 rfl
      have re2 := blk_cell HE.out 2 rfl
      have re3 := blk_cell HE.out 3 rfl
      have rs0 := blk_cell HS.out 0 rfl
      have rs1 := blk_cell HS.out 1 rfl
      have rs2 := blk_cell HS.out 2 rfl
      have rs3 := blk_cell HS.out 3 rfl
      clear hb6
      go_wp2
      go_ret
      exact ⟨ret_bool ((HB.out.trans (by rw [HA.out]; rfl)).symm), (by repeat (first | exact Below.refl _ _ | apply below_alloc | apply below_drewN | apply below_drew | (refine below_set2 ?_ ?_; (first | (simp; done) | (simp; omega))) | (refine below_step ?_ BB.out)))⟩
    ·obtain rfl : k = 3 := by omega
     have HA : Hid (xs.any ff = false) := Lib.hid (by have := hall.out; rwa [List.take_of_length_le (by omega)] at this)
     have HB2 := Lib.hid (HB.out.trans (by rw [HA.out]; rfl : _ = false))
     go_wp2
     go_ret
     exact ⟨ret_bool (HB2.out.symm), (by repeat (first | exact Below.refl _ _ | apply below_alloc | apply below_drewN | apply below_drew | (refine below_set2 ?_ ?_; (first | (simp; done) | (simp; omega))) | (refine below_step ?_ BB.out)))⟩
  ·have e1 : endE (u1, u2) (((a1, a2), (b1, b2)), (L, R)) = false := hx
   have e2 : endE (q1, q2) (((a1, a2), (b1, b2)), (L, R)) = true := hy
   have HB := Lib.hid (blocks_z2 (c := ⟨(u1, u2), (p1, p2), (q1, q2), 0, l, r, sm⟩) (e := (((a1, a2), (b1, b2)), (L, R))) e1 e2 rfl)
   go_wp2_with fail
   refine (blocks_ends (w.heap.size + 1) a1 a2 b1 b2 L R (u1, u2) _ re0 re1 re2 re3).mono ?_
   rintro e v1 ⟨rfl, hb1⟩
   have HC' := Lib.hid (blk_below HC.out hb1)
   have HE' := Lib.hid (blk_below HE.out hb1)
   have HS' := Lib.hid (blk_below HS.out hb1)
   have BB' := Lib.hid (below_step BB.out hb1)
   clear HC HE HS BB rc0 rc1 rc2 rc3 rc4 rc5 rc6 re0 re1 re2 re3 rs0 rs1 rs2 rs3 
   have HC := HC'
   have HE := HE'
   have HS := HS'
   have BB := BB'
   clear HC' HE' HS' BB' 
   have hzc := lt_of_block HS.out
   have rc0 := blk_cell HC.out 0 rfl
   have rc1 := blk_cell HC.out 1 rfl
   have rc2 := blk_cell HC.out 2 rfl
   have rc3 := blk_cell HC.out 3 rfl
   have rc4 := blk_cell HC.out 4 rfl
   have rc5 := blk_cell HC.out 5 rfl
   have rc6 := blk_cell HC.out 6 rfl
   have re0 := blk_cell HE.out 0 rfl
   have re1 := blk_cell HE.out 1 rfl
   have re2 := blk_cell HE.out 2 rfl
   have re3 := blk_cell HE.out 3 rfl
   have rs0 := blk_cell HS.out 0 rfl
   have rs1 := blk_cell HS.out 1 rfl
   have rs2 := blk_cell HS.out 2 rfl
   have rs3 := blk_cell HS.out 3 rfl
   clear hb1
   rw [e1]
   go_wp2_with fail
   refine (blocks_ends (w.heap.size + 1) a1 a2 b1 b2 L R (u1, u2) _ re0 re1 re2 re3).mono ?_
   rintro e v2 ⟨rfl, hb2⟩
   have HC' := Lib.hid (blk_below HC.out hb2)
   have HE' := Lib.hid (blk_below HE.out hb2)
   have HS' := Lib.hid (blk_below HS.out hb2)
   have BB' := Lib.hid (below_step BB.out hb2)
   clear HC HE HS BB rc0 rc1 rc2 rc3 rc4 rc5 rc6 re0 re1 re2 re3 rs0 rs1 rs2 rs3 
   have HC := HC'
   have HE := HE'
   have HS := HS'
   have BB := BB'
   clear HC' HE' HS' BB' 
   have hzc := lt_of_block HS.out
   have rc0 := blk_cell HC.out 0 rfl
   have rc1 := blk_cell HC.out 1 rfl
   have rc2 := blk_cell HC.out 2 rfl
   have rc3 := blk_cell HC.out 3 rfl
   have rc4 := blk_cell HC.out 4 rfl
   have rc5 := blk_cell HC.out 5 rfl
   have rc6 := blk_cell HC.out 6 rfl
   have re0 := blk_cell HE.out 0 rfl
   have re1 := blk_cell HE.out 1 rfl
   have re2 := blk_cell HE.out 2 rfl
   have re3 := blk_cell HE.out 3 rfl
   have rs0 := blk_cell HS.out 0 rfl
   have rs1 := blk_cell HS.out 1 rfl
   have rs2 := blk_cell HS.out 2 rfl
   have rs3 := blk_cell HS.out 3 rfl
   clear hb2
   rw [e1]
   go_wp2_with fail
   refine (blocks_ends (w.heap.size + 1) a1 a2 b1 b2 L R (q1, q2) _ re0 re1 re2 re3).mono ?_
   rintro e v3 ⟨rfl, hb3⟩
   have HC' := Lib.hid (blk_below HC.out hb3)
   have HE' := Lib.hid (blk_below HE.out hb3)
   have HS' := Lib.hid (blk_below HS.out hb3)
   have BB' := Lib.hid (below_step BB.out hb3)
   clear HC HE HS BB rc0 rc1 rc2 rc3 rc4 rc5 rc6 re0 re1 re2 re3 rs0 rs1 rs2 rs3 
   have HC := HC'
   have HE := HE'
   have HS := HS'
   have BB := BB'
   clear HC' HE' HS' BB' 
   have hzc := lt_of_block HS.out
   have rc0 := blk_cell HC.out 0 rfl
   have rc1 := blk_cell HC.out 1 rfl
   have rc2 := blk_cell HC.out 2 rfl
   have rc3 := blk_cell HC.out 3 rfl
   have rc4 := blk_cell HC.out 4 rfl
   have rc5 := blk_cell HC.out 5 rfl
   have rc6 := blk_cell HC.out 6 rfl
   have re0 := blk_cell HE.out 0 rfl
   have re1 := blk_cell HE.out 1 rfl
   have re2 := blk_cell HE.out 2 rfl
   have re3 := blk_cell HE.out 3 rfl
   have rs0 := blk_cell HS.out 0 rfl
   have rs1 := blk_cell HS.out 1 rfl
   have rs2 := blk_cell HS.out 2 rfl
   have rs3 := blk_cell HS.out 3 rfl
   clear hb3
   rw [e2]
   have CO := Lib.hid (fun W => seg_Of u1 u2 q1 q2 W)
   have CR := Lib.hid (fun W => seg_Relate a1 a2 b1 b2 (ofB (u1, u2) (q1, q2)).1.1 (ofB (u1, u2) (q1, q2)).1.2 (ofB (u1, u2) (q1, q2)).2.1 (ofB (u1, u2) (q1, q2)).2.2 W)
   generalize ofB (u1, u2) (q1, q2) = oz at *
   obtain ⟨⟨o1, o2⟩, o3, o4⟩ := oz
   simp only at CO CR HB
   generalize relZ ((a1, a2), (b1, b2)) ((o1, o2), (o3, o4)) = rz at *
   by_cases h3 : rz = 3
   ·subst h3
    go_wp2_with fail
    refine start_ (n := 9) (S := fun w' => w'.cell? ⟨w.heap.size + 1 + 1, 0, none⟩ = some (.int .i64 a1) ∧ w'.cell? ⟨w.heap.size + 1 + 1, 1, none⟩ = some (.int .i64 a2) ∧ w'.cell? ⟨w.heap.size + 1 + 1, 2, none⟩ = some (.int .i64 b1) ∧ w'.cell? ⟨w.heap.size + 1 + 1, 3, none⟩ = some (.int .i64 b2) ∧ w'.cell? ⟨w.heap.size, 0, none⟩ = some (.int .i64 u1) ∧ w'.cell? ⟨w.heap.size, 1, none⟩ = some (.int .i64 u2) ∧ w'.cell? ⟨w.heap.size, 4, none⟩ = some (.int .i64 q1) ∧ w'.cell? ⟨w.heap.size, 5, none⟩ = some (.int .i64 q2)) (ds := [8]) #[Z,Z,Z,Z,Z,Z,Z,Z,Z] (by kernel_rfl) rfl rfl ⟨rs0, rs1, rs2, rs3, rc0, rc1, rc4, rc5⟩ (fun hHeld => ?_)
    refine pu 1 45 ?_
    refine pu 3 47 ?_
    refine ta 0 44 hHeld ?_
    refine ta 2 46 hHeld ?_
    refine ta 4 48 hHeld ?_
    refine one_ (i := 5) (N := some 49) #[J,J,J,J,J,J,Z,Z,Z] rfl rfl (by kernel_rfl) (by decide) (fun K hK => ?_)
    refine goes_ Tryz.func67 (by kernel_rfl) rfl #[.agg #[.int .i64 u1, .int .i64 u2], .agg #[.int .i64 q1, .int .i64 q2]] (by rfl) rfl rfl (by simp only [List.map_toArray, List.map_cons, List.map_nil]; rfl) ?_
    with_reducible refine (CO.out _).mono ?_
    rintro e whA ⟨rfl, hA⟩
    refine ⟨_, rfl, ?_⟩
    refine hK.out _ _ ⟨cell_below hA rs0, cell_below hA rs1, cell_below hA rs2, cell_below hA rs3, cell_below hA rc0, cell_below hA rc1, cell_below hA rc4, cell_below hA rc5⟩ (fun hHeld => ?_)
    clear hK K
    refine nm 49 ?_
    refine one_ (i := 6) (N := some 50) #[J,J,J,J,J,J,J,Z,Z] rfl rfl (by kernel_rfl) (by decide) (fun K hK => ?_)
    refine goes_ Tryz.func76 (by kernel_rfl) rfl #[.agg #[.int .i64 a1, .int .i64 a2, .int .i64 b1, .int .i64 b2], .agg #[.int .i64 o1, .int .i64 o2, .int .i64 o3, .int .i64 o4]] (by rfl) rfl rfl (by simp only [List.map_toArray, List.map_cons, List.map_nil]; rfl) ?_
    with_reducible refine (CR.out _).mono ?_
    rintro e whB ⟨rfl, hB⟩
    refine ⟨_, rfl, ?_⟩
    refine hK.out _ _ ⟨cell_below hB (cell_below hA rs0), cell_below hB (cell_below hA rs1), cell_below hB (cell_below hA rs2), cell_below hB (cell_below hA rs3), cell_below hB (cell_below hA rc0), cell_below hB (cell_below hA rc1), cell_below hB (cell_below hA rc4), cell_below hB (cell_below hA rc5)⟩ (fun hHeld => ?_)
    clear hK K
    refine nm 50 ?_
    refine pu 7 51 ?_
    refine pu 8 4 ?_
    refine done_ (by kernel_rfl) ?_
    have hb4 : Below v3.heap.size v3 whB := (by repeat (first | exact Below.refl _ _ | apply below_alloc | apply below_drewN | apply below_drew | (refine below_set2 ?_ ?_; (first | (simp; done) | (simp; omega))) | (refine below_step ?_ hB) | (refine below_step ?_ hA)))
    have HC' := Lib.hid (blk_below HC.out hb4)
    have HE' := Lib.hid (blk_below HE.out hb4)
    have HS' := Lib.hid (blk_below HS.out hb4)
    have BB' := Lib.hid (below_step BB.out hb4)
    clear HC HE HS BB rc0 rc1 rc2 rc3 rc4 rc5 rc6 re0 re1 re2 re3 rs0 rs1 rs2 rs3 
    have HC := HC'
    have HE := HE'
    have HS := HS'
    have BB := BB'
    clear HC' HE' HS' BB' 
    have hzc := lt_of_block HS.out
    have rc0 := blk_cell HC.out 0 rfl
    have rc1 := blk_cell HC.out 1 rfl
    have rc2 := blk_cell HC.out 2 rfl
    have rc3 := blk_cell HC.out 3 rfl
    have rc4 := blk_cell HC.out 4 rfl
    have rc5 := blk_cell HC.out 5 rfl
    have rc6 := blk_cell HC.out 6 rfl
    have re0 := blk_cell HE.out 0 rfl
    have re1 := blk_cell HE.out 1 rfl
    have re2 := blk_cell HE.out 2 rfl
    have re3 := blk_cell HE.out 3 rfl
    have rs0 := blk_cell HS.out 0 rfl
    have rs1 := blk_cell HS.out 1 rfl
    have rs2 := blk_cell HS.out 2 rfl
    have rs3 := blk_cell HS.out 3 rfl
    clear hb4
    go_wp2
    go_ret
    exact ⟨ret_bool (HB.out.symm), (by repeat (first | exact Below.refl _ _ | apply below_alloc | apply below_drewN | apply below_drew | (refine below_set2 ?_ ?_; (first | (simp; done) | (simp; omega))) | (refine below_step ?_ BB.out)))⟩
   ·have h31 : (rz == 3) = false := by simpa using h3
    have h32 : decide (rz = 3) = false := by simpa using h3
    have HB2 := Lib.hid (HB.out.trans h32)
    clear h3 HB
    go_wp2_with fail
    refine start_ (n := 9) (S := fun w' => w'.cell? ⟨w.heap.size + 1 + 1, 0, none⟩ = some (.int .i64 a1) ∧ w'.cell? ⟨w.heap.size + 1 + 1, 1, none⟩ = some (.int .i64 a2) ∧ w'.cell? ⟨w.heap.size + 1 + 1, 2, none⟩ = some (.int .i64 b1) ∧ w'.cell? ⟨w.heap.size + 1 + 1, 3, none⟩ = some (.int .i64 b2) ∧ w'.cell? ⟨w.heap.size, 0, none⟩ = some (.int .i64 u1) ∧ w'.cell? ⟨w.heap.size, 1, none⟩ = some (.int .i64 u2) ∧ w'.cell? ⟨w.heap.size, 4, none⟩ = some (.int .i64 q1) ∧ w'.cell? ⟨w.heap.size, 5, none⟩ = some (.int .i64 q2)) (ds := [8]) #[Z,Z,Z,Z,Z,Z,Z,Z,Z] (by kernel_rfl) rfl rfl ⟨rs0, rs1, rs2, rs3, rc0, rc1, rc4, rc5⟩ (fun hHeld => ?_)
    refine pu 1 45 ?_
    refine pu 3 47 ?_
    refine ta 0 44 hHeld ?_
    refine ta 2 46 hHeld ?_
    refine ta 4 48 hHeld ?_
    refine one_ (i := 5) (N := some 49) #[J,J,J,J,J,J,Z,Z,Z] rfl rfl (by kernel_rfl) (by decide) (fun K hK => ?_)
    refine goes_ Tryz.func67 (by kernel_rfl) rfl #[.agg #[.int .i64 u1, .int .i64 u2], .agg #[.int .i64 q1, .int .i64 q2]] (by rfl) rfl rfl (by simp only [List.map_toArray, List.map_cons, List.map_nil]; rfl) ?_
    with_reducible refine (CO.out _).mono ?_
    rintro e whA ⟨rfl, hA⟩
    refine ⟨_, rfl, ?_⟩
    refine hK.out _ _ ⟨cell_below hA rs0, cell_below hA rs1, cell_below hA rs2, cell_below hA rs3, cell_below hA rc0, cell_below hA rc1, cell_below hA rc4, cell_below hA rc5⟩ (fun hHeld => ?_)
    clear hK K
    refine nm 49 ?_
    refine one_ (i := 6) (N := some 50) #[J,J,J,J,J,J,J,Z,Z] rfl rfl (by kernel_rfl) (by decide) (fun K hK => ?_)
    refine goes_ Tryz.func76 (by kernel_rfl) rfl #[.agg #[.int .i64 a1, .int .i64 a2, .int .i64 b1, .int .i64 b2], .agg #[.int .i64 o1, .int .i64 o2, .int .i64 o3, .int .i64 o4]] (by rfl) rfl rfl (by simp only [List.map_toArray, List.map_cons, List.map_nil]; rfl) ?_
    with_reducible refine (CR.out _).mono ?_
    rintro e whB ⟨rfl, hB⟩
    refine ⟨_, rfl, ?_⟩
    refine hK.out _ _ ⟨cell_below hB (cell_below hA rs0), cell_below hB (cell_below hA rs1), cell_below hB (cell_below hA rs2), cell_below hB (cell_below hA rs3), cell_below hB (cell_below hA rc0), cell_below hB (cell_below hA rc1), cell_below hB (cell_below hA rc4), cell_below hB (cell_below hA rc5)⟩ (fun hHeld => ?_)
    clear hK K
    refine nm 50 ?_
    refine pu 7 51 ?_
    refine pu 8 4 ?_
    refine done_ (by kernel_rfl) ?_
    have hb4 : Below v3.heap.size v3 whB := (by repeat (first | exact Below.refl _ _ | apply below_alloc | apply below_drewN | apply below_drew | (refine below_set2 ?_ ?_; (first | (simp; done) | (simp; omega))) | (refine below_step ?_ hB) | (refine below_step ?_ hA)))
    have HC' := Lib.hid (blk_below HC.out hb4)
    have HE' := Lib.hid (blk_below HE.out hb4)
    have HS' := Lib.hid (blk_below HS.out hb4)
    have BB' := Lib.hid (below_step BB.out hb4)
    clear HC HE HS BB rc0 rc1 rc2 rc3 rc4 rc5 rc6 re0 re1 re2 re3 rs0 rs1 rs2 rs3 
    have HC := HC'
    have HE := HE'
    have HS := HS'
    have BB := BB'
    clear HC' HE' HS' BB' 
    have hzc := lt_of_block HS.out
    have rc0 := blk_cell HC.out 0 rfl
    have rc1 := blk_cell HC.out 1 rfl
    have rc2 := blk_cell HC.out 2 rfl
    have rc3 := blk_cell HC.out 3 rfl
    have rc4 := blk_cell HC.out 4 rfl
    have rc5 := blk_cell HC.out 5 rfl
    have rc6 := blk_cell HC.out 6 rfl
    have re0 := blk_cell HE.out 0 rfl
    have re1 := blk_cell HE.out 1 rfl
    have re2 := blk_cell HE.out 2 rfl
    have re3 := blk_cell HE.out 3 rfl
    have rs0 := blk_cell HS.out 0 rfl
    have rs1 := blk_cell HS.out 1 rfl
    have rs2 := blk_cell HS.out 2 rfl
    have rs3 := blk_cell HS.out 3 rfl
    clear hb4
    go_wp2
    go_ret
    exact ⟨ret_bool (HB2.out.symm), (by repeat (first | exact Below.refl _ _ | apply below_alloc | apply below_drewN | apply below_drew | (refine below_set2 ?_ ?_; (first | (simp; done) | (simp; omega))) | (refine below_step ?_ BB.out)))⟩
  ·have e1 : endE (u1, u2) (((a1, a2), (b1, b2)), (L, R)) = true := hx
   have e2 : endE (q1, q2) (((a1, a2), (b1, b2)), (L, R)) = false := hy
   have HB := Lib.hid (blocks_z1 (c := ⟨(u1, u2), (p1, p2), (q1, q2), 0, l, r, sm⟩) (e := (((a1, a2), (b1, b2)), (L, R))) e1 e2 rfl)
   go_wp2_with fail
   refine (blocks_ends (w.heap.size + 1) a1 a2 b1 b2 L R (u1, u2) _ re0 re1 re2 re3).mono ?_
   rintro e v1 ⟨rfl, hb1⟩
   have HC' := Lib.hid (blk_below HC.out hb1)
   have HE' := Lib.hid (blk_below HE.out hb1)
   have HS' := Lib.hid (blk_below HS.out hb1)
   have BB' := Lib.hid (below_step BB.out hb1)
   clear HC HE HS BB rc0 rc1 rc2 rc3 rc4 rc5 rc6 re0 re1 re2 re3 rs0 rs1 rs2 rs3 
   have HC := HC'
   have HE := HE'
   have HS := HS'
   have BB := BB'
   clear HC' HE' HS' BB' 
   have hzc := lt_of_block HS.out
   have rc0 := blk_cell HC.out 0 rfl
   have rc1 := blk_cell HC.out 1 rfl
   have rc2 := blk_cell HC.out 2 rfl
   have rc3 := blk_cell HC.out 3 rfl
   have rc4 := blk_cell HC.out 4 rfl
   have rc5 := blk_cell HC.out 5 rfl
   have rc6 := blk_cell HC.out 6 rfl
   have re0 := blk_cell HE.out 0 rfl
   have re1 := blk_cell HE.out 1 rfl
   have re2 := blk_cell HE.out 2 rfl
   have re3 := blk_cell HE.out 3 rfl
   have rs0 := blk_cell HS.out 0 rfl
   have rs1 := blk_cell HS.out 1 rfl
   have rs2 := blk_cell HS.out 2 rfl
   have rs3 := blk_cell HS.out 3 rfl
   clear hb1
   rw [e1]
   go_wp2_with fail
   refine (blocks_ends (w.heap.size + 1) a1 a2 b1 b2 L R (q1, q2) _ re0 re1 re2 re3).mono ?_
   rintro e v2 ⟨rfl, hb2⟩
   have HC' := Lib.hid (blk_below HC.out hb2)
   have HE' := Lib.hid (blk_below HE.out hb2)
   have HS' := Lib.hid (blk_below HS.out hb2)
   have BB' := Lib.hid (below_step BB.out hb2)
   clear HC HE HS BB rc0 rc1 rc2 rc3 rc4 rc5 rc6 re0 re1 re2 re3 rs0 rs1 rs2 rs3 
   have HC := HC'
   have HE := HE'
   have HS := HS'
   have BB := BB'
   clear HC' HE' HS' BB' 
   have hzc := lt_of_block HS.out
   have rc0 := blk_cell HC.out 0 rfl
   have rc1 := blk_cell HC.out 1 rfl
   have rc2 := blk_cell HC.out 2 rfl
   have rc3 := blk_cell HC.out 3 rfl
   have rc4 := blk_cell HC.out 4 rfl
   have rc5 := blk_cell HC.out 5 rfl
   have rc6 := blk_cell HC.out 6 rfl
   have re0 := blk_cell HE.out 0 rfl
   have re1 := blk_cell HE.out 1 rfl
   have re2 := blk_cell HE.out 2 rfl
   have re3 := blk_cell HE.out 3 rfl
   have rs0 := blk_cell HS.out 0 rfl
   have rs1 := blk_cell HS.out 1 rfl
   have rs2 := blk_cell HS.out 2 rfl
   have rs3 := blk_cell HS.out 3 rfl
   clear hb2
   rw [e2]
   go_wp2_with fail
   refine (blocks_ends (w.heap.size + 1) a1 a2 b1 b2 L R (u1, u2) _ re0 re1 re2 re3).mono ?_
   rintro e v3 ⟨rfl, hb3⟩
   have HC' := Lib.hid (blk_below HC.out hb3)
   have HE' := Lib.hid (blk_below HE.out hb3)
   have HS' := Lib.hid (blk_below HS.out hb3)
   have BB' := Lib.hid (below_step BB.out hb3)
   clear HC HE HS BB rc0 rc1 rc2 rc3 rc4 rc5 rc6 re0 re1 re2 re3 rs0 rs1 rs2 rs3 
   have HC := HC'
   have HE := HE'
   have HS := HS'
   have BB := BB'
   clear HC' HE' HS' BB' 
   have hzc := lt_of_block HS.out
   have rc0 := blk_cell HC.out 0 rfl
   have rc1 := blk_cell HC.out 1 rfl
   have rc2 := blk_cell HC.out 2 rfl
   have rc3 := blk_cell HC.out 3 rfl
   have rc4 := blk_cell HC.out 4 rfl
   have rc5 := blk_cell HC.out 5 rfl
   have rc6 := blk_cell HC.out 6 rfl
   have re0 := blk_cell HE.out 0 rfl
   have re1 := blk_cell HE.out 1 rfl
   have re2 := blk_cell HE.out 2 rfl
   have re3 := blk_cell HE.out 3 rfl
   have rs0 := blk_cell HS.out 0 rfl
   have rs1 := blk_cell HS.out 1 rfl
   have rs2 := blk_cell HS.out 2 rfl
   have rs3 := blk_cell HS.out 3 rfl
   clear hb3
   rw [e1]
   have CO := Lib.hid (fun W => seg_Of u1 u2 q1 q2 W)
   have CR := Lib.hid (fun W => seg_Relate a1 a2 b1 b2 (ofB (u1, u2) (q1, q2)).1.1 (ofB (u1, u2) (q1, q2)).1.2 (ofB (u1, u2) (q1, q2)).2.1 (ofB (u1, u2) (q1, q2)).2.2 W)
   generalize ofB (u1, u2) (q1, q2) = oz at *
   obtain ⟨⟨o1, o2⟩, o3, o4⟩ := oz
   simp only at CO CR HB
   generalize relZ ((a1, a2), (b1, b2)) ((o1, o2), (o3, o4)) = rz at *
   by_cases h3 : rz = 3
   ·subst h3
    go_wp2_with fail
    refine start_ (n := 9) (S := fun w' => w'.cell? ⟨w.heap.size + 1 + 1, 0, none⟩ = some (.int .i64 a1) ∧ w'.cell? ⟨w.heap.size + 1 + 1, 1, none⟩ = some (.int .i64 a2) ∧ w'.cell? ⟨w.heap.size + 1 + 1, 2, none⟩ = some (.int .i64 b1) ∧ w'.cell? ⟨w.heap.size + 1 + 1, 3, none⟩ = some (.int .i64 b2) ∧ w'.cell? ⟨w.heap.size, 0, none⟩ = some (.int .i64 u1) ∧ w'.cell? ⟨w.heap.size, 1, none⟩ = some (.int .i64 u2) ∧ w'.cell? ⟨w.heap.size, 4, none⟩ = some (.int .i64 q1) ∧ w'.cell? ⟨w.heap.size, 5, none⟩ = some (.int .i64 q2)) (ds := [8]) #[Z,Z,Z,Z,Z,Z,Z,Z,Z] (by kernel_rfl) rfl rfl ⟨rs0, rs1, rs2, rs3, rc0, rc1, rc4, rc5⟩ (fun hHeld => ?_)
    refine pu 1 45 ?_
    refine pu 3 47 ?_
    refine ta 0 44 hHeld ?_
    refine ta 2 46 hHeld ?_
    refine ta 4 48 hHeld ?_
    refine one_ (i := 5) (N := some 49) #[J,J,J,J,J,J,Z,Z,Z] rfl rfl (by kernel_rfl) (by decide) (fun K hK => ?_)
    refine goes_ Tryz.func67 (by kernel_rfl) rfl #[.agg #[.int .i64 u1, .int .i64 u2], .agg #[.int .i64 q1, .int .i64 q2]] (by rfl) rfl rfl (by simp only [List.map_toArray, List.map_cons, List.map_nil]; rfl) ?_
    with_reducible refine (CO.out _).mono ?_
    rintro e whA ⟨rfl, hA⟩
    refine ⟨_, rfl, ?_⟩
    refine hK.out _ _ ⟨cell_below hA rs0, cell_below hA rs1, cell_below hA rs2, cell_below hA rs3, cell_below hA rc0, cell_below hA rc1, cell_below hA rc4, cell_below hA rc5⟩ (fun hHeld => ?_)
    clear hK K
    refine nm 49 ?_
    refine one_ (i := 6) (N := some 50) #[J,J,J,J,J,J,J,Z,Z] rfl rfl (by kernel_rfl) (by decide) (fun K hK => ?_)
    refine goes_ Tryz.func76 (by kernel_rfl) rfl #[.agg #[.int .i64 a1, .int .i64 a2, .int .i64 b1, .int .i64 b2], .agg #[.int .i64 o1, .int .i64 o2, .int .i64 o3, .int .i64 o4]] (by rfl) rfl rfl (by simp only [List.map_toArray, List.map_cons, List.map_nil]; rfl) ?_
    with_reducible refine (CR.out _).mono ?_
    rintro e whB ⟨rfl, hB⟩
    refine ⟨_, rfl, ?_⟩
    refine hK.out _ _ ⟨cell_below hB (cell_below hA rs0), cell_below hB (cell_below hA rs1), cell_below hB (cell_below hA rs2), cell_below hB (cell_below hA rs3), cell_below hB (cell_below hA rc0), cell_below hB (cell_below hA rc1), cell_below hB (cell_below hA rc4), cell_below hB (cell_below hA rc5)⟩ (fun hHeld => ?_)
    clear hK K
    refine nm 50 ?_
    refine pu 7 51 ?_
    refine pu 8 4 ?_
    refine done_ (by kernel_rfl) ?_
    have hb4 : Below v3.heap.size v3 whB := (by repeat (first | exact Below.refl _ _ | apply below_alloc | apply below_drewN | apply below_drew | (refine below_set2 ?_ ?_; (first | (simp; done) | (simp; omega))) | (refine below_step ?_ hB) | (refine below_step ?_ hA)))
    have HC' := Lib.hid (blk_below HC.out hb4)
    have HE' := Lib.hid (blk_below HE.out hb4)
    have HS' := Lib.hid (blk_below HS.out hb4)
    have BB' := Lib.hid (below_step BB.out hb4)
    clear HC HE HS BB rc0 rc1 rc2 rc3 rc4 rc5 rc6 re0 re1 re2 re3 rs0 rs1 rs2 rs3 
    have HC := HC'
    have HE := HE'
    have HS := HS'
    have BB := BB'
    clear HC' HE' HS' BB' 
    have hzc := lt_of_block HS.out
    have rc0 := blk_cell HC.out 0 rfl
    have rc1 := blk_cell HC.out 1 rfl
    have rc2 := blk_cell HC.out 2 rfl
    have rc3 := blk_cell HC.out 3 rfl
    have rc4 := blk_cell HC.out 4 rfl
    have rc5 := blk_cell HC.out 5 rfl
    have rc6 := blk_cell HC.out 6 rfl
    have re0 := blk_cell HE.out 0 rfl
    have re1 := blk_cell HE.out 1 rfl
    have re2 := blk_cell HE.out 2 rfl
    have re3 := blk_cell HE.out 3 rfl
    have rs0 := blk_cell HS.out 0 rfl
    have rs1 := blk_cell HS.out 1 rfl
    have rs2 := blk_cell HS.out 2 rfl
    have rs3 := blk_cell HS.out 3 rfl
    clear hb4
    go_wp2
    go_ret
    exact ⟨ret_bool (HB.out.symm), (by repeat (first | exact Below.refl _ _ | apply below_alloc | apply below_drewN | apply below_drew | (refine below_set2 ?_ ?_; (first | (simp; done) | (simp; omega))) | (refine below_step ?_ BB.out)))⟩
   ·have h31 : (rz == 3) = false := by simpa using h3
    have h32 : decide (rz = 3) = false := by simpa using h3
    have HB2 := Lib.hid (HB.out.trans h32)
    clear h3 HB
    go_wp2_with fail
    refine start_ (n := 9) (S := fun w' => w'.cell? ⟨w.heap.size + 1 + 1, 0, none⟩ = some (.int .i64 a1) ∧ w'.cell? ⟨w.heap.size + 1 + 1, 1, none⟩ = some (.int .i64 a2) ∧ w'.cell? ⟨w.heap.size + 1 + 1, 2, none⟩ = some (.int .i64 b1) ∧ w'.cell? ⟨w.heap.size + 1 + 1, 3, none⟩ = some (.int .i64 b2) ∧ w'.cell? ⟨w.heap.size, 0, none⟩ = some (.int .i64 u1) ∧ w'.cell? ⟨w.heap.size, 1, none⟩ = some (.int .i64 u2) ∧ w'.cell? ⟨w.heap.size, 4, none⟩ = some (.int .i64 q1) ∧ w'.cell? ⟨w.heap.size, 5, none⟩ = some (.int .i64 q2)) (ds := [8]) #[Z,Z,Z,Z,Z,Z,Z,Z,Z] (by kernel_rfl) rfl rfl ⟨rs0, rs1, rs2, rs3, rc0, rc1, rc4, rc5⟩ (fun hHeld => ?_)
    refine pu 1 45 ?_
    refine pu 3 47 ?_
    refine ta 0 44 hHeld ?_
    refine ta 2 46 hHeld ?_
    refine ta 4 48 hHeld ?_
    refine one_ (i := 5) (N := some 49) #[J,J,J,J,J,J,Z,Z,Z] rfl rfl (by kernel_rfl) (by decide) (fun K hK => ?_)
    refine goes_ Tryz.func67 (by kernel_rfl) rfl #[.agg #[.int .i64 u1, .int .i64 u2], .agg #[.int .i64 q1, .int .i64 q2]] (by rfl) rfl rfl (by simp only [List.map_toArray, List.map_cons, List.map_nil]; rfl) ?_
    with_reducible refine (CO.out _).mono ?_
    rintro e whA ⟨rfl, hA⟩
    refine ⟨_, rfl, ?_⟩
    refine hK.out _ _ ⟨cell_below hA rs0, cell_below hA rs1, cell_below hA rs2, cell_below hA rs3, cell_below hA rc0, cell_below hA rc1, cell_below hA rc4, cell_below hA rc5⟩ (fun hHeld => ?_)
    clear hK K
    refine nm 49 ?_
    refine one_ (i := 6) (N := some 50) #[J,J,J,J,J,J,J,Z,Z] rfl rfl (by kernel_rfl) (by decide) (fun K hK => ?_)
    refine goes_ Tryz.func76 (by kernel_rfl) rfl #[.agg #[.int .i64 a1, .int .i64 a2, .int .i64 b1, .int .i64 b2], .agg #[.int .i64 o1, .int .i64 o2, .int .i64 o3, .int .i64 o4]] (by rfl) rfl rfl (by simp only [List.map_toArray, List.map_cons, List.map_nil]; rfl) ?_
    with_reducible refine (CR.out _).mono ?_
    rintro e whB ⟨rfl, hB⟩
    refine ⟨_, rfl, ?_⟩
    refine hK.out _ _ ⟨cell_below hB (cell_below hA rs0), cell_below hB (cell_below hA rs1), cell_below hB (cell_below hA rs2), cell_below hB (cell_below hA rs3), cell_below hB (cell_below hA rc0), cell_below hB (cell_below hA rc1), cell_below hB (cell_below hA rc4), cell_below hB (cell_below hA rc5)⟩ (fun hHeld => ?_)
    clear hK K
    refine nm 50 ?_
    refine pu 7 51 ?_
    refine pu 8 4 ?_
    refine done_ (by kernel_rfl) ?_
    have hb4 : Below v3.heap.size v3 whB := (by repeat (first | exact Below.refl _ _ | apply below_alloc | apply below_drewN | apply below_drew | (refine below_set2 ?_ ?_; (first | (simp; done) | (simp; omega))) | (refine below_step ?_ hB) | (refine below_step ?_ hA)))
    have HC' := Lib.hid (blk_below HC.out hb4)
    have HE' := Lib.hid (blk_below HE.out hb4)
    have HS' := Lib.hid (blk_below HS.out hb4)
    have BB' := Lib.hid (below_step BB.out hb4)
    clear HC HE HS BB rc0 rc1 rc2 rc3 rc4 rc5 rc6 re0 re1 re2 re3 rs0 rs1 rs2 rs3 
    have HC := HC'
    have HE := HE'
    have HS := HS'
    have BB := BB'
    clear HC' HE' HS' BB' 
    have hzc := lt_of_block HS.out
    have rc0 := blk_cell HC.out 0 rfl
    have rc1 := blk_cell HC.out 1 rfl
    have rc2 := blk_cell HC.out 2 rfl
    have rc3 := blk_cell HC.out 3 rfl
    have rc4 := blk_cell HC.out 4 rfl
    have rc5 := blk_cell HC.out 5 rfl
    have rc6 := blk_cell HC.out 6 rfl
    have re0 := blk_cell HE.out 0 rfl
    have re1 := blk_cell HE.out 1 rfl
    have re2 := blk_cell HE.out 2 rfl
    have re3 := blk_cell HE.out 3 rfl
    have rs0 := blk_cell HS.out 0 rfl
    have rs1 := blk_cell HS.out 1 rfl
    have rs2 := blk_cell HS.out 2 rfl
    have rs3 := blk_cell HS.out 3 rfl
    clear hb4
    go_wp2
    go_ret
    exact ⟨ret_bool (HB2.out.symm), (by repeat (first | exact Below.refl _ _ | apply below_alloc | apply below_drewN | apply below_drew | (refine below_set2 ?_ ?_; (first | (simp; done) | (simp; omega))) | (refine below_step ?_ BB.out)))⟩
  ·have e1 : endE (u1, u2) (((a1, a2), (b1, b2)), (L, R)) = true := hx
   have e2 : endE (q1, q2) (((a1, a2), (b1, b2)), (L, R)) = true := hy
   have HB := Lib.hid (blocks_tt (c := ⟨(u1, u2), (p1, p2), (q1, q2), 0, l, r, sm⟩) (e := (((a1, a2), (b1, b2)), (L, R))) e1 e2)
   go_wp2_with fail
   refine (blocks_ends (w.heap.size + 1) a1 a2 b1 b2 L R (u1, u2) _ re0 re1 re2 re3).mono ?_
   rintro e v1 ⟨rfl, hb1⟩
   have HC' := Lib.hid (blk_below HC.out hb1)
   have HE' := Lib.hid (blk_below HE.out hb1)
   have HS' := Lib.hid (blk_below HS.out hb1)
   have BB' := Lib.hid (below_step BB.out hb1)
   clear HC HE HS BB rc0 rc1 rc2 rc3 rc4 rc5 rc6 re0 re1 re2 re3 rs0 rs1 rs2 rs3 
   have HC := HC'
   have HE := HE'
   have HS := HS'
   have BB := BB'
   clear HC' HE' HS' BB' 
   have hzc := lt_of_block HS.out
   have rc0 := blk_cell HC.out 0 rfl
   have rc1 := blk_cell HC.out 1 rfl
   have rc2 := blk_cell HC.out 2 rfl
   have rc3 := blk_cell HC.out 3 rfl
   have rc4 := blk_cell HC.out 4 rfl
   have rc5 := blk_cell HC.out 5 rfl
   have rc6 := blk_cell HC.out 6 rfl
   have re0 := blk_cell HE.out 0 rfl
   have re1 := blk_cell HE.out 1 rfl
   have re2 := blk_cell HE.out 2 rfl
   have re3 := blk_cell HE.out 3 rfl
   have rs0 := blk_cell HS.out 0 rfl
   have rs1 := blk_cell HS.out 1 rfl
   have rs2 := blk_cell HS.out 2 rfl
   have rs3 := blk_cell HS.out 3 rfl
   clear hb1
   rw [e1]
   go_wp2_with fail
   refine (blocks_ends (w.heap.size + 1) a1 a2 b1 b2 L R (q1, q2) _ re0 re1 re2 re3).mono ?_
   rintro e v2 ⟨rfl, hb2⟩
   have HC' := Lib.hid (blk_below HC.out hb2)
   have HE' := Lib.hid (blk_below HE.out hb2)
   have HS' := Lib.hid (blk_below HS.out hb2)
   have BB' := Lib.hid (below_step BB.out hb2)
   clear HC HE HS BB rc0 rc1 rc2 rc3 rc4 rc5 rc6 re0 re1 re2 re3 rs0 rs1 rs2 rs3 
   have HC := HC'
   have HE := HE'
   have HS := HS'
   have BB := BB'
   clear HC' HE' HS' BB' 
   have hzc := lt_of_block HS.out
   have rc0 := blk_cell HC.out 0 rfl
   have rc1 := blk_cell HC.out 1 rfl
   have rc2 := blk_cell HC.out 2 rfl
   have rc3 := blk_cell HC.out 3 rfl
   have rc4 := blk_cell HC.out 4 rfl
   have rc5 := blk_cell HC.out 5 rfl
   have rc6 := blk_cell HC.out 6 rfl
   have re0 := blk_cell HE.out 0 rfl
   have re1 := blk_cell HE.out 1 rfl
   have re2 := blk_cell HE.out 2 rfl
   have re3 := blk_cell HE.out 3 rfl
   have rs0 := blk_cell HS.out 0 rfl
   have rs1 := blk_cell HS.out 1 rfl
   have rs2 := blk_cell HS.out 2 rfl
   have rs3 := blk_cell HS.out 3 rfl
   clear hb2
   rw [e2]
   go_wp2
   go_ret
   exact ⟨ret_bool (HB.out.symm), (by repeat (first | exact Below.refl _ _ | apply below_alloc | apply below_drewN | apply below_drew | (refine below_set2 ?_ ?_; (first | (simp; done) | (simp; omega))) | (refine below_step ?_ BB.out)))⟩
 ·have hz1 : (sz == 0) = false := by simpa using hz
  have hz2 : decide (sz = 0) = false := by simpa using hz
  cases hx : endE (u1, u2) (((a1, a2), (b1, b2)), (L, R)) <;> cases hy : endE (q1, q2) (((a1, a2), (b1, b2)), (L, R))
  ·have e1 : endE (u1, u2) (((a1, a2), (b1, b2)), (L, R)) = false := hx
   have e2 : endE (q1, q2) (((a1, a2), (b1, b2)), (L, R)) = false := hy
   have HB := Lib.hid (blocks_ff (c := ⟨(u1, u2), (p1, p2), (q1, q2), sz, l, r, sm⟩) (e := (((a1, a2), (b1, b2)), (L, R))) e1 e2)
   go_wp2_with fail
   refine (blocks_ends (w.heap.size + 1) a1 a2 b1 b2 L R (u1, u2) _ re0 re1 re2 re3).mono ?_
   rintro e v1 ⟨rfl, hb1⟩
   have HC' := Lib.hid (blk_below HC.out hb1)
   have HE' := Lib.hid (blk_below HE.out hb1)
   have HS' := Lib.hid (blk_below HS.out hb1)
   have BB' := Lib.hid (below_step BB.out hb1)
   clear HC HE HS BB rc0 rc1 rc2 rc3 rc4 rc5 rc6 re0 re1 re2 re3 rs0 rs1 rs2 rs3 
   have HC := HC'
   have HE := HE'
   have HS := HS'
   have BB := BB'
   clear HC' HE' HS' BB' 
   have hzc := lt_of_block HS.out
   have rc0 := blk_cell HC.out 0 rfl
   have rc1 := blk_cell HC.out 1 rfl
   have rc2 := blk_cell HC.out 2 rfl
   have rc3 := blk_cell HC.out 3 rfl
   have rc4 := blk_cell HC.out 4 rfl
   have rc5 := blk_cell HC.out 5 rfl
   have rc6 := blk_cell HC.out 6 rfl
   have re0 := blk_cell HE.out 0 rfl
   have re1 := blk_cell HE.out 1 rfl
   have re2 := blk_cell HE.out 2 rfl
   have re3 := blk_cell HE.out 3 rfl
   have rs0 := blk_cell HS.out 0 rfl
   have rs1 := blk_cell HS.out 1 rfl
   have rs2 := blk_cell HS.out 2 rfl
   have rs3 := blk_cell HS.out 3 rfl
   clear hb1
   rw [e1]
   go_wp2_with fail
   refine (blocks_ends (w.heap.size + 1) a1 a2 b1 b2 L R (u1, u2) _ re0 re1 re2 re3).mono ?_
   rintro e v2 ⟨rfl, hb2⟩
   have HC' := Lib.hid (blk_below HC.out hb2)
   have HE' := Lib.hid (blk_below HE.out hb2)
   have HS' := Lib.hid (blk_below HS.out hb2)
   have BB' := Lib.hid (below_step BB.out hb2)
   clear HC HE HS BB rc0 rc1 rc2 rc3 rc4 rc5 rc6 re0 re1 re2 re3 rs0 rs1 rs2 rs3 
   have HC := HC'
   have HE := HE'
   have HS := HS'
   have BB := BB'
   clear HC' HE' HS' BB' 
   have hzc := lt_of_block HS.out
   have rc0 := blk_cell HC.out 0 rfl
   have rc1 := blk_cell HC.out 1 rfl
   have rc2 := blk_cell HC.out 2 rfl
   have rc3 := blk_cell HC.out 3 rfl
   have rc4 := blk_cell HC.out 4 rfl
   have rc5 := blk_cell HC.out 5 rfl
   have rc6 := blk_cell HC.out 6 rfl
   have re0 := blk_cell HE.out 0 rfl
   have re1 := blk_cell HE.out 1 rfl
   have re2 := blk_cell HE.out 2 rfl
   have re3 := blk_cell HE.out 3 rfl
   have rs0 := blk_cell HS.out 0 rfl
   have rs1 := blk_cell HS.out 1 rfl
   have rs2 := blk_cell HS.out 2 rfl
   have rs3 := blk_cell HS.out 3 rfl
   clear hb2
   rw [e1]
   go_wp2_with fail
   refine (blocks_ends (w.heap.size + 1) a1 a2 b1 b2 L R (q1, q2) _ re0 re1 re2 re3).mono ?_
   rintro e v3 ⟨rfl, hb3⟩
   have HC' := Lib.hid (blk_below HC.out hb3)
   have HE' := Lib.hid (blk_below HE.out hb3)
   have HS' := Lib.hid (blk_below HS.out hb3)
   have BB' := Lib.hid (below_step BB.out hb3)
   clear HC HE HS BB rc0 rc1 rc2 rc3 rc4 rc5 rc6 re0 re1 re2 re3 rs0 rs1 rs2 rs3 
   have HC := HC'
   have HE := HE'
   have HS := HS'
   have BB := BB'
   clear HC' HE' HS' BB' 
   have hzc := lt_of_block HS.out
   have rc0 := blk_cell HC.out 0 rfl
   have rc1 := blk_cell HC.out 1 rfl
   have rc2 := blk_cell HC.out 2 rfl
   have rc3 := blk_cell HC.out 3 rfl
   have rc4 := blk_cell HC.out 4 rfl
   have rc5 := blk_cell HC.out 5 rfl
   have rc6 := blk_cell HC.out 6 rfl
   have re0 := blk_cell HE.out 0 rfl
   have re1 := blk_cell HE.out 1 rfl
   have re2 := blk_cell HE.out 2 rfl
   have re3 := blk_cell HE.out 3 rfl
   have rs0 := blk_cell HS.out 0 rfl
   have rs1 := blk_cell HS.out 1 rfl
   have rs2 := blk_cell HS.out 2 rfl
   have rs3 := blk_cell HS.out 3 rfl
   clear hb3
   rw [e2]
   go_wp2_with fail
   obtain ⟨WL, hWL⟩ : ∃ WL, WL = v3.alloc (.cells #[.int .i64 u1, .int .i64 u2, .int .i64 q1, .int .i64 q2, .int .i64 u1, .int .i64 u2, .int .i64 p1, .int .i64 p2, .int .i64 p1, .int .i64 p2, .int .i64 q1, .int .i64 q2] 96) := ⟨_, rfl⟩
   rw [← hWL]
   have hbL : Below v3.heap.size v3 WL := by rw [hWL]; exact below_alloc (Below.refl _ _) _
   have HQ : Hid (WL.heap[v3.heap.size]? = some (.cells #[.int .i64 u1, .int .i64 u2, .int .i64 q1, .int .i64 q2, .int .i64 u1, .int .i64 u2, .int .i64 p1, .int .i64 p2, .int .i64 p1, .int .i64 p2, .int .i64 q1, .int .i64 q2] 96 (0, 0))) := Lib.hid (by rw [hWL]; exact heap_alloc_new _ _)
   have hqz := lt_of_block HQ.out
   clear hWL
   have HC' := Lib.hid (blk_below HC.out hbL)
   have HE' := Lib.hid (blk_below HE.out hbL)
   have HS' := Lib.hid (blk_below HS.out hbL)
   have BB' := Lib.hid (below_step BB.out hbL)
   clear HC HE HS BB rc0 rc1 rc2 rc3 rc4 rc5 rc6 re0 re1 re2 re3 rs0 rs1 rs2 rs3 
   have HC := HC'
   have HE := HE'
   have HS := HS'
   have BB := BB'
   clear HC' HE' HS' BB' 
   have hzc := lt_of_block HS.out
   have rc0 := blk_cell HC.out 0 rfl
   have rc1 := blk_cell HC.out 1 rfl
   have rc2 := blk_cell HC.out 2 rfl
   have rc3 := blk_cell HC.out 3 rfl
   have rc4 := blk_cell HC.out 4 rfl
   have rc5 := blk_cell HC.out 5 rfl
   have rc6 := blk_cell HC.out 6 rfl
   have re0 := blk_cell HE.out 0 rfl
   have re1 := blk_cell HE.out 1 rfl
   have re2 := blk_cell HE.out 2 rfl
   have re3 := blk_cell HE.out 3 rfl
   have rs0 := blk_cell HS.out 0 rfl
   have rs1 := blk_cell HS.out 1 rfl
   have rs2 := blk_cell HS.out 2 rfl
   have rs3 := blk_cell HS.out 3 rfl
   clear hbL
   generalize hff : (fun x : Sg => decide (relZ ((a1, a2), (b1, b2)) (ofB x.1 x.2) ≠ 0)) = ff at *
   have HF : Hid (∀ x1 x2 x3 x4 : Int, ff ((x1, x2), (x3, x4)) = decide (relZ ((a1, a2), (b1, b2)) (ofB (x1, x2) (x3, x4)) ≠ 0)) := Lib.hid (fun _ _ _ _ => by rw [← hff])
   clear hff
   generalize hxs : ([((u1, u2), (q1, q2)), ((u1, u2), (p1, p2)), ((p1, p2), (q1, q2))] : Sgs) = xs at *
   have HXL : xs.length = 3 := by rw [← hxs]; rfl
   have HXS := Lib.hid hxs
   clear hxs
   go_loopw [101] (fun i wr => ∃ k : Nat, k ≤ 3 ∧ i = .int .i64 k ∧ Hid (Below WL.heap.size WL wr) ∧ Hid ((xs.take k).any ff = false)) (fun i _ => 3 - (intOf i).toNat)
   case atStart => exact ⟨0, Nat.zero_le _, rfl, Below.refl _ _, by simp [Hid]⟩
   case round =>
    obtain ⟨k, hk, rfl, HBr, hall⟩ := hrel
    have hbr := HBr.out
    have HC' := Lib.hid (blk_below HC.out hbr)
    have HE' := Lib.hid (blk_below HE.out hbr)
    have HS' := Lib.hid (blk_below HS.out hbr)
    have BB' := Lib.hid (below_step BB.out hbr)
    have HQ' := Lib.hid (blk_below HQ.out hbr)
    clear HC HE HS BB rc0 rc1 rc2 rc3 rc4 rc5 rc6 re0 re1 re2 re3 rs0 rs1 rs2 rs3 HQ
    have HC := HC'
    have HE := HE'
    have HS := HS'
    have BB := BB'
    have HQ := HQ'
    clear HC' HE' HS' BB' HQ'
    have hzc := lt_of_block HS.out
    have rc0 := blk_cell HC.out 0 rfl
    have rc1 := blk_cell HC.out 1 rfl
    have rc2 := blk_cell HC.out 2 rfl
    have rc3 := blk_cell HC.out 3 rfl
    have rc4 := blk_cell HC.out 4 rfl
    have rc5 := blk_cell HC.out 5 rfl
    have rc6 := blk_cell HC.out 6 rfl
    have re0 := blk_cell HE.out 0 rfl
    have re1 := blk_cell HE.out 1 rfl
    have re2 := blk_cell HE.out 2 rfl
    have re3 := blk_cell HE.out 3 rfl
    have rs0 := blk_cell HS.out 0 rfl
    have rs1 := blk_cell HS.out 1 rfl
    have rs2 := blk_cell HS.out 2 rfl
    have rs3 := blk_cell HS.out 3 rfl
    have hszr := hbr.size
    clear hbr
    by_cases hlt : k < 3
    ·have hl3 := lit3 HQ.out k hlt
     rw [HXS.out] at hl3
     have HSN : Hid ((xs.take (k + 1)).any ff = ((xs.take k).any ff || ff (sgD xs k))) := Lib.hid (by rw [take_snoc xs k ((0, 0), (0, 0)) (by omega), List.any_append]; simp [sgD])
     have HIN : Hid (sgD xs k ∈ xs) := Lib.hid (by rw [sgD_eq (by omega : k < xs.length)]; exact List.getElem_mem _)
     generalize sgD xs k = xk at *
     obtain ⟨⟨x1, x2⟩, x3, x4⟩ := xk
     simp only at hl3
     obtain ⟨l0, l1, l2, l3⟩ := hl3
     have HFX := Lib.hid (HF.out x1 x2 x3 x4)
     have CO := Lib.hid (fun W => seg_Of x1 x2 x3 x4 W)
     have CR := Lib.hid (fun W => seg_Relate a1 a2 b1 b2 (ofB (x1, x2) (x3, x4)).1.1 (ofB (x1, x2) (x3, x4)).1.2 (ofB (x1, x2) (x3, x4)).2.1 (ofB (x1, x2) (x3, x4)).2.2 W)
     generalize ofB (x1, x2) (x3, x4) = oz at *
     obtain ⟨⟨o1, o2⟩, o3, o4⟩ := oz
     simp only at CO CR HFX
     generalize relZ ((a1, a2), (b1, b2)) ((o1, o2), (o3, o4)) = rz at *
     go_wp2_with fail
     obtain ⟨WX, hWX⟩ : ∃ WX, WX = wr.alloc (.cells #[.int .i64 x1, .int .i64 x2, .int .i64 x3, .int .i64 x4] 96) := ⟨_, rfl⟩
     rw [← hWX]
     have hbX : Below wr.heap.size wr WX := by rw [hWX]; exact below_alloc (Below.refl _ _) _
     have HT : WX.heap[wr.heap.size]? = some (.cells #[.int .i64 x1, .int .i64 x2, .int .i64 x3, .int .i64 x4] 96 (0, 0)) := by rw [hWX]; exact heap_alloc_new _ _
     clear hWX l0 l1 l2 l3
     have HC' := Lib.hid (blk_below HC.out hbX)
     have HE' := Lib.hid (blk_below HE.out hbX)
     have HS' := Lib.hid (blk_below HS.out hbX)
     have BB' := Lib.hid (below_step BB.out hbX)
     clear HC HE HS BB rc0 rc1 rc2 rc3 rc4 rc5 rc6 re0 re1 re2 re3 rs0 rs1 rs2 rs3 
     have HC := HC'
     have HE := HE'
     have HS := HS'
     have BB := BB'
     clear HC' HE' HS' BB' 
     have hzc := lt_of_block HS.out
     have rc0 := blk_cell HC.out 0 rfl
     have rc1 := blk_cell HC.out 1 rfl
     have rc2 := blk_cell HC.out 2 rfl
     have rc3 := blk_cell HC.out 3 rfl
     have rc4 := blk_cell HC.out 4 rfl
     have rc5 := blk_cell HC.out 5 rfl
     have rc6 := blk_cell HC.out 6 rfl
     have re0 := blk_cell HE.out 0 rfl
     have re1 := blk_cell HE.out 1 rfl
     have re2 := blk_cell HE.out 2 rfl
     have re3 := blk_cell HE.out 3 rfl
     have rs0 := blk_cell HS.out 0 rfl
     have rs1 := blk_cell HS.out 1 rfl
     have rs2 := blk_cell HS.out 2 rfl
     have rs3 := blk_cell HS.out 3 rfl
     have t0 := blk_cell HT 0 rfl
     have t1 := blk_cell HT 1 rfl
     have t2 := blk_cell HT 2 rfl
     have t3 := blk_cell HT 3 rfl
     by_cases h3 : rz = 0
     ·have h31 : (rz != 0) = false := by simpa using h3
      have HFx : Hid (ff ((x1, x2), (x3, x4)) = false) := Lib.hid (HFX.out.trans (by simpa using h3))
      refine start_ (n := 8) (S := fun w' => w'.cell? ⟨w.heap.size + 1 + 1, 0, none⟩ = some (.int .i64 a1) ∧ w'.cell? ⟨w.heap.size + 1 + 1, 1, none⟩ = some (.int .i64 a2) ∧ w'.cell? ⟨w.heap.size + 1 + 1, 2, none⟩ = some (.int .i64 b1) ∧ w'.cell? ⟨w.heap.size + 1 + 1, 3, none⟩ = some (.int .i64 b2) ∧ w'.cell? ⟨wr.heap.size, 0, none⟩ = some (.int .i64 x1) ∧ w'.cell? ⟨wr.heap.size, 1, none⟩ = some (.int .i64 x2) ∧ w'.cell? ⟨wr.heap.size, 2, none⟩ = some (.int .i64 x3) ∧ w'.cell? ⟨wr.heap.size, 3, none⟩ = some (.int .i64 x4)) (ds := []) #[Z,Z,Z,Z,Z,Z,Z,Z] (by kernel_rfl) rfl rfl ⟨rs0, rs1, rs2, rs3, t0, t1, t2, t3⟩ (fun hHeld => ?_)
      refine pu 1 106 ?_
      refine pu 3 108 ?_
      refine ta 0 105 hHeld ?_
      refine ta 2 107 hHeld ?_
      refine ta 4 109 hHeld ?_
      refine one_ (i := 5) (N := some 110) #[J,J,J,J,J,J,Z,Z] rfl rfl (by kernel_rfl) (by decide) (fun K hK => ?_)
      refine goes_ Tryz.func67 (by kernel_rfl) rfl #[.agg #[.int .i64 x1, .int .i64 x2], .agg #[.int .i64 x3, .int .i64 x4]] (by rfl) rfl rfl (by simp only [List.map_toArray, List.map_cons, List.map_nil]; rfl) ?_
      with_reducible refine (CO.out _).mono ?_
      rintro e whA ⟨rfl, hA⟩
      refine ⟨_, rfl, ?_⟩
      refine hK.out _ _ ⟨cell_below hA rs0, cell_below hA rs1, cell_below hA rs2, cell_below hA rs3, cell_below hA t0, cell_below hA t1, cell_below hA t2, cell_below hA t3⟩ (fun hHeld => ?_)
      clear hK K
      refine nm 110 ?_
      refine one_ (i := 6) (N := some 111) #[J,J,J,J,J,J,J,Z] rfl rfl (by kernel_rfl) (by decide) (fun K hK => ?_)
      refine goes_ Tryz.func76 (by kernel_rfl) rfl #[.agg #[.int .i64 a1, .int .i64 a2, .int .i64 b1, .int .i64 b2], .agg #[.int .i64 o1, .int .i64 o2, .int .i64 o3, .int .i64 o4]] (by rfl) rfl rfl (by simp only [List.map_toArray, List.map_cons, List.map_nil]; rfl) ?_
      with_reducible refine (CR.out _).mono ?_
      rintro e whB ⟨rfl, hB⟩
      refine ⟨_, rfl, ?_⟩
      refine hK.out _ _ ⟨cell_below hB (cell_below hA rs0), cell_below hB (cell_below hA rs1), cell_below hB (cell_below hA rs2), cell_below hB (cell_below hA rs3), cell_below hB (cell_below hA t0), cell_below hB (cell_below hA t1), cell_below hB (cell_below hA t2), cell_below hB (cell_below hA t3)⟩ (fun hHeld => ?_)
      clear hK K
      refine nm 111 ?_
      refine pu 7 112 ?_
      refine done_ (by kernel_rfl) ?_
      have hbE : Below wr.heap.size wr whB := (by repeat (first | exact Below.refl _ _ | apply below_alloc | apply below_drewN | apply below_drew | (refine below_set2 ?_ ?_; (first | (simp; done) | (simp; omega))) | (refine below_step ?_ hB) | (refine below_step ?_ hA) | (refine below_step ?_ hbX)))
      clear t0 t1 t2 t3 HT CO CR HFX HC HE HS BB hA hB hHeld rc0 rc1 rc2 rc3 rc4 rc5 rc6 re0 re1 re2 re3 rs0 rs1 rs2 rs3
      go_wp2
      go_roundw
      case rel => exact ⟨k + 1, by omega, by go_num, (by repeat (first | exact Below.refl _ _ | apply below_alloc | apply below_drewN | apply below_drew | (refine below_set2 ?_ ?_; (first | (simp; done) | (simp; omega))) | (refine below_step ?_ hbE) | (refine below_step ?_ HBr.out))), Lib.hid (by rw [HSN.out, hall.out, HFx.out]; rfl)⟩
      case measure => simp [intOf]; omega
     ·have h31 : (rz != 0) = true := by simpa using h3
      have HA : Hid (xs.any ff = true) := Lib.hid (List.any_eq_true.2 ⟨((x1, x2), (x3, x4)), HIN.out, HFX.out.trans (by simpa using h3)⟩)
      refine start_ (n := 8) (S := fun w' => w'.cell? ⟨w.heap.size + 1 + 1, 0, none⟩ = some (.int .i64 a1) ∧ w'.cell? ⟨w.heap.size + 1 + 1, 1, none⟩ = some (.int .i64 a2) ∧ w'.cell? ⟨w.heap.size + 1 + 1, 2, none⟩ = some (.int .i64 b1) ∧ w'.cell? ⟨w.heap.size + 1 + 1, 3, none⟩ = some (.int .i64 b2) ∧ w'.cell? ⟨wr.heap.size, 0, none⟩ = some (.int .i64 x1) ∧ w'.cell? ⟨wr.heap.size, 1, none⟩ = some (.int .i64 x2) ∧ w'.cell? ⟨wr.heap.size, 2, none⟩ = some (.int .i64 x3) ∧ w'.cell? ⟨wr.heap.size, 3, none⟩ = some (.int .i64 x4)) (ds := []) #[Z,Z,Z,Z,Z,Z,Z,Z] (by kernel_rfl) rfl rfl ⟨rs0, rs1, rs2, rs3, t0, t1, t2, t3⟩ (fun hHeld => ?_)
      refine pu 1 106 ?_
      refine pu 3 108 ?_
      refine ta 0 105 hHeld ?_
      refine ta 2 107 hHeld ?_
      refine ta 4 109 hHeld ?_
      refine one_ (i := 5) (N := some 110) #[J,J,J,J,J,J,Z,Z] rfl rfl (by kernel_rfl) (by decide) (fun K hK => ?_)
      refine goes_ Tryz.func67 (by kernel_rfl) rfl #[.agg #[.int .i64 x1, .int .i64 x2], .agg #[.int .i64 x3, .int .i64 x4]] (by rfl) rfl rfl (by simp only [List.map_toArray, List.map_cons, List.map_nil]; rfl) ?_
      with_reducible refine (CO.out _).mono ?_
      rintro e whA ⟨rfl, hA⟩
      refine ⟨_, rfl, ?_⟩
      refine hK.out _ _ ⟨cell_below hA rs0, cell_below hA rs1, cell_below hA rs2, cell_below hA rs3, cell_below hA t0, cell_below hA t1, cell_below hA t2, cell_below hA t3⟩ (fun hHeld => ?_)
      clear hK K
      refine nm 110 ?_
      refine one_ (i := 6) (N := some 111) #[J,J,J,J,J,J,J,Z] rfl rfl (by kernel_rfl) (by decide) (fun K hK => ?_)
      refine goes_ Tryz.func76 (by kernel_rfl) rfl #[.agg #[.int .i64 a1, .int .i64 a2, .int .i64 b1, .int .i64 b2], .agg #[.int .i64 o1, .int .i64 o2, .int .i64 o3, .int .i64 o4]] (by rfl) rfl rfl (by simp only [List.map_toArray, List.map_cons, List.map_nil]; rfl) ?_
      with_reducible refine (CR.out _).mono ?_
      rintro e whB ⟨rfl, hB⟩
      refine ⟨_, rfl, ?_⟩
      refine hK.out _ _ ⟨cell_below hB (cell_below hA rs0), cell_below hB (cell_below hA rs1), cell_below hB (cell_below hA rs2), cell_below hB (cell_below hA rs3), cell_below hB (cell_below hA t0), cell_below hB (cell_below hA t1), cell_below hB (cell_below hA t2), cell_below hB (cell_below hA t3)⟩ (fun hHeld => ?_)
      clear hK K
      refine nm 111 ?_
      refine pu 7 112 ?_
      refine done_ (by kernel_rfl) ?_
      have hb4 : Below WX.heap.size WX whB := (by repeat (first | exact Below.refl _ _ | apply below_alloc | apply below_drewN | apply below_drew | (refine below_set2 ?_ ?_; (first | (simp; done) | (simp; omega))) | (refine below_step ?_ hB) | (refine below_step ?_ hA)))
      have HC' := Lib.hid (blk_below HC.out hb4)
      have HE' := Lib.hid (blk_below HE.out hb4)
      have HS' := Lib.hid (blk_below HS.out hb4)
      have BB' := Lib.hid (below_step BB.out hb4)
      clear HC HE HS BB rc0 rc1 rc2 rc3 rc4 rc5 rc6 re0 re1 re2 re3 rs0 rs1 rs2 rs3 
      have HC := HC'
      have HE := HE'
      have HS := HS'
      have BB := BB'
      clear HC' HE' HS' BB' 
      have hzc := lt_of_block HS.out
      have rc0 := blk_cell HC.out 0 rfl
      have rc1 := blk_cell HC.out 1 rfl
      have rc2 := blk_cell HC.out 2 rfl
      have rc3 := blk_cell HC.out 3 rfl
      have rc4 := blk_cell HC.out 4 rfl
      have rc5 := blk_cell HC.out 5 rfl
      have rc6 := blk_cell HC.out 6 rfl
      have re0 := blk_cell HE.out 0 rfl
      have re1 := blk_cell HE.out 1 rfl
      have re2 := blk_cell HE.out 2 rfl
      have re3 := blk_cell HE.out 3 rfl
      have rs0 := blk_cell HS.out 0 rfl
      have rs1 := blk_cell HS.out 1 rfl
      have rs2 := blk_cell HS.out 2 rfl
      have rs3 := blk_cell HS.out 3 rfl
      clear hb4
      go_wp2
      go_ret
      exact ⟨ret_bool ((HB.out.trans (by rw [HA.out]; rfl)).symm), (by repeat (first | exact Below.refl _ _ | apply below_alloc | apply below_drewN | apply below_drew | (refine below_set2 ?_ ?_; (first | (simp; done) | (simp; omega))) | (refine below_step ?_ BB.out)))⟩
    ·obtain rfl : k = 3 := by omega
     have HA : Hid (xs.any ff = false) := Lib.hid (by have := hall.out; rwa [List.take_of_length_le (by omega)] at this)
     generalize hi1 : insideZ (u1, u2) (p1, p2) (q1, q2) (a1, a2) = i1 at *
     generalize hi2 : insideZ (q1, q2) (p1, p2) (u1, u2) (a1, a2) = i2 at *
     have CI1 := Lib.hid (fun W => simplify_inside (u1, u2) (p1, p2) (q1, q2) (a1, a2) W)
     have CI2 := Lib.hid (fun W => simplify_inside (q1, q2) (p1, p2) (u1, u2) (a1, a2) W)
     rw [hi1] at CI1
     rw [hi2] at CI2
     clear hi1 hi2
     by_cases hp : sz > 0
     ·have hp1 : decide (sz > 0) = true := decide_eq_true hp
      have hp2 : decide (0 < sz) = true := decide_eq_true hp
      have HB2 : Hid (_ = (i1 && i2)) := Lib.hid (HB.out.trans (by rw [HA.out]; simp [hp]))
      clear HB hp
      cases i1
      ·go_wp2_with fail
       refine (CI1.out _).mono ?_
       rintro e v6 ⟨rfl, hb6⟩
       have HC' := Lib.hid (blk_below HC.out hb6)
       have HE' := Lib.hid (blk_below HE.out hb6)
       have HS' := Lib.hid (blk_below HS.out hb6)
       have BB' := Lib.hid (below_step BB.out hb6)
       clear HC HE HS BB rc0 rc1 rc2 rc3 rc4 rc5 rc6 re0 re1 re2 re3 rs0 rs1 rs2 rs3 
       have HC := HC'
       have HE := HE'
       have HS := HS'
       have BB := BB'
       clear HC' HE' HS' BB' 
       have hzc := lt_of_block HS.out
       have rc0 := blk_cell HC.out 0 rfl
       have rc1 := blk_cell HC.out 1 rfl
       have rc2 := blk_cell HC.out 2 rfl
       have rc3 := blk_cell HC.out 3 rfl
       have rc4 := blk_cell HC.out 4 rfl
       have rc5 := blk_cell HC.out 5 rfl
       have rc6 := blk_cell HC.out 6 rfl
       have re0 := blk_cell HE.out 0 rfl
       have re1 := blk_cell HE.out 1 rfl
       have re2 := blk_cell HE.out 2 rfl
       have re3 := blk_cell HE.out 3 rfl
       have rs0 := blk_cell HS.out 0 rfl
       have rs1 := blk_cell HS.out 1 rfl
       have rs2 := blk_cell HS.out 2 rfl
       have rs3 := blk_cell HS.out 3 rfl
       clear hb6
       go_wp2
       go_ret
       exact ⟨ret_bool (HB2.out.symm), (by repeat (first | exact Below.refl _ _ | apply below_alloc | apply below_drewN | apply below_drew | (refine below_set2 ?_ ?_; (first | (simp; done) | (simp; omega))) | (refine below_step ?_ BB.out)))⟩
      ·go_wp2_with fail
       refine (CI1.out _).mono ?_
       rintro e v5 ⟨rfl, hb5⟩
       have HC' := Lib.hid (blk_below HC.out hb5)
       have HE' := Lib.hid (blk_below HE.out hb5)
       have HS' := Lib.hid (blk_below HS.out hb5)
       have BB' := Lib.hid (below_step BB.out hb5)
       clear HC HE HS BB rc0 rc1 rc2 rc3 rc4 rc5 rc6 re0 re1 re2 re3 rs0 rs1 rs2 rs3 
       have HC := HC'
       have HE := HE'
       have HS := HS'
       have BB := BB'
       clear HC' HE' HS' BB' 
       have hzc := lt_of_block HS.out
       have rc0 := blk_cell HC.out 0 rfl
       have rc1 := blk_cell HC.out 1 rfl
       have rc2 := blk_cell HC.out 2 rfl
       have rc3 := blk_cell HC.out 3 rfl
       have rc4 := blk_cell HC.out 4 rfl
       have rc5 := blk_cell HC.out 5 rfl
       have rc6 := blk_cell HC.out 6 rfl
       have re0 := blk_cell HE.out 0 rfl
       have re1 := blk_cell HE.out 1 rfl
       have re2 := blk_cell HE.out 2 rfl
       have re3 := blk_cell HE.out 3 rfl
       have rs0 := blk_cell HS.out 0 rfl
       have rs1 := blk_cell HS.out 1 rfl
       have rs2 := blk_cell HS.out 2 rfl
       have rs3 := blk_cell HS.out 3 rfl
       clear hb5
       go_wp2_with fail
       refine (CI2.out _).mono ?_
       rintro e v6 ⟨rfl, hb6⟩
       have HC' := Lib.hid (blk_below HC.out hb6)
       have HE' := Lib.hid (blk_below HE.out hb6)
       have HS' := Lib.hid (blk_below HS.out hb6)
       have BB' := Lib.hid (below_step BB.out hb6)
       clear HC HE HS BB rc0 rc1 rc2 rc3 rc4 rc5 rc6 re0 re1 re2 re3 rs0 rs1 rs2 rs3 
       have HC := HC'
       have HE := HE'
       have HS := HS'
       have BB := BB'
       clear HC' HE' HS' BB' 
       have hzc := lt_of_block HS.out
       have rc0 := blk_cell HC.out 0 rfl
       have rc1 := blk_cell HC.out 1 rfl
       have rc2 := blk_cell HC.out 2 rfl
       have rc3 := blk_cell HC.out 3 rfl
       have rc4 := blk_cell HC.out 4 rfl
       have rc5 := blk_cell HC.out 5 rfl
       have rc6 := blk_cell HC.out 6 rfl
       have re0 := blk_cell HE.out 0 rfl
       have re1 := blk_cell HE.out 1 rfl
       have re2 := blk_cell HE.out 2 rfl
       have re3 := blk_cell HE.out 3 rfl
       have rs0 := blk_cell HS.out 0 rfl
       have rs1 := blk_cell HS.out 1 rfl
       have rs2 := blk_cell HS.out 2 rfl
       have rs3 := blk_cell HS.out 3 rfl
       clear hb6
       go_wp2
       go_ret
       exact ⟨ret_bool (HB2.out.symm), (by repeat (first | exact Below.refl _ _ | apply below_alloc | apply below_drewN | apply below_drew | (refine below_set2 ?_ ?_; (first | (simp; done) | (simp; omega))) | (refine below_step ?_ BB.out)))⟩
     ·have hp1 : decide (sz > 0) = false := decide_eq_false hp
      have hp2 : decide (0 < sz) = false := decide_eq_false hp
      have HB2 := Lib.hid (HB.out.trans (by rw [HA.out]; simp [hp] : _ = false))
      clear HB hp
      go_wp2
      go_ret
      exact ⟨ret_bool (HB2.out.symm), (by repeat (first | exact Below.refl _ _ | apply below_alloc | apply below_drewN | apply below_drew | (refine below_set2 ?_ ?_; (first | (simp; done) | (simp; omega))) | (refine below_step ?_ BB.out)))⟩
  ·have e1 : endE (u1, u2) (((a1, a2), (b1, b2)), (L, R)) = false := hx
   have e2 : endE (q1, q2) (((a1, a2), (b1, b2)), (L, R)) = true := hy
   have HB := Lib.hid (blocks_q (c := ⟨(u1, u2), (p1, p2), (q1, q2), sz, l, r, sm⟩) (e := (((a1, a2), (b1, b2)), (L, R))) e1 e2 hz)
   go_wp2_with fail
   refine (blocks_ends (w.heap.size + 1) a1 a2 b1 b2 L R (u1, u2) _ re0 re1 re2 re3).mono ?_
   rintro e v1 ⟨rfl, hb1⟩
   have HC' := Lib.hid (blk_below HC.out hb1)
   have HE' := Lib.hid (blk_below HE.out hb1)
   have HS' := Lib.hid (blk_below HS.out hb1)
   have BB' := Lib.hid (below_step BB.out hb1)
   clear HC HE HS BB rc0 rc1 rc2 rc3 rc4 rc5 rc6 re0 re1 re2 re3 rs0 rs1 rs2 rs3 
   have HC := HC'
   have HE := HE'
   have HS := HS'
   have BB := BB'
   clear HC' HE' HS' BB' 
   have hzc := lt_of_block HS.out
   have rc0 := blk_cell HC.out 0 rfl
   have rc1 := blk_cell HC.out 1 rfl
   have rc2 := blk_cell HC.out 2 rfl
   have rc3 := blk_cell HC.out 3 rfl
   have rc4 := blk_cell HC.out 4 rfl
   have rc5 := blk_cell HC.out 5 rfl
   have rc6 := blk_cell HC.out 6 rfl
   have re0 := blk_cell HE.out 0 rfl
   have re1 := blk_cell HE.out 1 rfl
   have re2 := blk_cell HE.out 2 rfl
   have re3 := blk_cell HE.out 3 rfl
   have rs0 := blk_cell HS.out 0 rfl
   have rs1 := blk_cell HS.out 1 rfl
   have rs2 := blk_cell HS.out 2 rfl
   have rs3 := blk_cell HS.out 3 rfl
   clear hb1
   rw [e1]
   go_wp2_with fail
   refine (blocks_ends (w.heap.size + 1) a1 a2 b1 b2 L R (u1, u2) _ re0 re1 re2 re3).mono ?_
   rintro e v2 ⟨rfl, hb2⟩
   have HC' := Lib.hid (blk_below HC.out hb2)
   have HE' := Lib.hid (blk_below HE.out hb2)
   have HS' := Lib.hid (blk_below HS.out hb2)
   have BB' := Lib.hid (below_step BB.out hb2)
   clear HC HE HS BB rc0 rc1 rc2 rc3 rc4 rc5 rc6 re0 re1 re2 re3 rs0 rs1 rs2 rs3 
   have HC := HC'
   have HE := HE'
   have HS := HS'
   have BB := BB'
   clear HC' HE' HS' BB' 
   have hzc := lt_of_block HS.out
   have rc0 := blk_cell HC.out 0 rfl
   have rc1 := blk_cell HC.out 1 rfl
   have rc2 := blk_cell HC.out 2 rfl
   have rc3 := blk_cell HC.out 3 rfl
   have rc4 := blk_cell HC.out 4 rfl
   have rc5 := blk_cell HC.out 5 rfl
   have rc6 := blk_cell HC.out 6 rfl
   have re0 := blk_cell HE.out 0 rfl
   have re1 := blk_cell HE.out 1 rfl
   have re2 := blk_cell HE.out 2 rfl
   have re3 := blk_cell HE.out 3 rfl
   have rs0 := blk_cell HS.out 0 rfl
   have rs1 := blk_cell HS.out 1 rfl
   have rs2 := blk_cell HS.out 2 rfl
   have rs3 := blk_cell HS.out 3 rfl
   clear hb2
   rw [e1]
   go_wp2_with fail
   refine (blocks_ends (w.heap.size + 1) a1 a2 b1 b2 L R (q1, q2) _ re0 re1 re2 re3).mono ?_
   rintro e v3 ⟨rfl, hb3⟩
   have HC' := Lib.hid (blk_below HC.out hb3)
   have HE' := Lib.hid (blk_below HE.out hb3)
   have HS' := Lib.hid (blk_below HS.out hb3)
   have BB' := Lib.hid (below_step BB.out hb3)
   clear HC HE HS BB rc0 rc1 rc2 rc3 rc4 rc5 rc6 re0 re1 re2 re3 rs0 rs1 rs2 rs3 
   have HC := HC'
   have HE := HE'
   have HS := HS'
   have BB := BB'
   clear HC' HE' HS' BB' 
   have hzc := lt_of_block HS.out
   have rc0 := blk_cell HC.out 0 rfl
   have rc1 := blk_cell HC.out 1 rfl
   have rc2 := blk_cell HC.out 2 rfl
   have rc3 := blk_cell HC.out 3 rfl
   have rc4 := blk_cell HC.out 4 rfl
   have rc5 := blk_cell HC.out 5 rfl
   have rc6 := blk_cell HC.out 6 rfl
   have re0 := blk_cell HE.out 0 rfl
   have re1 := blk_cell HE.out 1 rfl
   have re2 := blk_cell HE.out 2 rfl
   have re3 := blk_cell HE.out 3 rfl
   have rs0 := blk_cell HS.out 0 rfl
   have rs1 := blk_cell HS.out 1 rfl
   have rs2 := blk_cell HS.out 2 rfl
   have rs3 := blk_cell HS.out 3 rfl
   clear hb3
   rw [e2]
   have CF : Hid (∀ W, Below v3.heap.size v3 W → Calls Tryz.prog 75 #[ptA (q1, q2), .pointer (some ⟨w.heap.size + 1, 0, none⟩)] W fun e w' => e = .returned (ptA (farE (((a1, a2), (b1, b2)), (L, R)) (q1, q2))) ∧ Below W.heap.size W w') := Lib.hid (fun W hb => blocks_far (w.heap.size + 1) a1 a2 b1 b2 L R (q1, q2) W (cell_below hb re0) (cell_below hb re1) (cell_below hb re2) (cell_below hb re3))
   have CI := Lib.hid (fun W => simplify_inside (q1, q2) (p1, p2) (u1, u2) (farE (((a1, a2), (b1, b2)), (L, R)) (q1, q2)) W)
   generalize farE (((a1, a2), (b1, b2)), (L, R)) (q1, q2) = fz at *
   obtain ⟨f1, f2⟩ := fz
   generalize insideZ (q1, q2) (p1, p2) (u1, u2) (f1, f2) = iz at *
   go_wp2_with fail
   refine start_ (n := 12) (S := fun w' => w'.cell? ⟨w.heap.size, 0, none⟩ = some (.int .i64 u1) ∧ w'.cell? ⟨w.heap.size, 1, none⟩ = some (.int .i64 u2) ∧ w'.cell? ⟨w.heap.size, 2, none⟩ = some (.int .i64 p1) ∧ w'.cell? ⟨w.heap.size, 3, none⟩ = some (.int .i64 p2) ∧ w'.cell? ⟨w.heap.size, 4, none⟩ = some (.int .i64 q1) ∧ w'.cell? ⟨w.heap.size, 5, none⟩ = some (.int .i64 q2)) (ds := [11]) #[Z,Z,Z,Z,Z,Z,Z,Z,Z,Z,Z,Z] (by kernel_rfl) rfl rfl ⟨rc0, rc1, rc2, rc3, rc4, rc5⟩ (fun hHeld => ?_)
   refine pu 0 73 ?_
   refine pu 2 75 ?_
   refine pu 4 77 ?_
   refine pu 6 79 ?_
   refine pu 7 80 ?_
   refine ta 1 74 hHeld ?_
   refine ta 3 76 hHeld ?_
   refine ta 5 78 hHeld ?_
   refine ta 8 81 hHeld ?_
   refine one_ (i := 9) (N := some 82) #[J,J,J,J,J,J,J,J,J,J,Z,Z] rfl rfl (by kernel_rfl) (by decide) (fun K hK => ?_)
   refine goesV_ Tryz.func75 (by kernel_rfl) rfl #[.agg #[.int .i64 q1, .int .i64 q2], .pointer (some ⟨w.heap.size + 1, 0, none⟩)] (by rfl) rfl rfl (by rfl) (by simp only [List.map_toArray, List.map_cons, List.map_nil]; rfl) ?_
   with_reducible refine (CF.out _ (below_drew (Below.refl _ _))).mono ?_
   rintro e whA ⟨rfl, hA⟩
   refine ⟨_, rfl, ?_⟩
   refine hK.out _ _ ⟨cell_below hA rc0, cell_below hA rc1, cell_below hA rc2, cell_below hA rc3, cell_below hA rc4, cell_below hA rc5⟩ (fun hHeld => ?_)
   clear hK K
   refine nm 82 ?_
   refine one_ (i := 10) (N := some 83) #[J,J,J,J,J,J,J,J,J,J,J,Z] rfl rfl (by kernel_rfl) (by decide) (fun K hK => ?_)
   refine goes_ Tryz.func77 (by kernel_rfl) rfl #[.agg #[.int .i64 q1, .int .i64 q2], .agg #[.int .i64 p1, .int .i64 p2], .agg #[.int .i64 u1, .int .i64 u2], .agg #[.int .i64 f1, .int .i64 f2]] (by rfl) rfl rfl (by simp only [List.map_toArray, List.map_cons, List.map_nil]; rfl) ?_
   with_reducible refine (CI.out _).mono ?_
   rintro e whB ⟨rfl, hB⟩
   refine ⟨_, rfl, ?_⟩
   refine hK.out _ _ ⟨cell_below hB (cell_below hA rc0), cell_below hB (cell_below hA rc1), cell_below hB (cell_below hA rc2), cell_below hB (cell_below hA rc3), cell_below hB (cell_below hA rc4), cell_below hB (cell_below hA rc5)⟩ (fun hHeld => ?_)
   clear hK K
   refine nm 83 ?_
   refine pu 11 4 ?_
   refine done_ (by kernel_rfl) ?_
   have hb4 : Below v3.heap.size v3 whB := (by repeat (first | exact Below.refl _ _ | apply below_alloc | apply below_drewN | apply below_drew | (refine below_set2 ?_ ?_; (first | (simp; done) | (simp; omega))) | (refine below_step ?_ hB) | (refine below_step ?_ hA)))
   have HC' := Lib.hid (blk_below HC.out hb4)
   have HE' := Lib.hid (blk_below HE.out hb4)
   have HS' := Lib.hid (blk_below HS.out hb4)
   have BB' := Lib.hid (below_step BB.out hb4)
   clear HC HE HS BB rc0 rc1 rc2 rc3 rc4 rc5 rc6 re0 re1 re2 re3 rs0 rs1 rs2 rs3 
   have HC := HC'
   have HE := HE'
   have HS := HS'
   have BB := BB'
   clear HC' HE' HS' BB' 
   have hzc := lt_of_block HS.out
   have rc0 := blk_cell HC.out 0 rfl
   have rc1 := blk_cell HC.out 1 rfl
   have rc2 := blk_cell HC.out 2 rfl
   have rc3 := blk_cell HC.out 3 rfl
   have rc4 := blk_cell HC.out 4 rfl
   have rc5 := blk_cell HC.out 5 rfl
   have rc6 := blk_cell HC.out 6 rfl
   have re0 := blk_cell HE.out 0 rfl
   have re1 := blk_cell HE.out 1 rfl
   have re2 := blk_cell HE.out 2 rfl
   have re3 := blk_cell HE.out 3 rfl
   have rs0 := blk_cell HS.out 0 rfl
   have rs1 := blk_cell HS.out 1 rfl
   have rs2 := blk_cell HS.out 2 rfl
   have rs3 := blk_cell HS.out 3 rfl
   clear hb4
   go_wp2
   go_ret
   exact ⟨ret_bool (HB.out.symm), (by repeat (first | exact Below.refl _ _ | apply below_alloc | apply below_drewN | apply below_drew | (refine below_set2 ?_ ?_; (first | (simp; done) | (simp; omega))) | (refine below_step ?_ BB.out)))⟩
  ·have e1 : endE (u1, u2) (((a1, a2), (b1, b2)), (L, R)) = true := hx
   have e2 : endE (q1, q2) (((a1, a2), (b1, b2)), (L, R)) = false := hy
   have HB := Lib.hid (blocks_u (c := ⟨(u1, u2), (p1, p2), (q1, q2), sz, l, r, sm⟩) (e := (((a1, a2), (b1, b2)), (L, R))) e1 e2 hz)
   go_wp2_with fail
   refine (blocks_ends (w.heap.size + 1) a1 a2 b1 b2 L R (u1, u2) _ re0 re1 re2 re3).mono ?_
   rintro e v1 ⟨rfl, hb1⟩
   have HC' := Lib.hid (blk_below HC.out hb1)
   have HE' := Lib.hid (blk_below HE.out hb1)
   have HS' := Lib.hid (blk_below HS.out hb1)
   have BB' := Lib.hid (below_step BB.out hb1)
   clear HC HE HS BB rc0 rc1 rc2 rc3 rc4 rc5 rc6 re0 re1 re2 re3 rs0 rs1 rs2 rs3 
   have HC := HC'
   have HE := HE'
   have HS := HS'
   have BB := BB'
   clear HC' HE' HS' BB' 
   have hzc := lt_of_block HS.out
   have rc0 := blk_cell HC.out 0 rfl
   have rc1 := blk_cell HC.out 1 rfl
   have rc2 := blk_cell HC.out 2 rfl
   have rc3 := blk_cell HC.out 3 rfl
   have rc4 := blk_cell HC.out 4 rfl
   have rc5 := blk_cell HC.out 5 rfl
   have rc6 := blk_cell HC.out 6 rfl
   have re0 := blk_cell HE.out 0 rfl
   have re1 := blk_cell HE.out 1 rfl
   have re2 := blk_cell HE.out 2 rfl
   have re3 := blk_cell HE.out 3 rfl
   have rs0 := blk_cell HS.out 0 rfl
   have rs1 := blk_cell HS.out 1 rfl
   have rs2 := blk_cell HS.out 2 rfl
   have rs3 := blk_cell HS.out 3 rfl
   clear hb1
   rw [e1]
   go_wp2_with fail
   refine (blocks_ends (w.heap.size + 1) a1 a2 b1 b2 L R (q1, q2) _ re0 re1 re2 re3).mono ?_
   rintro e v2 ⟨rfl, hb2⟩
   have HC' := Lib.hid (blk_below HC.out hb2)
   have HE' := Lib.hid (blk_below HE.out hb2)
   have HS' := Lib.hid (blk_below HS.out hb2)
   have BB' := Lib.hid (below_step BB.out hb2)
   clear HC HE HS BB rc0 rc1 rc2 rc3 rc4 rc5 rc6 re0 re1 re2 re3 rs0 rs1 rs2 rs3 
   have HC := HC'
   have HE := HE'
   have HS := HS'
   have BB := BB'
   clear HC' HE' HS' BB' 
   have hzc := lt_of_block HS.out
   have rc0 := blk_cell HC.out 0 rfl
   have rc1 := blk_cell HC.out 1 rfl
   have rc2 := blk_cell HC.out 2 rfl
   have rc3 := blk_cell HC.out 3 rfl
   have rc4 := blk_cell HC.out 4 rfl
   have rc5 := blk_cell HC.out 5 rfl
   have rc6 := blk_cell HC.out 6 rfl
   have re0 := blk_cell HE.out 0 rfl
   have re1 := blk_cell HE.out 1 rfl
   have re2 := blk_cell HE.out 2 rfl
   have re3 := blk_cell HE.out 3 rfl
   have rs0 := blk_cell HS.out 0 rfl
   have rs1 := blk_cell HS.out 1 rfl
   have rs2 := blk_cell HS.out 2 rfl
   have rs3 := blk_cell HS.out 3 rfl
   clear hb2
   rw [e2]
   go_wp2_with fail
   refine (blocks_ends (w.heap.size + 1) a1 a2 b1 b2 L R (u1, u2) _ re0 re1 re2 re3).mono ?_
   rintro e v3 ⟨rfl, hb3⟩
   have HC' := Lib.hid (blk_below HC.out hb3)
   have HE' := Lib.hid (blk_below HE.out hb3)
   have HS' := Lib.hid (blk_below HS.out hb3)
   have BB' := Lib.hid (below_step BB.out hb3)
   clear HC HE HS BB rc0 rc1 rc2 rc3 rc4 rc5 rc6 re0 re1 re2 re3 rs0 rs1 rs2 rs3 
   have HC := HC'
   have HE := HE'
   have HS := HS'
   have BB := BB'
   clear HC' HE' HS' BB' 
   have hzc := lt_of_block HS.out
   have rc0 := blk_cell HC.out 0 rfl
   have rc1 := blk_cell HC.out 1 rfl
   have rc2 := blk_cell HC.out 2 rfl
   have rc3 := blk_cell HC.out 3 rfl
   have rc4 := blk_cell HC.out 4 rfl
   have rc5 := blk_cell HC.out 5 rfl
   have rc6 := blk_cell HC.out 6 rfl
   have re0 := blk_cell HE.out 0 rfl
   have re1 := blk_cell HE.out 1 rfl
   have re2 := blk_cell HE.out 2 rfl
   have re3 := blk_cell HE.out 3 rfl
   have rs0 := blk_cell HS.out 0 rfl
   have rs1 := blk_cell HS.out 1 rfl
   have rs2 := blk_cell HS.out 2 rfl
   have rs3 := blk_cell HS.out 3 rfl
   clear hb3
   rw [e1]
   have CF : Hid (∀ W, Below v3.heap.size v3 W → Calls Tryz.prog 75 #[ptA (u1, u2), .pointer (some ⟨w.heap.size + 1, 0, none⟩)] W fun e w' => e = .returned (ptA (farE (((a1, a2), (b1, b2)), (L, R)) (u1, u2))) ∧ Below W.heap.size W w') := Lib.hid (fun W hb => blocks_far (w.heap.size + 1) a1 a2 b1 b2 L R (u1, u2) W (cell_below hb re0) (cell_below hb re1) (cell_below hb re2) (cell_below hb re3))
   have CI := Lib.hid (fun W => simplify_inside (u1, u2) (p1, p2) (q1, q2) (farE (((a1, a2), (b1, b2)), (L, R)) (u1, u2)) W)
   generalize farE (((a1, a2), (b1, b2)), (L, R)) (u1, u2) = fz at *
   obtain ⟨f1, f2⟩ := fz
   generalize insideZ (u1, u2) (p1, p2) (q1, q2) (f1, f2) = iz at *
   go_wp2_with fail
   refine start_ (n := 12) (S := fun w' => w'.cell? ⟨w.heap.size, 0, none⟩ = some (.int .i64 u1) ∧ w'.cell? ⟨w.heap.size, 1, none⟩ = some (.int .i64 u2) ∧ w'.cell? ⟨w.heap.size, 2, none⟩ = some (.int .i64 p1) ∧ w'.cell? ⟨w.heap.size, 3, none⟩ = some (.int .i64 p2) ∧ w'.cell? ⟨w.heap.size, 4, none⟩ = some (.int .i64 q1) ∧ w'.cell? ⟨w.heap.size, 5, none⟩ = some (.int .i64 q2)) (ds := [11]) #[Z,Z,Z,Z,Z,Z,Z,Z,Z,Z,Z,Z] (by kernel_rfl) rfl rfl ⟨rc0, rc1, rc2, rc3, rc4, rc5⟩ (fun hHeld => ?_)
   refine pu 0 57 ?_
   refine pu 2 59 ?_
   refine pu 4 61 ?_
   refine pu 6 63 ?_
   refine pu 7 64 ?_
   refine ta 1 58 hHeld ?_
   refine ta 3 60 hHeld ?_
   refine ta 5 62 hHeld ?_
   refine ta 8 65 hHeld ?_
   refine one_ (i := 9) (N := some 66) #[J,J,J,J,J,J,J,J,J,J,Z,Z] rfl rfl (by kernel_rfl) (by decide) (fun K hK => ?_)
   refine goesV_ Tryz.func75 (by kernel_rfl) rfl #[.agg #[.int .i64 u1, .int .i64 u2], .pointer (some ⟨w.heap.size + 1, 0, none⟩)] (by rfl) rfl rfl (by rfl) (by simp only [List.map_toArray, List.map_cons, List.map_nil]; rfl) ?_
   with_reducible refine (CF.out _ (below_drew (Below.refl _ _))).mono ?_
   rintro e whA ⟨rfl, hA⟩
   refine ⟨_, rfl, ?_⟩
   refine hK.out _ _ ⟨cell_below hA rc0, cell_below hA rc1, cell_below hA rc2, cell_below hA rc3, cell_below hA rc4, cell_below hA rc5⟩ (fun hHeld => ?_)
   clear hK K
   refine nm 66 ?_
   refine one_ (i := 10) (N := some 67) #[J,J,J,J,J,J,J,J,J,J,J,Z] rfl rfl (by kernel_rfl) (by decide) (fun K hK => ?_)
   refine goes_ Tryz.func77 (by kernel_rfl) rfl #[.agg #[.int .i64 u1, .int .i64 u2], .agg #[.int .i64 p1, .int .i64 p2], .agg #[.int .i64 q1, .int .i64 q2], .agg #[.int .i64 f1, .int .i64 f2]] (by rfl) rfl rfl (by simp only [List.map_toArray, List.map_cons, List.map_nil]; rfl) ?_
   with_reducible refine (CI.out _).mono ?_
   rintro e whB ⟨rfl, hB⟩
   refine ⟨_, rfl, ?_⟩
   refine hK.out _ _ ⟨cell_below hB (cell_below hA rc0), cell_below hB (cell_below hA rc1), cell_below hB (cell_below hA rc2), cell_below hB (cell_below hA rc3), cell_below hB (cell_below hA rc4), cell_below hB (cell_below hA rc5)⟩ (fun hHeld => ?_)
   clear hK K
   refine nm 67 ?_
   refine pu 11 4 ?_
   refine done_ (by kernel_rfl) ?_
   have hb4 : Below v3.heap.size v3 whB := (by repeat (first | exact Below.refl _ _ | apply below_alloc | apply below_drewN | apply below_drew | (refine below_set2 ?_ ?_; (first | (simp; done) | (simp; omega))) | (refine below_step ?_ hB) | (refine below_step ?_ hA)))
   have HC' := Lib.hid (blk_below HC.out hb4)
   have HE' := Lib.hid (blk_below HE.out hb4)
   have HS' := Lib.hid (blk_below HS.out hb4)
   have BB' := Lib.hid (below_step BB.out hb4)
   clear HC HE HS BB rc0 rc1 rc2 rc3 rc4 rc5 rc6 re0 re1 re2 re3 rs0 rs1 rs2 rs3 
   have HC := HC'
   have HE := HE'
   have HS := HS'
   have BB := BB'
   clear HC' HE' HS' BB' 
   have hzc := lt_of_block HS.out
   have rc0 := blk_cell HC.out 0 rfl
   have rc1 := blk_cell HC.out 1 rfl
   have rc2 := blk_cell HC.out 2 rfl
   have rc3 := blk_cell HC.out 3 rfl
   have rc4 := blk_cell HC.out 4 rfl
   have rc5 := blk_cell HC.out 5 rfl
   have rc6 := blk_cell HC.out 6 rfl
   have re0 := blk_cell HE.out 0 rfl
   have re1 := blk_cell HE.out 1 rfl
   have re2 := blk_cell HE.out 2 rfl
   have re3 := blk_cell HE.out 3 rfl
   have rs0 := blk_cell HS.out 0 rfl
   have rs1 := blk_cell HS.out 1 rfl
   have rs2 := blk_cell HS.out 2 rfl
   have rs3 := blk_cell HS.out 3 rfl
   clear hb4
   go_wp2
   go_ret
   exact ⟨ret_bool (HB.out.symm), (by repeat (first | exact Below.refl _ _ | apply below_alloc | apply below_drewN | apply below_drew | (refine below_set2 ?_ ?_; (first | (simp; done) | (simp; omega))) | (refine below_step ?_ BB.out)))⟩
  ·have e1 : endE (u1, u2) (((a1, a2), (b1, b2)), (L, R)) = true := hx
   have e2 : endE (q1, q2) (((a1, a2), (b1, b2)), (L, R)) = true := hy
   have HB := Lib.hid (blocks_tt (c := ⟨(u1, u2), (p1, p2), (q1, q2), sz, l, r, sm⟩) (e := (((a1, a2), (b1, b2)), (L, R))) e1 e2)
   go_wp2_with fail
   refine (blocks_ends (w.heap.size + 1) a1 a2 b1 b2 L R (u1, u2) _ re0 re1 re2 re3).mono ?_
   rintro e v1 ⟨rfl, hb1⟩
   have HC' := Lib.hid (blk_below HC.out hb1)
   have HE' := Lib.hid (blk_below HE.out hb1)
   have HS' := Lib.hid (blk_below HS.out hb1)
   have BB' := Lib.hid (below_step BB.out hb1)
   clear HC HE HS BB rc0 rc1 rc2 rc3 rc4 rc5 rc6 re0 re1 re2 re3 rs0 rs1 rs2 rs3 
   have HC := HC'
   have HE := HE'
   have HS := HS'
   have BB := BB'
   clear HC' HE' HS' BB' 
   have hzc := lt_of_block HS.out
   have rc0 := blk_cell HC.out 0 rfl
   have rc1 := blk_cell HC.out 1 rfl
   have rc2 := blk_cell HC.out 2 rfl
   have rc3 := blk_cell HC.out 3 rfl
   have rc4 := blk_cell HC.out 4 rfl
   have rc5 := blk_cell HC.out 5 rfl
   have rc6 := blk_cell HC.out 6 rfl
   have re0 := blk_cell HE.out 0 rfl
   have re1 := blk_cell HE.out 1 rfl
   have re2 := blk_cell HE.out 2 rfl
   have re3 := blk_cell HE.out 3 rfl
   have rs0 := blk_cell HS.out 0 rfl
   have rs1 := blk_cell HS.out 1 rfl
   have rs2 := blk_cell HS.out 2 rfl
   have rs3 := blk_cell HS.out 3 rfl
   clear hb1
   rw [e1]
   go_wp2_with fail
   refine (blocks_ends (w.heap.size + 1) a1 a2 b1 b2 L R (q1, q2) _ re0 re1 re2 re3).mono ?_
   rintro e v2 ⟨rfl, hb2⟩
   have HC' := Lib.hid (blk_below HC.out hb2)
   have HE' := Lib.hid (blk_below HE.out hb2)
   have HS' := Lib.hid (blk_below HS.out hb2)
   have BB' := Lib.hid (below_step BB.out hb2)
   clear HC HE HS BB rc0 rc1 rc2 rc3 rc4 rc5 rc6 re0 re1 re2 re3 rs0 rs1 rs2 rs3 
   have HC := HC'
   have HE := HE'
   have HS := HS'
   have BB := BB'
   clear HC' HE' HS' BB' 
   have hzc := lt_of_block HS.out
   have rc0 := blk_cell HC.out 0 rfl
   have rc1 := blk_cell HC.out 1 rfl
   have rc2 := blk_cell HC.out 2 rfl
   have rc3 := blk_cell HC.out 3 rfl
   have rc4 := blk_cell HC.out 4 rfl
   have rc5 := blk_cell HC.out 5 rfl
   have rc6 := blk_cell HC.out 6 rfl
   have re0 := blk_cell HE.out 0 rfl
   have re1 := blk_cell HE.out 1 rfl
   have re2 := blk_cell HE.out 2 rfl
   have re3 := blk_cell HE.out 3 rfl
   have rs0 := blk_cell HS.out 0 rfl
   have rs1 := blk_cell HS.out 1 rfl
   have rs2 := blk_cell HS.out 2 rfl
   have rs3 := blk_cell HS.out 3 rfl
   clear hb2
   rw [e2]
   go_wp2
   go_ret
   exact ⟨ret_bool (HB.out.symm), (by repeat (first | exact Below.refl _ _ | apply below_alloc | apply below_drewN | apply below_drew | (refine below_set2 ?_ ?_; (first | (simp; done) | (simp; omega))) | (refine below_step ?_ BB.out)))⟩
end
end Go.Proofs.YtaeflnbjeaoapaaGreat
