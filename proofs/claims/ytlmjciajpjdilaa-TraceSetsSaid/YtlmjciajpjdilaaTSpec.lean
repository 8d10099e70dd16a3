/- Plain words on sets of segments: what noding and trace compute. No program is in sight. -/
import Derived.Test.YtlmjciajpjdilaaTSortP
import Derived.Test.YtlmjciajpjdilaaGeo2
namespace Go.Proofs.Ytlmjciajpjdilaa
set_option linter.unusedVariables false

abbrev Sgs := List Sg
abbrev Rgs := List Pts
def sgD (xs : Sgs) (k : Nat) : Sg := xs.getD k ((0, 0), (0, 0))
def goodB (s : Sg) : Bool := decide (s.1 ≠ s.2) && (validB s.1 && validB s.2)
def ofS (s : Sg) : Sg := ofB s.1 s.2
def canonZ (l : Sgs) : Sgs := (l.filter goodB).map ofS
def sortZ (l : Sgs) : Sgs := sortG lessS (canonZ l)
def uniqZ (l : Sgs) : Sgs := compactZ (sortZ l)
def cmpS (a b : Sg) : Int := if a = b then 0 else if lessS a b then -1 else 1
def cmpP (a b : Pt) : Int := if a = b then 0 else if lessB a b then -1 else 1
def cmpR (a b : Pts) : Int := if lessR a b then -1 else if lessR b a then 1 else 0
def ends2 (l : Sgs) : Pts := l.flatMap fun s => [s.1, s.2]
def endsZ (l : Sgs) : Pts := compactZ (sortG lessB (ends2 (uniqZ l)))
def withinB (p a b : Pt) : Bool := onB p a b && (decide (p ≠ a) && decide (p ≠ b))
/-- the parts of a segment -/
def cutsF (s : Sg) : Sgs × Pt → Pt → Sgs × Pt := fun st p => if withinB p s.1 s.2 then (st.1 ++ [(st.2, p)], p) else st
def cutsZ (es : Pts) (s : Sg) (acc : Sgs) : Sgs := let st := es.foldl (cutsF s) (acc, s.1); st.1 ++ [(st.2, s.2)]
def splitZ (l : Sgs) : Sgs := sortZ ((canonZ l).foldl (fun acc s => cutsZ (endsZ l) s acc) [])
def signZ (n : Int) : Int := min 1 (max (-1) n)
def flatZ (s t : Sg) : Int :=
  let lo := if lessB s.1 t.1 then t.1 else s.1
  let hi := if lessB t.2 s.2 then t.2 else s.2
  if lessB lo hi then 3 else if lo = hi then 1 else 0
/-- seg.Relate -/
def relZ (s0 t0 : Sg) : Int :=
  if ((validB s0.1 && validB s0.2 && validB t0.1 && validB t0.2) && (decide (s0.1 ≠ s0.2) && decide (t0.1 ≠ t0.2))) = false then 0 else
  let s := ofS s0
  let t := ofS t0
  let a := signZ (turnZ s.1 s.2 t.1)
  let b := signZ (turnZ s.1 s.2 t.2)
  let c := signZ (turnZ t.1 t.2 s.1)
  let d := signZ (turnZ t.1 t.2 s.2)
  if a = 0 ∧ b = 0 then flatZ s t else if a * b < 0 ∧ c * d < 0 then 2 else
  if onB t.1 s.1 s.2 || (onB t.2 s.1 s.2 || (onB s.1 t.1 t.2 || onB s.2 t.1 t.2)) then 1 else 0
def badB (s t : Sg) : Bool := decide (relZ s t = 2) || decide (relZ s t = 3)
def crossZs (u : Sgs) : List (Sg × Sg) := (List.range u.length).flatMap fun i => ((u.drop (i + 1)).filter (badB (sgD u i))).map fun t => (sgD u i, t)
def cleanZ (l : Sgs) : Bool := decide (splitZ l = sortZ l) && decide (crossZs (uniqZ l) = [])
def degZ (u : Sgs) (p : Pt) : Nat := (ends2 u).count p
def checkU (u : Sgs) : Int := if u = [] then 15 else if cleanZ u = false then 13 else if (ends2 u).any (fun p => decide (degZ u p % 2 = 1)) then 14 else 0
def checkZ (l : Sgs) : Int := checkU (uniqZ l)
/-- crossings of a ray, doubled coordinates -/
def rayB (m : Pt) (but s : Sg) : Bool :=
  let low := if s.1.2 > s.2.2 then s.2 else s.1
  let high := if s.1.2 > s.2.2 then s.1 else s.2
  !(decide (s = but) || (decide (2 * low.2 > m.2) || decide (2 * high.2 ≤ m.2))) && decide ((high.1 - low.1) * (m.2 - 2 * low.2) - (high.2 - low.2) * (m.1 - 2 * low.1) > 0)
def crossN (u : Sgs) (m : Pt) (but : Sg) : Nat := u.countP (rayB m but)
def leftZ (u : Sgs) (s : Sg) : Bool :=
  let odd := decide (crossN u (s.1.1 + s.2.1, s.1.2 + s.2.2) s % 2 = 1)
  if s.2.2 > s.1.2 then !odd else odd
def whereU (u : Sgs) (p : Pt) : Int := if u.any (fun s => onB p s.1 s.2) then 1 else if crossN u (2 * p.1, 2 * p.2) ((0, 0), (0, 0)) % 2 = 1 then 2 else 0
def whereT (l : Sgs) (p : Pt) : Int := if validB p = false then 0 else whereU (uniqZ l) p
def leftIn (l : Sgs) (s : Sg) : Bool := decide (s ∈ uniqZ l) && (decide (checkZ l = 0) && leftZ (uniqZ l) s)
def dirZ (u : Sgs) : Sgs := u.map fun s => if leftZ u s then s else (s.2, s.1)
def crossV (v a b : Pt) : Int := (a.1 - v.1) * (b.2 - v.2) - (a.2 - v.2) * (b.1 - v.1)
def sideZ (v u a : Pt) : Int := if crossV v u a < 0 then 0 else if crossV v u a = 0 then 1 else 2
def betterB (u v best a : Pt) : Bool := decide (sideZ v u a < sideZ v u best) || (decide (sideZ v u a = sideZ v u best) && decide (crossV v best a > 0))
def turnL (u v : Pt) : Pts → Pt
  | [] => (0, 0)
  | a :: l => l.foldl (fun best a => if betterB u v best a then a else best) a
def outs (dl : Sgs) (v : Pt) : Pts := (dl.filter fun s => decide (s.1 = v)).map (·.2)
def succZ (dl : Sgs) (t : Sg) : Sg := (t.2, turnL t.1 t.2 (outs dl t.2))
/-- one ring: the ring, and what remains -/
def walkZ (dl : Sgs) (s : Sg) : Nat → Sg → Pts → Sgs → Pts × Sgs
  | 0, _, ring, rest => (ring, rest)
  | n + 1, t, ring, rest =>
    let ring' := ring ++ [t.1]
    let rest' := rest.filter fun x => decide (x ≠ t)
    let t' := succZ dl t
    if t' = s ∨ t' ∉ rest' then (ring', rest') else walkZ dl s n t' ring' rest'
def loopF (dl : Sgs) (st : Rgs × Sgs) (s : Sg) : Rgs × Sgs :=
  if s ∈ st.2 then let r := walkZ dl s st.2.length s [] st.2; (st.1 ++ [r.1], r.2) else st
def loopsZ (dl : Sgs) : Rgs := (dl.foldl (loopF dl) ([], dl)).1
def minIx (r : Pts) (n : Nat) : Nat := (List.range n).foldl (fun f k => if lessB (ptD r k) (ptD r f) then k else f) 0
def canonR (r : Pts) : Pts := r.drop (minIx r r.length) ++ r.take (minIx r r.length)
def cutF (st : Rgs × Pts) (p : Pt) : Rgs × Pts :=
  if p ∈ st.2 then (st.1 ++ [canonR (st.2.drop (st.2.idxOf p))], st.2.take (st.2.idxOf p) ++ [p]) else (st.1, st.2 ++ [p])
def divR (acc : Rgs) (r : Pts) : Rgs := let st := r.foldl cutF (acc, []); st.1 ++ [canonR st.2]
def dividedZ (l : Rgs) : Rgs := l.foldl divR []
def ringsU (u : Sgs) : Rgs := sortG lessR (dividedZ (loopsZ (dirZ u)))
def ringsZ (l : Sgs) : Rgs := if checkZ l = 0 then ringsU (uniqZ l) else []

/-! the example of the chapter -/
def sqS (x y d : Int) : Sgs := [((x, y), (x + d, y)), ((x + d, y), (x + d, y + d)), ((x, y + d), (x + d, y + d)), ((x, y), (x, y + d))]
def exS : Sgs := sqS 0 0 9 ++ sqS 3 3 2
theorem ex_check : checkZ exS = 0 := by decide +kernel
theorem ex_rings : ringsZ exS = [[(0, 0), (9, 0), (9, 9), (0, 9)], [(3, 3), (3, 5), (5, 5), (5, 3)]] := by decide +kernel
theorem ex_in : whereT exS (1, 1) = 2 := by decide +kernel
theorem ex_out : whereT exS (4, 4) = 0 := by decide +kernel
theorem ex_left : leftIn exS ((0, 0), (9, 0)) = true := by decide +kernel
theorem nil_check : checkZ [] = 15 := by decide +kernel
end Go.Proofs.Ytlmjciajpjdilaa
