/- Plain law of SimplifyTwice: simplifying is idempotent, and no point is added. Plain words of chapter 25's laws: few edges, and that simplifying keeps them few. Plain facts on clean sets for mesh.Check: a part of a clean set is not divided anew. Plain facts on mesh.Check: its lists stay small. Words of this session's own: maps that a call has made, read as lists of entries. No program is in sight. Words of this session's own: m[k] = append(m[k], ..) and range over a map that a call has made; points and segments as keys. -/
import Derived.Test.YtaeflnbjeaoapaaGreatKPW
import Derived.Test.YtaeflnbjeaoapaaGreatKP0
import Derived.Test.YtaeflnbjeaoapaaGreatKP1
import Derived.MapKept
import Derived.Maps.RangeRun
import Derived.Laws.StructEq
namespace Go.Proofs.YtaeflnbjeaoapaaGreat
set_option linter.unusedVariables false
set_option linter.unusedSimpArgs false
section
theorem egD_mem {m : Msh} {k : Nat} (h : k < m.length) : egD m k ∈ m := by
 have : egD m k = m[k] := by simp [egD, h]
 rw [this]; exact List.getElem_mem h
theorem remov_at {m : Msh} {p : Pt} {c : Cor} (h : removZ m p = some c) : atZ m p = some c := by
 unfold removZ at h
 split at h
 ·cases h
 ·rename_i d hd
  split at h
  ·cases h
  ·split at h
   ·cases h
   ·rw [hd, ← h]
theorem at_two {m : Msh} {p : Pt} {c : Cor} (h : atZ m p = some c) : (m.filter (endE p)).length = 2 ∧ c = cornerZ (egD (m.filter (endE p)) 0) (egD (m.filter (endE p)) 1) p := by
 unfold atZ at h
 split at h
 ·rename_i h2
  exact ⟨h2, (Option.some.inj h).symm⟩
 ·cases h
theorem fold_from {α β : Type} (f : Option β → α → Option β) (P : β → Prop) (hf : ∀ b a, (∀ x, b = some x → P x) → ∀ x, f b a = some x → P x) : ∀ (l : List α) (b : Option β), (∀ x, b = some x → P x) → ∀ x, l.foldl f b = some x → P x
 | [], b, h, x, hx => h x hx
 | a :: l, b, h, x, hx => fold_from f P hf l (f b a) (hf b a h) x hx
theorem best_remov {m : Msh} {limit : Int} {c : Cor} (h : bestZ m limit = some c) : ∃ p, removZ m p = some c := by
 refine fold_from (bestF m limit) (fun c => ∃ p, removZ m p = some c) (fun b a hb x hx => ?_) (pointsZ m) none (fun x hx => by cases hx) c h
 unfold bestF at hx
 split at hx
 ·exact hb x hx
 ·rename_i d hd
  split at hx
  ·split at hx
   ·exact ⟨a, hd.trans hx⟩
   ·split at hx
    ·exact ⟨a, hd.trans hx⟩
    ·exact hb x hx
  ·exact hb x hx
theorem filter_split {α : Type} (f : α → Bool) : ∀ l : List α, (l.filter f).length + (l.filter fun x => !f x).length = l.length
 | [] => rfl
 | a :: l => by
  have ih := filter_split f l
  cases h : f a
  ·rw [List.filter_cons_of_neg (by rw [h]; decide), List.filter_cons_of_pos (by rw [h]; rfl), List.length_cons, List.length_cons]; omega
  ·rw [List.filter_cons_of_pos h, List.filter_cons_of_neg (by rw [h]; decide), List.length_cons, List.length_cons]; omega
theorem without_len {m : Msh} {p : Pt} {c : Cor} (h : removZ m p = some c) : (withoutZ m c).length + 1 = m.length := by
 obtain ⟨h2, hc⟩ := at_two (remov_at h)
 have hp : c.p = p := by rw [hc]; rfl
 have hs := filter_split (endE p) m
 unfold withoutZ
 rw [hp, List.length_append, List.length_cons, List.length_take, List.length_drop]
 unfold restZ
 omega
theorem best_nil (limit : Int) : bestZ [] limit = none := rfl
theorem run_none (limit : Int) : ∀ (n : Nat) (m : Msh), m.length ≤ n → bestZ (runZ limit n m) limit = none
 | 0, m, h => by
  obtain rfl : m = [] := List.eq_nil_of_length_eq_zero (by omega)
  exact best_nil limit
 | n + 1, m, h => by
  unfold runZ
  cases hb : bestZ m limit with
  | none => exact hb
  | some c =>
   obtain ⟨p, hp⟩ := best_remov hb
   have := without_len hp
   exact run_none limit n _ (by omega)
theorem run_same {limit : Int} {m : Msh} (h : bestZ m limit = none) : ∀ n, runZ limit n m = m
 | 0 => rfl
 | n + 1 => by unfold runZ; rw [h]
theorem mesh_idem (m : Msh) (a : Int) : meshZ (meshZ m a) a = meshZ m a := by
 by_cases h : checkM m = 0
 ·have e : meshZ m a = runZ a m.length m := if_pos h
  rw [e]
  unfold meshZ
  split
  ·exact run_same (run_none a _ m (Nat.le_refl _)) _
  ·rfl
 ·have e : meshZ m a = m := if_neg h
  rw [e, e]
theorem mem_pts {m : Msh} {x : Pt} : x ∈ ptsOf m ↔ ∃ e ∈ m, x = e.1.1 ∨ x = e.1.2 := by
 unfold ptsOf
 rw [List.mem_flatMap]
 constructor
 ·rintro ⟨e, he, hx⟩
  exact ⟨e, he, by simpa using hx⟩
 ·rintro ⟨e, he, hx⟩
  exact ⟨e, he, by simpa using hx⟩
theorem leave_end (e : Edg) (p : Pt) : (leaveZ e p).1 = e.1.1 ∨ (leaveZ e p).1 = e.1.2 := by
 unfold leaveZ
 split
 ·exact .inr rfl
 ·exact .inl rfl
theorem ofB_ends (a b : Pt) : (ofB a b).1 = a ∧ (ofB a b).2 = b ∨ (ofB a b).1 = b ∧ (ofB a b).2 = a := by
 unfold ofB
 split
 ·exact .inr ⟨rfl, rfl⟩
 ·exact .inl ⟨rfl, rfl⟩
theorem without_pts {m : Msh} {p : Pt} {c : Cor} (h : removZ m p = some c) {x : Pt} (hx : x ∈ ptsOf (withoutZ m c)) : x ∈ ptsOf m := by
 obtain ⟨h2, hc⟩ := at_two (remov_at h)
 have k0 : egD (m.filter (endE p)) 0 ∈ m := (List.mem_filter.1 (egD_mem (by omega))).1
 have k1 : egD (m.filter (endE p)) 1 ∈ m := (List.mem_filter.1 (egD_mem (by omega))).1
 have hu : c.u ∈ ptsOf m := by rw [hc]; exact mem_pts.2 ⟨_, k0, leave_end _ _⟩
 have hw : c.w ∈ ptsOf m := by rw [hc]; exact mem_pts.2 ⟨_, k1, leave_end _ _⟩
 obtain ⟨e, he, hx⟩ := mem_pts.1 hx
 unfold withoutZ at he
 rcases List.mem_append.1 he with he | he
 ·exact mem_pts.2 ⟨e, (List.mem_filter.1 (List.mem_of_mem_take he)).1, hx⟩
 ·rcases List.mem_cons.1 he with rfl | he
  ·have ho := ofB_ends c.u c.w
   have e1 : (bridge c).1 = ofB c.u c.w := rfl
   rw [e1] at hx
   rcases ho with ⟨o1, o2⟩ | ⟨o1, o2⟩ <;> rcases hx with hx | hx <;> rw [hx] <;> first | (rw [o1]; assumption) | (rw [o2]; assumption)
  ·exact mem_pts.2 ⟨e, (List.mem_filter.1 (List.mem_of_mem_drop he)).1, hx⟩
theorem run_pts (limit : Int) : ∀ (n : Nat) (m : Msh) {x : Pt}, x ∈ ptsOf (runZ limit n m) → x ∈ ptsOf m
 | 0, m, x, h => h
 | n + 1, m, x, h => by
  unfold runZ at h
  cases hb : bestZ m limit with
  | none => rw [hb] at h; exact h
  | some c =>
   rw [hb] at h
   obtain ⟨p, hp⟩ := best_remov hb
   exact without_pts hp (run_pts limit n _ h)
theorem mem_points {m : Msh} {x : Pt} : x ∈ pointsZ m ↔ x ∈ ptsOf m := by
 unfold pointsZ
 rw [mem_compact, mem_sortG]
theorem points_sub (m : Msh) (a : Int) {x : Pt} (h : x ∈ pointsM (meshZ m a)) : x ∈ pointsM m := by
 by_cases hm : checkM m = 0
 ·have e : meshZ m a = runZ a m.length m := if_pos hm
  rw [e] at h
  have h2 : x ∈ pointsZ (runZ a m.length m) := by
   unfold pointsM at h
   split at h
   ·exact h
   ·exact absurd h (List.not_mem_nil)
  unfold pointsM
  rw [if_pos hm]
  exact mem_points.2 (run_pts a _ m (mem_points.1 h2))
 ·have e : meshZ m a = m := if_neg hm
  rwa [e] at h
theorem points_nodup (m : Msh) : (pointsM m).Nodup := by
 unfold pointsM
 split
 ·have hi : Inc lessB (pointsZ m) := compact_inc totB (sortG_srt totB _)
  exact hi.imp (fun {a b} hab e => by subst e; rw [totB.irr] at hab; cases hab)
 ·exact List.nodup_nil
theorem sub_len : ∀ {a b : Pts}, a.Nodup → (∀ x ∈ a, x ∈ b) → a.length ≤ b.length
 | [], b, _, _ => Nat.zero_le _
 | x :: a, b, hn, hs => by
  have h1 := List.nodup_cons.1 hn
  have hx := hs x (List.mem_cons_self ..)
  have ih := sub_len (a := a) (b := b.erase x) h1.2 (fun y hy => (List.mem_erase_of_ne (fun e : y = x => h1.1 (by rw [← e]; exact hy))).2 (hs y (List.mem_cons_of_mem _ hy)))
  rw [List.length_erase_of_mem hx] at ih
  have := List.length_pos_of_mem hx
  rw [List.length_cons]
  omega
theorem points_len (m : Msh) (a : Int) : (pointsM (meshZ m a)).length ≤ (pointsM m).length := sub_len (points_nodup _) (fun x hx => points_sub m a hx)
end
section
def fewL (l : List Int) : Bool := l.all fun x => decide (x ≤ 20)
def fewE (e : Edg) : Bool := (decide (e.2.1.length ≤ 8) && decide (e.2.2.length ≤ 8)) && (fewL e.2.1 && fewL e.2.2)
def fewM (m : Msh) : Bool := decide (m.length ≤ 40) && m.all fewE
theorem leave_few {e : Edg} (p : Pt) (h : fewE e = true) : (leaveZ e p).2.1.length ≤ 8 ∧ (leaveZ e p).2.2.length ≤ 8 ∧ fewL (leaveZ e p).2.1 = true ∧ fewL (leaveZ e p).2.2 = true := by
 unfold fewE at h
 simp only [Bool.and_eq_true, decide_eq_true_eq] at h
 unfold leaveZ
 split
 ·exact ⟨h.1.1, h.1.2, h.2.1, h.2.2⟩
 ·exact ⟨h.1.2, h.1.1, h.2.2, h.2.1⟩
theorem without_few {m : Msh} {p : Pt} {c : Cor} (h : removZ m p = some c) (hf : fewM m = true) : fewM (withoutZ m c) = true := by
 obtain ⟨h2, hc⟩ := at_two (remov_at h)
 have hl := without_len h
 unfold fewM at hf ⊢
 rw [Bool.and_eq_true, decide_eq_true_eq, List.all_eq_true] at hf ⊢
 refine ⟨by omega, fun e he => ?_⟩
 have k0 := leave_few p (hf.2 _ (List.mem_filter.1 (egD_mem (m := m.filter (endE p)) (k := 0) (by omega))).1)
 unfold withoutZ at he
 rcases List.mem_append.1 he with he | he
 ·exact hf.2 _ (List.mem_filter.1 (List.mem_of_mem_take he)).1
 ·rcases List.mem_cons.1 he with rfl | he
  ·unfold bridge fewE
   rw [hc]
   unfold cornerZ
   simp only
   split
   ·simp [k0]
   ·simp [k0]
  ·exact hf.2 _ (List.mem_filter.1 (List.mem_of_mem_drop he)).1
theorem run_few (limit : Int) : ∀ (n : Nat) (m : Msh), fewM m = true → fewM (runZ limit n m) = true
 | 0, m, h => h
 | n + 1, m, h => by
  unfold runZ
  cases hb : bestZ m limit with
  | none => exact h
  | some c =>
   obtain ⟨p, hp⟩ := best_remov hb
   exact run_few limit n _ (without_few hp h)
theorem mesh_few (m : Msh) (a : Int) (h : fewM m = true) : fewM (meshZ m a) = true := by
 unfold meshZ
 split
 ·exact run_few a _ m h
 ·exact h
end
section
def chP (a : Pt) : Pts → Sgs
 | [] => []
 | q :: c => (a, q) :: chP q c
def lastP (a : Pt) : Pts → Pt
 | [] => a
 | q :: c => lastP q c
theorem chP_snoc : ∀ (a : Pt) (c : Pts) (q : Pt), chP a (c ++ [q]) = chP a c ++ [(lastP a c, q)]
 | a, [], q => rfl
 | a, x :: c, q => by
  show (a, x) :: chP x (c ++ [q]) = _
  rw [chP_snoc x c q]; rfl
theorem cuts_fold (s : Sg) : ∀ (es : Pts) (acc : Sgs) (a : Pt), es.foldl (cutsF s) (acc, a) = (acc ++ chP a (es.filter fun p => withinB p s.1 s.2), lastP a (es.filter fun p => withinB p s.1 s.2))
 | [], acc, a => by simp [chP, lastP]
 | e :: es, acc, a => by
  rw [List.foldl_cons]
  by_cases hw : withinB e s.1 s.2 = true
  ·have e1 : cutsF s (acc, a) e = (acc ++ [(a, e)], e) := if_pos hw
   rw [e1, cuts_fold s es, List.filter_cons_of_pos (by exact hw)]
   simp [chP, lastP]
  ·have e1 : cutsF s (acc, a) e = (acc, a) := if_neg hw
   rw [e1, cuts_fold s es, List.filter_cons_of_neg (by exact hw)]
theorem cutsZ_ch (es : Pts) (s : Sg) (acc : Sgs) : cutsZ es s acc = acc ++ chP s.1 ((es.filter fun p => withinB p s.1 s.2) ++ [s.2]) := by
 unfold cutsZ
 simp only [cuts_fold]
 rw [chP_snoc, List.append_assoc]
theorem parts_flat (es : Pts) : ∀ (l : Sgs) (acc : Sgs), l.foldl (fun acc s => cutsZ es s acc) acc = acc ++ l.flatMap fun s => chP s.1 ((es.filter fun p => withinB p s.1 s.2) ++ [s.2])
 | [], acc => by simp
 | s :: l, acc => by
  rw [List.foldl_cons, parts_flat es l, cutsZ_ch, List.flatMap_cons, List.append_assoc]
theorem split_flat (l : Sgs) : splitZ l = sortZ ((canonZ l).flatMap fun s => chP s.1 (((endsZ l).filter fun p => withinB p s.1 s.2) ++ [s.2])) := by
 unfold splitZ
 rw [parts_flat, List.nil_append]
theorem mem_sortZ {l : Sgs} {x : Sg} : x ∈ sortZ l ↔ x ∈ canonZ l := mem_sortG
theorem mem_uniqC {l : Sgs} {x : Sg} : x ∈ uniqZ l ↔ x ∈ canonZ l := mem_compact.trans mem_sortZ
theorem mem_ends {l : Sgs} {x : Pt} : x ∈ endsZ l ↔ ∃ s ∈ canonZ l, x = s.1 ∨ x = s.2 := by
 unfold endsZ
 rw [mem_compact, mem_sortG]
 unfold ends2
 rw [List.mem_flatMap]
 constructor
 ·rintro ⟨s, hs, hx⟩
  exact ⟨s, mem_uniqC.1 hs, by simpa using hx⟩
 ·rintro ⟨s, hs, hx⟩
  exact ⟨s, mem_uniqC.2 hs, by simpa using hx⟩
/-- segments as mesh.Check lets them pass -/
def ownS (s : Sg) : Prop := goodB s = true ∧ ofS s = s
theorem canon_self {l : Sgs} (h : ∀ t ∈ l, ownS t) : canonZ l = l := by
 unfold canonZ
 rw [List.filter_eq_self.2 (fun t ht => (h t ht).1)]
 conv => rhs; rw [← List.map_id l]
 exact List.map_congr_left (fun t ht => (h t ht).2)
theorem chP_len : ∀ (c : Pts) (a : Pt), (chP a c).length = c.length
 | [], _ => rfl
 | q :: c, a => by unfold chP; rw [List.length_cons, List.length_cons, chP_len c q]
theorem flat_ge {α β : Type} {f : α → List β} : ∀ {l : List α}, (∀ x ∈ l, 1 ≤ (f x).length) → l.length ≤ (l.flatMap f).length
 | [], _ => Nat.zero_le _
 | a :: l, h => by
  rw [List.flatMap_cons, List.length_append, List.length_cons]
  have := h a (List.mem_cons_self ..)
  have := flat_ge (f := f) (l := l) fun y hy => h y (List.mem_cons_of_mem _ hy)
  omega
theorem flat_one {α β : Type} {f : α → List β} : ∀ {l : List α}, (∀ x ∈ l, 1 ≤ (f x).length) → (l.flatMap f).length ≤ l.length → ∀ x ∈ l, (f x).length = 1
 | [], _, _, x, hx => absurd hx (List.not_mem_nil)
 | a :: l, h1, h2, x, hx => by
  rw [List.flatMap_cons, List.length_append, List.length_cons] at h2
  have ha := h1 a (List.mem_cons_self ..)
  have hl := flat_ge (f := f) (l := l) fun y hy => h1 y (List.mem_cons_of_mem _ hy)
  rcases List.mem_cons.1 hx with e | e
  ·subst e; omega
  ·exact flat_one (fun y hy => h1 y (List.mem_cons_of_mem _ hy)) (by omega) x e
theorem canon_len (l : Sgs) : (canonZ l).length ≤ l.length := by
 unfold canonZ
 rw [List.length_map]
 exact List.length_filter_le _ _
theorem canon_own {l : Sgs} {s : Sg} (h : s ∈ canonZ l) : ownS s := by
 unfold canonZ at h
 obtain ⟨t, ht, rfl⟩ := List.mem_map.1 h
 have hg := (List.mem_filter.1 ht).2
 obtain ⟨a, b⟩ := t
 unfold ownS goodB ofS ofB at *
 simp only [Bool.and_eq_true, decide_eq_true_eq] at hg ⊢
 by_cases hl : lessB b a = true
 ·rw [if_pos hl]
  refine ⟨⟨fun e => hg.1 e.symm, hg.2.2, hg.2.1⟩, ?_⟩
  rw [if_neg (by rw [totB.asymm hl]; decide)]
 ·rw [if_neg hl]
  exact ⟨hg, by rw [if_neg hl]⟩
theorem canon_idem (l : Sgs) : canonZ (canonZ l) = canonZ l := canon_self (fun t ht => canon_own ht)
theorem lessB_or (a b : Pt) : lessB a b = true ↔ a.1 < b.1 ∨ (a.1 = b.1 ∧ a.2 < b.2) := by
 unfold lessB
 split <;> simp <;> omega
theorem within_less {p a b : Pt} (h : withinB p a b = true) (hl : lessB a b = true) : lessB a p = true ∧ lessB p b = true ∧ validB p = true := by
 obtain ⟨p1, p2⟩ := p
 obtain ⟨a1, a2⟩ := a
 obtain ⟨b1, b2⟩ := b
 unfold withinB onB at h
 simp only [Bool.and_eq_true, decide_eq_true_eq] at h
 obtain ⟨⟨⟨⟨hp, _⟩, _⟩, hc, hb⟩, h1, h2⟩ := h
 unfold crossZ at hc
 simp only at hc hb
 have h1' : ¬ (p1 = a1 ∧ p2 = a2) := fun e => h1 (by rw [e.1, e.2])
 have h2' : ¬ (p1 = b1 ∧ p2 = b2) := fun e => h2 (by rw [e.1, e.2])
 rw [lessB_or] at hl ⊢
 rw [lessB_or]
 simp only at hl ⊢
 rcases Int.lt_or_le a1 b1 with hx | hx
 ·have n1 : p1 ≠ a1 := by
   intro e
   rw [e, Int.sub_self, Int.mul_zero, Int.sub_zero] at hc
   rcases Int.mul_eq_zero.1 hc with h | h <;> omega
  have n2 : p1 ≠ b1 := by
   intro e
   have : (b1 - a1) * (p2 - b2) = 0 := by rw [e] at hc; grind
   rcases Int.mul_eq_zero.1 this with h | h <;> omega
  exact ⟨by omega, by omega, hp⟩
 ·exact ⟨by omega, by omega, hp⟩
theorem chP_good : ∀ {c : Pts} {a : Pt}, validB a = true → (∀ x ∈ c, validB x = true) → Inc lessB (a :: c) → ∀ t ∈ chP a c, goodB t = true ∧ ofS t = t
 | [], a, _, _, _, t, h => absurd h (List.not_mem_nil)
 | q :: c, a, ha, hc, hi, t, h => by
  have h1 := List.pairwise_cons.1 hi
  rcases List.mem_cons.1 h with rfl | h
  ·have hl := h1.1 q (List.mem_cons_self ..)
   refine ⟨?_, ?_⟩
   ·unfold goodB
    simp only [ha, hc q (List.mem_cons_self ..), Bool.and_self, Bool.and_true, decide_eq_true_eq]
    intro e
    rw [e, totB.irr] at hl; cases hl
   ·unfold ofS ofB
    rw [if_neg (by rw [totB.asymm hl]; decide)]
  ·exact chP_good (hc q (List.mem_cons_self ..)) (fun x hx => hc x (List.mem_cons_of_mem _ hx)) h1.2 t h
theorem canon_less {l : Sgs} {s : Sg} (h : s ∈ canonZ l) : lessB s.1 s.2 = true := by
 unfold canonZ at h
 obtain ⟨t, ht, rfl⟩ := List.mem_map.1 h
 have hg := (List.mem_filter.1 ht).2
 unfold goodB at hg
 have h1 : t.1 ≠ t.2 := by have := (Bool.and_eq_true _ _).mp hg; exact of_decide_eq_true this.1
 unfold ofS ofB
 cases hl : lessB t.2 t.1
 ·have := totB.total h1
  rw [hl] at this
  simpa using this
 ·simpa using hl
theorem canon_valid {l : Sgs} {s : Sg} (h : s ∈ canonZ l) : validB s.1 = true ∧ validB s.2 = true := by
 have := (canon_own h).1
 unfold goodB at this
 simp only [Bool.and_eq_true, decide_eq_true_eq] at this
 exact this.2
def cutsOf (l : Sgs) (s : Sg) : Pts := (endsZ l).filter fun p => withinB p s.1 s.2
theorem chain_own {l k : Sgs} {s : Sg} (h : s ∈ canonZ k) : ∀ t ∈ chP s.1 (cutsOf l s ++ [s.2]), ownS t := by
 have hl := canon_less h
 have hv := canon_valid h
 have hw : ∀ x ∈ cutsOf l s, lessB s.1 x = true ∧ lessB x s.2 = true ∧ validB x = true := fun x hx => within_less (List.mem_filter.1 hx).2 hl
 refine chP_good hv.1 (fun x hx => ?_) (List.pairwise_cons.2 ⟨fun x hx => ?_, List.pairwise_append.2 ⟨List.Pairwise.filter _ (compact_inc totB (sortG_srt totB _)), List.pairwise_singleton _ _, fun x hx y hy => ?_⟩⟩)
 ·rcases List.mem_append.1 hx with hx | hx
  ·exact (hw x hx).2.2
  ·rw [List.mem_singleton.1 hx]; exact hv.2
 ·rcases List.mem_append.1 hx with hx | hx
  ·exact (hw x hx).1
  ·rw [List.mem_singleton.1 hx]; exact hl
 ·rw [List.mem_singleton.1 hy]; exact (hw x hx).2.1
theorem split_chain (l : Sgs) : splitZ l = sortG lessS ((canonZ l).flatMap fun s => chP s.1 (cutsOf l s ++ [s.2])) := by
 rw [split_flat]
 show sortZ ((canonZ l).flatMap fun s => chP s.1 (cutsOf l s ++ [s.2])) = _
 unfold sortZ
 rw [canon_self (l := (canonZ l).flatMap _) (fun t ht => by obtain ⟨s, hs, hm⟩ := List.mem_flatMap.1 ht; exact chain_own hs t hm)]
/-- no end of a clean set lies within one of its segments -/
theorem clean_ends {l : Sgs} (hc : cleanZ l = true) {s : Sg} (hs : s ∈ canonZ l) {p : Pt} (hp : p ∈ endsZ l) : withinB p s.1 s.2 = false := by
 have h0 : splitZ l = sortZ l := by
  unfold cleanZ at hc
  rw [Bool.and_eq_true] at hc
  exact of_decide_eq_true hc.1
 have h1 := congrArg List.length h0
 rw [split_chain] at h1
 unfold sortZ at h1
 rw [sortG_len, sortG_len] at h1
 have h2 := flat_one (fun x _ => by rw [chP_len, List.length_append]; exact Nat.le_add_left 1 _) (Nat.le_of_eq h1) s hs
 rw [chP_len, List.length_append, List.length_singleton] at h2
 have h3 : cutsOf l s = [] := List.eq_nil_of_length_eq_zero (by omega)
 cases hw : withinB p s.1 s.2
 ·rfl
 ·have : p ∈ cutsOf l s := List.mem_filter.2 ⟨hp, hw⟩
  rw [h3] at this
  exact absurd this (List.not_mem_nil)
/-- a part of a clean set, in any order and number, is not divided -/
theorem split_part {l k : Sgs} (hc : cleanZ l = true) (hk : ∀ s ∈ canonZ k, s ∈ canonZ l) : splitZ k = sortZ k := by
 rw [split_chain]
 unfold sortZ
 congr 1
 have e : ∀ s ∈ canonZ k, chP s.1 (cutsOf k s ++ [s.2]) = [s] := fun s hs => by
  have h3 : cutsOf k s = [] := by
   unfold cutsOf
   refine List.filter_eq_nil_iff.2 (fun p hp => ?_)
   obtain ⟨t, ht, hx⟩ := mem_ends.1 hp
   rw [clean_ends hc (hk s hs) (mem_ends.2 ⟨t, hk t ht, hx⟩)]
   decide
  rw [h3]
  rfl
 have key : ∀ l : Sgs, (∀ s ∈ l, chP s.1 (cutsOf k s ++ [s.2]) = [s]) → (l.flatMap fun s => chP s.1 (cutsOf k s ++ [s.2])) = l := by
  intro l
  induction l with
  | nil => intro _; rfl
  | cons a l ih =>
   intro h
   rw [List.flatMap_cons, h a (List.mem_cons_self ..), ih (fun s hs => h s (List.mem_cons_of_mem _ hs))]
   rfl
 exact key _ e
theorem uniq_incC (l : Sgs) : Inc lessS (uniqZ l) := compact_inc totS (sortG_srt totS _)
theorem uniq_nodupC (l : Sgs) : (uniqZ l).Nodup := (uniq_incC l).imp (fun {a b} hab e => by subst e; rw [totS.irr] at hab; cases hab)
theorem sub_lenS : ∀ {a b : Sgs}, a.Nodup → (∀ x ∈ a, x ∈ b) → a.length ≤ b.length
 | [], b, _, _ => Nat.zero_le _
 | x :: a, b, hn, hs => by
  have h1 := List.nodup_cons.1 hn
  have hx := hs x (List.mem_cons_self ..)
  have ih := sub_lenS (a := a) (b := b.erase x) h1.2 (fun y hy => (List.mem_erase_of_ne (fun e : y = x => h1.1 (by rw [← e]; exact hy))).2 (hs y (List.mem_cons_of_mem _ hy)))
  rw [List.length_erase_of_mem hx] at ih
  have := List.length_pos_of_mem hx
  rw [List.length_cons]
  omega
theorem node_len {l : Sgs} {own : List Sgs} (hc : cleanZ l = true) (ho : ∀ s ∈ l, ownS s) (hs : ∀ o ∈ own, ∀ s ∈ o, s ∈ l) : (nodeZ own).length ≤ l.length := by
 have hcl := canon_self ho
 have hin : ∀ s ∈ own.flatMap uniqZ, s ∈ l := fun s h => by
  obtain ⟨o, h1, h2⟩ := List.mem_flatMap.1 h
  have h3 : s ∈ canonZ o := mem_uniqC.1 h2
  rw [canon_self (fun t ht => ho t (hs o h1 t ht))] at h3
  exact hs o h1 s h3
 have hk : ∀ s ∈ canonZ (own.flatMap uniqZ), s ∈ canonZ l := fun s h => by
  rw [canon_self (fun t ht => ho t (hin t ht))] at h
  rw [hcl]
  exact hin s h
 refine sub_lenS (uniq_nodupC _) (fun x hx => ?_)
 have h1 := mem_uniqC.1 hx
 rw [split_part hc hk] at h1
 have h2 : ∀ t ∈ sortZ (own.flatMap uniqZ), ownS t := fun t ht => canon_own (mem_sortZ.1 ht)
 rw [canon_self h2] at h1
 have h3 := mem_sortZ.1 h1
 rw [canon_self (fun t ht => ho t (hin t ht))] at h3
 exact hin x h3
end
section
def segsM (m : Msh) : Sgs := m.map (·.1)
theorem edge_facts {m : Msh} {i : Nat} (h : edgeB m i = true) : ownS (egD m i).1 ∧ areasB (egD m i).2.1 = true ∧ areasB (egD m i).2.2 = true := by
 unfold edgeB at h
 simp only [Bool.and_eq_true] at h
 obtain ⟨⟨h1, h2⟩, h3, _, h4, h5⟩ := h
 refine ⟨⟨?_, ?_⟩, h4, h5⟩
 ·unfold goodB
  rw [h1, h2]
  have : (egD m i).1.1 ≠ (egD m i).1.2 := fun e => by rw [e, totB.irr] at h3; cases h3
  simp [this]
 ·unfold ofS ofB
  rw [if_neg (by rw [totB.asymm h3]; decide)]
theorem edges_all {m : Msh} (h : (List.range m.length).any (fun i => !edgeB m i) = false) : ∀ i, i < m.length → edgeB m i = true := fun i hi => by
 have := List.any_eq_false.1 h i (List.mem_range.2 hi)
 simpa using this
theorem mesh_mem {m : Msh} {e : Edg} (h : e ∈ m) : ∃ i, i < m.length ∧ egD m i = e := by
 obtain ⟨i, hi, rfl⟩ := List.getElem_of_mem h
 exact ⟨i, hi, by simp [egD, hi]⟩
theorem segs_own {m : Msh} (h : ∀ i, i < m.length → edgeB m i = true) : ∀ s ∈ segsM m, ownS s := fun s hs => by
 obtain ⟨e, he, rfl⟩ := List.mem_map.1 hs
 obtain ⟨i, hi, rfl⟩ := mesh_mem he
 exact (edge_facts (h i hi)).1
theorem bounds_sub (m : Msh) (a : Int) : ∀ s ∈ boundsZ m a, s ∈ segsM m := fun s hs => by
 unfold boundsZ at hs
 obtain ⟨e, he, rfl⟩ := List.mem_map.1 hs
 exact List.mem_map.2 ⟨e, (List.mem_filter.1 he).1, rfl⟩
theorem bounds_len (m : Msh) (a : Int) : (boundsZ m a).length ≤ m.length := by
 unfold boundsZ
 rw [List.length_map]
 exact List.length_filter_le _ _
theorem topL_le {g : Int} {l : List Int} (hg : g ≤ 20) (hl : fewL l = true) : topL g l ≤ 20 := by
 unfold topL
 split
 ·exact hg
 ·rename_i hn
  have hp : 0 < l.length := List.length_pos_iff.2 hn
  unfold fewL at hl
  rw [List.all_eq_true] at hl
  have : l.getD (l.length - 1) 0 ∈ l := by
   have e : l.getD (l.length - 1) 0 = l[l.length - 1]'(by omega) := by simp [List.getD_eq_getElem?_getD, show l.length - 1 < l.length by omega]
   rw [e]; exact List.getElem_mem _
  have := of_decide_eq_true (hl _ this)
  omega
theorem topL_ge (g : Int) (l : List Int) : g ≤ topL g l := by
 unfold topL
 split
 ·exact Int.le_refl _
 ·omega
theorem great_fold : ∀ (m : Msh) (g : Int), (∀ e ∈ m, fewE e = true) → -1 ≤ g → g ≤ 20 → -1 ≤ m.foldl (fun g e => topL (topL g e.2.1) e.2.2) g ∧ m.foldl (fun g e => topL (topL g e.2.1) e.2.2) g ≤ 20
 | [], g, _, h1, h2 => ⟨h1, h2⟩
 | e :: m, g, h, h1, h2 => by
  have he := h e (List.mem_cons_self ..)
  unfold fewE at he
  simp only [Bool.and_eq_true] at he
  have k1 := topL_le h2 he.2.1
  have k2 := topL_le k1 he.2.2
  have k3 := topL_ge g e.2.1
  have k4 := topL_ge (topL g e.2.1) e.2.2
  exact great_fold m (topL (topL g e.2.1) e.2.2) (fun x hx => h x (List.mem_cons_of_mem _ hx)) (by omega) k2
theorem few_all {m : Msh} (h : fewM m = true) : m.length ≤ 40 ∧ ∀ e ∈ m, fewE e = true := by
 unfold fewM at h
 rw [Bool.and_eq_true, decide_eq_true_eq, List.all_eq_true] at h
 exact h
theorem great_bd {m : Msh} (h : fewM m = true) : -1 ≤ greatZ m ∧ greatZ m ≤ 20 := great_fold m (-1) (few_all h).2 (by decide) (by decide)
theorem own_len {m : Msh} (h : fewM m = true) : (ownZ m).length ≤ 21 := by
 unfold ownZ
 rw [List.length_map, List.length_range]
 have := great_bd h
 omega
theorem own_mem {m : Msh} {o : Sgs} (h : o ∈ ownZ m) : ∃ a, o = boundsZ m a := by
 unfold ownZ at h
 obtain ⟨i, _, rfl⟩ := List.mem_map.1 h
 exact ⟨_, rfl⟩
theorem flat_le {α β : Type} {f : α → List β} {k : Nat} : ∀ {l : List α}, (∀ x ∈ l, (f x).length ≤ k) → (l.flatMap f).length ≤ l.length * k
 | [], _ => by simp
 | a :: l, h => by
  rw [List.flatMap_cons, List.length_append, List.length_cons, Nat.add_mul, Nat.one_mul]
  have h1 := h a (List.mem_cons_self ..)
  have h2 := flat_le (f := f) (l := l) fun y hy => h y (List.mem_cons_of_mem _ hy)
  omega
theorem uniq_lenC (l : Sgs) : (uniqZ l).length ≤ l.length := by
 have h1 : (uniqZ l).length ≤ (canonZ l).length := sub_lenS (uniq_nodupC l) (fun x hx => mem_uniqC.1 hx)
 exact Nat.le_trans h1 (canon_len l)
theorem own_all {m : Msh} (h : fewM m = true) : ((ownZ m).flatMap uniqZ).length ≤ 840 := by
 have h1 := flat_le (f := uniqZ) (k := 40) (l := ownZ m) (fun o ho => by
  obtain ⟨a, rfl⟩ := own_mem ho
  exact Nat.le_trans (uniq_lenC _) (Nat.le_trans (bounds_len m a) (few_all h).1))
 have h2 := own_len h
 exact Nat.le_trans h1 (Nat.mul_le_mul_right 40 h2)
theorem own_node {m : Msh} (hf : fewM m = true) (h : ∀ i, i < m.length → edgeB m i = true) (hc : cleanZ (segsM m) = true) : (nodeZ (ownZ m)).length ≤ 40 := by
 have := node_len hc (segs_own h) (own := ownZ m) (fun o ho s hs => by
  obtain ⟨a, rfl⟩ := own_mem ho
  exact bounds_sub m a s hs)
 unfold segsM at this
 rw [List.length_map] at this
 exact Nat.le_trans this (few_all hf).1
end
section
open Go.RowKit
set_option linter.unusedSectionVars false

section
variable {κ : Type} [DecidableEq κ]
def mapIx (vs : List (κ × Value)) (k : κ) : Nat := (vs.map Prod.fst).idxOf k
/-- The value at a key. -/
def mapGet (vs : List (κ × Value)) (k : κ) : Option Value := (vs[mapIx vs k]?).map Prod.snd
/-- The entries behind m[k] = v. -/
def mapPut (vs : List (κ × Value)) (k : κ) (v : Value) : List (κ × Value) := if mapIx vs k < vs.length then vs.set (mapIx vs k) (k, v) else vs ++ [(k, v)]
/-- What a kind of keys must do. -/
structure KeyOk (P : Program) (kt : TypeId) (enc : κ → Value) : Prop where
 check : ∀ (b : Bool) (k : κ) (w : World), (Instr.checkKey b 10000 kt (enc k)).run P w = .ok () w
 find : ∀ (k : κ) (es : List MapEntry) (ks : List κ) (w : World), es.map (·.key) = ks.map enc → (Instr.findKey kt (enc k) es).run P w = .ok ((es[ks.idxOf k]?).map fun e => (ks.idxOf k, e.val)) w
 same : ∀ k : κ, Instr.sameBits 10000 (enc k) (enc k) = true
/-- Block b is a map whose entries are vs. -/
def OwnMap (enc : κ → Value) (w : World) (b : Nat) (vs : List (κ × Value)) : Prop :=
 ∃ es clock, w.heap[b]? = some (.map es clock) ∧ es.toList.map (·.key) = (vs.map Prod.fst).map enc ∧ es.toList.map (·.val) = vs.map Prod.snd ∧ (vs.map Prod.fst).Nodup ∧ (es.toList.map (·.born)).Nodup ∧ ∀ e ∈ es.toList, e.born < clock
theorem mapIx_lt {vs : List (κ × Value)} {k : κ} (h : mapIx vs k < vs.length) : (vs[mapIx vs k]'h).1 = k := by
 have h' : (vs.map Prod.fst).idxOf k < (vs.map Prod.fst).length := by rw [List.length_map]; exact h
 have := List.getElem_idxOf h'
 rw [List.getElem_map] at this
 exact this
variable {P : Program} {kt et t : TypeId} {enc : κ → Value} {w w' : World} {b : Nat} {vs : List (κ × Value)}
theorem OwnMap.made (w : World) (enc : κ → Value) : OwnMap enc (w.alloc (.map #[] 0)) w.heap.size [] := ⟨#[], 0, heap_alloc_new w _, rfl, rfl, List.nodup_nil, List.nodup_nil, fun e he => by simp at he⟩
theorem OwnMap.lt (h : OwnMap enc w b vs) : b < w.heap.size := by
 obtain ⟨es, clock, hb, _⟩ := h
 exact (Array.getElem?_eq_some_iff.1 hb).1
theorem OwnMap.kept {S : Nat → Prop} (h : OwnMap enc w b vs) (k : KeptS S w w') (hs : ¬ S b) : OwnMap enc w' b vs := by
 have hl := h.lt
 obtain ⟨es, clock, hb, h'⟩ := h
 exact ⟨es, clock, (k.block b hl hs).trans hb, h'⟩
theorem OwnMap.below (h : OwnMap enc w b vs) (hb : Below w.heap.size w w') : OwnMap enc w' b vs := h.kept (S := fun _ => False) (kept_of_below hb) id
theorem OwnMap.lookup (h : OwnMap enc w b vs) (K : KeyOk P kt enc) (ht : P.underlying t = some (.map kt et)) {z : Value} (hz : (zeroValue et).run P w = .ok z w) (k : κ) (c : Bool) :
  (Instr.lookup t (.map (some b)) (enc k) c).run P w = .ok (if c then .tuple #[(mapGet vs k).getD z, .bool (mapGet vs k).isSome] else (mapGet vs k).getD z) w := by
 obtain ⟨es, clock, hb, hk, hv, _⟩ := h
 have hl : es.toList.length = vs.length := by have := congrArg List.length hv; simpa using this
 have hf := K.find k es.toList (vs.map Prod.fst) w hk
 have hg : (es.toList[(vs.map Prod.fst).idxOf k]?).map (·.val) = mapGet vs k := by
  have := congrArg (fun l => l[(vs.map Prod.fst).idxOf k]?) hv
  simpa [mapGet, mapIx] using this
 simp only [Instr.lookup, Sem.run_bind, run_underlying ht, Result.andThen_ok, MapKept.run_getObj_map hb, Sem.run_pure, K.check, hf]
 cases he : es.toList[(vs.map Prod.fst).idxOf k]? with
 | none =>
  rw [he] at hg
  simp only [Option.map_none] at hg ⊢
  rw [← hg]
  cases c <;> simp [hz]
 | some e =>
  rw [he] at hg
  simp only [Option.map_some] at hg ⊢
  rw [← hg]
  cases c <;> simp
theorem OwnMap.update (h : OwnMap enc w b vs) (K : KeyOk P kt enc) (ht : P.underlying t = some (.map kt et)) (k : κ) (v : Value) :
  ∃ w', (Instr.mapUpdate t (.map (some b)) (enc k) v).run P w = .ok () w' ∧ OwnMap enc w' b (mapPut vs k v) ∧ KeptS (fun i => i = b) w w' ∧ w'.heap.size = w.heap.size := by
 have hbl := h.lt
 obtain ⟨es, clock, hb, hk, hv, hn, hbn, hc⟩ := h
 have hl : es.toList.length = vs.length := by have := congrArg List.length hv; simpa using this
 have hf := K.find k es.toList (vs.map Prod.fst) w hk
 have keep : ∀ o : Obj, KeptS (fun i => i = b) w { w with heap := w.heap.setIfInBounds b o } := fun o =>
  ⟨rfl, rfl, rfl, by simp, fun i _ hi => by show (w.heap.setIfInBounds b o)[i]? = _; rw [Array.getElem?_setIfInBounds, if_neg (fun e => hi e.symm)]⟩
 have at_ : ∀ o : Obj, (w.heap.setIfInBounds b o)[b]? = some o := fun o => by rw [Array.getElem?_setIfInBounds, if_pos rfl, if_pos hbl]
 by_cases hi : mapIx vs k < vs.length
 ·have he : es.toList[(vs.map Prod.fst).idxOf k]? = some (es.toList[mapIx vs k]'(by rw [hl]; exact hi)) := List.getElem?_eq_getElem (by rw [hl]; exact hi)
  have hkey : (es.toList[mapIx vs k]'(by rw [hl]; exact hi)).key = enc k := by
   have h1 := congrArg (fun l => l[mapIx vs k]?) hk
   simp only [List.getElem?_map] at h1
   rw [List.getElem?_eq_getElem (by rw [hl]; exact hi), List.getElem?_eq_getElem hi] at h1
   simp only [Option.map_some, Option.some.injEq] at h1
   rw [h1, mapIx_lt hi]
  refine ⟨_, ?_, ?_, keep (.map (es.modify (mapIx vs k) (fun e => { e with key := enc k, val := v })) clock), by simp⟩
  rotate_left
  ·refine ⟨es.modify (mapIx vs k) (fun e => { e with key := enc k, val := v }), clock, at_ _, ?_, ?_, ?_, ?_, ?_⟩
   ·rw [mapPut, if_pos hi, List.map_set, List.map_set, Array.toList_modify, ← hk]
    apply List.ext_getElem?
    intro j
    simp only [List.getElem?_map, List.getElem?_modify, List.getElem?_set, List.length_map, hl]
    by_cases hj : mapIx vs k = j
    ·subst hj
     simp only [if_true, if_pos hi]
     rw [List.getElem?_eq_getElem (by rw [hl]; exact hi)]
     simp
    ·simp only [if_neg hj]
     cases es.toList[j]? <;> rfl
   ·rw [mapPut, if_pos hi, List.map_set, Array.toList_modify, ← hv]
    apply List.ext_getElem?
    intro j
    simp only [List.getElem?_map, List.getElem?_modify, List.getElem?_set, List.length_map, hl]
    by_cases hj : mapIx vs k = j
    ·subst hj
     simp only [if_true, if_pos hi]
     rw [List.getElem?_eq_getElem (by rw [hl]; exact hi)]
     simp
    ·simp only [if_neg hj]
     cases es.toList[j]? <;> rfl
   ·rw [mapPut, if_pos hi, List.map_set]
    have e : (vs.map Prod.fst).set (mapIx vs k) k = vs.map Prod.fst := by
     apply List.ext_getElem?
     intro j
     rw [List.getElem?_set]
     split
     ·rename_i hj; subst hj
      rw [if_pos (by rw [List.length_map]; exact hi), List.getElem?_map, List.getElem?_eq_getElem hi]
      simp [mapIx_lt hi]
     ·rfl
    rw [e]; exact hn
   ·have e : (es.modify (mapIx vs k) (fun e => { e with key := enc k, val := v })).toList.map (·.born) = es.toList.map (·.born) := by
     rw [Array.toList_modify]
     apply List.ext_getElem?
     intro j
     simp only [List.getElem?_map, List.getElem?_modify]
     split <;> cases es.toList[j]? <;> rfl
    rw [e]; exact hbn
   ·intro e he'
    rw [Array.toList_modify] at he'
    obtain ⟨j, hj, rfl⟩ := List.mem_iff_getElem.1 he'
    rw [List.getElem_modify]
    have hj' : j < es.toList.length := by simpa using hj
    split
    ·show (es.toList[j]'hj').born < clock
     exact hc _ (List.getElem_mem hj')
    ·exact hc _ (List.getElem_mem hj')
  ·simp only [Instr.mapUpdate, Sem.run_bind, run_underlying ht, Result.andThen_ok, MapKept.run_getObj_map hb, Sem.run_pure, K.check, hf, he, Option.map_some]
   have hes : (es[(vs.map Prod.fst).idxOf k]?.map (·.key)).getD (enc k) = enc k := by
    rw [← Array.getElem?_toList, he]
    simpa using hkey
   simp only [hes, Instr.keyThatStays, K.same, if_true, Sem.run_pure, Result.andThen_ok, MapKept.run_setObj_map _ hb, Sem.run_bind]
   rfl
 ·have he : es.toList[(vs.map Prod.fst).idxOf k]? = none := List.getElem?_eq_none (by rw [hl]; exact Nat.le_of_not_lt hi)
  have hnk : k ∉ vs.map Prod.fst := fun hm => hi (by have := List.idxOf_lt_length_of_mem hm; rwa [List.length_map] at this)
  refine ⟨_, ?_, ?_, keep (.map (es.push { key := enc k, val := v, born := clock }) (clock + 1)), by simp⟩
  rotate_left
  ·refine ⟨es.push { key := enc k, val := v, born := clock }, clock + 1, at_ _, ?_, ?_, ?_, ?_, ?_⟩
   ·rw [mapPut, if_neg hi]; simp [hk]
   ·rw [mapPut, if_neg hi]; simp [hv]
   ·rw [mapPut, if_neg hi, List.map_append, List.nodup_append]
    refine ⟨hn, by simp, fun a ha b hb' => ?_⟩
    simp only [List.map_cons, List.map_nil, List.mem_singleton] at hb'
    subst hb'
    exact fun e => hnk (e ▸ ha)
   ·rw [Array.toList_push, List.map_append, List.nodup_append]
    refine ⟨hbn, by simp, fun a ha c' hc' => ?_⟩
    simp only [List.map_cons, List.map_nil, List.mem_singleton] at hc'
    subst hc'
    obtain ⟨e, he', rfl⟩ := List.mem_map.1 ha
    have := hc e he'
    exact fun h => by omega
   ·intro e he'
    rw [Array.toList_push] at he'
    rcases List.mem_append.1 he' with h | h
    ·have := hc e h; omega
    ·rw [List.mem_singleton.1 h]; exact Nat.lt_succ_self _
  ·simp only [Instr.mapUpdate, Sem.run_bind, run_underlying ht, Result.andThen_ok, MapKept.run_getObj_map hb, Sem.run_pure, K.check, hf, he, Option.map_none, MapKept.run_setObj_map _ hb]
variable {ops : Array Oper} {rest : List Oper} {o : Oper} {a : Act} {Q : Exit → Act → World → Prop}
/-- m[k] = v, at the operation. -/
theorem wpList_putM (hg : o.guard = none) (m x v : Operand) (t : TypeId) (hop : o.op = Op.mapUpdate t m x v) (ht : P.underlying t = some (.map kt et)) (K : KeyOk P kt enc) (b : Nat) (vs : List (κ × Value)) (k : κ) (val : Value)
  (hm : a.eval m = .map (some b)) (hx : a.eval x = enc k) (hv : a.eval v = val) (HO : OwnMap enc w b vs)
  (h : ∀ w', OwnMap enc w' b (mapPut vs k val) → KeptS (fun i => i = b) w w' → w'.heap.size = w.heap.size → wpList P ops Q rest (a.put o.dst undef) w') : wpList P ops Q (o :: rest) a w := by
 refine wpList_plain hg fun K' hK' => ?_
 obtain ⟨w', hrun, r1, r2, r3⟩ := HO.update K ht k val
 unfold Oper.wp
 simp [execOp, hop, hm, hx, hv, hrun, Result.andThen]
 exact hK' _ _ (h w' r1 r2 r3)
/-- v, ok := m[k] or v := m[k], at the operation. -/
theorem wpList_getM (hg : o.guard = none) (m x : Operand) (t : TypeId) (c : Bool) (hop : o.op = Op.lookup t m x c) (ht : P.underlying t = some (.map kt et)) (K : KeyOk P kt enc) (z : Value) (hz : ∀ w, (zeroValue et).run P w = .ok z w) (b : Nat) (vs : List (κ × Value)) (k : κ)
  (hm : a.eval m = .map (some b)) (hx : a.eval x = enc k) (HO : OwnMap enc w b vs)
  (h : wpList P ops Q rest (a.put o.dst (if c then .tuple #[(mapGet vs k).getD z, .bool (mapGet vs k).isSome] else (mapGet vs k).getD z)) w) : wpList P ops Q (o :: rest) a w := by
 refine wpList_plain hg fun K' hK' => ?_
 have hrun := HO.lookup K ht (hz w) k c
 unfold Oper.wp
 simp [execOp, hop, hm, hx, hrun, Result.andThen]
 exact hK' _ _ h
end
theorem same_int (n : Nat) (q : IntKind) (k : Int) : Instr.sameBits n (.int q k) (.int q k) = true := by
 cases n <;> simp [Instr.sameBits]
theorem check_int {P : Program} {kt : TypeId} {q : IntKind} (hk : P.underlying kt = some (.int q)) (b : Bool) (n : Nat) (k : Int) (w : World) : (Instr.checkKey b (n + 1) kt (.int q k)).run P w = .ok () w := by
 simp [Instr.checkKey, run_underlying hk]
/-- Whole numbers as keys. -/
theorem keyOk_int {P : Program} {kt : TypeId} {q : IntKind} (hk : P.underlying kt = some (.int q)) : KeyOk P kt (fun x : Int => Value.int q x) where
 check := fun b k w => check_int hk b 9999 k w
 find := fun k es ks w h => by
  have key : ∀ (es : List MapEntry) (ks : List Int) (i : Nat), es.map (·.key) = ks.map (fun x => Value.int q x) → Instr.findNow (.int q) (.int q k) es i = some ((es[ks.idxOf k]?).map fun e => (i + ks.idxOf k, e.val)) := by
   intro es
   induction es with
   | nil => intro ks i h; simp [Instr.findNow]
   | cons e es ih =>
    intro ks i h
    cases ks with
    | nil => simp at h
    | cons y ys =>
     simp only [List.map_cons, List.cons.injEq] at h
     simp only [Instr.findNow, h.1, Instr.sameNow, if_true]
     by_cases hy : k = y
     ·subst hy; simp
     ·have hb : (k == y) = false := by simpa using hy
      rw [hb]
      simp only [ih ys (i + 1) h.2, List.idxOf_cons, show (y == k) = false by simpa using fun e : y = k => hy e.symm]
      simp only [cond_false, List.getElem?_cons_succ]
      congr 1
      cases es[List.idxOf k ys]? with
      | none => rfl
      | some e => simp only [Option.map_some]; congr 2; omega
  simp [Instr.findKey, run_underlying hk, key es ks 0 h]
 same := fun k => same_int 10000 q k
end
section
open Go.RowKit Go.Proofs.YtaeflnbjeaoapaaGreatW.PrintLast
set_option linter.unusedSectionVars false

abbrev ptV (p : Pt) : Value := .agg #[.int .i64 p.1, .int .i64 p.2]
abbrev sgV (a : Sg) : Value := .agg #[.int .i64 a.1.1, .int .i64 a.1.2, .int .i64 a.2.1, .int .i64 a.2.2]
theorem nodup_sub : ∀ {l m : List Nat}, l.Nodup → (∀ x ∈ l, x ∈ m) → l.length ≤ m.length
 | [], m, _, _ => Nat.zero_le _
 | x :: l, m, hn, hs => by
  have hx := hs x List.mem_cons_self
  have h1 := List.nodup_cons.1 hn
  have h2 := nodup_sub (m := m.erase x) h1.2 (fun y hy => (List.mem_erase_of_ne (fun e => h1.1 (by rw [← e]; exact hy))).2 (hs y (List.mem_cons_of_mem _ hy)))
  rw [List.length_erase_of_mem hx] at h2
  have := List.length_pos_of_mem hx
  simp only [List.length_cons]; omega
section
variable {κ : Type} [DecidableEq κ] {P : Program} {kt et t : TypeId} {enc : κ → Value} {w w' : World} {b : Nat} {vs : List (κ × Value)}
/-- Block b is a map whose entries are vs, and entry i has the stamp s. -/
def OwnMapS (enc : κ → Value) (w : World) (b : Nat) (vs : List (κ × Value)) (i s : Nat) : Prop :=
 ∃ es clock, w.heap[b]? = some (.map es clock) ∧ es.toList.map (·.key) = (vs.map Prod.fst).map enc ∧ es.toList.map (·.val) = vs.map Prod.snd ∧ (vs.map Prod.fst).Nodup ∧ (es.toList.map (·.born)).Nodup ∧ (∀ e ∈ es.toList, e.born < clock) ∧ (es.toList[i]?).map (·.born) = some s
theorem OwnMapS.own {i s : Nat} (h : OwnMapS enc w b vs i s) : OwnMap enc w b vs := by
 obtain ⟨es, clock, h1, h2, h3, h4, h5, h6, _⟩ := h
 exact ⟨es, clock, h1, h2, h3, h4, h5, h6⟩
theorem OwnMapS.kept {S : Nat → Prop} {i s : Nat} (h : OwnMapS enc w b vs i s) (k : KeptS S w w') (hs : ¬ S b) : OwnMapS enc w' b vs i s := by
 have hl := h.own.lt
 obtain ⟨es, clock, hb, h'⟩ := h
 exact ⟨es, clock, (k.block b hl hs).trans hb, h'⟩
theorem set_heap {w : World} {b : Nat} (hl : b < w.heap.size) (o : Obj) : KeptS (fun i => i = b) w { w with heap := w.heap.setIfInBounds b o } ∧ (w.heap.setIfInBounds b o)[b]? = some o :=
 ⟨⟨rfl, rfl, rfl, by simp, fun i _ hi => by show (w.heap.setIfInBounds b o)[i]? = _; rw [Array.getElem?_setIfInBounds, if_neg (fun e => hi e.symm)]⟩, by rw [Array.getElem?_setIfInBounds, if_pos rfl, if_pos hl]⟩
/-- m[k], for a store that follows. -/
theorem OwnMap.entry (h : OwnMap enc w b vs) (K : KeyOk P kt enc) (ht : P.underlying t = some (.map kt et)) {z : Value} (hz : ∀ w, (zeroValue et).run P w = .ok z w) (k : κ) :
  ∃ w' s, (Instr.mapEntry t (.map (some b)) (enc k)).run P w = .ok (.tuple #[(mapGet vs k).getD z, goInt (s : Nat)]) w' ∧ OwnMapS enc w' b (if mapIx vs k < vs.length then vs else vs ++ [(k, z)]) (mapIx vs k) s ∧ KeptS (fun i => i = b) w w' ∧ w'.heap.size = w.heap.size := by
 have hbl := h.lt
 obtain ⟨es, clock, hb, hk, hv, hn, hbn, hc⟩ := h
 have hl : es.toList.length = vs.length := by have := congrArg List.length hv; simpa using this
 have hf := K.find k es.toList (vs.map Prod.fst) w hk
 have hg : (es.toList[(vs.map Prod.fst).idxOf k]?).map (·.val) = mapGet vs k := by
  have := congrArg (fun l => l[(vs.map Prod.fst).idxOf k]?) hv
  simpa [mapGet, mapIx] using this
 by_cases hi : mapIx vs k < vs.length
 ·have hi' : mapIx vs k < es.toList.length := by rw [hl]; exact hi
  have he : es.toList[(vs.map Prod.fst).idxOf k]? = some (es.toList[mapIx vs k]'hi') := List.getElem?_eq_getElem hi'
  have hkey : (es.toList[mapIx vs k]'hi').key = enc k := by
   have h1 := congrArg (fun l => l[mapIx vs k]?) hk
   simp only [List.getElem?_map] at h1
   rw [List.getElem?_eq_getElem hi', List.getElem?_eq_getElem hi] at h1
   simp only [Option.map_some, Option.some.injEq] at h1
   rw [h1, mapIx_lt hi]
  have hself : es.modify (mapIx vs k) (fun e => { e with key := enc k }) = es := by
   apply Array.ext
   ·simp
   ·intro j h1 h2
    rw [Array.getElem_modify]
    split
    ·rename_i hj
     subst hj
     have : (es[mapIx vs k]'h2) = es.toList[mapIx vs k]'hi' := by simp
     rw [this]
     cases hx : es.toList[mapIx vs k]'hi' with
     | mk key val born => rw [hx] at hkey; simp only at hkey; rw [hkey]
    ·rfl
  obtain ⟨hK, hA⟩ := set_heap hbl (.map es clock)
  refine ⟨_, (es.toList[mapIx vs k]'hi').born, ?_, ?_, hK, by simp⟩
  rotate_left
  ·rw [if_pos hi]
   exact ⟨es, clock, hA, hk, hv, hn, hbn, hc, by rw [List.getElem?_eq_getElem hi']; rfl⟩
  ·rw [he] at hg
   simp only [Option.map_some] at hg
   have hes : (es[(vs.map Prod.fst).idxOf k]?.map (·.key)).getD (enc k) = enc k := by
    rw [← Array.getElem?_toList, he]
    simpa using hkey
   have heb : (es[(vs.map Prod.fst).idxOf k]?.map (fun x => (x.born : Int))).getD 0 = ((es.toList[mapIx vs k]'hi').born : Int) := by
    rw [← Array.getElem?_toList, he]; rfl
   simp only [Instr.mapEntry, Sem.run_bind, run_underlying ht, Result.andThen_ok, MapKept.run_getObj_map hb, Sem.run_pure, K.check, hf, he, Option.map_some]
   simp only [hes, Instr.keyThatStays, K.same, if_true, Sem.run_pure, Result.andThen_ok, MapKept.run_setObj_map _ hb, Sem.run_bind, heb]
   rw [← hg]
   have : es.modify ((vs.map Prod.fst).idxOf k) (fun e => { e with key := enc k }) = es := hself
   rw [this]
   rfl
 ·have he : es.toList[(vs.map Prod.fst).idxOf k]? = none := List.getElem?_eq_none (by rw [hl]; exact Nat.le_of_not_lt hi)
  have hnk : k ∉ vs.map Prod.fst := fun hm => hi (by have := List.idxOf_lt_length_of_mem hm; rwa [List.length_map] at this)
  have hix : mapIx vs k = vs.length := by
   have := List.idxOf_eq_length hnk
   rw [List.length_map] at this; exact this
  obtain ⟨hK, hA⟩ := set_heap hbl (.map (es.push { key := enc k, val := z, born := clock }) (clock + 1))
  refine ⟨_, clock, ?_, ?_, hK, by simp⟩
  rotate_left
  ·rw [if_neg hi]
   refine ⟨es.push { key := enc k, val := z, born := clock }, clock + 1, hA, by simp [hk], by simp [hv], ?_, ?_, ?_, ?_⟩
   ·rw [List.map_append, List.nodup_append]
    refine ⟨hn, by simp, fun a ha b hb' => ?_⟩
    simp only [List.map_cons, List.map_nil, List.mem_singleton] at hb'
    subst hb'
    exact fun e => hnk (e ▸ ha)
   ·rw [Array.toList_push, List.map_append, List.nodup_append]
    refine ⟨hbn, by simp, fun a ha c' hc' => ?_⟩
    simp only [List.map_cons, List.map_nil, List.mem_singleton] at hc'
    subst hc'
    obtain ⟨e, he', rfl⟩ := List.mem_map.1 ha
    have := hc e he'
    exact fun h => by omega
   ·intro e he'
    rw [Array.toList_push] at he'
    rcases List.mem_append.1 he' with h | h
    ·have := hc e h; omega
    ·rw [List.mem_singleton.1 h]; exact Nat.lt_succ_self _
   ·rw [hix, ← hl, Array.toList_push, List.getElem?_append_right (Nat.le_refl _)]; simp
  ·have hgn : mapGet vs k = none := by rw [he] at hg; simpa using hg.symm
   simp only [Instr.mapEntry, Sem.run_bind, run_underlying ht, Result.andThen_ok, MapKept.run_getObj_map hb, Sem.run_pure, K.check, hf, he, Option.map_none, MapKept.run_setObj_map _ hb, hz, hgn, Option.getD_none]
/-- The store behind it. -/
theorem OwnMapS.put {i s : Nat} (h : OwnMapS enc w b vs i s) (hi : i < vs.length) (v : Value) :
  ∃ w', (Instr.entryStore t (.map (some b)) (goInt (s : Nat)) v).run P w = .ok () w' ∧ OwnMap enc w' b (vs.set i ((vs[i]'hi).1, v)) ∧ KeptS (fun i => i = b) w w' ∧ w'.heap.size = w.heap.size := by
 have hbl := h.own.lt
 obtain ⟨es, clock, hb, hk, hv, hn, hbn, hc, hs⟩ := h
 have hl : es.toList.length = vs.length := by have := congrArg List.length hv; simpa using this
 have hi' : i < es.toList.length := by rw [hl]; exact hi
 have hbs : (es.toList[i]'hi').born = s := by rw [List.getElem?_eq_getElem hi'] at hs; simpa using hs
 have hfi : es.findIdx? (fun e => (e.born : Int) == (s : Int)) = some i := by
  rw [Array.findIdx?_eq_some_iff_getElem]
  refine ⟨by simpa using hi', ?_, fun j hj => ?_⟩
  ·have : (es[i]'(by simpa using hi')) = es.toList[i]'hi' := by simp
   rw [this, hbs]; simp
  ·have hj' : j < es.toList.length := by omega
   intro he
   have e1 : (es[j]'(by simpa using hj')) = es.toList[j]'hj' := by simp
   rw [e1] at he
   have e2 : (es.toList[j]'hj').born = s := by have := eq_of_beq he; omega
   have e3 : (es.toList.map (·.born))[j]? = (es.toList.map (·.born))[i]? := by rw [List.getElem?_map, List.getElem?_map, List.getElem?_eq_getElem hj', List.getElem?_eq_getElem hi']; simp only [Option.map_some, e2, hbs]
   have := (List.getElem?_inj (by simpa using hj') hbn).1 e3
   omega
 obtain ⟨hK, hA⟩ := set_heap hbl (.map (es.modify i (fun e => { e with val := v })) clock)
 refine ⟨_, ?_, ?_, hK, by simp⟩
 rotate_left
 ·refine ⟨es.modify i (fun e => { e with val := v }), clock, hA, ?_, ?_, ?_, ?_, ?_⟩
  ·rw [List.map_set, List.map_set, Array.toList_modify, ← hk]
   apply List.ext_getElem?
   intro j
   simp only [List.getElem?_map, List.getElem?_modify, List.getElem?_set, List.length_map, hl]
   by_cases hj : i = j
   ·subst hj
    have h1 := congrArg (fun l => l[i]?) hk
    simp only [List.getElem?_map] at h1
    rw [List.getElem?_eq_getElem hi', List.getElem?_eq_getElem hi] at h1
    simp only [Option.map_some, Option.some.injEq] at h1
    simp only [if_true, if_pos hi]
    rw [List.getElem?_eq_getElem hi']
    simpa using h1
   ·simp only [if_neg hj]
    cases es.toList[j]? <;> rfl
  ·rw [List.map_set, Array.toList_modify, ← hv]
   apply List.ext_getElem?
   intro j
   simp only [List.getElem?_map, List.getElem?_modify, List.getElem?_set, List.length_map, hl]
   by_cases hj : i = j
   ·subst hj
    simp only [if_true, if_pos hi]
    rw [List.getElem?_eq_getElem hi']
    rfl
   ·simp only [if_neg hj]
    cases es.toList[j]? <;> rfl
  ·rw [List.map_set]
   have e : (vs.map Prod.fst).set i (vs[i]'hi).1 = vs.map Prod.fst := by
    have e0 : (vs[i]'hi).1 = (vs.map Prod.fst)[i]'(by simpa using hi) := by simp
    rw [e0]; exact List.set_getElem_self _
   rw [e]; exact hn
  ·have e : (es.modify i (fun e => { e with val := v })).toList.map (·.born) = es.toList.map (·.born) := by
    rw [Array.toList_modify]
    apply List.ext_getElem?
    intro j
    simp only [List.getElem?_map, List.getElem?_modify]
    split <;> cases es.toList[j]? <;> rfl
   rw [e]; exact hbn
  ·intro e he'
   rw [Array.toList_modify] at he'
   obtain ⟨j, hj, rfl⟩ := List.mem_iff_getElem.1 he'
   rw [List.getElem_modify]
   have hj' : j < es.toList.length := by simpa using hj
   split
   ·show (es.toList[j]'hj').born < clock
    exact hc _ (List.getElem_mem hj')
   ·exact hc _ (List.getElem_mem hj')
 ·simp only [Instr.entryStore, Sem.run_bind, MapKept.run_getObj_map hb, Result.andThen_ok, goInt, asInt, asIntOf, Sem.run_pure, hfi, MapKept.run_setObj_map _ hb]
/-- A loop over a map under way: block r is an iterator over the map b, which has handed out the entries ds. -/
def RngM (enc : κ → Value) (w : World) (b r : Nat) (vs : List (κ × Value)) (ds : List Nat) : Prop :=
 ∃ es clock since c0, w.heap[b]? = some (.map es clock) ∧ es.toList.map (·.key) = (vs.map Prod.fst).map enc ∧ es.toList.map (·.val) = vs.map Prod.snd ∧ (es.toList.map (·.born)).Nodup ∧ (∀ e ∈ es.toList, e.born < since) ∧ since ≤ c0 ∧ since ≤ clock ∧
  w.heap[r]? = some (.mapIter (some b) since (ds.map (fun i => ((es.toList[i]?).map (·.born)).getD 0)).toArray c0) ∧ ds.Nodup ∧ ∀ i ∈ ds, i < vs.length
theorem RngM.lt {r : Nat} {ds : List Nat} (h : RngM enc w b r vs ds) : b < w.heap.size ∧ r < w.heap.size ∧ b ≠ r := by
 obtain ⟨es, clock, since, c0, hb, _, _, _, _, _, _, hr, _⟩ := h
 refine ⟨(Array.getElem?_eq_some_iff.1 hb).1, (Array.getElem?_eq_some_iff.1 hr).1, fun e => ?_⟩
 rw [e, hr] at hb; cases hb
theorem RngM.kept {S : Nat → Prop} {r : Nat} {ds : List Nat} (h : RngM enc w b r vs ds) (k : KeptS S w w') (hs : ¬ S b) (hs' : ¬ S r) : RngM enc w' b r vs ds := by
 have hl := h.lt
 obtain ⟨es, clock, since, c0, hb, h1, h2, h3, h4, h5, h6, hr, h7⟩ := h
 exact ⟨es, clock, since, c0, (k.block b hl.1 hs).trans hb, h1, h2, h3, h4, h5, h6, (k.block r hl.2.1 hs').trans hr, h7⟩
theorem OwnMap.range (h : OwnMap enc w b vs) (ht : P.underlying t = some (.map kt et)) :
  ∃ w', (Instr.range t (.map (some b))).run P w = .ok (.pointer (some ⟨w.heap.size, 0, none⟩)) w' ∧ RngM enc w' b w.heap.size vs [] ∧ Below w.heap.size w w' ∧ w'.heap.size = w.heap.size + 1 := by
 have hbl := h.lt
 obtain ⟨es, clock, hb, hk, hv, hn, hbn, hc⟩ := h
 refine ⟨w.alloc (.mapIter (some b) clock #[] clock), ?_, ?_, bq, by simp⟩
 ·simp only [Instr.range, Sem.run_bind, run_underlying ht, Result.andThen_ok, MapKept.run_getObj_map hb, Sem.run_pure]
  rfl
 ·exact ⟨es, clock, clock, clock, (Below.heap_alloc w _ b hbl).trans hb, hk, hv, hbn, hc, Nat.le_refl _, Nat.le_refl _, heap_alloc_new _ _, List.nodup_nil, fun i hi => by cases hi⟩
theorem RngM.next {r : Nat} {ds : List Nat} (h : RngM enc w b r vs ds) (ty : TypeId) :
  (ds.length = vs.length ∧ (Instr.next (.pointer (some ⟨r, 0, none⟩)) false ty).run P w = .ok (.tuple #[.bool false]) w) ∨
  ∃ (i : Nat) (hi : i < vs.length) (w' : World), i ∉ ds ∧ (Instr.next (.pointer (some ⟨r, 0, none⟩)) false ty).run P w = .ok (.tuple #[.bool true, enc (vs[i]'hi).1, (vs[i]'hi).2]) w' ∧ RngM enc w' b r vs (ds ++ [i]) ∧ KeptS (fun k => k = r) w w' ∧ w'.heap.size = w.heap.size ∧
   (Instr.entry (.pointer (some ⟨r, 0, none⟩))).run P w' = .ok (.tuple #[enc (vs[i]'hi).1, (vs[i]'hi).2]) w' := by
 have hl := h.lt
 obtain ⟨es, clock, since, c0, hb, hk, hv, hbn, hc, h5, h6, hr, hnd, hlt⟩ := h
 have hlen : es.toList.length = vs.length := by have := congrArg List.length hv; simpa using this
 have hat : ∀ (i : Nat) (hi : i < es.toList.length), (es.toList[i]'hi).key = enc (vs[i]'(by omega)).1 ∧ (es.toList[i]'hi).val = (vs[i]'(by omega)).2 := fun i hi => by
  have h1 := congrArg (fun l => l[i]?) hk
  have h2 := congrArg (fun l => l[i]?) hv
  simp only [List.getElem?_map] at h1 h2
  rw [List.getElem?_eq_getElem hi, List.getElem?_eq_getElem (show i < vs.length by omega)] at h1 h2
  simp only [Option.map_some, Option.some.injEq] at h1 h2
  exact ⟨h1, h2⟩
 rcases Go.run_next_at (P := P) w ty r b since c0 _ es clock hr hb hc h5 with ⟨h0, hrun⟩ | ⟨e, he, w1, hw1, hrun⟩
 ·refine .inl ⟨?_, hrun⟩
  have hall : ∀ i, i < vs.length → i ∈ ds := by
   intro i hi
   have hi' : i < es.toList.length := by omega
   have h1 : ∀ e ∈ es.toList, (ds.map (fun i => ((es.toList[i]?).map (·.born)).getD 0)).toArray.contains e.born = true := by
    intro e he
    have := Array.eq_empty_of_size_eq_zero h0
    unfold leftOf at this
    rw [Array.filter_eq_empty_iff] at this
    have := this e (by simpa using he)
    simpa using this
   have h2 := h1 _ (List.getElem_mem hi')
   simp only [List.contains_toArray, List.contains_iff_mem, List.mem_map] at h2
   obtain ⟨j, hj, e2⟩ := h2
   have hj' := hlt j hj
   rw [List.getElem?_eq_getElem (show j < es.toList.length by omega)] at e2
   simp only [Option.map_some, Option.getD_some] at e2
   have e3 : (es.toList.map (·.born))[j]? = (es.toList.map (·.born))[i]? := by
    rw [List.getElem?_map, List.getElem?_map, List.getElem?_eq_getElem hi', List.getElem?_eq_getElem (show j < es.toList.length by omega)]; simp only [Option.map_some, e2]
   have := (List.getElem?_inj (by rw [List.length_map]; omega) hbn).1 e3
   rw [← this]; exact hj
  have h1 : ds.length ≤ vs.length := by
   have h2 : ds ⊆ List.range vs.length := fun i hi => List.mem_range.2 (hlt i hi)
   have := nodup_sub hnd h2
   simpa using this
  have h2 : vs.length ≤ ds.length := by
   have h3 : List.range vs.length ⊆ ds := fun i hi => hall i (List.mem_range.1 hi)
   have := nodup_sub List.nodup_range h3
   simpa using this
  omega
 ·unfold leftOf at he
  have he' : e ∈ es.toList ∧ (ds.map (fun i => ((es.toList[i]?).map (·.born)).getD 0)).toArray.contains e.born = false := by simpa using he
  obtain ⟨he1, he2⟩ := he'
  obtain ⟨i, hi, rfl⟩ := List.getElem_of_mem he1
  have hi' : i < vs.length := by omega
  have hni : i ∉ ds := fun hm => by
   have : (ds.map (fun i => ((es.toList[i]?).map (·.born)).getD 0)).toArray.contains (es.toList[i]'hi).born = true := by
    simp only [List.contains_toArray, List.contains_iff_mem, List.mem_map]
    exact ⟨i, hm, by rw [List.getElem?_eq_getElem hi]; rfl⟩
   rw [this] at he2; cases he2
  have hk1 : KeptS (fun k => k = r) w (Go.ChangeMaps.setBlock w1 r (.mapIter (some b) since (((ds.map (fun i => ((es.toList[i]?).map (·.born)).getD 0)).toArray).push (es.toList[i]'hi).born) clock)) ∧ (Go.ChangeMaps.setBlock w1 r (.mapIter (some b) since (((ds.map (fun i => ((es.toList[i]?).map (·.born)).getD 0)).toArray).push (es.toList[i]'hi).born) clock)).heap.size = w.heap.size ∧
    (Go.ChangeMaps.setBlock w1 r (.mapIter (some b) since (((ds.map (fun i => ((es.toList[i]?).map (·.born)).getD 0)).toArray).push (es.toList[i]'hi).born) clock)).heap[r]? = some (.mapIter (some b) since (((ds.map (fun i => ((es.toList[i]?).map (·.born)).getD 0)).toArray).push (es.toList[i]'hi).born) clock) := by
   have hh : w1.heap = w.heap ∧ w1.os = w.os ∧ w1.tape = w.tape ∧ w1.output = w.output := by rcases hw1 with rfl | rfl <;> exact ⟨rfl, rfl, rfl, rfl⟩
   refine ⟨⟨hh.2.1, hh.2.2.1, hh.2.2.2, by simp [Go.ChangeMaps.setBlock, hh.1], fun k _ hkk => ?_⟩, by simp [Go.ChangeMaps.setBlock, hh.1], ?_⟩
   ·simp only [Go.ChangeMaps.setBlock, hh.1]
    rw [Array.getElem?_setIfInBounds, if_neg (fun e => hkk e.symm)]
   ·simp only [Go.ChangeMaps.setBlock, hh.1]
    rw [Array.getElem?_setIfInBounds, if_pos rfl, if_pos hl.2.1]
  obtain ⟨hK, hsz, hrr⟩ := hk1
  have hb' := (hK.block b hl.1 hl.2.2).trans hb
  have hpush : ((ds.map (fun i => ((es.toList[i]?).map (·.born)).getD 0)).toArray).push (es.toList[i]'hi).born = ((ds ++ [i]).map (fun i => ((es.toList[i]?).map (·.born)).getD 0)).toArray := by
   rw [List.map_append, List.push_toArray, List.map_cons, List.map_nil, List.getElem?_eq_getElem hi]; rfl
  rw [hpush] at hK hsz hrr hb' hrun
  refine .inr ⟨i, hi', _, hni, ?_, ⟨es, clock, since, clock, hb', hk, hv, hbn, hc, h6, h6, hrr, ?_, ?_⟩, hK, hsz, ?_⟩
  ·rw [hrun, (hat i hi).1, (hat i hi).2]
  ·rw [List.nodup_append]
   refine ⟨hnd, by simp, fun a ha c hcc => ?_⟩
   rw [List.mem_singleton.1 hcc]
   exact fun e => hni (e ▸ ha)
  ·intro j hj
   rcases List.mem_append.1 hj with h | h
   ·exact hlt j h
   ·rw [List.mem_singleton.1 h]; exact hi'
  ·rw [← (hat i hi).1, ← (hat i hi).2]
   rw [← hpush] at hrr hb' ⊢
   exact Go.run_entry_at _ r b since _ es clock (es.toList[i]'hi) hrr hb' (List.getElem_mem hi) hbn
end
theorem part_int (cs : Array Value) (o : Nat) (v : Value) (w : World) (h : cs[o]? = some v) : (part 3 cs o).run Tryz.prog w = .ok v w := by
 simp [part, isAgg, run_underlying Tryz.underlying3, h]
theorem eq_pt (p q : Pt) (w : World) : (Op.equal 28 (ptV p) (ptV q)).run Tryz.prog w = .ok (decide (p = q)) w := eqPt 9998 w _ _ _ _
theorem eq_sg (p q : Sg) (w : World) : (Op.equal 48 (sgV p) (sgV q)).run Tryz.prog w = .ok (decide (p = q)) w := eqSg 9997 w _ _ _ _ _ _ _ _
theorem chk_pt (c : Bool) (p : Pt) (w : World) : (Instr.checkKey c 10000 28 (ptV p)).run Tryz.prog w = .ok () w := by
 have p0 : ∀ x y : Int, (part 3 #[.int .i64 x, .int .i64 y] 0).run Tryz.prog w = .ok (.int .i64 x) w := fun x y => part_int _ _ _ _ rfl
 have p1 : ∀ x y : Int, (part 3 #[.int .i64 x, .int .i64 y] 1).run Tryz.prog w = .ok (.int .i64 y) w := fun x y => part_int _ _ _ _ rfl
 have key : ∀ n : Nat, (∀ x : Int, (Instr.checkKey c n 3 (.int .i64 x)).run Tryz.prog w = .ok () w) → (Instr.checkKey c (n + 1) 28 (ptV p)).run Tryz.prog w = .ok () w := by
  intro n hc
  unfold ptV
  simp [Instr.checkKey, run_underlying Tryz.underlying28, p0, p1, hc]
 exact key 9999 (fun x => check_int (by kernel_rfl) c 9998 x w)
theorem ask_gen {κ : Type} [DecidableEq κ] {P : Program} {kt : TypeId} {enc : κ → Value} {w : World} (heq : ∀ p q : κ, (Op.equal kt (enc p) (enc q)).run P w = .ok (decide (p = q)) w) (k : κ) : ∀ (es : List MapEntry) (ks : List κ) (i : Nat), es.map (·.key) = ks.map enc → (Instr.findAsking kt (enc k) es i).run P w = .ok ((es[ks.idxOf k]?).map fun e => (i + ks.idxOf k, e.val)) w := by
 intro es
 induction es with
 | nil => intro ks i h; simp [Instr.findAsking]
 | cons e es ih =>
  intro ks i h
  cases ks with
  | nil => simp at h
  | cons y ys =>
   simp only [List.map_cons, List.cons.injEq] at h
   rw [Instr.findAsking]
   simp only [h.1, Sem.run_bind, heq, Result.andThen_ok]
   by_cases hy : k = y
   ·subst hy; simp
   ·rw [show decide (k = y) = false by simp [hy]]
    simp only [Bool.false_eq_true, if_false, ih ys (i + 1) h.2, List.idxOf_cons, show (y == k) = false by simpa using fun e : y = k => hy e.symm]
    simp only [cond_false, List.getElem?_cons_succ]
    congr 1
    cases es[List.idxOf k ys]? with
    | none => rfl
    | some e => simp only [Option.map_some]; congr 2; omega
theorem chk_ptn (c : Bool) (n : Nat) (p : Pt) (w : World) : (Instr.checkKey c (n + 2) 28 (ptV p)).run Tryz.prog w = .ok () w := by
 have p0 : ∀ x y : Int, (part 3 #[.int .i64 x, .int .i64 y] 0).run Tryz.prog w = .ok (.int .i64 x) w := fun x y => part_int _ _ _ _ rfl
 have p1 : ∀ x y : Int, (part 3 #[.int .i64 x, .int .i64 y] 1).run Tryz.prog w = .ok (.int .i64 y) w := fun x y => part_int _ _ _ _ rfl
 have hc : ∀ x : Int, (Instr.checkKey c (n + 1) 3 (.int .i64 x)).run Tryz.prog w = .ok () w := fun x => check_int (by kernel_rfl) c n x w
 unfold ptV
 simp [Instr.checkKey, run_underlying Tryz.underlying28, p0, p1, hc]
theorem chk_sg (c : Bool) (p : Sg) (w : World) : (Instr.checkKey c 10000 48 (sgV p)).run Tryz.prog w = .ok () w := by
 have p0 : ∀ x y z u : Int, (part 28 #[.int .i64 x, .int .i64 y, .int .i64 z, .int .i64 u] 0).run Tryz.prog w = .ok (ptV (x, y)) w := fun x y z u => by kernel_rfl
 have p1 : ∀ x y z u : Int, (part 28 #[.int .i64 x, .int .i64 y, .int .i64 z, .int .i64 u] 2).run Tryz.prog w = .ok (ptV (z, u)) w := fun x y z u => by kernel_rfl
 have key : ∀ n : Nat, (∀ x : Pt, (Instr.checkKey c n 28 (ptV x)).run Tryz.prog w = .ok () w) → (Instr.checkKey c (n + 1) 48 (sgV p)).run Tryz.prog w = .ok () w := by
  intro n hc
  unfold sgV
  simp [Instr.checkKey, run_underlying Tryz.underlying48, p0, p1, hc]
 exact key 9999 (fun x => chk_ptn c 9997 x w)
theorem keyPt : KeyOk Tryz.prog 28 ptV where
 check := fun c p w => chk_pt c p w
 find := fun k es ks w h => by
  have hnow : Instr.findNow (.struct (Tryz.prog.fieldsOf 28)) (ptV k) es 0 = if es = [] then some none else none := by
   cases es with
   | nil => rfl
   | cons e es => simp [Instr.findNow, Instr.sameNow]
  have hu : Tryz.prog.underlying 28 = some (.struct (Tryz.prog.fieldsOf 28)) := by kernel_rfl
  rw [Instr.findKey]
  simp only [Sem.run_bind, run_underlying hu, Result.andThen_ok, hnow]
  by_cases he : es = []
  ·subst he; simp
  ·rw [if_neg he]
   have := ask_gen (fun p q => eq_pt p q w) k es ks 0 h
   simpa using this
 same := fun k => by
  show Instr.sameBits (9999 + 1) (ptV k) (ptV k) = true
  simp [Instr.sameBits, ptV, same_int]
theorem keySg : KeyOk Tryz.prog 48 sgV where
 check := fun c p w => chk_sg c p w
 find := fun k es ks w h => by
  have hnow : Instr.findNow (.struct (Tryz.prog.fieldsOf 48)) (sgV k) es 0 = if es = [] then some none else none := by
   cases es with
   | nil => rfl
   | cons e es => simp [Instr.findNow, Instr.sameNow]
  have hu : Tryz.prog.underlying 48 = some (.struct (Tryz.prog.fieldsOf 48)) := by kernel_rfl
  rw [Instr.findKey]
  simp only [Sem.run_bind, run_underlying hu, Result.andThen_ok, hnow]
  by_cases he : es = []
  ·subst he; simp
  ·rw [if_neg he]
   have := ask_gen (fun p q => eq_sg p q w) k es ks 0 h
   simpa using this
 same := fun k => by
  show Instr.sameBits (9999 + 1) (sgV k) (sgV k) = true
  simp [Instr.sameBits, sgV, same_int]
end
end Go.Proofs.YtaeflnbjeaoapaaGreat
