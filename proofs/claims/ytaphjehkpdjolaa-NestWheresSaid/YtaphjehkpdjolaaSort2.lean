/- Contract of slices.insertionSortCmpFunc over rings, compared as nest.Rings does. -/
import Derived.Test.YtaphjehkpdjolaaSort
namespace Go.Proofs.Ytaphjehkpdjolaa
open Go.RowKit Go.Proofs.YtaphjehkpdjolaaW.PrintLast
set_option linter.unusedVariables false
set_option linter.unusedSimpArgs false

theorem Reps.set1 {α : Type} {T : Ty α} {ok : Nat → Prop} {w : World} (hsz : T.sz = 1) : ∀ {xs : List α} {cs : List Value} (i : Nat) {y : α} {c : Value}, Reps T ok w xs cs → T.R ok w y [c] → Reps T ok w (xs.set i y) (cs.set i c)
  | [], cs, i, y, c, h, _ => by rw [show cs = [] from h]; rfl
  | x :: xs, cs, 0, y, c, ⟨d, e, he, hd, hr⟩, hy => by
    have := T.len hd
    rw [hsz] at this
    obtain ⟨u, rfl⟩ := List.length_eq_one_iff.1 this
    rw [he]
    exact ⟨[c], e, rfl, hy, hr⟩
  | x :: xs, cs, i + 1, y, c, ⟨d, e, he, hd, hr⟩, hy => by
    have := T.len hd
    rw [hsz] at this
    obtain ⟨u, rfl⟩ := List.length_eq_one_iff.1 this
    rw [he]
    exact ⟨[u], e.set i c, rfl, hd, Reps.set1 hsz i hr hy⟩
/-- A store into a row of the call's own. -/
theorem OwnR.store1 {α : Type} {T : Ty α} {e : TypeId} {base : Nat} {M : Nat → Prop} {w : World} {g n cap : Nat} {xs : List α} (h : OwnR T e base M w (.slice (some ⟨g, 0, none⟩) n cap) xs) (hsz : T.sz = 1) (i : Nat) {y : α} {c : Value} (hy : T.R (fun k => ¬ M k) w y [c]) :
    OwnR T e base M (w.setCell ⟨g, i, none⟩ c) (.slice (some ⟨g, 0, none⟩) n cap) (xs.set i y) := by
  obtain ⟨A', c', e', _⟩ := OwnR.reads h
  injection e' with e1 e2 e3
  subst e2
  obtain ⟨h0, inner, ho, hr⟩ := h
  have hg : M g := h0 g rfl
  refine ⟨h0, inner.set i c, ?_, ?_⟩
  · have := (ho.stored i c).1
    rwa [List.length_set]
  · exact (Reps.set1 hsz i hr hy).imp (fun x d hd => T.step hd (fun k hk _ => Below.heap_setCell w _ c k (fun e => hk (by rw [e]; exact hg))))
theorem OwnR.ring_cell {base : Nat} {e : TypeId} {M : Nat → Prop} {w : World} {g n cap : Nat} {xs : Rings} (h : OwnR Ty.ring e base M w (.slice (some ⟨g, 0, none⟩) n cap) xs) (k : Nat) (hk : k < xs.length) :
    ∃ A0 c0, w.cell? ⟨g, k, none⟩ = some (.slice A0 (rg xs k).length c0) ∧ Ty.ring.R (fun k => ¬ M k) w (rg xs k) [.slice A0 (rg xs k).length c0] ∧ w.frozen? ⟨g, k, none⟩ = false := by
  obtain ⟨h0, inner, ho, hr⟩ := h
  obtain ⟨c, ⟨A0, c0, rfl, hl, hrow⟩, hc⟩ := hr.get k xs[k] (by simp [hk])
  have e2 : rg xs k = xs[k] := by simp [rg, hk]
  rw [e2]
  refine ⟨A0, c0, ?_, ⟨A0, c0, rfl, hl, hrow⟩, ?_⟩
  · have := ho.cells (g := g) rfl k (.slice A0 xs[k].length c0) (by have := hc 0 _ rfl; rwa [show Ty.ring.sz = 1 from rfl, Nat.mul_one, Nat.add_zero] at this)
    rwa [add_at, Nat.zero_add] at this
  · rcases ho.2 with ⟨h1, _⟩ | ⟨g', cap', cur, h1, _, hh, _⟩
    · cases h1
    · injection h1 with h1; injection h1 with h1; injection h1 with h1
      subst h1
      simp [World.frozen?, hh]
theorem ringR_row {ok : Nat → Prop} {w : World} {A : Option Addr} {xs : Pts} {n c : Nat} (h : Ty.ring.R ok w xs [.slice A n c]) : n = xs.length ∧ Row Ty.pt ok w A xs := by
  obtain ⟨A', c', e, hl, hr⟩ := h
  injection e with e; injection e with e1 e2 e3
  subst e1
  exact ⟨e2, hr⟩
theorem OwnR.lenN {α : Type} {T : Ty α} {e : TypeId} {base : Nat} {M : Nat → Prop} {w : World} {A : Option Addr} {n cap : Nat} {xs : List α} (h : OwnR T e base M w (.slice A n cap) xs) : n = xs.length := by
  obtain ⟨A', c', e, _⟩ := OwnR.reads h
  injection e

set_option maxHeartbeats 1000000 in
theorem insertionSort_rings (xs : Rings) (g n cap a b base : Nat) (M : Nat → Prop) (w : World) (ai bi : Int) (hai : ai = (a : Int)) (hbi : bi = (b : Int)) (h : OwnR Ty.ring 32 base M w (.slice (some ⟨g, 0, none⟩) n cap) xs) (hab : a ≤ b) (hb : b ≤ xs.length) (hlen : xs.length ≤ 1048576) :
    Calls Try.prog 59 #[.slice (some ⟨g, 0, none⟩) n cap, .int .i64 ai, .int .i64 bi, .func (.func 34) #[] #[]] w fun e w' =>
      e = .returned (.tuple #[]) ∧ ∃ ys : Rings, OwnR Ty.ring 32 base M w' (.slice (some ⟨g, 0, none⟩) n cap) ys ∧ ys.Perm xs ∧ SortedOn ys a b ∧ (∀ k, (k < a ∨ b ≤ k) → rg ys k = rg xs k) ∧ KeptS (fun k => k = g) w w' := by
  subst hai hbi
  have hm := h.len
  have HN := Lib.hid h.lenN
  have hnle : xs.length ≤ n := by rw [HN.out]; exact Nat.le_refl _
  go_enter Try.func59, Try.ntmps59
  go_wp2
  go_loopw [8] (fun i wr => ∃ k : Nat, a + 1 ≤ k ∧ (k ≤ b ∨ k = a + 1) ∧ i = .int .i64 k ∧ ∃ ys : Rings, OwnR Ty.ring 32 base M wr (.slice (some ⟨g, 0, none⟩) n cap) ys ∧ ys.Perm xs ∧ SortedOn ys a k ∧ (∀ q, (q < a ∨ b ≤ q) → rg ys q = rg xs q) ∧ KeptS (fun k => k = g) w wr) (fun i _ => b - (intOf i).toNat)
  case atStart => exact ⟨a + 1, Nat.le_refl _, .inr rfl, by go_num, xs, h, List.Perm.refl _, fun p q h1 h2 h3 => by omega, fun _ _ => rfl, kept_refl _ _⟩
  case round =>
    obtain ⟨i, hi1, hi2, rfl, ys, ho, hp, hs, hk, hkt⟩ := hrel
    have hyl := hp.length_eq
    by_cases hlt : i < b
    · have HO := Lib.hid ho
      have HP := Lib.hid hp
      have HS := Lib.hid hs
      have HK := Lib.hid hk
      clear ho hp hs hk hyl
      go_wp2_with fail
      obtain ⟨wo, rfl⟩ : ∃ wo : World, wo = wr := ⟨_, rfl⟩
      go_loopw [9] (fun jv wr => ∃ j : Nat, a ≤ j ∧ j ≤ i ∧ jv = .int .i64 j ∧ ∃ zs : Rings, OwnR Ty.ring 32 base M wr (.slice (some ⟨g, 0, none⟩) n cap) zs ∧ zs.Perm xs ∧ Inserting zs a i j ∧ (∀ q, (q < a ∨ b ≤ q) → rg zs q = rg xs q) ∧ KeptS (fun k => k = g) w wr) (fun jv _ => (intOf jv).toNat)
      case atStart => exact ⟨i, by omega, Nat.le_refl _, rfl, ys, HO.out, HP.out, inserting_start HS.out, HK.out, hkt⟩
      case round =>
        obtain ⟨j, hj1, hj2, rfl, zs, ho, hp, hins, hk, hkt'⟩ := hrel
        have hzl : zs.length = xs.length := hp.length_eq
        by_cases hja : a < j
        · obtain ⟨j', rfl⟩ : ∃ j', j = j' + 1 := ⟨j - 1, by omega⟩
          obtain ⟨A0, c0, hc0, hr0, hf0⟩ := ho.ring_cell (j' + 1) (by omega)
          obtain ⟨A1, c1, hc1, hr1, hf1⟩ := ho.ring_cell j' (by omega)
          have R0 := Lib.hid hr0
          have R1 := Lib.hid hr1
          have HO2 := Lib.hid ho
          have HP2 := Lib.hid hp
          have HI := Lib.hid hins
          have HK2 := Lib.hid hk
          clear ho hp hins hk hr0 hr1
          have ec : ((j' + 1 : Nat) : Int) = (j' : Int) + 1 := by omega
          rw [ec]
          clear ec
          have qg : decide ((a : Int) < (j' : Int) + 1) = true := decide_eq_true (by omega)
          have qw : IntKind.i64.wrap (j' : Int) = (j' : Int) := IntWalk.i64_in _ (by omega)
          have qb3 : j' < n := by omega
          have qn : ((j' : Int) + 1).toNat = j' + 1 := by omega
          have qb0 : (0 : Int) ≤ (j' : Int) + 1 := by omega
          have qb1 : (j' : Int) + 1 < (n : Int) := by omega
          have qb2 : (j' : Int) < (n : Int) := by omega
          go_wp2_with fail
          go_still_tail 14, (by kernel_rfl)
          change wpList _ _ _ _ _ wr.drew
          clear qw qg qn qb0 qb1 qb2 qb3
          go_wp2_with fail
          refine (nestRings1 (rg zs (j' + 1)) (rg zs j') _ _ _ _ _ _ _ ((ringR_row R0.out).2.below (below_drew (Below.refl _ _))) ((ringR_row R1.out).2.below (below_drew (Below.refl _ _))) rfl rfl).mono ?_
          rintro e w1 ⟨rfl, hb1⟩
          have hc0' := cell_below (below_step (below_drew (Below.refl _ _)) hb1) hc0
          have hc1' := cell_below (below_step (below_drew (Below.refl _ _)) hb1) hc1
          have B1 : Below wr.heap.size wr w1 := below_step (below_drew (Below.refl _ _)) hb1
          have hf0' : w1.frozen? ⟨g, j' + 1, none⟩ = false := (B1.frozen (p := ⟨g, j' + 1, none⟩) (World.block_lt_of_cell? wr _ hc0)).trans hf0
          have hf1' : w1.frozen? ⟨g, j', none⟩ = false := (B1.frozen (p := ⟨g, j', none⟩) (World.block_lt_of_cell? wr _ hc1)).trans hf1
          have HO3 := HO2.out.below B1
          have S0 := Ty.ring.below R0.out B1
          have S1 := Ty.ring.below R1.out B1
          clear hc0 hc1 hf0 hf1
          have qg : decide ((a : Int) < (j' : Int) + 1) = true := decide_eq_true (by omega)
          cases hcmp : lessR (rg zs (j' + 1)) (rg zs j')
          · have HCMP := Lib.hid hcmp
            have hlt0 : ¬ (cmpR (rg zs (j' + 1)) (rg zs j') < 0) := by unfold cmpR; rw [hcmp]; simp; split <;> omega
            clear hcmp
            go_wp2
            go_roundw
            case rel => exact ⟨i + 1, by omega, .inl (by omega), by go_num, zs, HO3, HP2.out, inserting_end HI.out hj1 hj2 (.inr (by show leR (rg zs (j' + 1 - 1)) _; rw [Nat.add_sub_cancel]; exact HCMP.out)), HK2.out, (by repeat (with_reducible first | exact kept_refl _ _ | apply kept_alloc | apply kept_drewN | apply kept_drew | (refine kept_set ?_ ?_; (first | exact rfl | exact Or.inl rfl | exact Or.inr rfl | exact Or.inr (Or.inl rfl) | exact Or.inr (Or.inr rfl))) | (refine kept_setnew ?_ ?_; (first | (simp; done) | (simp; omega))) | (refine kept_below ?_ B1) | (refine kept_step ?_ B1) | (refine kept_below ?_ hkt') | (refine kept_step ?_ hkt')))⟩
            case measure => simp [intOf]; omega
          · have HCMP := Lib.hid hcmp
            have hlt0 : cmpR (rg zs (j' + 1)) (rg zs j') < 0 := by unfold cmpR; rw [hcmp]; simp
            clear hcmp
            go_wp2_with fail
            have qb3 : j' < n := by omega
            go_region
            go_wp2
            have hMg : M g := HO3.1 g rfl
            have S0' : Ty.ring.R (fun k => ¬ M k) (w1.setCell ⟨g, j' + 1, none⟩ (.slice A1 (rg zs j').length c1)) (rg zs (j' + 1)) [.slice A0 (rg zs (j' + 1)).length c0] := Ty.ring.step S0 (fun k hk _ => Below.heap_setCell w1 _ _ k (fun e => hk (by rw [e]; exact hMg)))
            have HO5 := Lib.hid (((HO3.store1 rfl (j' + 1) S1).store1 rfl j' S0').drew)
            have HSW : Hid (swp zs (j' + 1) j' [] = (zs.set (j' + 1) (rg zs j')).set j' (rg zs (j' + 1))) := rfl
            go_roundw
            case rel =>
              refine ⟨j', by omega, by omega, rfl, swp zs (j' + 1) j' [], HO5.out, (swp_perm (by omega) (by omega)).trans HP2.out, ?_, ?_, ?_⟩
              · have := inserting_step HI.out hja hj2 (by omega) (by show lessR _ (rg zs (j' + 1 - 1)) = true; rw [Nat.add_sub_cancel]; exact HCMP.out)
                rwa [Nat.add_sub_cancel] at this
              · intro q hq
                rw [← HK2.out q hq]
                show (swp zs (j' + 1) j' []).getD q [] = _
                rw [swp_get (by omega) (by omega), if_neg (by omega), if_neg (by omega)]; rfl
              · exact kept_drew (kept_set (a := ⟨g, j', none⟩) rfl (kept_set (a := ⟨g, j' + 1, none⟩) rfl (kept_below hkt' B1)))
            case measure => simp [intOf] <;> omega
        · obtain rfl : j = a := by omega
          have HO2 := Lib.hid ho
          have HP2 := Lib.hid hp
          have HI := Lib.hid hins
          have HK2 := Lib.hid hk
          clear ho hp hins hk
          have qg : decide ((j : Int) < (j : Int)) = false := decide_eq_false (by omega)
          go_wp2_with fail
          go_quiet (fail)
          go_wp2
          go_roundw
          case rel => exact ⟨i + 1, by omega, .inl (by omega), by go_num, zs, HO2.out.drewN _, HP2.out, inserting_end HI.out hj1 hj2 (.inl rfl), HK2.out, (by repeat (with_reducible first | exact kept_refl _ _ | apply kept_alloc | apply kept_drewN | apply kept_drew | (refine kept_set ?_ ?_; (first | exact rfl | exact Or.inl rfl | exact Or.inr rfl | exact Or.inr (Or.inl rfl) | exact Or.inr (Or.inr rfl))) | (refine kept_setnew ?_ ?_; (first | (simp; done) | (simp; omega))) | (refine kept_below ?_ hkt') | (refine kept_step ?_ hkt')))⟩
          case measure => simp [intOf]; omega
    · have HO := Lib.hid ho
      have HP := Lib.hid hp
      have HS := Lib.hid hs
      have HK := Lib.hid hk
      clear ho hp hs hk
      go_wp2
      exact bodyPost_end (results_none rfl _ _ _) rfl ⟨rfl, ys, HO.out, HP.out, fun p q h1 h2 h3 => HS.out p q h1 h2 (by omega), HK.out, hkt⟩
end Go.Proofs.Ytaphjehkpdjolaa
