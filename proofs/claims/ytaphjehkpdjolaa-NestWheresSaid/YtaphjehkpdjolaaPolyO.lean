/- Contract of nest.Polygons. -/
import Derived.Test.YtaphjehkpdjolaaPolyN
import Derived.Test.YtaphjehkpdjolaaPolyL
import Derived.OwnWalk
namespace Go.Proofs.Ytaphjehkpdjolaa
open Go.RowKit Go.Proofs.YtaphjehkpdjolaaW.PrintLast
set_option linter.unusedVariables false
set_option linter.unusedSimpArgs false

theorem infoPt : (Try.prog.info? 39).map (fun i => (i.zero, i.size, i.bytes)) = some (some (.agg #[.int .i64 0, .int .i64 0]), 2, 16) := by kernel_rfl
theorem infoPt_parts : ∃ i, Try.prog.info? 39 = some i ∧ i.zero = some (.agg #[.int .i64 0, .int .i64 0]) ∧ i.size = 2 ∧ i.bytes = 16 := by
  obtain ⟨i, h1, h2⟩ := Option.map_eq_some_iff.1 infoPt
  simp only [Prod.mk.injEq] at h2
  exact ⟨i, h1, h2.1, h2.2.1, h2.2.2⟩
theorem infoPt_size : (Try.prog.info? 39).map (·.size) = some Ty.pt.sz := by
  obtain ⟨i, h1, _, h2, _⟩ := infoPt_parts
  rw [h1]; simp only [Option.map_some, h2]; rfl
theorem pt_fit {n : Nat} : n * Ty.pt.sz ≤ n * 2 := Nat.le_refl _
theorem own_cells {w : World} {base : Nat} {e : TypeId} {size g n cap m : Nat} {xs : List Value} (h : w.ownsRow base e size (.slice (some ⟨g, 0, none⟩) n cap) m xs) : ∃ cur, w.heap[g]? = some (.cells cur e (0, 0)) ∧ cur.size = cap * size := by
  rcases h.2 with ⟨h1, _⟩ | ⟨g', cap', cur, h1, _, h2, _, _, h3, _⟩
  · cases h1
  · injection h1 with h1 _ h5; injection h1 with h1; injection h1 with h1
    subst h1 h5
    exact ⟨cur, h2, h3⟩

theorem R1_copy {M : Nat → Prop} {wr w2 : World} {gR n cc k : Nat} {V : Value} {A0 : Option Addr} {r : Pts} (h : Row Ty.pt (fun k => ¬ ((Value.slice (some ⟨gR, 0, none⟩) n cc).ownBlock = some k ∨ M k) ∧ k < wr.heap.size) wr A0 r) (hg : wr.grownBy w2 none) :
    Row Ty.pt (fun k => k < wr.heap.size ∧ ¬ ((Value.slice (some ⟨gR, 0, none⟩) n cc).ownBlock = some k ∨ M k)) (w2.setCell ⟨gR, k, none⟩ V) A0 r :=
  (h.mono (fun b hb => ⟨hb.2, hb.1⟩)).step (fun b hb _ => (Below.heap_setCell w2 _ _ _ (fun e => hb.2 (.inl (by rw [e]; rfl)))).trans (hg.block b hb.1 (by simp)))

set_option maxRecDepth 4000 in
set_option maxHeartbeats 4000000 in
theorem nest_Polygons {ok : Nat → Prop} (rs : Rings) (A : Option Addr) (n c : Nat) (w : World) (hr : Row Ty.ring ok w A rs) (hn : n = rs.length) (hsm : FewB rs = true) :
    Calls Try.prog 10 #[.slice A n c] w fun e w' => ∃ A' c', e = .returned (.tuple #[.slice A' (polysR rs).1.length c', .int .i64 (polysR rs).2]) ∧ Row Ty.poly (fun _ => True) w' A' (polysR rs).1 ∧ Below w.heap.size w w' := by
  subst hn
  have HR := Lib.hid hr
  clear hr
  obtain ⟨hS1, hS2⟩ := FewB_parts hsm
  have HS2 := Lib.hid hS2
  obtain ⟨iP, hiP, hz0, hz1, hz2⟩ := infoPt_parts
  clear hS2 hsm
  go_enter Try.func10, Try.ntmps10
  go_wp2_with fail
  refine (Clone_rings rs _ _ _ _ HR.out rfl (by omega)).mono ?_
  rintro e w1 ⟨v0, rfl, hO, hb1⟩
  obtain ⟨Ac, cc, rfl, hlc, _⟩ := OwnR.reads hO
  have HO := Lib.hid hO
  have hz := hb1.size
  obtain ⟨gc, hgc⟩ : ∃ gc, gc = w1.heap.size := ⟨_, rfl⟩
  have HL1 : Hid (Loop1 32 44 25 w.heap.size gc (.slice Ac rs.length cc) (.slice none 0 0) (w1.alloc (.cells #[.slice none 0 0] 25)) rs []) := by rw [hgc]; exact Loop1.start HO.out hb1.size
  have hb2 : Below w.heap.size w (w1.alloc (.cells #[.slice none 0 0] 25)) := below_alloc hb1 _
  clear hO HO HR
  go_wp2_with fail
  rw [← hgc]
  have HGC := Lib.hid hgc
  clear hgc
  go_loopw [16] (fun i wr => ∃ k : Nat, k ≤ rs.length ∧ i = .int .i64 k ∧ Below w.heap.size w wr ∧ Hid (firstErr (rs.take k) = none) ∧ ∃ vo, Hid (Loop1 32 44 25 w.heap.size gc (.slice Ac rs.length cc) vo wr rs (outersR (rs.take k)))) (fun i _ => rs.length - (intOf i).toNat)
  case atStart => exact ⟨0, Nat.zero_le _, rfl, hb2, rfl, _, HL1.out⟩
  case round =>
    obtain ⟨k, hk, rfl, hb, HE, vo, HL⟩ := hrel
    by_cases hlt : k < rs.length
    · obtain ⟨A', c', e', _, _, hA'⟩ := HL.out.rings.reads
      obtain ⟨gR, hgR, hgw, hgs, _, hfr⟩ := hA' (by omega)
      injection e' with e1 e2 e3
      subst e1
      subst hgR
      have hfz := hfr k
      clear e2 e3 hA' hfr
      obtain ⟨A0, c0, hc, hrr, _⟩ := HL.out.rings.ring_cell k hlt
      change wr.cell? _ = some (.slice A0 (rgD rs k).length c0) at hc
      change Ty.ring.R _ _ (rgD rs k) [.slice A0 (rgD rs k).length c0] at hrr
      have R0 := Lib.hid (ringR_row hrr).2.bnd
      have h30 := HS2.out k
      clear hrr
      have hH := hb.size
      by_cases h3 : (rgD rs k).length < 3
      · have q3 : decide (((rgD rs k).length : Int) < 3) = true := decide_eq_true (by omega)
        have HP := Lib.hid (polys_err hlt HE.out (err_short h3))
        go_wp2_with (first | (at_make; refine wpList_make_full wr rfl _ _ 32 rfl w.heap.size 39 iP (.agg #[.int .i64 0, .int .i64 0]) 2 Try.underlying32 hiP hz0 hz1 .i64 .i64 _ _ (rgD rs k).length rfl rfl rfl rfl (by rw [hz2]; omega) (by simp only [maxLen]; omega) hH ?_; intro w2 hown2 hg2; have hb2' : Below wr.heap.size wr w2 := below_grown (Below.refl _ _) hg2 (fun b e => by cases e); have hcx := cell_below hb2' hc; have hfx : w2.frozen? ⟨gR, k, none⟩ = false := (hb2'.frozen (p := ⟨gR, k, none⟩) hgs).trans hfz; obtain ⟨cur, hcur, hcsz⟩ := own_cells hown2; have hcu2 : (w2.setCell ⟨gR, k, none⟩ (.slice (some ⟨wr.heap.size, 0, none⟩) (rgD rs k).length (rgD rs k).length)).heap[wr.heap.size]? = some (.cells cur 39 (0, 0)) := (Below.heap_setCell w2 _ _ _ (by simp; omega)).trans hcur; have HCU := Lib.hid hcu2; have HG2 := Lib.hid hg2; clear hown2 hcur hcu2) | (with_reducible show wpList _ _ _ ({ dst := _, op := Op.call { callee := Callee.builtin Builtin.copy, args := _, argTypes := _ }, type := _, pos := _, after := _, guard := _ } :: _) _ _; refine wpList_copyT Ty.pt (W := w2.setCell ⟨gR, k, none⟩ (.slice (some ⟨wr.heap.size, 0, none⟩) (rgD rs k).length (rgD rs k).length)) rfl _ _ 32 32 39 rfl Try.underlying32 infoPt_size wr.heap.size (rgD rs k).length _ _ _ A0 rfl rfl rfl cur 39 HCU.out (rgD rs k) rfl _ (R1_copy R0.out HG2.out) (fun h => absurd h.1 (Nat.lt_irrefl _)) (by rw [hcsz]; exact pt_fit) ?_; intro w3 hk3 hs3 hr3))
        clear hcx hfx hfz hc
        obtain ⟨hL3, hK3, hc3, hrow3⟩ := HL.out.copy hlt HG2.out rfl hk3 _ hr3 rfl (Nat.le_refl _)
        have HL3 := Lib.hid hL3
        have HROW := Lib.hid hrow3
        have R3 : Hid (Row Ty.pt (fun k_1 => k_1 < wr.heap.size) w3 A0 (rgD rs k)) := (R0.out.step (fun b hb1 hb2 => hK3.block b hb2 (fun e => hb1.1 (by rw [e]; exact .inl rfl)))).mono (fun b hb => hb.2)
        have hb3 : Below w.heap.size w w3 := below_kept hb hK3 (fun b e => by omega)
        clear hL3 hrow3 hk3 hr3 hs3 hb2' HCU HG2 hK3
        go_ret2
        exact ⟨none, 0, by rw [HP.out]; rfl, by rw [HP.out]; exact Row.nil _ _ _ _, hb3⟩
      · have q3 : decide (((rgD rs k).length : Int) < 3) = false := decide_eq_false (by omega)
        go_wp2_with (first | (at_make; refine wpList_make_full wr rfl _ _ 32 rfl w.heap.size 39 iP (.agg #[.int .i64 0, .int .i64 0]) 2 Try.underlying32 hiP hz0 hz1 .i64 .i64 _ _ (rgD rs k).length rfl rfl rfl rfl (by rw [hz2]; omega) (by simp only [maxLen]; omega) hH ?_; intro w2 hown2 hg2; have hb2' : Below wr.heap.size wr w2 := below_grown (Below.refl _ _) hg2 (fun b e => by cases e); have hcx := cell_below hb2' hc; have hfx : w2.frozen? ⟨gR, k, none⟩ = false := (hb2'.frozen (p := ⟨gR, k, none⟩) hgs).trans hfz; obtain ⟨cur, hcur, hcsz⟩ := own_cells hown2; have hcu2 : (w2.setCell ⟨gR, k, none⟩ (.slice (some ⟨wr.heap.size, 0, none⟩) (rgD rs k).length (rgD rs k).length)).heap[wr.heap.size]? = some (.cells cur 39 (0, 0)) := (Below.heap_setCell w2 _ _ _ (by simp; omega)).trans hcur; have HCU := Lib.hid hcu2; have HG2 := Lib.hid hg2; clear hown2 hcur hcu2) | (with_reducible show wpList _ _ _ ({ dst := _, op := Op.call { callee := Callee.builtin Builtin.copy, args := _, argTypes := _ }, type := _, pos := _, after := _, guard := _ } :: _) _ _; refine wpList_copyT Ty.pt (W := w2.setCell ⟨gR, k, none⟩ (.slice (some ⟨wr.heap.size, 0, none⟩) (rgD rs k).length (rgD rs k).length)) rfl _ _ 32 32 39 rfl Try.underlying32 infoPt_size wr.heap.size (rgD rs k).length _ _ _ A0 rfl rfl rfl cur 39 HCU.out (rgD rs k) rfl _ (R1_copy R0.out HG2.out) (fun h => absurd h.1 (Nat.lt_irrefl _)) (by rw [hcsz]; exact pt_fit) ?_; intro w3 hk3 hs3 hr3))
        clear hcx hfx hfz hc
        obtain ⟨hL3, hK3, hc3, hrow3⟩ := HL.out.copy hlt HG2.out rfl hk3 _ hr3 rfl (Nat.le_refl _)
        have HL3 := Lib.hid hL3
        have HROW := Lib.hid hrow3
        have R3 : Hid (Row Ty.pt (fun k_1 => k_1 < wr.heap.size) w3 A0 (rgD rs k)) := (R0.out.step (fun b hb1 hb2 => hK3.block b hb2 (fun e => hb1.1 (by rw [e]; exact .inl rfl)))).mono (fun b hb => hb.2)
        have hb3 : Below w.heap.size w w3 := below_kept hb hK3 (fun b e => by omega)
        clear hL3 hrow3 hk3 hr3 hs3 hb2' HCU HG2 hK3
        (refine (poly_Area2 (rgD rs k) _ _ _ _ R3.out rfl (by omega)).mono ?_; rintro e w4 ⟨rfl, hb4⟩)
        have hc4 := cell_below hb4 hc3
        have B4 : Below w.heap.size w w4 := (by repeat (first | exact Below.refl _ _ | apply below_alloc | apply below_drewN | apply below_drew | (refine below_set2 ?_ ?_; (first | (simp; done) | (simp; omega))) | (refine below_step ?_ hb4) | (refine below_step ?_ hb3)))
        have HL4 := Lib.hid (HL3.out.below hb4)
        by_cases h0 : area2 (rgD rs k) = 0
        · have q0 : (area2 (rgD rs k) == 0) = true := by simp [h0]
          have HP := Lib.hid (polys_err hlt HE.out (err_empty h3 h0))
          go_wp2
          go_ret2
          exact ⟨none, 0, by rw [HP.out]; rfl, by rw [HP.out]; exact Row.nil _ _ _ _, B4⟩
        · have q0 : (area2 (rgD rs k) == 0) = false := by simp [h0]
          have HE1 := Lib.hid ((err_snoc hlt HE.out).trans (err_none h3 h0))
          by_cases hg : 0 < area2 (rgD rs k)
          · have qg : decide (0 < area2 (rgD rs k)) = true := decide_eq_true hg
            have HG := Lib.hid (outers_good hlt hg)
            have hlen := outersN hS1 k
            have hgc4 := HL4.out.cell.cell
            have hsz4 := B4.size
            have HL5 := Lib.hid (HL4.out.below (below_drew (Below.refl _ _)))
            have R5 : Hid (Ty.outer.R (fun k => ¬ ((Value.slice (some ⟨gR, 0, none⟩) rs.length cc).ownBlock = some k ∨ k = gc ∨ vo.ownBlock = some k)) w4.drew (rgD rs k) [.slice (some ⟨wr.heap.size, 0, none⟩) (rgD rs k).length (rgD rs k).length, .slice none 0 0]) := outerR (Nat.le_refl _) ((HROW.out.below hb4).below (below_drew (Below.refl _ _)))
            go_wp2_with fail
            refine start_ (n := 9) (S := fun w' => w'.cell? ⟨gc, 0, none⟩ = some vo ∧ w'.cell? ⟨gR, k, none⟩ = some (.slice (some ⟨wr.heap.size, 0, none⟩) (rgD rs k).length (rgD rs k).length)) (ds := [7, 8]) #[false, false, false, false, false, false, false, false, false] (by kernel_rfl) rfl rfl ⟨hgc4, hc4⟩ (fun hHeld => ?_)
            refine pure_ (i := 1) (N := some 43) (v := ?_) (a' := ?_) #[false, true, false, false, false, false, false, false, false] rfl rfl (by kernel_rfl) (fun _ _ _ h => h) (Or.inl ⟨by rfl, ?_⟩) ?_ ?_
            rotate_left
            · intro w'
              go_simp
              with_reducible rfl
            rotate_left
            · simp only [Act.put, List.setIfInBounds_toArray, List.set_cons_zero, List.set_cons_succ, i64_w, i32_w]
              rfl
            refine pure_ (i := 2) (N := some 44) (v := ?_) (a' := ?_) #[false, true, true, false, false, false, false, false, false] rfl rfl (by kernel_rfl) (fun _ _ _ h => h) (Or.inl ⟨by rfl, ?_⟩) ?_ ?_
            rotate_left
            · intro w'
              go_simp
              with_reducible rfl
            rotate_left
            · simp only [Act.put, List.setIfInBounds_toArray, List.set_cons_zero, List.set_cons_succ, i64_w, i32_w]
              rfl
            refine pure_ (i := 3) (N := some 45) (v := ?_) (a' := ?_) #[false, true, true, true, false, false, false, false, false] rfl rfl (by kernel_rfl) (fun _ _ _ h => h) (Or.inl ⟨by rfl, ?_⟩) ?_ ?_
            rotate_left
            · intro w'
              go_simp
              with_reducible rfl
            rotate_left
            · simp only [Act.put, List.setIfInBounds_toArray, List.set_cons_zero, List.set_cons_succ, i64_w, i32_w]
              rfl
            refine take_ (i := 0) (N := some 42) (v := ?_) (a' := ?_) #[true, true, true, true, false, false, false, false, false] rfl rfl (by kernel_rfl) (fun _ _ _ h => h) (Or.inl ⟨by rfl, ?_⟩) hHeld ?_ ?_
            rotate_left
            · rintro w' ⟨s0, s1⟩
              go_simp
              with_reducible rfl
            rotate_left
            · simp only [Act.put, List.setIfInBounds_toArray, List.set_cons_zero, List.set_cons_succ, i64_w, i32_w]
              rfl
            refine take_ (i := 4) (N := some 46) (v := ?_) (a' := ?_) #[true, true, true, true, true, false, false, false, false] rfl rfl (by kernel_rfl) (fun _ _ _ h => h) (Or.inl ⟨by rfl, ?_⟩) hHeld ?_ ?_
            rotate_left
            · rintro w' ⟨s0, s1⟩
              go_simp
              with_reducible rfl
            rotate_left
            · simp only [Act.put, List.setIfInBounds_toArray, List.set_cons_zero, List.set_cons_succ, i64_w, i32_w]
              rfl
            refine pure_ (i := 5) (N := some 47) (v := ?_) (a' := ?_) #[true, true, true, true, true, true, false, false, false] rfl rfl (by kernel_rfl) (fun _ _ _ h => h) (Or.inl ⟨by rfl, ?_⟩) ?_ ?_
            rotate_left
            · intro w'
              go_simp
              with_reducible rfl
            rotate_left
            · simp only [Act.put, List.setIfInBounds_toArray, List.set_cons_zero, List.set_cons_succ, i64_w, i32_w]
              rfl
            refine one_ (i := 6) (N := some 48) #[true, true, true, true, true, true, true, false, false] rfl rfl (by kernel_rfl) (by decide) (fun K hK => ?_)
            refine value_ (w1 := ?_) (v := ?_) (by rfl) rfl ?_ ?_
            rotate_left 2
            · go_simp
              constructor
              · rfl
              · rfl
            refine hK.out _ _ ⟨cell_below (below_alloc (below_drew (Below.refl _ _)) _) hgc4, cell_below (below_alloc (below_drew (Below.refl _ _)) _) hc4⟩ (fun hHeld => ?_)
            clear hK K
            refine norm_ (a' := ?_) ?_ ?_
            rotate_left
            · show Act.put _ (some 48) _ = _
              simp only [Act.put, List.setIfInBounds_toArray, List.set_cons_zero, List.set_cons_succ, i64_w, i32_w]
              rfl
            refine last_ (i := 7) (N := some 49) #[true, true, true, true, true, true, true, true, false] rfl rfl (by kernel_rfl) (by decide) (fun K hK => ?_)
            refine step_one Ty.outer (W := w4.drew) w.heap.size rfl (.tmp 42) (.tmp 48) 25 44 _ 48 rfl Try.underlying25 infoPoly rfl (by decide) vo (outersR (rs.take k)) (rgD rs k) [.slice (some ⟨wr.heap.size, 0, none⟩) (rgD rs k).length (rgD rs k).length, .slice none 0 0] _ rfl rfl (by simp) R5.out HL5.out.outs hsz4 hlen ?_
            intro v1 w5 HO1 hg1 hat1
            obtain ⟨Av, nv, cv, rfl⟩ : ∃ Av nv cv, v1 = .slice Av nv cv := by obtain ⟨Av, cv, e, _⟩ := OwnR.reads HO1; exact ⟨_, _, _, e⟩
            obtain ⟨hP, hKP, hC5⟩ := HL5.out.push HO1 hg1 hat1
            have hcur := hC5.cell
            have hfro := hC5.free
            refine hK.out _ _ ?_
            clear hK K
            refine norm_ (a' := ?_) ?_ ?_
            rotate_left
            · show Act.put _ (some 49) _ = _
              simp only [Act.put, List.setIfInBounds_toArray, List.set_cons_zero, List.set_cons_succ, i64_w, i32_w]
              rfl
            refine last_ (i := 8) (N := none) #[true, true, true, true, true, true, true, true, true] rfl rfl (by kernel_rfl) (by decide) (fun K hK => ?_)
            refine skip_ (w1 := ?_) (by rfl) rfl ?_ ?_
            rotate_left
            · go_simp
              rfl
            refine hK.out _ _ ?_
            clear hK K
            refine done_ (by kernel_rfl) ?_
            have HLP := Lib.hid hP
            have B5 : Below w.heap.size w (w5.setCell ⟨gc, 0, none⟩ (.slice Av nv cv)) := below_kept (below_drew B4) hKP (fun b e => by rcases e with e | e; rw [e]; exact HL5.out.lo; exact (HL5.out.outs.lt b e).1)
            clear hP hKP hC5 hcur hfro HO1 hg1 hat1
            go_wp2
            go_roundw
            case rel => exact ⟨k + 1, by omega, by go_num, B5, HE1, _, by have := HLP.out; rwa [← HG.out] at this⟩
            case measure => simp [intOf]; omega
          · have qg : decide (0 < area2 (rgD rs k)) = false := decide_eq_false hg
            have HG := Lib.hid (outers_bad hlt hg)
            go_wp2
            go_roundw
            case rel => exact ⟨k + 1, by omega, by go_num, B4, HE1, vo, by have := HL4.out; rwa [← HG.out] at this⟩
            case measure => simp [intOf]; omega
    · obtain rfl : k = rs.length := by omega
      obtain ⟨os, hos⟩ : ∃ os, os = outersR rs := ⟨_, rfl⟩
      have hL := HL.out
      have hE := HE.out
      rw [List.take_length] at hL hE
      rw [← hos] at hL
      obtain ⟨Ao, co, rfl, hlco, hP, hAo⟩ := PolyOwn.start (e := 32) hL.outs
      have HRC := Lib.hid (hL.done rfl)
      have HCell := Lib.hid hL.cell
      have HNE : Hid (∀ a, Ao = some a → gc ≠ a.block) := fun a e h => hL.ne2 (by rw [e, h]; rfl)
      have HE0 := Lib.hid hE
      have HP := Lib.hid hP
      have HOS := Lib.hid hos
      have HAo : Hid (0 < os.length → ∃ g, Ao = some ⟨g, 0, none⟩ ∧ w.heap.size ≤ g ∧ g < wr.heap.size) := fun h => by obtain ⟨g, h1, h2, h3, _⟩ := hAo h; exact ⟨g, h1, h2, h3⟩
      have hon : os.length ≤ 12 := by rw [hos]; have := outers_le rs rs.length; rw [List.take_length] at this; omega
      have H30 : Hid (∀ k, (rgD os k).length ≤ 30) := by rw [hos]; exact rgD_outer HS2.out
      clear hL hE hP HL HE hAo hos HL1
      go_wp2_with fail
      obtain ⟨wo, rfl⟩ : ∃ wo : World, wo = wr := ⟨_, rfl⟩
      have hwo := hb.size
      go_loopw [54] (fun i wr => ∃ k : Nat, k ≤ rs.length ∧ i = .int .i64 k ∧ Below w.heap.size w wr ∧ KeptS (fun k => wo.heap.size ≤ k ∨ ∃ a, Ao = some a ∧ k = a.block) wo wr ∧ ∃ l, Hid (assignP os (rs.take k) = some l) ∧ Hid (PolyOwn 32 wo.heap.size Ao wr l)) (fun i _ => rs.length - (intOf i).toNat)
      case atStart => exact ⟨0, Nat.zero_le _, rfl, hb, kept_refl _ _, startP os, rfl, HP.out⟩
      case round =>
        obtain ⟨k, hk, rfl, hb', hkt, l, HL, HPl⟩ := hrel
        have HRw : Hid (Row Ty.ring (fun k => k < wo.heap.size ∧ ∀ a, Ao = some a → k ≠ a.block) wr Ac rs) := HRC.out.step (fun b hb _ => hkt.block b hb.1 (fun hs => by rcases hs with h | ⟨a, e, h⟩; omega; exact hb.2 a e h))
        have HCw : Hid (OneC wr gc 25 (.slice Ao os.length co)) := HCell.out.kept hkt (fun hs => by rcases hs with h | ⟨a, e, h⟩; have := HCell.out.lt; omega; exact HNE.out a e h)
        by_cases hlt : k < rs.length
        · obtain ⟨ad, A0, c0, rfl, hc, hl0, hrow⟩ := HRw.out.ring_at k hlt
          have R0 := Lib.hid hrow
          have h30 := HS2.out k
          clear hrow
          go_wp2_with fail
          (refine (poly_Area2 (rgD rs k) _ _ _ _ R0.out rfl (by omega)).mono ?_; rintro e w1 ⟨rfl, hb1⟩)
          have B1 : Below w.heap.size w w1 := (by repeat (first | exact Below.refl _ _ | apply below_alloc | apply below_drewN | apply below_drew | (refine below_set2 ?_ ?_; (first | (simp; done) | (simp; omega))) | (refine below_step ?_ hb1) | (refine below_step ?_ hb')))
          have K1 := kept_below hkt hb1
          have HP1 := Lib.hid (HPl.out.below hb1)
          by_cases hg : 0 < area2 (rgD rs k)
          · have qg : decide (0 < area2 (rgD rs k)) = true := decide_eq_true hg
            have HL1 := Lib.hid (step_good hlt HL.out hg)
            go_wp2
            go_roundw
            case rel => exact ⟨k + 1, by omega, by go_num, B1, K1, l, HL1, HP1⟩
            case measure => simp [intOf]; omega
          · have qg : decide (0 < area2 (rgD rs k)) = false := decide_eq_false hg
            have HG := Lib.hid hg
            clear hg
            have HF := Lib.hid (assign_inv HL.out).1
            have HH : Hid (Row Ty.half (fun k => k < wo.heap.size) w1 Ao os) := by have := HP1.out.half; rwa [HF.out] at this
            have R1 := Lib.hid (R0.out.below hb1)
            have HC1 := Lib.hid (HCw.out.below hb1)
            clear hc R0
            go_wp2_with fail
            refine (nestParent (rgD rs k) os _ _ _ _ _ _ _ _ R1.out rfl HH.out rfl HC1.out hon H30.out).mono ?_
            rintro e w2 ⟨rfl, hb2⟩
            obtain ⟨z, hz⟩ : ∃ z, z = bestOf os (rgD rs k) := ⟨_, rfl⟩
            rw [← hz]
            have hzlo : -1 ≤ z := by rw [hz]; exact bestTo_lo _ _ _
            have hzhi : z < (os.length : Int) := by rw [hz]; exact bestTo_hi _ _ _
            have HB := Lib.hid hz
            clear hz
            have B2 : Below w.heap.size w w2 := (by repeat (first | exact Below.refl _ _ | apply below_alloc | apply below_drewN | apply below_drew | (refine below_set2 ?_ ?_; (first | (simp; done) | (simp; omega))) | (refine below_step ?_ hb2) | (refine below_step ?_ B1)))
            by_cases hz0 : z < 0
            · have qz : decide (z < 0) = true := decide_eq_true hz0
              have HPR := Lib.hid (polys_open (k := k + 1) HE0.out (by rw [← HOS.out]; exact step_open hlt HL.out (by have := HG.out; omega) (by rw [← HB.out]; exact hz0)))
              go_wp2
              go_ret2
              exact ⟨none, 0, by rw [HPR.out]; rfl, by rw [HPR.out]; exact Row.nil _ _ _ _, B2⟩
            · obtain ⟨b, rfl⟩ : ∃ b : Nat, z = (b : Int) := ⟨z.toNat, by omega⟩
              have qz : decide ((b : Int) < 0) = false := decide_eq_false (by omega)
              have hbm : b < os.length := by omega
              have hll : l.length = os.length := by rw [← HF.out, List.length_map]
              have HN := Lib.hid (step_hole hlt HL.out (by have := HG.out; omega) HB.out.symm)
              obtain ⟨gA, hAe, hgw, hgo⟩ := HAo.out (by omega)
              have hP3 := (HP1.out.below hb2).below (below_drew (Below.refl _ _))
              obtain ⟨g, v, hA2, hgB, hfz, hcv, hov, hcont⟩ := hP3.hole (i := b) (by omega)
              rw [hAe] at hA2
              injection hA2 with hA2
              injection hA2 with hA2 _
              subst hA2 hAe
              have HC := Lib.hid hcont
              have HV := Lib.hid hov
              have hsz := hP3.1
              have hgc2 := cell_below hb2 HC1.out.cell
              have hgcB := HCell.out.lt
              have K2 := kept_below K1 hb2
              have hhl : ((pyD l b).2.length + 1) * 24 ≤ 140737488355328 := by
                have h1 := holes_le l b
                have h2 := (assign_inv HL.out).2
                omega
              have RR : Hid (Ty.ring.R (fun k => ¬ (k = gA ∨ wo.heap.size ≤ k)) w2.drew (rgD rs k) [.slice A0 (rgD rs k).length c0]) := ringR hl0 (((R1.out.below hb2).below (below_drew (Below.refl _ _))).mono (fun j hj hm => by rcases hm with hm | hm; exact hj.2 _ rfl hm; omega))
              clear hcont hov hP3
              go_wp2_with fail
              refine start_ (n := 13) (S := fun w' => w'.cell? ⟨gc, 0, none⟩ = some (.slice (some ⟨gA, 0, none⟩) os.length co) ∧ w'.cell? ⟨gA, b * 2 + 1, none⟩ = some v) (ds := [12]) #[false, false, false, false, false, false, false, false, false, false, false, false, false] (by kernel_rfl) rfl rfl ⟨hgc2, hcv⟩ (fun hHeld => ?_)
              refine pure_ (i := 1) (N := some 67) (v := ?_) (a' := ?_) #[false, true, false, false, false, false, false, false, false, false, false, false, false] rfl rfl (by kernel_rfl) (fun _ _ _ h => h) (Or.inl ⟨by rfl, ?_⟩) ?_ ?_
              rotate_left
              · intro w'
                go_simp
                with_reducible rfl
              rotate_left
              · simp only [Act.put, List.setIfInBounds_toArray, List.set_cons_zero, List.set_cons_succ, i64_w, i32_w]
                rfl
              refine pure_ (i := 3) (N := some 69) (v := ?_) (a' := ?_) #[false, true, false, true, false, false, false, false, false, false, false, false, false] rfl rfl (by kernel_rfl) (fun _ _ _ h => h) (Or.inl ⟨by rfl, ?_⟩) ?_ ?_
              rotate_left
              · intro w'
                go_simp
                with_reducible rfl
              rotate_left
              · simp only [Act.put, List.setIfInBounds_toArray, List.set_cons_zero, List.set_cons_succ, i64_w, i32_w]
                rfl
              refine pure_ (i := 7) (N := some 73) (v := ?_) (a' := ?_) #[false, true, false, true, false, false, false, true, false, false, false, false, false] rfl rfl (by kernel_rfl) (fun _ _ _ h => h) (Or.inl ⟨by rfl, ?_⟩) ?_ ?_
              rotate_left
              · intro w'
                go_simp
                with_reducible rfl
              rotate_left
              · simp only [Act.put, List.setIfInBounds_toArray, List.set_cons_zero, List.set_cons_succ, i64_w, i32_w]
                rfl
              refine take_ (i := 0) (N := some 66) (v := ?_) (a' := ?_) #[true, true, false, true, false, false, false, true, false, false, false, false, false] rfl rfl (by kernel_rfl) (fun _ _ _ h => h) (Or.inl ⟨by rfl, ?_⟩) hHeld ?_ ?_
              rotate_left
              · rintro w' ⟨s0, s1⟩
                go_simp
                with_reducible rfl
              rotate_left
              · simp only [Act.put, List.setIfInBounds_toArray, List.set_cons_zero, List.set_cons_succ, i64_w, i32_w]
                rfl
              refine take_ (i := 2) (N := some 68) (v := ?_) (a' := ?_) #[true, true, true, true, false, false, false, true, false, false, false, false, false] rfl rfl (by kernel_rfl) (fun _ _ _ h => h) (Or.inl ⟨by rfl, ?_⟩) hHeld ?_ ?_
              rotate_left
              · rintro w' ⟨s0, s1⟩
                go_simp
                with_reducible rfl
              rotate_left
              · simp only [Act.put, List.setIfInBounds_toArray, List.set_cons_zero, List.set_cons_succ, i64_w, i32_w]
                rfl
              refine pure_ (i := 4) (N := some 70) (v := ?_) (a' := ?_) #[true, true, true, true, true, false, false, true, false, false, false, false, false] rfl rfl (by kernel_rfl) (fun _ _ _ h => h) (Or.inl ⟨by rfl, ?_⟩) ?_ ?_
              rotate_left
              · intro w'
                go_simp
                with_reducible rfl
              rotate_left
              · simp only [Act.put, List.setIfInBounds_toArray, List.set_cons_zero, List.set_cons_succ, i64_w, i32_w]
                rfl
              refine pure_ (i := 5) (N := some 71) (v := ?_) (a' := ?_) #[true, true, true, true, true, true, false, true, false, false, false, false, false] rfl rfl (by kernel_rfl) (fun _ _ _ h => h) (Or.inl ⟨by rfl, ?_⟩) ?_ ?_
              rotate_left
              · intro w'
                go_simp
                with_reducible rfl
              rotate_left
              · simp only [Act.put, List.setIfInBounds_toArray, List.set_cons_zero, List.set_cons_succ, i64_w, i32_w]
                rfl
              refine take_ (i := 6) (N := some 72) (v := ?_) (a' := ?_) #[true, true, true, true, true, true, true, true, false, false, false, false, false] rfl rfl (by kernel_rfl) (fun _ _ _ h => h) (Or.inl ⟨by rfl, ?_⟩) hHeld ?_ ?_
              rotate_left
              · rintro w' ⟨s0, s1⟩
                go_simp
                with_reducible rfl
              rotate_left
              · simp only [Act.put, List.setIfInBounds_toArray, List.set_cons_zero, List.set_cons_succ, i64_w, i32_w]
                rfl
              refine one_ (i := 8) (N := some 74) #[true, true, true, true, true, true, true, true, true, false, false, false, false] rfl rfl (by kernel_rfl) (by decide) (fun K hK => ?_)
              refine value_ (w1 := ?_) (v := ?_) (by rfl) rfl ?_ ?_
              rotate_left 2
              · go_simp
                constructor
                · rfl
                · rfl
              refine hK.out _ _ ⟨cell_below (below_alloc (below_drew (Below.refl _ _)) _) hgc2, cell_below (below_alloc (Below.refl _ _) _) hcv⟩ (fun hHeld => ?_)
              clear hK K
              refine norm_ (a' := ?_) ?_ ?_
              rotate_left
              · show Act.put _ (some 74) _ = _
                simp only [Act.put, List.setIfInBounds_toArray, List.set_cons_zero, List.set_cons_succ, i64_w, i32_w]
                rfl
              refine one_ (i := 9) (N := some 75) #[true, true, true, true, true, true, true, true, true, true, false, false, false] rfl rfl (by kernel_rfl) (by decide) (fun K hK => ?_)
              refine step_one Ty.ring (W := w2.drew) wo.heap.size rfl (.tmp 72) (.tmp 74) 22 32 _ 24 rfl Try.underlying22 infoRing rfl (by decide) v (pyD l b).2 (rgD rs k) [.slice A0 (rgD rs k).length c0] _ rfl rfl (by simp) RR.out HV.out hsz hhl ?_
              intro v1 w3 HO1 hg1 hat1
              obtain ⟨Av, nv, cv, rfl⟩ : ∃ Av nv cv, v1 = .slice Av nv cv := by obtain ⟨Av, cv, e, _⟩ := OwnR.reads HO1; exact ⟨_, _, _, e⟩
              obtain ⟨hcur, hfro, hone, hPn⟩ := HC.out _ w3 (rgD rs k) HO1 hg1 hat1
              refine hK.out _ _ ⟨hg1.cell (cell_below (below_drew (Below.refl _ _)) hgc2) (fun e => by have := (OwnR.lt HV.out _ e.symm).1; simp at this; omega), hcur⟩ (fun hHeld => ?_)
              clear hK K
              refine norm_ (a' := ?_) ?_ ?_
              rotate_left
              · show Act.put _ (some 75) _ = _
                simp only [Act.put, List.setIfInBounds_toArray, List.set_cons_zero, List.set_cons_succ, i64_w, i32_w]
                rfl
              refine pure_ (i := 10) (N := some 76) (v := ?_) (a' := ?_) #[true, true, true, true, true, true, true, true, true, true, true, false, false] rfl rfl (by kernel_rfl) (fun _ _ _ h => h) (Or.inl ⟨by rfl, ?_⟩) ?_ ?_
              rotate_left
              · intro w'
                go_simp
                with_reducible rfl
              rotate_left
              · simp only [Act.put, List.setIfInBounds_toArray, List.set_cons_zero, List.set_cons_succ, i64_w, i32_w]
                rfl
              refine pure_ (i := 11) (N := some 77) (v := ?_) (a' := ?_) #[true, true, true, true, true, true, true, true, true, true, true, true, false] rfl rfl (by kernel_rfl) (fun _ _ _ h => h) (Or.inl ⟨by rfl, ?_⟩) ?_ ?_
              rotate_left
              · intro w'
                go_simp
                with_reducible rfl
              rotate_left
              · simp only [Act.put, List.setIfInBounds_toArray, List.set_cons_zero, List.set_cons_succ, i64_w, i32_w]
                rfl
              refine last_ (i := 12) (N := none) #[true, true, true, true, true, true, true, true, true, true, true, true, true] rfl rfl (by kernel_rfl) (by decide) (fun K hK => ?_)
              refine skip_ (w1 := ?_) (by rfl) rfl ?_ ?_
              rotate_left
              · go_simp
                rfl
              refine hK.out _ _ ?_
              clear hK K
              refine done_ (by kernel_rfl) ?_
              have HPn := Lib.hid hPn
              have B3 : Below w.heap.size w (w3.setCell ⟨gA, b * 2 + 1, none⟩ (.slice Av nv cv)) := below_set2 hgw (below_grown (below_drew B2) hg1 (fun j e => by have := (OwnR.lt HV.out j e).1; omega))
              have K3 : KeptS (fun k => wo.heap.size ≤ k ∨ ∃ a, some (⟨gA, 0, none⟩ : Addr) = some a ∧ k = a.block) wo (w3.setCell ⟨gA, b * 2 + 1, none⟩ (.slice Av nv cv)) := kept_set (a := ⟨gA, b * 2 + 1, none⟩) (.inr ⟨_, rfl, rfl⟩) (kept_step (kept_drew K2) (kept_grown hg1 (fun j e => .inl (OwnR.lt HV.out j e).1)))
              clear hPn hcur hfro hone HO1 hg1 hat1
              go_wp2
              go_roundw
              case rel => exact ⟨k + 1, by omega, by go_num, B3, K3, addHole l b (rgD rs k), HN, HPn⟩
              case measure => simp [intOf]; omega
        · obtain rfl : k = rs.length := by omega
          have hL := HL.out
          rw [List.take_length, HOS.out] at hL
          have HPR := Lib.hid (polys_ok HE0.out hL)
          have hll : l.length = os.length := by rw [← (assign_inv HL.out).1, List.length_map]
          have HFu := Lib.hid HPl.out.full
          have hcell := HCw.out.cell
          clear hL
          go_wp2
          go_ret2
          exact ⟨Ao, co, by rw [HPR.out]; exact congrArg (fun q => Ending.returned (.tuple #[.slice Ao q co, .int .i64 0])) hll.symm, by rw [HPR.out]; exact HFu.out, hb'⟩
end Go.Proofs.Ytaphjehkpdjolaa
