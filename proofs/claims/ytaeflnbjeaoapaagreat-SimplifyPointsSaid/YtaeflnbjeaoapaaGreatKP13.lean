/- Contract of mesh.Build. Contract of mesh.bounds. Contracts of slices.EqualFunc at edges with mesh.Same's function value, and of mesh.Same. -/
import Derived.Test.YtaeflnbjeaoapaaGreatKPW
import Derived.Test.YtaeflnbjeaoapaaGreatKP9
import Derived.Test.YtaeflnbjeaoapaaGreatKP10
import Derived.Test.YtaeflnbjeaoapaaGreatKP11
import Derived.Test.YtaeflnbjeaoapaaGreatKP12
import Derived.Test.YtaeflnbjeaoapaaGreatKP4
namespace Go.Proofs.YtaeflnbjeaoapaaGreat
set_option linter.unusedVariables false
set_option linter.unusedSimpArgs false
section
open Go.RowKit Go.Proofs.YtaeflnbjeaoapaaGreatW.PrintLast

attribute [local go_sem high] eqPt eqSg
def errF (e c : Int) : Int := if e ≠ 0 then e else if c ≠ 0 ∧ c ≠ 15 then c else 0
theorem err_stay : ∀ (cs : List Int) (e : Int), e ≠ 0 → cs.foldl errF e = e
 | [], e, _ => rfl
 | c :: cs, e, h => by rw [List.foldl_cons, show errF e c = e from if_pos h]; exact err_stay cs e h
theorem buildE_eq (l : List Sgs) : buildE l = (l.map checkZ).foldl errF 0 := rfl
theorem buildE_snoc (l : List Sgs) (k : Nat) (h : k < l.length) : buildE (l.take (k + 1)) = errF (buildE (l.take k)) (checkZ (ssD l k)) := by
 rw [buildE_eq, buildE_eq, take_snoc l k [] h, List.map_append, List.foldl_append]; rfl
theorem buildE_hit (l : List Sgs) (k : Nat) (h : k < l.length) (h0 : buildE (l.take k) = 0) (h1 : checkZ (ssD l k) ≠ 0) (h2 : checkZ (ssD l k) ≠ 15) : buildE l = checkZ (ssD l k) := by
 have e1 := buildE_snoc l k h
 rw [h0] at e1
 have e2 : errF 0 (checkZ (ssD l k)) = checkZ (ssD l k) := by unfold errF; rw [if_neg (fun h => h rfl), if_pos ⟨h1, h2⟩]
 rw [e2, buildE_eq] at e1
 rw [buildE_eq]
 conv => lhs; rw [← List.take_append_drop (k + 1) l]
 rw [List.map_append, List.foldl_append, e1]
 exact err_stay _ _ h1
theorem buildE_pass (l : List Sgs) (k : Nat) (h : k < l.length) (h0 : buildE (l.take k) = 0) (h1 : checkZ (ssD l k) = 0 ∨ checkZ (ssD l k) = 15) : buildE (l.take (k + 1)) = 0 := by
 rw [buildE_snoc l k h, h0]; unfold errF; rcases h1 with h1 | h1 <;> rw [h1] <;> rfl
theorem own_step (l : List Sgs) (k : Nat) (h : k < l.length) : ((l.take k).map uniqZ ++ List.replicate (l.length - k) []).set k (uniqZ (ssD l k)) = (l.take (k + 1)).map uniqZ ++ List.replicate (l.length - (k + 1)) [] := by
 have hl : ((l.take k).map uniqZ).length = k := by rw [List.length_map, List.length_take]; omega
 rw [take_snoc l k [] h, List.map_append, List.append_assoc, List.set_append_right _ _ (by omega), hl, Nat.sub_self, show l.length - k = (l.length - (k + 1)) + 1 by omega, List.replicate_succ]
 rfl
theorem own_len1 (l : List Sgs) (k : Nat) (h : k ≤ l.length) : ((l.take k).map uniqZ ++ List.replicate (l.length - k) ([] : Sgs)).length = l.length := by
 rw [List.length_append, List.length_map, List.length_take, List.length_replicate]; omega
theorem flat_step (l : List Sgs) (k : Nat) (h : k < l.length) : (l.take (k + 1)).flatMap uniqZ = (l.take k).flatMap uniqZ ++ uniqZ (ssD l k) := by
 rw [take_snoc l k [] h, List.flatMap_append]; simp [ssD]
theorem flat_take (l : List Sgs) (k : Nat) : ((l.take k).flatMap uniqZ).length ≤ (l.flatMap uniqZ).length := by
 conv => rhs; rw [← List.take_append_drop k l]
 rw [List.flatMap_append, List.length_append]; exact Nat.le_add_right _ _
theorem uniq_idemC (l : Sgs) : uniqZ (uniqZ l) = uniqZ l := inc_unique totS (fun x => by rw [mem_uniqC, canon_self (fun s hs => canon_own (mem_uniqC.1 hs))]) (uniq_incC _) (uniq_incC _)
theorem split_lenB (l : Sgs) (h : l.length ≤ 900) : (splitZ l).length ≤ 1620900 := by
 rw [split_eq]
 have h1 := parts_len (endsZ l) (canonZ l) (canonZ l).length
 rw [List.take_length] at h1
 have h2 := canon_le l
 have h3 := ends_len l
 have h4 := canon_le (partsZ (endsZ l) (canonZ l))
 have h5 := sortG_len (less := lessS) (canonZ (partsZ (endsZ l) (canonZ l)))
 refine Nat.le_trans (Nat.le_of_eq h5) (Nat.le_trans h4 (parts_le (a := (canonZ l).length) (b := (endsZ l).length) (by omega) (by omega) h1))
theorem filt_snoc (f : Nat → Bool) (j : Nat) : ((List.range (j + 1)).filter f).map (fun i : Nat => (i : Int)) = ((List.range j).filter f).map (fun i : Nat => (i : Int)) ++ if f j = true then [(j : Int)] else [] := by
 cases h : f j <;> simp [List.range_succ, List.filter_append, h]
def sideP (own : List Sgs) (s : Sg) (left : Bool) (j : Nat) : List Int := ((List.range j).filter fun i : Nat => if left then (sidesM (own.getD i []) s).1 else (sidesM (own.getD i []) s).2).map fun i : Nat => (i : Int)
theorem sideP_succ (own : List Sgs) (s : Sg) (j : Nat) : sideP own s true (j + 1) = sideP own s true j ++ (if (sidesM (ssD own j) s).1 = true then [(j : Int)] else []) ∧ sideP own s false (j + 1) = sideP own s false j ++ (if (sidesM (ssD own j) s).2 = true then [(j : Int)] else []) :=
 ⟨filt_snoc (fun i : Nat => if true then (sidesM (own.getD i []) s).1 else (sidesM (own.getD i []) s).2) j, filt_snoc (fun i : Nat => if false then (sidesM (own.getD i []) s).1 else (sidesM (own.getD i []) s).2) j⟩
theorem sideP_all (own : List Sgs) (s : Sg) (left : Bool) : sideL own s left = sideP own s left own.length := rfl
theorem sideP_len (own : List Sgs) (s : Sg) (left : Bool) (j : Nat) : (sideP own s left j).length ≤ j := by
 unfold sideP; rw [List.length_map]; exact Nat.le_trans (List.length_filter_le _ _) (by rw [List.length_range]; exact Nat.le_refl _)
theorem own_form {α : Type} {T : Ty α} {e : TypeId} {base : Nat} {M : Nat → Prop} {w : World} {v : Value} {xs : List α} (h : OwnR T e base M w v xs) : ∃ A n c, v = .slice A n c := by
 obtain ⟨A, c, e, _⟩ := OwnR.reads h
 exact ⟨A, _, c, e⟩
/-- What an append to one of two rows of numbers and the store behind it leave. -/
theorem push_side {E base i : Nat} {w2 w3 : World} {V V' U : Value} {L L' R : List Int} {M : Nat → Prop} {o : Obj} (hE : w2.heap[E]? = some o) (hEb : E < base) (HV : Own1 Ty.i64 3 base w2 V L) (HU : Own1 Ty.i64 3 base w2 U R) (hd : ∀ b, V.ownBlock = some b → ¬ U.ownBlock = some b)
  (HO1 : OwnR Ty.i64 3 base M w3 V' L') (hg1 : w2.grownBy w3 V.ownBlock) (hat : V'.ownBlock = V.ownBlock ∨ ∃ b, V'.ownBlock = some b ∧ w2.heap.size ≤ b) :
  w3.heap[E]? = some o ∧ Own1 Ty.i64 3 base (w3.setCell ⟨E, i, none⟩ V') V' L' ∧ Own1 Ty.i64 3 base (w3.setCell ⟨E, i, none⟩ V') U R ∧ (∀ b, V'.ownBlock = some b → ¬ U.ownBlock = some b) ∧ KeptS (fun b => V.ownBlock = some b ∨ b = E) w2 (w3.setCell ⟨E, i, none⟩ V') := by
 have k1 : KeptS (fun b => V.ownBlock = some b) w2 w3 := kept_grown hg1 (fun b e => e)
 have k2 : KeptS (fun b => b = E) w3 (w3.setCell ⟨E, i, none⟩ V') := kept_set rfl (kept_refl _ _)
 refine ⟨(k1.block E (lt_of_block hE) (fun h => by have := (OwnR.lt HV E h).1; omega)).trans hE, (Own1.of HO1).flat_kept int_flat k2 (fun b hb e => by have := (OwnR.lt HO1 b hb).1; omega), (HU.flat_kept int_flat k1 (fun b hb h => hd b h hb)).flat_kept int_flat k2 (fun b hb e => by have := (OwnR.lt HU b hb).1; omega), ?_, ?_⟩
 ·intro b hb hu
  rcases hat with hat | ⟨b', hb', hle⟩
  ·exact hd b (hat ▸ hb) hu
  ·rw [hb'] at hb; injection hb with hb; have := (OwnR.lt HU b hu).2; omega
 ·exact kept_step (kept_mono k1 (fun b _ h => .inl h)) (kept_mono k2 (fun b _ h => .inr h))
def BuildR (w : World) (e : Ending) (r : Msh × Int) : Prop := ∃ A c, e = .returned (.tuple #[.slice A r.1.length c, .int .i64 r.2]) ∧ Row Ty.edge (fun _ => True) w A r.1
set_option maxRecDepth 100000 in
set_option maxHeartbeats 4000000 in
theorem mesh_Build {ok : Nat → Prop} (l : List Sgs) (A : Option Addr) (n c : Nat) (w : World) (hr : Row Ty.segs ok w A l) (hn : n = l.length) (hlen : l.length ≤ 1000) (hl6 : ∀ o ∈ l, o.length ≤ 600) (hall : (l.flatMap uniqZ).length ≤ 900) (hnode : (nodeZ l).length ≤ 600) :
  Calls Tryz.prog 25 #[.slice A n c] w fun e w' => BuildR w' e (buildZ l) ∧ Below w.heap.size w w' := by
 subst hn
 have HR := Lib.hid hr
 have H6 := Lib.hid hl6
 have hmx := hr.len
 have HBE : Hid (buildE l ≠ 0 → buildZ l = ([], buildE l)) := Lib.hid (fun h => by unfold buildZ; rw [if_neg (by omega), if_pos h])
 have HBX : Hid (buildE l = 0 → crossZs (nodeZ l) ≠ [] → buildZ l = ([], 13)) := Lib.hid (fun h h2 => by unfold buildZ; rw [if_neg (by omega), if_neg (by simp [h]), if_pos h2])
 have HBO : Hid (buildE l = 0 → crossZs (nodeZ l) = [] → buildZ l = ((nodeZ l).map fun s => (s, (sideL (l.map uniqZ) s true, sideL (l.map uniqZ) s false)), 0)) := Lib.hid (fun h h2 => by unfold buildZ; rw [if_neg (by omega), if_neg (by simp [h]), if_neg (by simp [h2])])
 clear hr hl6
 obtain ⟨w1, hmk, HO, hb1, hs1⟩ := made_segs w l.length (by omega)
 have hgt : decide ((l.length : Int) > 20000) = false := decide_eq_false (by omega)
 have hgt2 : decide (20000 < (l.length : Int)) = false := decide_eq_false (by omega)
 have HO := Lib.hid HO
 have hgz : w.heap.size < w1.heap.size := by omega
 go_enter Tryz.func25, Tryz.ntmps25
 go_wp2
 go_loopw [4, 25] (fun v i wr => ∃ (k : Nat) (M : Nat → Prop), k ≤ l.length ∧ i = .int .i64 k ∧ Hid (Below w.heap.size w wr) ∧ w.heap.size < wr.heap.size ∧ Hid (∀ j, M j → w.heap.size ≤ j ∧ j < wr.heap.size) ∧ Hid (OwnR Ty.segs 46 w.heap.size M wr (.slice (some ⟨w.heap.size, 0, none⟩) l.length l.length) ((l.take k).map uniqZ ++ List.replicate (l.length - k) [])) ∧ Hid (OwnR Ty.sg 48 w.heap.size M wr v ((l.take k).flatMap uniqZ)) ∧ Hid (buildE (l.take k) = 0)) (fun _ i _ => l.length - (intOf i).toNat)
 case atStart => exact ⟨0, fun k => k = w.heap.size, Nat.zero_le _, rfl, hb1, hgz, fun j hj => by subst hj; exact ⟨Nat.le_refl _, hgz⟩, Lib.hid (by simpa using HO.out), OwnR.nil _ _ _ _ _, rfl⟩
 case round =>
  obtain ⟨k, M, hk, rfl, HB, hgr, HM, HOw, HAl, HE⟩ := hrel
  clear HO hgz hs1 hb1 hmk
  by_cases hlt : k < l.length
  ·have hbw := HB.out.size
   obtain ⟨ad, B, d, rfl, hx0, hdl, hrs⟩ := (HR.out.below HB.out).segs_at k hlt
   have HRS := Lib.hid hrs
   have hl6 : (ssD l k).length ≤ 600 := H6.out _ (by rw [ssD_eq hlt]; exact List.getElem_mem _)
   have HHIT := Lib.hid (buildE_hit l k hlt HE.out)
   have HPASS := Lib.hid (buildE_pass l k hlt HE.out)
   have HOS := Lib.hid (own_step l k hlt)
   have HFS := Lib.hid (flat_step l k hlt)
   have hft := flat_take l k
   have CC := Lib.hid (trace_Check (ssD l k) B _ d wr HRS.out rfl hl6)
   generalize hseg : ssD l k = sg at *
   have CU := Lib.hid (fun W (hb : Below wr.heap.size wr W) => noding_Unique sg B sg.length d W (HRS.out.below hb) rfl (by omega))
   clear hrs HE
   generalize checkZ sg = ck at *
   have ownL := own_len1 l k hk
   generalize (l.take k).map uniqZ ++ List.replicate (l.length - k) ([] : Sgs) = ow at *
   generalize (l.take k).flatMap uniqZ = al at *
   generalize uniqZ sg = us at *
   by_cases hpass : ck = 0 ∨ ck = 15
   ·have HP := Lib.hid (HPASS.out hpass)
    have q1 : (ck != 0) = false ∨ (ck != 15) = false := by rcases hpass with h | h <;> simp [h]
    clear HHIT HPASS
    go_wp2_with fail
    refine CC.out.mono ?_
    rintro e w2 ⟨rfl, hb2⟩
    have CU2 := Lib.hid (CU.out _ hb2)
    clear CC CU hx0
    have HOw2 := Lib.hid (HOw.out.below hb2)
    have HAl2 := Lib.hid (HAl.out.below hb2)
    have hs2 := hb2.size
    have HB2 := Lib.hid (below_step HB.out hb2)
    clear HB HOw HAl hb2
    have tailR : True := trivial
    rcases hpass with rfl | rfl
    ·go_wp2_with fail
     refine CU2.out.mono ?_
     rintro e w3 ⟨u, rfl, HU, hb3⟩
     obtain ⟨Au, cu, rfl, hul, hur⟩ := OwnR.rowB sg_flat HU (fun j => ¬ M j) (fun b hb => by have h1 := (OwnR.lt HU b hb).1; exact fun hm => by have := (HM.out b hm).2; omega)
     have HOw3 := HOw2.out.below hb3
     have HAl3 := HAl2.out.below hb3
     obtain ⟨_, _, hMG, cur, hcur, hcz⟩ := OwnR.blkB HOw3
     have hks : k < cur.size := by rw [hcz]; show k < l.length * 1; omega
     have hcell := blk_cell hcur k (v := cur[k]) (by simp [hks])
     have hfree := blk_free hcur k
     have hs3 := hb3.size
     obtain ⟨HOw4, hk4⟩ := OwnR.set1 (T := Ty.segs) rfl HOw3 ownL.symm k (y := us) (V := .slice Au us.length cu) ⟨Au, cu, rfl, hul, hur⟩
     have hne : (48 : Nat) ≠ 46 := by decide
     have HAl4 := Lib.hid (HAl3.kept (S := fun b => b = w.heap.size) hk4 (fun b e => e ▸ hMG) (fun b hb e => (HAl3.apart HOw3 hne hb) (by rw [e]; rfl)))
     have HUR4 := Lib.hid (hur.step (fun j hj hl => hk4.block j hl (fun e => hj (e ▸ hMG))))
     have HB4 := Lib.hid (below_kept (below_step HB2.out hb3) hk4 (fun b e => by omega))
     have HOw4 := Lib.hid HOw4
     have hlen5 : (al.length + us.length) * 32 ≤ 140737488355328 := by have h1 := flat_take l (k + 1); rw [HFS.out, List.length_append] at h1; omega
     clear hb3 HU hur HOw3 HAl3 hk4 hcur HOw2 HAl2 HB2 CU2
     go_wp2_with (at_builtin; refine app_row Ty.sg (W := w3.setCell ⟨w.heap.size, k, none⟩ (.slice Au us.length cu)) w.heap.size rfl _ _ 46 48 _ 32 rfl Tryz.underlying46 infoSg rfl (by decide) _ al us Au _ cu _ rfl rfl rfl HUR4.out HAl4.out (by simp; omega) hlen5 ?_; intro v1 w5 HO1 hg1 hat1)
     have HOw5 := Lib.hid (HAl4.out.beside HOw4.out hne hg1 hat1)
     have hs5 := hg1.size
     simp at hs5
     have HB5 := Lib.hid (below_kept HB4.out (kept_grown hg1 (fun b e => e)) (fun b hb => (HM.out b (HAl4.out.mine b hb)).1))
     have HM5 : Hid (∀ j, (M j ∨ v1.ownBlock = some j) → w.heap.size ≤ j ∧ j < w5.heap.size) := Lib.hid (fun j hj => hj.elim (fun h => ⟨(HM.out j h).1, by have := (HM.out j h).2; omega⟩) (fun h => OwnR.lt HO1 j h))
     have HO1 := Lib.hid HO1
     clear hg1 hat1 HAl4 HUR4 HB4 HOw4 hcell hfree
     go_wp2
     go_roundw
     case rel => exact ⟨k + 1, _, by omega, by go_num, HB5, by omega, HM5, Lib.hid (by rw [← HOS.out]; exact HOw5.out), Lib.hid (by rw [HFS.out]; exact HO1.out), HP⟩
     case measure => simp [intOf]; omega
    ·go_wp2_with fail
     refine CU2.out.mono ?_
     rintro e w3 ⟨u, rfl, HU, hb3⟩
     obtain ⟨Au, cu, rfl, hul, hur⟩ := OwnR.rowB sg_flat HU (fun j => ¬ M j) (fun b hb => by have h1 := (OwnR.lt HU b hb).1; exact fun hm => by have := (HM.out b hm).2; omega)
     have HOw3 := HOw2.out.below hb3
     have HAl3 := HAl2.out.below hb3
     obtain ⟨_, _, hMG, cur, hcur, hcz⟩ := OwnR.blkB HOw3
     have hks : k < cur.size := by rw [hcz]; show k < l.length * 1; omega
     have hcell := blk_cell hcur k (v := cur[k]) (by simp [hks])
     have hfree := blk_free hcur k
     have hs3 := hb3.size
     obtain ⟨HOw4, hk4⟩ := OwnR.set1 (T := Ty.segs) rfl HOw3 ownL.symm k (y := us) (V := .slice Au us.length cu) ⟨Au, cu, rfl, hul, hur⟩
     have hne : (48 : Nat) ≠ 46 := by decide
     have HAl4 := Lib.hid (HAl3.kept (S := fun b => b = w.heap.size) hk4 (fun b e => e ▸ hMG) (fun b hb e => (HAl3.apart HOw3 hne hb) (by rw [e]; rfl)))
     have HUR4 := Lib.hid (hur.step (fun j hj hl => hk4.block j hl (fun e => hj (e ▸ hMG))))
     have HB4 := Lib.hid (below_kept (below_step HB2.out hb3) hk4 (fun b e => by omega))
     have HOw4 := Lib.hid HOw4
     have hlen5 : (al.length + us.length) * 32 ≤ 140737488355328 := by have h1 := flat_take l (k + 1); rw [HFS.out, List.length_append] at h1; omega
     clear hb3 HU hur HOw3 HAl3 hk4 hcur HOw2 HAl2 HB2 CU2
     go_wp2_with (at_builtin; refine app_row Ty.sg (W := w3.setCell ⟨w.heap.size, k, none⟩ (.slice Au us.length cu)) w.heap.size rfl _ _ 46 48 _ 32 rfl Tryz.underlying46 infoSg rfl (by decide) _ al us Au _ cu _ rfl rfl rfl HUR4.out HAl4.out (by simp; omega) hlen5 ?_; intro v1 w5 HO1 hg1 hat1)
     have HOw5 := Lib.hid (HAl4.out.beside HOw4.out hne hg1 hat1)
     have hs5 := hg1.size
     simp at hs5
     have HB5 := Lib.hid (below_kept HB4.out (kept_grown hg1 (fun b e => e)) (fun b hb => (HM.out b (HAl4.out.mine b hb)).1))
     have HM5 : Hid (∀ j, (M j ∨ v1.ownBlock = some j) → w.heap.size ≤ j ∧ j < w5.heap.size) := Lib.hid (fun j hj => hj.elim (fun h => ⟨(HM.out j h).1, by have := (HM.out j h).2; omega⟩) (fun h => OwnR.lt HO1 j h))
     have HO1 := Lib.hid HO1
     clear hg1 hat1 HAl4 HUR4 HB4 HOw4 hcell hfree
     go_wp2
     go_roundw
     case rel => exact ⟨k + 1, _, by omega, by go_num, HB5, by omega, HM5, Lib.hid (by rw [← HOS.out]; exact HOw5.out), Lib.hid (by rw [HFS.out]; exact HO1.out), HP⟩
     case measure => simp [intOf]; omega
   ·have HH := Lib.hid (HHIT.out (fun h => hpass (.inl h)) (fun h => hpass (.inr h)))
    have q1 : (ck != 0) = true := by simp; exact fun h => hpass (.inl h)
    have q2 : (ck != 15) = true := by simp; exact fun h => hpass (.inr h)
    have HBE2 : Hid (buildZ l = ([], ck)) := Lib.hid ((HBE.out (by rw [HH.out]; exact fun h => hpass (.inl h))).trans (by rw [HH.out]))
    clear HHIT HPASS hpass HH HBE HBX HBO
    go_wp2_with fail
    refine CC.out.mono ?_
    rintro e w2 ⟨rfl, hb2⟩
    have HB2 := Lib.hid (below_step HB.out hb2)
    clear CC CU hx0 HB hb2
    go_wp2
    go_ret2
    exact ⟨by rw [HBE2.out]; exact ⟨none, 0, rfl, Row.nil _ _ _ _⟩, HB2.out⟩
  ·obtain rfl : k = l.length := by omega
   have HE2 : Hid (buildE l = 0) := Lib.hid (by have := HE.out; rwa [List.take_length] at this)
   have HOw : Hid (OwnR Ty.segs 46 w.heap.size M wr (.slice (some ⟨w.heap.size, 0, none⟩) l.length l.length) (l.map uniqZ)) := Lib.hid (by have := HOw.out; rwa [List.take_length, Nat.sub_self, List.replicate_zero, List.append_nil] at this)
   have HAl : Hid (OwnR Ty.sg 48 w.heap.size M wr _ (l.flatMap uniqZ)) := Lib.hid (by have := HAl.out; rwa [List.take_length] at this)
   have HBX2 := Lib.hid (HBX.out HE2.out)
   have HBO2 := Lib.hid (HBO.out HE2.out)
   have HND : Hid (nodeZ l = uniqZ (splitZ (l.flatMap uniqZ))) := rfl
   have HNI : Hid (uniqZ (nodeZ l) = nodeZ l) := Lib.hid (by rw [HND.out]; exact uniq_idemC _)
   have hsl := split_lenB (l.flatMap uniqZ) hall
   have HNV : Hid (∀ s ∈ nodeZ l, (validB s.1 && validB s.2) = true) := Lib.hid (fun s hs => by rw [HND.out] at hs; have := canon_valid (mem_uniqC.1 hs); rw [this.1, this.2]; rfl)
   obtain ⟨Aa, ca, rfl, hca, har⟩ := OwnR.rowB sg_flat HAl.out (fun _ => True) (fun _ _ => trivial)
   have HAR := Lib.hid har
   clear har HE HBE HBX HBO HAl HR HM hk hlt
   generalize l.flatMap uniqZ = al at *
   go_wp2_with fail
   refine (noding_Split al Aa al.length ca wr HAR.out rfl hall).mono ?_
   rintro e w2 ⟨v2, rfl, HS2, hb2⟩
   obtain ⟨As, cs, rfl, _, hsr⟩ := OwnR.rowB sg_flat HS2 (fun _ => True) (fun _ _ => trivial)
   have HSR := Lib.hid hsr
   have hs2 := hb2.size
   have HB2 := Lib.hid (below_step HB.out hb2)
   have HOw2 := Lib.hid (HOw.out.below hb2)
   clear hsr HS2 hb2 HB HOw HAR
   go_wp2_with fail
   refine (noding_Unique (splitZ al) As _ cs w2 HSR.out rfl (by omega)).mono ?_
   rintro e w3 ⟨v3, rfl, HU3, hb3⟩
   rw [← HND.out] at HU3
   obtain ⟨An, cn, rfl, _, hnr⟩ := OwnR.rowB sg_flat HU3 (fun _ => True) (fun _ _ => trivial)
   have HNR := Lib.hid hnr
   have HB3 := Lib.hid (below_step HB2.out hb3)
   have HOw3 := Lib.hid (HOw2.out.below hb3)
   have hs3 := hb3.size
   clear hnr HU3 hb3 HB2 HOw2 HSR
   have CX := Lib.hid (noding_Crossings (nodeZ l) An _ cn w3 HNR.out rfl hnode)
   rw [HNI.out] at CX
   clear HND HNI
   generalize nodeZ l = nd at *
   go_wp2_with fail
   refine CX.out.mono ?_
   rintro e w4 ⟨Bx, dx, rfl, hb4⟩
   have HB4 := Lib.hid (below_step HB3.out hb4)
   have HOw4 := Lib.hid (HOw3.out.below hb4)
   have HNR4 := Lib.hid (HNR.out.below hb4)
   have hs4 := hb4.size
   clear hb4 HB3 HOw3 HNR CX
   by_cases hx : crossZs nd = []
   ·have hx0 : (crossZs nd).length = 0 := by rw [hx]; rfl
    have HBB := Lib.hid (HBO2.out hx)
    have hxx : decide ((((crossZs nd).length : Nat) : Int) > 0) = false := decide_eq_false (by omega)
    have hxy : decide (0 < (((crossZs nd).length : Nat) : Int)) = false := decide_eq_false (by omega)
    clear HBX2 HBO2 hx
    go_wp2
    obtain ⟨A0, c0, e0, _, hro, _⟩ := OwnR.reads HOw4.out
    have hA0 : A0 = some ⟨w.heap.size, 0, none⟩ := by injection e0 with h; exact h.symm
    subst hA0
    clear e0
    have HRo := Lib.hid (hro.mono (ok' := fun _ => True) (fun _ _ => trivial))
    clear hro HOw4
    have HOV : Hid (∀ o ∈ l.map uniqZ, segsVd o ∧ o.length ≤ 600) := Lib.hid (fun o ho => by obtain ⟨q, hq, rfl⟩ := List.mem_map.1 ho; exact ⟨fun s hs => by have := canon_valid (mem_uniqC.1 hs); rw [this.1, this.2]; rfl, Nat.le_trans (uniq_len q) (H6.out q hq)⟩)
    have howl : l.length ≤ (l.map uniqZ).length ∧ (l.map uniqZ).length ≤ l.length := by rw [List.length_map]; exact ⟨Nat.le_refl _, Nat.le_refl _⟩
    obtain ⟨how1, how2⟩ := howl
    generalize l.map uniqZ = ow at *
    go_loopw [10, 60] (fun v i wr => ∃ (k : Nat) (M : Nat → Prop), k ≤ nd.length ∧ i = .int .i64 k ∧ Hid (Below w4.heap.size w4 wr) ∧ Hid (∀ j, M j → w4.heap.size ≤ j ∧ j < wr.heap.size) ∧ Hid (OwnR Ty.edge 31 w4.heap.size M wr v ((nd.take k).map fun s => (s, (sideL ow s true, sideL ow s false))))) (fun _ i _ => nd.length - (intOf i).toNat)
    case atStart => exact ⟨0, fun _ => False, Nat.zero_le _, rfl, Below.refl _ _, Lib.hid (fun j h => h.elim), OwnR.nil _ _ _ _ _⟩
    case round =>
     obtain ⟨k, M, hk, rfl, HB, HM, HOu⟩ := hrel
     have hs4r := HB.out.size
     by_cases hlt : k < nd.length
     ·obtain ⟨an, rfl, hx0, hx1, hx2, hx3⟩ := (HNR4.out.below HB.out).sg_at k hlt
      have HSV := Lib.hid (HNV.out (sgD nd k) (by rw [sgD_eq hlt]; exact List.getElem_mem hlt))
      have HMS : Hid ((nd.take (k + 1)).map (fun s => (s, (sideL ow s true, sideL ow s false))) = (nd.take k).map (fun s => (s, (sideL ow s true, sideL ow s false))) ++ [(sgD nd k, (sideL ow (sgD nd k) true, sideL ow (sgD nd k) false))]) := Lib.hid (by rw [take_snoc nd k ((0, 0), (0, 0)) hlt, List.map_append]; rfl)
      have hml : ((nd.take k).map (fun s => (s, (sideL ow s true, sideL ow s false)))).length ≤ 600 := by rw [List.length_map, List.length_take]; omega
      generalize (nd.take k).map (fun s => (s, (sideL ow s true, sideL ow s false))) = ms at *
      generalize sgD nd k = sk at *
      obtain ⟨⟨a1, a2⟩, a3, a4⟩ := sk
      simp only at hx0 hx1 hx2 hx3
      go_wp2_with fail
      obtain ⟨W8, hW8⟩ : ∃ W8, W8 = (wr.alloc (.cells #[.int .i64 a1, .int .i64 a2, .int .i64 a3, .int .i64 a4] 48)).alloc (.cells #[.int .i64 a1, .int .i64 a2, .int .i64 a3, .int .i64 a4, .slice none 0 0, .slice none 0 0] 31) := ⟨_, rfl⟩
      rw [← hW8]
      have B8 : Below wr.heap.size wr W8 := by rw [hW8]; exact bq
      have HT8 : W8.heap[wr.heap.size]? = some (.cells #[.int .i64 a1, .int .i64 a2, .int .i64 a3, .int .i64 a4] 48 (0, 0)) := by rw [hW8]; exact blk_alloc (heap_alloc_new _ _) _
      have HE8 : W8.heap[wr.heap.size + 1]? = some (.cells #[.int .i64 a1, .int .i64 a2, .int .i64 a3, .int .i64 a4, .slice none 0 0, .slice none 0 0] 31 (0, 0)) := by rw [hW8]; have := heap_alloc_new (wr.alloc (.cells #[.int .i64 a1, .int .i64 a2, .int .i64 a3, .int .i64 a4] 48)) (.cells #[.int .i64 a1, .int .i64 a2, .int .i64 a3, .int .i64 a4, .slice none 0 0, .slice none 0 0] 31); simpa using this
      have hz8 := lt_of_block HE8
      clear hW8 hx0 hx1 hx2 hx3
      obtain ⟨wo, hwo⟩ : ∃ wo, wo = wr := ⟨wr, rfl⟩
      subst hwo
      go_loopw [71] (fun i wr => ∃ (j : Nat) (VL VR : Value), j ≤ ow.length ∧ i = .int .i64 j ∧ Hid (Below wo.heap.size wo wr) ∧ wo.heap.size + 1 < wr.heap.size ∧ Hid (wr.heap[wo.heap.size]? = some (.cells #[.int .i64 a1, .int .i64 a2, .int .i64 a3, .int .i64 a4] 48 (0, 0))) ∧ Hid (wr.heap[wo.heap.size + 1]? = some (.cells #[.int .i64 a1, .int .i64 a2, .int .i64 a3, .int .i64 a4, VL, VR] 31 (0, 0))) ∧ Hid (Own1 Ty.i64 3 (wo.heap.size + 2) wr VL (sideP ow ((a1, a2), (a3, a4)) true j)) ∧ Hid (Own1 Ty.i64 3 (wo.heap.size + 2) wr VR (sideP ow ((a1, a2), (a3, a4)) false j)) ∧ Hid (∀ b, VL.ownBlock = some b → ¬ VR.ownBlock = some b)) (fun i _ => ow.length - (intOf i).toNat)
      case atStart => exact ⟨0, .slice none 0 0, .slice none 0 0, Nat.zero_le _, rfl, B8, hz8, HT8, HE8, OwnR.nil _ _ _ _ _, OwnR.nil _ _ _ _ _, Lib.hid (fun b hb => by cases hb)⟩
      case round =>
       obtain ⟨j, VL, VR, hj, rfl, HBq, hzq, HTq, HEq, HVL, HVR, HD⟩ := hrel
       clear HT8 HE8 B8
       by_cases hjl : j < ow.length
       ·have hjl0 : j < l.length := by omega
        obtain ⟨ao, Bo, co, e1, hco, hlo, hro⟩ := ((HRo.out.below HB.out).below HBq.out).segs_at j hjl
        cases e1
        rw [add_at, Nat.zero_add] at hco
        have hov := HOV.out (ssD ow j) (by rw [ssD_eq hjl]; exact List.getElem_mem _)
        have CS := Lib.hid (fun W (hb : Below wr.heap.size wr W) => mesh_sides (ssD ow j) Bo _ co ((a1, a2), (a3, a4)) W (hro.below hb) rfl hov.1 HSV.out (by have := hov.2; omega))
        obtain ⟨SP1, SP2⟩ := sideP_succ ow ((a1, a2), (a3, a4)) j
        have hp1 := sideP_len ow ((a1, a2), (a3, a4)) true j
        have hp2 := sideP_len ow ((a1, a2), (a3, a4)) false j
        have SP1 := Lib.hid SP1
        have SP2 := Lib.hid SP2
        clear hro hov hlo
        generalize sideP ow ((a1, a2), (a3, a4)) true j = pl at *
        generalize sideP ow ((a1, a2), (a3, a4)) false j = pr at *
        generalize ssD ow j = oj at *
        generalize sidesM oj ((a1, a2), (a3, a4)) = sd at *
        obtain ⟨x, y⟩ := sd
        simp only [sgA] at CS
        simp only at SP1 SP2
        have t0 := blk_cell HTq.out 0 rfl
        have t1 := blk_cell HTq.out 1 rfl
        have t2 := blk_cell HTq.out 2 rfl
        have t3 := blk_cell HTq.out 3 rfl
        go_wp2_with fail
        refine start_ (n := 11) (S := fun w' => w'.cell? ⟨w.heap.size, j, none⟩ = some (.slice Bo oj.length co) ∧ w'.cell? ⟨wo.heap.size, 0, none⟩ = some (.int .i64 a1) ∧ w'.cell? ⟨wo.heap.size, 1, none⟩ = some (.int .i64 a2) ∧ w'.cell? ⟨wo.heap.size, 2, none⟩ = some (.int .i64 a3) ∧ w'.cell? ⟨wo.heap.size, 3, none⟩ = some (.int .i64 a4)) (ds := []) #[Z,Z,Z,Z,Z,Z,Z,Z,Z,Z,Z] (by kernel_rfl) rfl rfl ⟨hco, t0, t1, t2, t3⟩ (fun hHeld => ?_)
        refine pu 0 75 ?_
        refine pu 1 76 ?_
        refine pu 2 77 ?_
        refine ta 3 78 hHeld ?_
        refine ta 4 79 hHeld ?_
        refine one_ (i := 5) (N := some 80) #[J,J,J,J,J,J,Z,Z,Z,Z,Z] rfl rfl (by kernel_rfl) (by decide) (fun K hK => ?_)
        refine goes_ Tryz.func51 (by kernel_rfl) rfl #[.slice Bo oj.length co, .agg #[.int .i64 a1, .int .i64 a2, .int .i64 a3, .int .i64 a4]] (by rfl) rfl rfl (by simp only [List.map_toArray, List.map_cons, List.map_nil]; rfl) ?_
        with_reducible refine (CS.out _ (below_drew (Below.refl _ _))).mono ?_
        rintro e w5 ⟨rfl, hb5⟩
        refine ⟨_, rfl, ?_⟩
        refine hK.out _ _ ⟨cell_below hb5 hco, cell_below hb5 t0, cell_below hb5 t1, cell_below hb5 t2, cell_below hb5 t3⟩ (fun hHeld => ?_)
        clear hK K
        refine nm 80 ?_
        refine pu 6 74 ?_
        refine pu 7 81 ?_
        refine pu 8 82 ?_
        refine pu 9 15 ?_
        refine pu 10 16 ?_
        refine done_ (by kernel_rfl) ?_
        have B5 : Below wr.heap.size wr w5 := (by repeat (first | exact Below.refl _ _ | apply below_alloc | apply below_drewN | apply below_drew | (refine below_set2 ?_ ?_; (first | (simp; done) | (simp; omega))) | (refine below_step ?_ hb5)))
        have HT5 := Lib.hid (blk_below HTq.out B5)
        have HE5 := Lib.hid (blk_below HEq.out B5)
        have HL5 := Lib.hid (HVL.out.below B5)
        have HR5 := Lib.hid (HVR.out.below B5)
        have HB5 := Lib.hid (below_step HBq.out B5)
        have hs5 := B5.size
        clear hHeld hb5 B5 HTq HEq HVL HVR HBq t0 t1 t2 t3 hco CS
        cases x <;> cases y
        ·go_wp2
         go_roundw
         case rel => exact ⟨j + 1, VL, VR, by omega, by go_num, HB5, (by first | omega | (simp; omega)), HT5, HE5, Lib.hid (by rw [SP1.out]; exact (by simpa using HL5.out)), Lib.hid (by rw [SP2.out]; exact (by simpa using HR5.out)), Lib.hid (HD.out)⟩
         case measure => simp [intOf]; omega
        ·have e54 := blk_cell HE5.out 4 rfl
         have e55 := blk_cell HE5.out 5 rfl
         have f54 := blk_free HE5.out 4
         have f55 := blk_free HE5.out 5
         go_wp2_with (first | (at_builtin; refine app_one Ty.i64 (W := w5) (g := w5.heap.size) (wo.heap.size + 2) rfl _ _ 29 3 _ 8 rfl Tryz.underlying29 infoInt rfl (by decide) VR pr (j : Int) [.int .i64 j] _ rfl rfl rfl rfl (HR5.out) (by first | omega | (simp; omega)) (by omega) ?_; intro VR' w7 HO2 hg2 hat2; obtain ⟨AR, nR, cR, eR⟩ := own_form HO2; subst eR; have hQS := push_side (i := 5) (HE5.out) (by omega) (HR5.out) (HL5.out) (fun b hb hl => (HD.out) b hl hb) HO2 hg2 hat2; have hQ7 := Lib.hid hQS.2; have hE7 := hQS.1; clear hQS HO2 hg2 hat2; have e74 := blk_cell hE7 4 rfl; have f74 := blk_free hE7 4; have e75 := blk_cell hE7 5 rfl; have f75 := blk_free hE7 5; have hz7 := lt_of_block hE7))
         obtain ⟨G1, G2, G3, G4⟩ := hQ7.out
         have HB7 := Lib.hid (below_kept HB5.out G4 (fun b h => by rcases h with h | h; have := (OwnR.lt HR5.out b h).1; omega; omega))
         have HT7 := Lib.hid ((G4.block _ (lt_of_block HT5.out) (fun h => by rcases h with h | h; have := (OwnR.lt HR5.out _ h).1; omega; omega)).trans HT5.out)
         have HE7 : Hid (_ = _) := Lib.hid (blk_set (i := 5) hE7 (.slice AR nR cR))
         have G1 := Lib.hid G1
         have G2 := Lib.hid G2
         have G3 := Lib.hid G3
         clear G4 hQ7
         go_roundw
         case rel => exact ⟨j + 1, VL, (.slice AR nR cR), by omega, by go_num, HB7, (by first | omega | (simp; omega)), HT7, HE7, Lib.hid (by rw [SP1.out]; exact (by simpa using G2.out)), Lib.hid (by rw [SP2.out]; exact (by simpa using G1.out)), Lib.hid (fun b h1 h2 => G3.out b h2 h1)⟩
         case measure => simp [intOf]; omega
        ·have e54 := blk_cell HE5.out 4 rfl
         have e55 := blk_cell HE5.out 5 rfl
         have f54 := blk_free HE5.out 4
         have f55 := blk_free HE5.out 5
         go_wp2_with (first | (at_builtin; refine app_one Ty.i64 (W := w5) (wo.heap.size + 2) rfl _ _ 29 3 _ 8 rfl Tryz.underlying29 infoInt rfl (by decide) VL pl (j : Int) [.int .i64 j] _ rfl rfl rfl rfl HL5.out (by omega) (by omega) ?_; intro VL' w6 HO1 hg1 hat1; obtain ⟨AL, nL, cL, eL⟩ := own_form HO1; subst eL; have hPS := push_side (i := 4) HE5.out (by omega) HL5.out HR5.out HD.out HO1 hg1 hat1; have hP6 := Lib.hid hPS.2; have hE6 := hPS.1; clear hPS HO1 hg1 hat1; have e64 := blk_cell hE6 4 rfl; have f64 := blk_free hE6 4; have e65 := blk_cell hE6 5 rfl; have f65 := blk_free hE6 5; have hz6 := lt_of_block hE6))
         obtain ⟨G1, G2, G3, G4⟩ := hP6.out
         have HB7 := Lib.hid (below_kept HB5.out G4 (fun b h => by rcases h with h | h; have := (OwnR.lt HL5.out b h).1; omega; omega))
         have HT7 := Lib.hid ((G4.block _ (lt_of_block HT5.out) (fun h => by rcases h with h | h; have := (OwnR.lt HL5.out _ h).1; omega; omega)).trans HT5.out)
         have HE7 : Hid (_ = _) := Lib.hid (blk_set (i := 4) hE6 (.slice AL nL cL))
         have G1 := Lib.hid G1
         have G2 := Lib.hid G2
         have G3 := Lib.hid G3
         clear G4 hP6
         go_roundw
         case rel => exact ⟨j + 1, (.slice AL nL cL), VR, by omega, by go_num, HB7, (by first | omega | (simp; omega)), HT7, HE7, Lib.hid (by rw [SP1.out]; exact (by simpa using G1.out)), Lib.hid (by rw [SP2.out]; exact (by simpa using G2.out)), Lib.hid (G3.out)⟩
         case measure => simp [intOf]; omega
        ·have e54 := blk_cell HE5.out 4 rfl
         have e55 := blk_cell HE5.out 5 rfl
         have f54 := blk_free HE5.out 4
         have f55 := blk_free HE5.out 5
         go_wp2_with (first | (at_builtin; refine app_one Ty.i64 (W := w5) (wo.heap.size + 2) rfl _ _ 29 3 _ 8 rfl Tryz.underlying29 infoInt rfl (by decide) VL pl (j : Int) [.int .i64 j] _ rfl rfl rfl rfl HL5.out (by omega) (by omega) ?_; intro VL' w6 HO1 hg1 hat1; obtain ⟨AL, nL, cL, eL⟩ := own_form HO1; subst eL; have hPS := push_side (i := 4) HE5.out (by omega) HL5.out HR5.out HD.out HO1 hg1 hat1; have hP6 := Lib.hid hPS.2; have hE6 := hPS.1; clear hPS HO1 hg1 hat1; have e64 := blk_cell hE6 4 rfl; have f64 := blk_free hE6 4; have e65 := blk_cell hE6 5 rfl; have f65 := blk_free hE6 5; have hz6 := lt_of_block hE6) | (at_builtin; refine app_one Ty.i64 (W := (w6.setCell ⟨wo.heap.size + 1, 4, none⟩ (.slice AL nL cL))) (g := w6.heap.size) (wo.heap.size + 2) rfl _ _ 29 3 _ 8 rfl Tryz.underlying29 infoInt rfl (by decide) VR pr (j : Int) [.int .i64 j] _ rfl rfl (by simp) rfl (hP6.out.2.1) (by first | omega | (simp; omega)) (by omega) ?_; intro VR' w7 HO2 hg2 hat2; obtain ⟨AR, nR, cR, eR⟩ := own_form HO2; subst eR; have hQS := push_side (i := 5) (blk_set (i := 4) hE6 (.slice AL nL cL)) (by omega) (hP6.out.2.1) (hP6.out.1) (fun b hb hl => (hP6.out.2.2.1) b hl hb) HO2 hg2 hat2; have hQ7 := Lib.hid hQS.2; have hE7 := hQS.1; clear hQS HO2 hg2 hat2; have e74 := blk_cell hE7 4 rfl; have f74 := blk_free hE7 4; have e75 := blk_cell hE7 5 rfl; have f75 := blk_free hE7 5; have hz7 := lt_of_block hE7))
         obtain ⟨G1, G2, G3, G4⟩ := hP6.out
         obtain ⟨K1, K2, K3, K4⟩ := hQ7.out
         have HB7 := Lib.hid (below_kept (below_kept HB5.out G4 (fun b h => by rcases h with h | h; have := (OwnR.lt HL5.out b h).1; omega; omega)) K4 (fun b h => by rcases h with h | h; have := (OwnR.lt G2 b h).1; omega; omega))
         have HT6 := (G4.block _ (lt_of_block HT5.out) (fun h => by rcases h with h | h; have := (OwnR.lt HL5.out _ h).1; omega; omega)).trans HT5.out
         have HT7 := Lib.hid ((K4.block _ (lt_of_block HT6) (fun h => by rcases h with h | h; have := (OwnR.lt G2 _ h).1; omega; omega)).trans HT6)
         have HE7 : Hid (_ = _) := Lib.hid (blk_set (i := 5) hE7 (.slice AR nR cR))
         have K1 := Lib.hid K1
         have K2 := Lib.hid K2
         have K3 := Lib.hid K3
         clear G1 G2 G3 G4 K4 hP6 hQ7 HT6
         go_roundw
         case rel => exact ⟨j + 1, (.slice AL nL cL), (.slice AR nR cR), by omega, by go_num, HB7, (by first | omega | (simp; omega)), HT7, HE7, Lib.hid (by rw [SP1.out]; exact (by simpa using K2.out)), Lib.hid (by rw [SP2.out]; exact (by simpa using K1.out)), Lib.hid (fun b h1 h2 => K3.out b h2 h1)⟩
         case measure => simp [intOf]; omega
       ·obtain rfl : j = ow.length := by omega
        have hjl0 : ¬ ow.length < l.length := by omega
        have SL : Hid (sideL ow ((a1, a2), (a3, a4)) true = sideP ow ((a1, a2), (a3, a4)) true ow.length) := rfl
        have SR : Hid (sideL ow ((a1, a2), (a3, a4)) false = sideP ow ((a1, a2), (a3, a4)) false ow.length) := rfl
        rw [SL.out, SR.out] at HMS
        clear SL SR HSV
        obtain ⟨LA, lc, rfl, hll, hlr⟩ := OwnR.rowB int_flat HVL.out (fun b => ¬ M b) (fun b hb hm => by have h1 := (OwnR.lt HVL.out b hb).1; have h2 := (HM.out b hm).2; omega)
        obtain ⟨RA, rc, rfl, hrl, hrr⟩ := OwnR.rowB int_flat HVR.out (fun b => ¬ M b) (fun b hb hm => by have h1 := (OwnR.lt HVR.out b hb).1; have h2 := (HM.out b hm).2; omega)
        have HEQ := HEq.out
        have e0 := blk_cell HEQ 0 rfl
        have e1 := blk_cell HEQ 1 rfl
        have e2 := blk_cell HEQ 2 rfl
        have e3 := blk_cell HEQ 3 rfl
        have e4 := blk_cell HEQ 4 rfl
        have e5 := blk_cell HEQ 5 rfl
        have HOq := Lib.hid (HOu.out.below HBq.out)
        have RY := Lib.hid (edgeR (s := ((a1, a2), (a3, a4))) hll hlr hrl hrr)
        have hqz := lt_of_block HEQ
        have hbq := HBq.out.size
        clear HVL HVR HD HTq HEq HEQ hlr hrr HOu
        generalize sideP ow ((a1, a2), (a3, a4)) true ow.length = pl at *
        generalize sideP ow ((a1, a2), (a3, a4)) false ow.length = pr at *
        go_wp2_with (at_builtin; refine app_one Ty.edge (W := wr) w4.heap.size rfl _ _ 22 31 _ 80 rfl Tryz.underlying22 infoEg rfl (by decide) u10 ms (((a1, a2), (a3, a4)), (pl, pr)) [.int .i64 a1, .int .i64 a2, .int .i64 a3, .int .i64 a4, .slice LA pl.length lc, .slice RA pr.length rc] _ rfl rfl rfl RY.out HOq.out (by omega) (by omega) ?_; intro v9 w9 HO9 hg9 hat9)
        have hs9 := hg9.size
        have HB9 := Lib.hid (below_own (below_step HB.out HBq.out) hg9 (fun b e => (OwnR.lt HOq.out b e).1))
        have HM9 : Hid (∀ j, (M j ∨ v9.ownBlock = some j) → w4.heap.size ≤ j ∧ j < w9.heap.size) := Lib.hid (fun j hj => hj.elim (fun h => ⟨(HM.out j h).1, by have := (HM.out j h).2; omega⟩) (fun h => OwnR.lt HO9 j h))
        have HO9 := Lib.hid HO9
        clear hg9 hat9 HOq RY HBq e0 e1 e2 e3 e4 e5
        go_wp2
        go_roundw
        case rel => exact ⟨k + 1, _, by omega, by go_num, HB9, HM9, Lib.hid (by rw [HMS.out]; exact HO9.out)⟩
        case measure => simp [intOf]; omega
     ·obtain rfl : k = nd.length := by omega
      obtain ⟨Ao, cz, rfl, hcz, hor, _⟩ := OwnR.reads HOu.out
      have HOR := Lib.hid (hor.mono (ok' := fun _ => True) (fun _ _ => trivial))
      rw [List.take_length] at HOR
      have HBW := Lib.hid (below_step HB4.out HB.out)
      clear hor HOu HM
      go_wp2
      go_ret2
      exact ⟨by rw [HBB.out]; exact ⟨Ao, cz, by simp, HOR.out⟩, HBW.out⟩
   ·have hx0 : 0 < (crossZs nd).length := List.length_pos_iff.2 hx
    have HBB := Lib.hid (HBX2.out hx)
    have hxx : decide ((((crossZs nd).length : Nat) : Int) > 0) = true := decide_eq_true (by omega)
    have hxy : decide (0 < (((crossZs nd).length : Nat) : Int)) = true := decide_eq_true (by omega)
    clear HBX2 HBO2 hx
    go_wp2
    go_ret2
    exact ⟨by rw [HBB.out]; exact ⟨none, 0, rfl, Row.nil _ _ _ _⟩, HB4.out⟩
end
section
open Go.RowKit Go.Proofs.YtaeflnbjeaoapaaGreatW.PrintLast

attribute [local go_sem high] eqPt eqSg
theorem bounds_snoc (m : Msh) (a : Int) (k : Nat) (h : k < m.length) : boundsZ (m.take (k + 1)) a = boundsZ (m.take k) a ++ if (hasI (egD m k).2.1 a != hasI (egD m k).2.2 a) = true then [(egD m k).1] else [] := by
 unfold boundsZ
 rw [take_snoc m k (((0, 0), (0, 0)), ([], [])) h, List.filter_append, List.map_append]
 congr 1
 show (List.filter _ [egD m k]).map _ = _
 cases hb : hasI (egD m k).2.1 a != hasI (egD m k).2.2 a
 ·rw [List.filter_cons_of_neg (by rw [hb]; decide)]; simp
 ·rw [List.filter_cons_of_pos (by exact hb)]; simp
theorem bounds_take (m : Msh) (a : Int) (k : Nat) : (boundsZ (m.take k) a).length ≤ k := by
 unfold boundsZ
 rw [List.length_map]
 exact Nat.le_trans (List.length_filter_le _ _) (by rw [List.length_take]; omega)
set_option maxRecDepth 100000 in
set_option maxHeartbeats 2000000 in
theorem mesh_bounds {ok : Nat → Prop} (m : Msh) (A : Option Addr) (n c : Nat) (a : Int) (w : World) (hr : Row Ty.edge ok w A m) (hn : n = m.length) (hlen : m.length ≤ 1000000) :
  Calls Tryz.prog 24 #[.slice A n c, .int .i64 a] w fun e w' => ∃ v, e = .returned v ∧ Own1 Ty.sg 48 w.heap.size w' v (boundsZ m a) ∧ Below w.heap.size w w' := by
 subst hn
 have HR := Lib.hid hr
 have hmx := hr.len
 clear hr
 go_enter Tryz.func24, Tryz.ntmps24
 go_wp2
 go_loopw [5, 10] (fun v i wr => ∃ k : Nat, k ≤ m.length ∧ i = .int .i64 k ∧ Hid (Below w.heap.size w wr) ∧ Hid (Own1 Ty.sg 48 w.heap.size wr v (boundsZ (m.take k) a))) (fun _ i _ => m.length - (intOf i).toNat)
 case atStart => exact ⟨0, Nat.zero_le _, rfl, Below.refl _ _, OwnR.nil _ _ _ _ _⟩
 case round =>
  obtain ⟨k, hk, rfl, HB, HO⟩ := hrel
  have hzw := HB.out.size
  by_cases hlt : k < m.length
  ·have HS := Lib.hid (bounds_snoc m a k hlt)
   have HL := bounds_take m a k
   obtain ⟨ad, A1, c1, A2, c2, rfl, hx0, hx1, hx2, hx3, hx4, hx5, _, hr1, _, hr2⟩ := (HR.out.below HB.out).edge_at k hlt
   obtain ⟨e, he⟩ : ∃ e, e = egD m k := ⟨_, rfl⟩
   rw [← he] at hx0 hx1 hx2 hx3 hx4 hx5 hr1 hr2 HS
   clear he
   obtain ⟨⟨⟨a1, a2⟩, ⟨a3, a4⟩⟩, L, R⟩ := e
   simp only at hx0 hx1 hx2 hx3 hx4 hx5 hr1 hr2 HS
   have C1 := Lib.hid (fun W h => sets_Has (ok := ok) L A1 L.length c1 a W h rfl)
   have C2 := Lib.hid (fun W h => sets_Has (ok := ok) R A2 R.length c2 a W h rfl)
   have HR1 := Lib.hid hr1
   have HR2 := Lib.hid hr2
   clear hr1 hr2
   generalize boundsZ (m.take k) a = acc at *
   obtain ⟨W0, hW0⟩ : ∃ W0, W0 = wr.alloc (.cells #[.int .i64 a1, .int .i64 a2, .int .i64 a3, .int .i64 a4, .slice A1 L.length c1, .slice A2 R.length c2] 31) := ⟨_, rfl⟩
   have HA : W0.heap[wr.heap.size]? = some (.cells #[.int .i64 a1, .int .i64 a2, .int .i64 a3, .int .i64 a4, .slice A1 L.length c1, .slice A2 R.length c2] 31 (0, 0)) := by rw [hW0]; exact heap_alloc_new _ _
   have BW0 : Below wr.heap.size wr W0 := by rw [hW0]; exact below_alloc (Below.refl _ _) _
   have HR10 := Lib.hid ((HR1.out.below BW0).below (below_drew (Below.refl _ _)))
   have HR20 := Lib.hid ((HR2.out.below BW0).below (below_drew (Below.refl _ _)))
   have hsz := lt_of_block HA
   go_wp2_with fail
   rw [← hW0]
   clear hW0 hx0 hx1 hx2 hx3 hx4 hx5 HR1 HR2
   refine start_ (n := 9) (S := fun w' => w'.cell? ⟨wr.heap.size, 4, none⟩ = some (.slice A1 L.length c1) ∧ w'.cell? ⟨wr.heap.size, 5, none⟩ = some (.slice A2 R.length c2)) (ds := []) #[Z,Z,Z,Z,Z,Z,Z,Z,Z] (by kernel_rfl) rfl rfl ⟨blk_cell HA 4 rfl, blk_cell HA 5 rfl⟩ (fun hHeld => ?_)
   refine pu 0 14 ?_
   refine pu 2 16 ?_
   refine pu 4 18 ?_
   refine pu 6 20 ?_
   refine ta 1 15 hHeld ?_
   refine ta 5 19 hHeld ?_
   refine one_ (i := 3) (N := some 17) #[J,J,J,J,J,J,J,Z,Z] rfl rfl (by kernel_rfl) (by decide) (fun K hK => ?_)
   refine goes_ Tryz.func48 (by kernel_rfl) rfl #[.slice A1 L.length c1, .int .i64 a] (by rfl) rfl rfl (by simp only [List.map_toArray, List.map_cons, List.map_nil]; rfl) ?_
   with_reducible refine (C1.out _ HR10.out).mono ?_
   rintro e w1 ⟨rfl, hb1⟩
   refine ⟨_, rfl, ?_⟩
   have HX1 := blk_below (W := W0.drew) HA hb1
   have HR21 := Lib.hid (HR20.out.below hb1)
   refine hK.out _ _ ⟨blk_cell HX1 4 rfl, blk_cell HX1 5 rfl⟩ (fun hHeld => ?_)
   clear hK K
   refine nm 17 ?_
   refine one_ (i := 7) (N := some 21) #[J,J,J,J,J,J,J,J,Z] rfl rfl (by kernel_rfl) (by decide) (fun K hK => ?_)
   refine goes_ Tryz.func48 (by kernel_rfl) rfl #[.slice A2 R.length c2, .int .i64 a] (by rfl) rfl rfl (by simp only [List.map_toArray, List.map_cons, List.map_nil]; rfl) ?_
   with_reducible refine (C2.out _ HR21.out).mono ?_
   rintro e w2 ⟨rfl, hb2⟩
   refine ⟨_, rfl, ?_⟩
   refine hK.out _ _ ⟨blk_cell (blk_below HX1 hb2) 4 rfl, blk_cell (blk_below HX1 hb2) 5 rfl⟩ (fun hHeld => ?_)
   clear hK K
   refine nm 21 ?_
   refine pu 8 22 ?_
   refine done_ (by kernel_rfl) ?_
   have HX2 := blk_below HX1 hb2
   have B2 : Below wr.heap.size wr w2 := below_step (below_step (below_drew BW0) hb1) hb2
   have HO2 : Hid (Own1 Ty.sg 48 w.heap.size w2 u5 acc) := Own1.below HO.out B2
   have HB2 : Hid (Below w.heap.size w w2) := below_step HB.out B2
   have hz2 : w.heap.size ≤ w2.heap.size := HB2.out.size
   clear hb1 hb2 HX1 HR21 HR10 HR20 HA BW0 B2 HO HB
   have ac0 := blk_cell HX2 0 rfl
   have ac1 := blk_cell HX2 1 rfl
   have ac2 := blk_cell HX2 2 rfl
   have ac3 := blk_cell HX2 3 rfl
   cases hb : (hasI L a != hasI R a)
   ·have HS2 : Hid (boundsZ (m.take (k + 1)) a = acc) := HS.out.trans (by rw [if_neg (by rw [hb]; decide), List.append_nil])
    have HH := Lib.hid hb
    clear hb HS
    generalize hasI L a = p1 at *
    generalize hasI R a = p2 at *
    have q := HH.out
    clear HH
    cases p1 <;> cases p2 <;> (try (cases q; done)) <;> clear q
    all_goals
     go_wp2
     go_roundw
     case rel => exact ⟨k + 1, by omega, by go_num, HB2.out, by rw [HS2.out]; exact HO2.out⟩
     case measure => simp [intOf]; omega
   ·have HS2 : Hid (boundsZ (m.take (k + 1)) a = acc ++ [((a1, a2), (a3, a4))]) := HS.out.trans (by rw [if_pos hb])
    have HH := Lib.hid hb
    clear hb HS
    generalize hasI L a = p1 at *
    generalize hasI R a = p2 at *
    have q := HH.out
    clear HH
    cases p1 <;> cases p2 <;> (try (cases q; done)) <;> clear q
    all_goals
     go_wp2_with (at_builtin; refine app_one Ty.sg (W := w2) w.heap.size rfl _ _ 46 48 _ 32 rfl Tryz.underlying46 infoSg rfl (by decide) u5 acc ((a1, a2), (a3, a4)) [.int .i64 a1, .int .i64 a2, .int .i64 a3, .int .i64 a4] _ rfl rfl rfl rfl HO2.out hz2 (by omega) ?_; intro v1 w4 HO1 hg1 hat1)
     have BZ : Hid (Below w.heap.size w w4) := below_own HB2.out hg1 (fun b e => (OwnR.lt HO2.out b e).1)
     have HO4 := Lib.hid (Own1.of HO1)
     clear HO1 hg1 hat1 HO2
     go_wp2
     go_roundw
     case rel => exact ⟨k + 1, by omega, by go_num, BZ.out, by rw [HS2.out]; exact HO4.out⟩
     case measure => simp [intOf]; omega
  ·obtain rfl : k = m.length := by omega
   have HO' : Hid (Own1 Ty.sg 48 w.heap.size wr u5 (boundsZ m a)) := by show Own1 _ _ _ _ _ _; have := HO.out; rwa [List.take_length] at this
   go_wp2
   go_ret
   exact ⟨_, rfl, HO'.out, HB.out⟩
end
section
open Go.RowKit Go.Proofs.YtaeflnbjeaoapaaGreatW.PrintLast

attribute [local go_sem high] eqPt eqSg
theorem same_edge {ok ok' : Nat → Prop} (s t : Sg) (L R L' R' : List Int) (A B A' B' : Option Addr) (c d c' d' : Nat) (w : World) (h1 : Row Ty.i64 ok w A L) (h2 : Row Ty.i64 ok w B R) (h3 : Row Ty.i64 ok' w A' L') (h4 : Row Ty.i64 ok' w B' R') :
  Calls Tryz.prog 53 #[.agg #[.int .i64 s.1.1, .int .i64 s.1.2, .int .i64 s.2.1, .int .i64 s.2.2, .slice A L.length c, .slice B R.length d], .agg #[.int .i64 t.1.1, .int .i64 t.1.2, .int .i64 t.2.1, .int .i64 t.2.2, .slice A' L'.length c', .slice B' R'.length d']] w fun e w' =>
   e = .returned (.bool (decide (((s, (L, R)) : Edg) = (t, (L', R'))))) ∧ Below w.heap.size w w' := by
 obtain ⟨⟨a1, a2⟩, a3, a4⟩ := s
 obtain ⟨⟨b1, b2⟩, b3, b4⟩ := t
 simp only
 have hE1 : (w.alloc (.cells #[.int .i64 a1, .int .i64 a2, .int .i64 a3, .int .i64 a4, .slice A L.length c, .slice B R.length d] 31)).heap[w.heap.size]? = some (.cells #[.int .i64 a1, .int .i64 a2, .int .i64 a3, .int .i64 a4, .slice A L.length c, .slice B R.length d] 31 (0, 0)) := heap_alloc_new _ _
 obtain ⟨W0, hW0⟩ : ∃ W0, W0 = (w.alloc (.cells #[.int .i64 a1, .int .i64 a2, .int .i64 a3, .int .i64 a4, .slice A L.length c, .slice B R.length d] 31)).alloc (.cells #[.int .i64 b1, .int .i64 b2, .int .i64 b3, .int .i64 b4, .slice A' L'.length c', .slice B' R'.length d'] 31) := ⟨_, rfl⟩
 have HE1 : W0.heap[w.heap.size]? = some (.cells #[.int .i64 a1, .int .i64 a2, .int .i64 a3, .int .i64 a4, .slice A L.length c, .slice B R.length d] 31 (0, 0)) := by rw [hW0]; exact blk_alloc hE1 _
 have HE2 : W0.heap[w.heap.size + 1]? = some (.cells #[.int .i64 b1, .int .i64 b2, .int .i64 b3, .int .i64 b4, .slice A' L'.length c', .slice B' R'.length d'] 31 (0, 0)) := by
  rw [hW0]; have := heap_alloc_new (w.alloc (.cells #[.int .i64 a1, .int .i64 a2, .int .i64 a3, .int .i64 a4, .slice A L.length c, .slice B R.length d] 31)) (.cells #[.int .i64 b1, .int .i64 b2, .int .i64 b3, .int .i64 b4, .slice A' L'.length c', .slice B' R'.length d'] 31); simpa using this
 have B0 : Below w.heap.size w W0 := by rw [hW0]; exact bq
 clear hE1
 have x0 := blk_cell HE1 0 rfl
 have x1 := blk_cell HE1 1 rfl
 have x2 := blk_cell HE1 2 rfl
 have x3 := blk_cell HE1 3 rfl
 have x4 := blk_cell HE1 4 rfl
 have y0 := blk_cell HE2 0 rfl
 have y1 := blk_cell HE2 1 rfl
 have y2 := blk_cell HE2 2 rfl
 have y3 := blk_cell HE2 3 rfl
 have y4 := blk_cell HE2 4 rfl
 have EL := Lib.hid (Equal_int L L' A A' L.length L'.length c c' W0 (h1.below B0) (h3.below B0) rfl rfl)
 have ER := Lib.hid (fun W (hb : Below W0.heap.size W0 W) => Equal_int R R' B B' R.length R'.length d d' W ((h2.below B0).below hb) ((h4.below B0).below hb) rfl rfl)
 clear h1 h2 h3 h4
 by_cases hs : (((a1, a2), (a3, a4)) : Sg) = ((b1, b2), (b3, b4))
 ·cases hs
  by_cases hl : L = L'
  ·subst hl
   rw [show decide (L = L) = true from decide_eq_true rfl] at EL
   have HH : Hid (decide (((((a1, a2), (a3, a4)), (L, R)) : Edg) = (((a1, a2), (a3, a4)), (L, R'))) = decide (R = R')) := Lib.hid (by by_cases h : R = R' <;> simp [h])
   generalize decide (R = R') = b at *
   go_enter Tryz.func53, Tryz.ntmps53
   go_wp2_with fail
   rw [← hW0]
   clear hW0
   refine EL.out.mono ?_
   rintro e w1 ⟨rfl, hb1⟩
   have HE1 := blk_below HE1 hb1
   have HE2 := blk_below HE2 hb1
   clear x0 x1 x2 x3 x4 y0 y1 y2 y3 y4
   have x5 := blk_cell HE1 5 rfl
   have y5 := blk_cell HE2 5 rfl
   go_wp2_with fail
   refine (ER.out _ hb1).mono ?_
   rintro e w2 ⟨rfl, hb2⟩
   go_wp2
   go_ret
   exact ⟨ret_bool HH.out.symm, (by repeat (first | exact Below.refl _ _ | apply below_alloc | apply below_drewN | apply below_drew | (refine below_set2 ?_ ?_; (first | (simp; done) | (simp; omega))) | (refine below_step ?_ hb2) | (refine below_step ?_ hb1) | (refine below_step ?_ B0)))⟩
  ·rw [show decide (L = L') = false from decide_eq_false hl] at EL
   have HH : Hid (decide (((((a1, a2), (a3, a4)), (L, R)) : Edg) = (((a1, a2), (a3, a4)), (L', R'))) = false) := Lib.hid (by simp [hl])
   clear hl
   go_enter Tryz.func53, Tryz.ntmps53
   go_wp2_with fail
   rw [← hW0]
   clear hW0
   refine EL.out.mono ?_
   rintro e w1 ⟨rfl, hb1⟩
   go_wp2
   go_ret
   exact ⟨ret_bool HH.out.symm, (by repeat (first | exact Below.refl _ _ | apply below_alloc | apply below_drewN | apply below_drew | (refine below_set2 ?_ ?_; (first | (simp; done) | (simp; omega))) | (refine below_step ?_ hb1) | (refine below_step ?_ B0)))⟩
 ·have q1 : decide ((((a1, a2), (a3, a4)) : Sg) = ((b1, b2), (b3, b4))) = false := decide_eq_false hs
  have q2 : (decide (a1 = b1) && decide (a2 = b2) && (decide (a3 = b3) && decide (a4 = b4))) = false := by simpa [and_assoc] using hs
  have q3 : ((decide (a1 = b1) && decide (a2 = b2)) && (decide (a3 = b3) && decide (a4 = b4))) = false := q2
  have HH : Hid (decide (((((a1, a2), (a3, a4)), (L, R)) : Edg) = (((b1, b2), (b3, b4)), (L', R'))) = false) := Lib.hid (decide_eq_false (fun e => hs (by injection e)))
  clear hs
  go_enter Tryz.func53, Tryz.ntmps53
  go_wp2
  go_ret
  exact ⟨ret_bool HH.out.symm, by rw [hW0] at B0; exact B0⟩
theorem mesh_Same {ok ok' : Nat → Prop} (a b : Msh) (A B : Option Addr) (n m c d : Nat) (w : World) (ha : Row Ty.edge ok w A a) (hb : Row Ty.edge ok' w B b) (hn : n = a.length) (hm : m = b.length) :
  Calls Tryz.prog 26 #[.slice A n c, .slice B m d] w fun e w' => e = .returned (.bool (decide (a = b))) ∧ Below w.heap.size w w' := by
 subst hn hm
 have hl1 := ha.len
 have hl2 := hb.len
 have HA := Lib.hid ha
 have HB := Lib.hid hb
 clear ha hb
 have hEF : Calls Tryz.prog 52 #[.slice A a.length c, .slice B b.length d, .func (.func 53) #[] #[]] w fun e w' => e = .returned (.bool (decide (a = b))) ∧ Below w.heap.size w w' := by
  by_cases hl : a.length = b.length
  ·have HL := Lib.hid hl
   have hlb : ((a.length : Int) != (b.length : Int)) = false := by simp [hl]
   have hlb2 : (a.length == b.length) = true := by simp [hl]
   clear hl
   go_enter Tryz.func52, Tryz.ntmps52
   go_wp2
   go_loopw [17] (fun i wr => ∃ k : Nat, k ≤ a.length ∧ i = .int .i64 k ∧ Below w.heap.size w wr ∧ Hid (a.take k = b.take k)) (fun i _ => a.length - (intOf i).toNat)
   case atStart => exact ⟨0, Nat.zero_le _, rfl, Below.refl _ _, by simp [Hid]⟩
   case round =>
    obtain ⟨k, hk, rfl, hbl, hall⟩ := hrel
    by_cases hlt : k < a.length
    ·have hlt2 : k < b.length := by have := HL.out; omega
     obtain ⟨ad, A1, c1, A2, c2, rfl, hx0, hx1, hx2, hx3, hx4, hx5, hc1, hr1, hc2, hr2⟩ := (HA.out.below hbl).edge_at k hlt
     obtain ⟨bd, B1, d1, B2, d2, rfl, hy0, hy1, hy2, hy3, hy4, hy5, hd1, hs1, hd2, hs2⟩ := (HB.out.below hbl).edge_at k hlt2
     have hz := hbl.size
     have hyb := World.block_lt_of_cell? wr _ hy0
     have hne : ¬ wr.heap.size = (bd.add (k * 6)).block := by omega
     have hne2 : ¬ (bd.add (k * 6)).block = wr.heap.size := by omega
     have CS := Lib.hid (fun W (hW : Below wr.heap.size wr W) => same_edge (egD a k).1 (egD b k).1 (egD a k).2.1 (egD a k).2.2 (egD b k).2.1 (egD b k).2.2 A1 A2 B1 B2 c1 c2 d1 d2 W (hr1.below hW) (hr2.below hW) (hs1.below hW) (hs2.below hW))
     clear hr1 hr2 hs1 hs2 hc1 hc2 hd1 hd2
     by_cases hq : egD a k = egD b k
     ·have HT := Lib.hid (take_eq_step (((0, 0), (0, 0)), ([], [])) hall.out hlt hlt2 hq)
      have HD : Hid (decide (((egD a k).1, ((egD a k).2.1, (egD a k).2.2)) = ((egD b k).1, ((egD b k).2.1, (egD b k).2.2))) = true) := decide_eq_true hq
      clear hq
      go_wp2_with fail
      refine (CS.out _ bq).mono ?_
      rintro e w1 ⟨rfl, hb1⟩
      rw [HD.out]
      clear hx0 hx1 hx2 hx3 hx4 hx5 hy0 hy1 hy2 hy3 hy4 hy5
      go_wp2
      go_roundw
      case rel => exact ⟨k + 1, by omega, by go_num, (by repeat (first | exact Below.refl _ _ | apply below_alloc | apply below_drewN | apply below_drew | (refine below_set2 ?_ ?_; (first | (simp; done) | (simp; omega))) | (refine below_step ?_ hb1) | (refine below_step ?_ hbl))), HT.out⟩
      case measure => simp [intOf]; omega
     ·have HN := Lib.hid (take_ne (((0, 0), (0, 0)), ([], [])) hq)
      have HD : Hid (decide (((egD a k).1, ((egD a k).2.1, (egD a k).2.2)) = ((egD b k).1, ((egD b k).2.1, (egD b k).2.2))) = false) := decide_eq_false hq
      clear hq
      go_wp2_with fail
      refine (CS.out _ bq).mono ?_
      rintro e w1 ⟨rfl, hb1⟩
      rw [HD.out]
      clear hx0 hx1 hx2 hx3 hx4 hx5 hy0 hy1 hy2 hy3 hy4 hy5
      go_wp2
      go_ret
      exact ⟨ret_bool (by rw [eq_comm, decide_eq_false_iff_not]; exact HN.out), (by repeat (first | exact Below.refl _ _ | apply below_alloc | apply below_drewN | apply below_drew | (refine below_set2 ?_ ?_; (first | (simp; done) | (simp; omega))) | (refine below_step ?_ hb1) | (refine below_step ?_ hbl)))⟩
    ·go_wp2
     go_ret
     refine ⟨ret_bool ?_, hbl⟩
     have := hall.out
     rw [List.take_of_length_le (by omega), List.take_of_length_le (by have := HL.out; omega)] at this
     simp [this]
  ·have HL := Lib.hid hl
   have hlb : ((a.length : Int) != (b.length : Int)) = true := by simp; omega
   have hlb2 : (a.length == b.length) = false := by simpa using hl
   clear hl
   go_enter Tryz.func52, Tryz.ntmps52
   go_wp2
   go_ret
   exact ⟨ret_bool (by rw [eq_comm, decide_eq_false_iff_not]; exact fun h => HL.out (by rw [h])), Below.refl _ _⟩
 have HEF := Lib.hid hEF
 clear hEF
 go_enter Tryz.func26, Tryz.ntmps26
 go_wp2_with fail
 refine HEF.out.mono ?_
 rintro e w1 ⟨rfl, hb1⟩
 go_wp2
 go_ret
 exact ⟨rfl, (by repeat (first | exact Below.refl _ _ | apply below_alloc | apply below_drewN | apply below_drew | (refine below_set2 ?_ ?_; (first | (simp; done) | (simp; omega))) | (refine below_step ?_ hb1)))⟩
end
end Go.Proofs.YtaeflnbjeaoapaaGreat
