/- Contract of trace.Check. -/
import Derived.Test.YtlmjciajpjdilaaTMap
import Derived.Test.YtlmjciajpjdilaaTClean
namespace Go.Proofs.Ytlmjciajpjdilaa
open Go.RowKit Go.Proofs.YtlmjciajpjdilaaW.PrintLast
set_option linter.unusedVariables false
set_option linter.unusedSimpArgs false

/-- Block b is a map that counts how often each point is in a list. -/
def EM (w : World) (b : Nat) (l : Pts) : Prop := ∃ vs : List (Pt × Value), OwnMap ptV w b vs ∧ ∀ p, mapGet vs p = if p ∈ l then some (.int .i64 (l.count p : Nat)) else none
theorem EM.made (w : World) : EM (w.alloc (.map #[] 0)) w.heap.size [] := ⟨[], OwnMap.made w ptV, fun p => by simp [mapGet]⟩
theorem EM.below {w w' : World} {b : Nat} {l : Pts} (h : EM w b l) (hb : Below w.heap.size w w') : EM w' b l := by
  obtain ⟨vs, h1, h2⟩ := h
  exact ⟨vs, h1.below hb, h2⟩
theorem mapIx_lt_iff {κ : Type} [DecidableEq κ] {vs : List (κ × Value)} {k : κ} : mapIx vs k < vs.length ↔ mapGet vs k ≠ none := by
  unfold mapGet
  constructor
  · intro h; rw [List.getElem?_eq_getElem h]; simp
  · intro h; apply Classical.byContradiction; intro hn; exact h (by rw [List.getElem?_eq_none (by omega)]; rfl)
theorem mapIx_le {κ : Type} [DecidableEq κ] {vs : List (κ × Value)} {k : κ} : mapIx vs k ≤ vs.length := by
  have := List.idxOf_le_length (a := k) (l := vs.map Prod.fst)
  rwa [List.length_map] at this
theorem mapIx_of {κ : Type} [DecidableEq κ] {vs : List (κ × Value)} {k : κ} {i : Nat} (hn : (vs.map Prod.fst).Nodup) (hi : i < vs.length) (hk : (vs[i]'hi).1 = k) : mapIx vs k = i := by
  have := List.Nodup.idxOf_getElem hn i (by rw [List.length_map]; exact hi)
  rw [List.getElem_map, hk] at this
  exact this
theorem mapGet_set {κ : Type} [DecidableEq κ] {vs : List (κ × Value)} {k : κ} (hi : mapIx vs k < vs.length) (v : Value) (j : κ) : mapGet (vs.set (mapIx vs k) (k, v)) j = if j = k then some v else mapGet vs j := by
  have hk : (vs.set (mapIx vs k) (k, v)).map Prod.fst = vs.map Prod.fst := by
    rw [List.map_set]
    apply List.ext_getElem?
    intro m
    rw [List.getElem?_set]
    split
    · rename_i hj; subst hj
      rw [if_pos (by rw [List.length_map]; exact hi), List.getElem?_map, List.getElem?_eq_getElem hi]
      simp [mapIx_lt hi]
    · rfl
  have hx : mapIx (vs.set (mapIx vs k) (k, v)) j = mapIx vs j := by rw [mapIx, hk]; rfl
  rw [mapGet, hx, List.getElem?_set]
  by_cases hj : j = k
  · subst hj; rw [if_pos rfl, if_pos rfl, if_pos hi]; rfl
  · rw [if_neg hj]
    split
    · rename_i e
      have h1 := mapIx_lt hi
      have h2 : mapIx vs j < vs.length := by omega
      have h3 := mapIx_lt h2
      exact absurd (by simp only [← e] at h3; rw [← h3, h1]) hj
    · rfl
theorem mapGet_snoc {κ : Type} [DecidableEq κ] {vs : List (κ × Value)} {k : κ} (hi : ¬ mapIx vs k < vs.length) (v : Value) (j : κ) : mapGet (vs ++ [(k, v)]) j = if j = k then some v else mapGet vs j := by
  have hnk : k ∉ vs.map Prod.fst := fun hm => hi (by have := List.idxOf_lt_length_of_mem hm; rwa [List.length_map] at this)
  by_cases hj : j = k
  · subst hj
    rw [if_pos rfl, mapGet, mapIx, List.map_append, List.idxOf_append, if_neg hnk]
    simp
  · rw [if_neg hj]
    unfold mapGet mapIx
    rw [List.map_append, List.idxOf_append]
    by_cases hm : j ∈ vs.map Prod.fst
    · rw [if_pos hm, List.getElem?_append_left (by have := List.idxOf_lt_length_of_mem hm; rwa [List.length_map] at this)]
    · rw [if_neg hm]
      have e1 : List.idxOf j (vs.map Prod.fst) = vs.length := by rw [List.idxOf_eq_length hm, List.length_map]
      rw [e1]
      have e2 : List.idxOf j (List.map Prod.fst [(k, v)]) = 1 := by
        simp [List.idxOf_cons, show (k == j) = false by simpa using fun e : k = j => hj e.symm]
      rw [e2]
      simp
      omega
/-- ends[p]++ -/
theorem EM.inc {w : World} {b : Nat} {l : Pts} (h : EM w b l) (p : Pt) :
    (∀ c : Bool, c = false → (Instr.lookup 46 (.map (some b)) (ptV p) c).run Try.prog w = .ok (.int .i64 (l.count p : Nat)) w) ∧
    ∃ w2 s, (Instr.mapEntry 46 (.map (some b)) (ptV p)).run Try.prog w = .ok (.tuple #[.int .i64 (l.count p : Nat), .int .i64 (s : Nat)]) w2 ∧
    (∀ c : Bool, c = false → (Instr.lookup 46 (.map (some b)) (ptV p) c).run Try.prog w2 = .ok (.int .i64 (l.count p : Nat)) w2) ∧ KeptS (fun i => i = b) w w2 ∧
    ∃ w3, (Instr.entryStore 46 (.map (some b)) (.int .i64 (s : Nat)) (.int .i64 ((l.count p : Nat) + 1 : Int))).run Try.prog w2 = .ok () w3 ∧ EM w3 b (l ++ [p]) ∧ KeptS (fun i => i = b) w w3 ∧ w3.heap.size = w.heap.size := by
  obtain ⟨vs, hM, hv⟩ := h
  have hget : (mapGet vs p).getD (.int .i64 0) = .int .i64 (l.count p : Nat) := by
    rw [hv p]
    by_cases hp : p ∈ l
    · rw [if_pos hp]; rfl
    · rw [if_neg hp, List.count_eq_zero_of_not_mem hp]; rfl
  refine ⟨fun c hc => ?_, ?_⟩
  · subst hc
    have := hM.lookup (P := Try.prog) (t := 46) (kt := 25) (et := 3) keyPt (by kernel_rfl) (z := .int .i64 0) (by kernel_rfl) p false
    rw [this, hget]; rfl
  obtain ⟨w2, s, hrun, hS, hK, hsz⟩ := hM.entry keyPt (t := 46) (kt := 25) (et := 3) (by kernel_rfl) (z := .int .i64 0) (fun w => by kernel_rfl) p
  rw [hget] at hrun
  have hlk2 : (mapGet (if mapIx vs p < vs.length then vs else vs ++ [(p, Value.int .i64 0)]) p).getD (.int .i64 0) = .int .i64 (l.count p : Nat) := by
    by_cases hi : mapIx vs p < vs.length
    · rw [if_pos hi]; exact hget
    · rw [if_neg hi, mapGet_snoc hi, if_pos rfl, ← hget]
      have : mapGet vs p = none := Classical.byContradiction (fun h => hi (mapIx_lt_iff.2 h))
      rw [this]; rfl
  refine ⟨w2, s, hrun, fun c hc => ?_, hK, ?_⟩
  · subst hc
    have := hS.own.lookup (P := Try.prog) (t := 46) (kt := 25) (et := 3) keyPt (by kernel_rfl) (z := .int .i64 0) (by kernel_rfl) p false
    rw [this, hlk2]; rfl
  by_cases hi : mapIx vs p < vs.length
  · rw [if_pos hi] at hS
    obtain ⟨w3, hrun3, hM3, hK3, hs3⟩ := hS.put (P := Try.prog) (t := 46) hi (.int .i64 ((l.count p : Nat) + 1 : Int))
    rw [mapIx_lt hi] at hM3
    refine ⟨w3, hrun3, ⟨_, hM3, fun j => ?_⟩, kept_step hK hK3, by omega⟩
    rw [mapGet_set hi, hv j]
    by_cases hj : j = p
    · subst hj
      rw [if_pos rfl, if_pos (by simp), List.count_append]
      simp
    · rw [if_neg hj, List.count_append]
      simp [hj, show ¬ p = j from fun e => hj e.symm]
  · rw [if_neg hi] at hS
    have hix : mapIx vs p = vs.length := by
      have h1 : ¬ mapIx vs p < vs.length := hi
      have : mapIx vs p ≤ vs.length := mapIx_le
      omega
    have hi2 : mapIx vs p < (vs ++ [(p, Value.int .i64 0)]).length := by rw [List.length_append]; simp; omega
    have hpl : p ∉ l := fun hp => hi (mapIx_lt_iff.2 (by rw [hv p, if_pos hp]; simp))
    obtain ⟨w3, hrun3, hM3, hK3, hs3⟩ := hS.put (P := Try.prog) (t := 46) hi2 (.int .i64 ((l.count p : Nat) + 1 : Int))
    have e1 : ((vs ++ [(p, Value.int .i64 0)])[mapIx vs p]'hi2).1 = p := by
      rw [List.getElem_append_right (by omega)]; simp
    have e2 : (vs ++ [(p, Value.int .i64 0)]).set (mapIx vs p) (p, Value.int .i64 ((l.count p : Nat) + 1 : Int)) = vs ++ [(p, Value.int .i64 ((l.count p : Nat) + 1 : Int))] := by
      rw [List.set_append_right _ _ (by omega), hix]; simp
    rw [e1, e2] at hM3
    refine ⟨w3, hrun3, ⟨_, hM3, fun j => ?_⟩, kept_step hK hK3, by omega⟩
    rw [mapGet_snoc hi, hv j]
    by_cases hj : j = p
    · subst hj
      rw [if_pos rfl, if_pos (by simp), List.count_append]
      simp
    · rw [if_neg hj, List.count_append]
      simp [hj, show ¬ p = j from fun e => hj e.symm]
/-- What a loop over the map meets. -/
theorem EM.entries {w : World} {b : Nat} {l : Pts} (h : EM w b l) : ∃ vs : List (Pt × Value), OwnMap ptV w b vs ∧ (∀ (i : Nat) (hi : i < vs.length), (vs[i]'hi).1 ∈ l ∧ (vs[i]'hi).2 = .int .i64 (l.count (vs[i]'hi).1 : Nat)) ∧ ∀ p ∈ l, ∃ (i : Nat) (hi : i < vs.length), (vs[i]'hi).1 = p := by
  obtain ⟨vs, hM, hv⟩ := h
  refine ⟨vs, hM, fun i hi => ?_, fun p hp => ?_⟩
  · obtain ⟨_, _, _, _, _, hn, _⟩ := hM
    have hx := mapIx_of hn hi rfl
    have := hv (vs[i]'hi).1
    rw [mapGet, hx, List.getElem?_eq_getElem hi] at this
    by_cases hm : (vs[i]'hi).1 ∈ l
    · rw [if_pos hm] at this
      exact ⟨hm, by simpa using this⟩
    · rw [if_neg hm] at this; cases this
  · have hi : mapIx vs p < vs.length := mapIx_lt_iff.2 (by rw [hv p, if_pos hp]; simp)
    exact ⟨_, hi, mapIx_lt hi⟩
theorem nodup_full : ∀ {ds : List Nat} {n : Nat}, ds.Nodup → (∀ i ∈ ds, i < n) → ds.length = n → ∀ i, i < n → i ∈ ds := by
  intro ds n hn hb hl i hi
  apply Classical.byContradiction
  intro hni
  have := nodup_sub (l := i :: ds) (m := List.range n) (List.nodup_cons.2 ⟨hni, hn⟩) (fun x hx => by
    rcases List.mem_cons.1 hx with rfl | hx
    · exact List.mem_range.2 hi
    · exact List.mem_range.2 (hb x hx))
  rw [List.length_cons, List.length_range] at this
  omega
theorem checkU_cross {u : Sgs} (h : ¬ u = []) (h2 : cleanZ u = false) : checkU u = 13 := by unfold checkU; rw [if_neg h, if_pos h2]
theorem checkU_open {u : Sgs} (h : ¬ u = []) (h2 : cleanZ u = true) (h3 : ∃ p ∈ ends2 u, (ends2 u).count p % 2 = 1) : checkU u = 14 := by
  unfold checkU
  obtain ⟨p, hp, hq⟩ := h3
  rw [if_neg h, if_neg (by rw [h2]; decide), if_pos (List.any_eq_true.2 ⟨p, hp, decide_eq_true hq⟩)]
theorem checkU_ok {u : Sgs} (h : ¬ u = []) (h2 : cleanZ u = true) (h3 : ∀ p ∈ ends2 u, ¬ (ends2 u).count p % 2 = 1) : checkU u = 0 := by
  unfold checkU
  rw [if_neg h, if_neg (by rw [h2]; decide), if_neg (by rw [List.any_eq_true]; rintro ⟨p, hp, hq⟩; exact h3 p hp (of_decide_eq_true hq))]
set_option maxRecDepth 100000 in
set_option maxHeartbeats 2000000 in
theorem trace_Check {ok : Nat → Prop} (l : Sgs) (A : Option Addr) (n c : Nat) (w : World) (hr : Row Ty.sg ok w A l) (hn : n = l.length) (hlen : l.length ≤ 600) :
    Calls Try.prog 7 #[.slice A n c] w fun e w' => e = .returned (.int .i64 (checkZ l)) ∧ Below w.heap.size w w' := by
  subst hn
  have mk : ∀ W : World, (Instr.makeMap 46 none).run Try.prog W = .ok (.map (some W.heap.size)) (W.alloc (.map #[] 0)) := fun W => run_makeMap _ W
  have HR := Lib.hid hr
  clear hr
  have hul := uniq_len l
  have CU := Lib.hid (fun W h => noding_Unique (ok := ok) l A l.length c W h rfl (by omega))
  obtain ⟨r, hr⟩ : ∃ r, r = checkZ l := ⟨_, rfl⟩
  rw [← hr]
  have HE : Hid (r = checkU (uniqZ l)) := hr
  clear hr
  generalize uniqZ l = u at *
  go_enter Try.func7, Try.ntmps7
  go_wp2_with fail
  refine Calls.mono (CU.out _ HR.out) ?_
  rintro e w1 ⟨v, rfl, ho, hb1⟩
  obtain ⟨A1, c1, rfl, hl1, hr1⟩ := ho.reads
  have HU := Lib.hid hr1
  have HB1 := Lib.hid hb1
  clear ho hr1 hb1 CU
  by_cases hu : u = []
  · subst hu
    have HR15 : Hid (r = 15) := HE.out
    clear HE
    go_wp2
    go_ret
    exact ⟨ret_int HR15.out.symm, (by repeat (first | exact Below.refl _ _ | apply below_alloc | apply below_drewN | apply below_drew | (refine below_set2 ?_ ?_; (first | (simp; done) | (simp; omega))) | (refine below_step ?_ HB1.out)))⟩
  have HN := Lib.hid hu
  have hpos : 0 < u.length := List.length_pos_iff.2 hu
  have hq : ((u.length : Int) == 0) = false := by simp; omega
  have hq2 : (u.length == 0) = false := by simp; omega
  clear hu
  cases hc : cleanZ u
  · have HC := Lib.hid hc
    have HR13 : Hid (r = 13) := HE.out.trans (checkU_cross HN.out hc)
    clear hc HE
    go_wp2_with fail
    refine (noding_Clean u A1 _ c1 _ HU.out rfl (by omega)).mono ?_
    rintro e w2 ⟨rfl, hb2⟩
    rw [HC.out]
    go_wp2
    go_ret
    exact ⟨ret_int HR13.out.symm, (by repeat (first | exact Below.refl _ _ | apply below_alloc | apply below_drewN | apply below_drew | (refine below_set2 ?_ ?_; (first | (simp; done) | (simp; omega))) | (refine below_step ?_ hb2) | (refine below_step ?_ HB1.out)))⟩
  · have HC := Lib.hid hc
    clear hc
    go_wp2_with fail
    refine (noding_Clean u A1 _ c1 _ HU.out rfl (by omega)).mono ?_
    rintro e w2 ⟨rfl, hb2⟩
    rw [HC.out]
    have HU2 := Lib.hid (HU.out.below hb2)
    have HB2 := Lib.hid (below_step HB1.out hb2)
    clear hb2 HB1 HU
    go_wp2
    go_loopw [20] (fun i wr => ∃ k : Nat, k ≤ u.length ∧ i = .int .i64 k ∧ Hid (Below w2.heap.size w2 wr) ∧ Hid (EM wr w2.heap.size (ends2 (u.take k)))) (fun i _ => u.length - (intOf i).toNat)
    case atStart => exact ⟨0, Nat.zero_le _, rfl, below_alloc (Below.refl _ _) _, EM.made w2⟩
    case round =>
      obtain ⟨k, hk, rfl, HB, HEm⟩ := hrel
      by_cases hlt : k < u.length
      · have HUr := Lib.hid (HU2.out.below HB.out)
        obtain ⟨ad, rfl, hx0, hx1, hx2, hx3⟩ := HUr.out.sg_at k hlt
        have HS := Lib.hid (ends2_snoc u k hlt)
        have hel := ends2_len (u.take k)
        rw [List.length_take] at hel
        obtain ⟨s, hs⟩ : ∃ s, s = sgD u k := ⟨_, rfl⟩
        rw [← hs] at hx0 hx1 hx2 hx3 HS
        have hc1 : (ends2 (u.take k)).count s.1 ≤ (ends2 (u.take k)).length := List.count_le_length
        have hc2 : (ends2 (u.take k) ++ [s.1]).count s.2 ≤ (ends2 (u.take k)).length + 1 := by have := List.count_le_length (a := s.2) (l := ends2 (u.take k) ++ [s.1]); simpa using this
        have hc3 : (ends2 (u.take k)).count s.1 ≤ 1200 := by omega
        have hc4 : (ends2 (u.take k) ++ [s.1]).count s.2 ≤ 1201 := by omega
        clear hs HUr hel hc1 hc2
        go_wp2_with fail
        obtain ⟨W0, hW0⟩ : ∃ W0, W0 = wr.alloc (.cells #[.int .i64 s.1.1, .int .i64 s.1.2, .int .i64 s.2.1, .int .i64 s.2.2] 27) := ⟨_, rfl⟩
        have HA : W0.heap[wr.heap.size]? = some (.cells #[.int .i64 s.1.1, .int .i64 s.1.2, .int .i64 s.2.1, .int .i64 s.2.2] 27 (0, 0)) := by rw [hW0]; exact heap_alloc_new _ _
        have BW0 : Below wr.heap.size wr W0.drew := by rw [hW0]; exact below_drew (below_alloc (Below.refl _ _) _)
        have hzw := HB.out.size
        have hzb : w2.heap.size < wr.heap.size := by obtain ⟨vs, hM, _⟩ := HEm.out; exact hM.lt
        have hlW := lt_of_block HA
        have hneb : ¬ wr.heap.size = w2.heap.size := by omega
        rw [← hW0]
        clear hW0
        obtain ⟨hlk1, wa1, st1, he1, hlk1b, hka1, w4, hs1, HE4, hk4, hz4⟩ := (HEm.out.below BW0).inc s.1
        generalize (ends2 (u.take k)).count s.1 = cn1 at *
        have wq1 := wr_in (x := ((cn1 : Nat) : Int) + 1) (by omega) (by omega)
        refine start_ (n := 8) (S := fun w' => w'.cell? ⟨wr.heap.size, 0, none⟩ = some (.int .i64 s.1.1) ∧ w'.cell? ⟨wr.heap.size, 1, none⟩ = some (.int .i64 s.1.2) ∧ (Instr.lookup 46 (.map (some w2.heap.size)) (.agg #[.int .i64 s.1.1, .int .i64 s.1.2]) false).run Try.prog w' = .ok (.int .i64 ((cn1 : Nat) : Int)) w') (ds := [7]) #[false, false, false, false, false, false, false, false] (by kernel_rfl) rfl rfl ⟨blk_cell HA 0 rfl, blk_cell HA 1 rfl, hlk1 false rfl⟩ (fun hHeld => ?_)
        refine pure_ (i := 0) (N := some 24) (v := ?_) (a' := ?_) #[true, false, false, false, false, false, false, false] rfl rfl (by kernel_rfl) (fun _ _ _ h => h) (Or.inl ⟨by rfl, ?_⟩) ?_ ?_
        rotate_left
        · intro w'
          go_simp
          with_reducible rfl
        rotate_left
        · simp only [Act.put, List.setIfInBounds_toArray, List.set_cons_zero, List.set_cons_succ, i64_w, i32_w]
          rfl
        refine pure_ (i := 1) (N := some 25) (v := ?_) (a' := ?_) #[true, true, false, false, false, false, false, false] rfl rfl (by kernel_rfl) (fun _ _ _ h => h) (Or.inl ⟨by rfl, ?_⟩) ?_ ?_
        rotate_left
        · intro w'
          go_simp
          with_reducible rfl
        rotate_left
        · simp only [Act.put, List.setIfInBounds_toArray, List.set_cons_zero, List.set_cons_succ, i64_w, i32_w]
          rfl
        refine take_ (i := 2) (N := some 26) (v := ?_) (a' := ?_) #[true, true, true, false, false, false, false, false] rfl rfl (by kernel_rfl) (fun _ _ _ h => h) (Or.inl ⟨by rfl, ?_⟩) hHeld ?_ ?_
        rotate_left
        · rintro w' ⟨s0, s1, s2⟩
          go_simp
          with_reducible rfl
        rotate_left
        · simp only [Act.put, List.setIfInBounds_toArray, List.set_cons_zero, List.set_cons_succ, i64_w, i32_w]
          rfl
        refine take_ (i := 3) (N := some 27) (v := ?_) (a' := ?_) #[true, true, true, true, false, false, false, false] rfl rfl (by kernel_rfl) (fun _ _ _ h => h) (Or.inl ⟨by rfl, ?_⟩) hHeld ?_ ?_
        rotate_left
        · rintro w' ⟨s0, s1, s2⟩
          go_simp
          with_reducible rfl
        rotate_left
        · simp only [Act.put, List.setIfInBounds_toArray, List.set_cons_zero, List.set_cons_succ, i64_w, i32_w]
          rfl
        refine pure_ (i := 4) (N := some 28) (v := ?_) (a' := ?_) #[true, true, true, true, true, false, false, false] rfl rfl (by kernel_rfl) (fun _ _ _ h => h) (Or.inl ⟨by rfl, ?_⟩) ?_ ?_
        rotate_left
        · intro w'
          go_simp
          with_reducible rfl
        rotate_left
        · simp only [Act.put, List.setIfInBounds_toArray, List.set_cons_zero, List.set_cons_succ, i64_w, i32_w]
          rfl
        refine one_ (i := 5) (N := some 29) #[true, true, true, true, true, true, false, false] rfl rfl (by kernel_rfl) (by decide) (fun K hK => ?_)
        refine value_ (w1 := ?_) (v := ?_) (by rfl) rfl ?_ ?_
        rotate_left 2
        · go_simp
          constructor
          · rfl
          · rfl
        refine hK.out _ _ ⟨blk_cell ((hka1.block _ hlW hneb).trans HA) 0 rfl, blk_cell ((hka1.block _ hlW hneb).trans HA) 1 rfl, hlk1b false rfl⟩ (fun hHeld => ?_)
        clear hK K
        refine norm_ (a' := ?_) ?_ ?_
        rotate_left
        · show Act.put _ (some 29) _ = _
          simp only [Act.put, List.setIfInBounds_toArray, List.set_cons_zero, List.set_cons_succ, i64_w, i32_w]
          rfl
        refine pure_ (i := 6) (N := some 30) (v := ?_) (a' := ?_) #[true, true, true, true, true, true, true, false] rfl rfl (by kernel_rfl) (fun _ _ _ h => h) (Or.inl ⟨by rfl, ?_⟩) ?_ ?_
        rotate_left
        · intro w'
          go_simp
          with_reducible rfl
        rotate_left
        · simp only [Act.put, List.setIfInBounds_toArray, List.set_cons_zero, List.set_cons_succ, i64_w, i32_w]
          rfl
        refine last_ (i := 7) (N := none) #[true, true, true, true, true, true, true, true] rfl rfl (by kernel_rfl) (by decide) (fun K hK => ?_)
        refine skip_ (w1 := ?_) (by rfl) rfl ?_ ?_
        rotate_left
        · go_simp
          rfl
        refine hK.out _ _ ?_
        clear hK K
        refine done_ (by kernel_rfl) ?_
        clear hlk1 he1 hs1
        have HA4 : w4.heap[wr.heap.size]? = some (.cells #[.int .i64 s.1.1, .int .i64 s.1.2, .int .i64 s.2.1, .int .i64 s.2.2] 27 (0, 0)) := (hk4.block _ hlW hneb).trans HA
        go_wp2_with fail
        obtain ⟨hlk2, wa2, st2, he2, hlk2b, hka2, w6, hs2, HE6, hk6, hz6⟩ := (HE4.below (below_drew (Below.refl _ _))).inc s.2
        generalize (ends2 (u.take k) ++ [s.1]).count s.2 = cn2 at *
        have wq2 := wr_in (x := ((cn2 : Nat) : Int) + 1) (by omega) (by omega)
        refine start_ (n := 8) (S := fun w' => w'.cell? ⟨wr.heap.size, 2, none⟩ = some (.int .i64 s.2.1) ∧ w'.cell? ⟨wr.heap.size, 3, none⟩ = some (.int .i64 s.2.2) ∧ (Instr.lookup 46 (.map (some w2.heap.size)) (.agg #[.int .i64 s.2.1, .int .i64 s.2.2]) false).run Try.prog w' = .ok (.int .i64 ((cn2 : Nat) : Int)) w') (ds := [7]) #[false, false, false, false, false, false, false, false] (by kernel_rfl) rfl rfl ⟨blk_cell HA4 2 rfl, blk_cell HA4 3 rfl, hlk2 false rfl⟩ (fun hHeld => ?_)
        refine pure_ (i := 0) (N := some 31) (v := ?_) (a' := ?_) #[true, false, false, false, false, false, false, false] rfl rfl (by kernel_rfl) (fun _ _ _ h => h) (Or.inl ⟨by rfl, ?_⟩) ?_ ?_
        rotate_left
        · intro w'
          go_simp
          with_reducible rfl
        rotate_left
        · simp only [Act.put, List.setIfInBounds_toArray, List.set_cons_zero, List.set_cons_succ, i64_w, i32_w]
          rfl
        refine pure_ (i := 1) (N := some 32) (v := ?_) (a' := ?_) #[true, true, false, false, false, false, false, false] rfl rfl (by kernel_rfl) (fun _ _ _ h => h) (Or.inl ⟨by rfl, ?_⟩) ?_ ?_
        rotate_left
        · intro w'
          go_simp
          with_reducible rfl
        rotate_left
        · simp only [Act.put, List.setIfInBounds_toArray, List.set_cons_zero, List.set_cons_succ, i64_w, i32_w]
          rfl
        refine take_ (i := 2) (N := some 33) (v := ?_) (a' := ?_) #[true, true, true, false, false, false, false, false] rfl rfl (by kernel_rfl) (fun _ _ _ h => h) (Or.inl ⟨by rfl, ?_⟩) hHeld ?_ ?_
        rotate_left
        · rintro w' ⟨s0, s1, s2⟩
          go_simp
          with_reducible rfl
        rotate_left
        · simp only [Act.put, List.setIfInBounds_toArray, List.set_cons_zero, List.set_cons_succ, i64_w, i32_w]
          rfl
        refine take_ (i := 3) (N := some 34) (v := ?_) (a' := ?_) #[true, true, true, true, false, false, false, false] rfl rfl (by kernel_rfl) (fun _ _ _ h => h) (Or.inl ⟨by rfl, ?_⟩) hHeld ?_ ?_
        rotate_left
        · rintro w' ⟨s0, s1, s2⟩
          go_simp
          with_reducible rfl
        rotate_left
        · simp only [Act.put, List.setIfInBounds_toArray, List.set_cons_zero, List.set_cons_succ, i64_w, i32_w]
          rfl
        refine pure_ (i := 4) (N := some 35) (v := ?_) (a' := ?_) #[true, true, true, true, true, false, false, false] rfl rfl (by kernel_rfl) (fun _ _ _ h => h) (Or.inl ⟨by rfl, ?_⟩) ?_ ?_
        rotate_left
        · intro w'
          go_simp
          with_reducible rfl
        rotate_left
        · simp only [Act.put, List.setIfInBounds_toArray, List.set_cons_zero, List.set_cons_succ, i64_w, i32_w]
          rfl
        refine one_ (i := 5) (N := some 36) #[true, true, true, true, true, true, false, false] rfl rfl (by kernel_rfl) (by decide) (fun K hK => ?_)
        refine value_ (w1 := ?_) (v := ?_) (by rfl) rfl ?_ ?_
        rotate_left 2
        · go_simp
          constructor
          · rfl
          · rfl
        refine hK.out _ _ ⟨blk_cell ((hka2.block _ (lt_of_block HA4) hneb).trans HA4) 2 rfl, blk_cell ((hka2.block _ (lt_of_block HA4) hneb).trans HA4) 3 rfl, hlk2b false rfl⟩ (fun hHeld => ?_)
        clear hK K
        refine norm_ (a' := ?_) ?_ ?_
        rotate_left
        · show Act.put _ (some 36) _ = _
          simp only [Act.put, List.setIfInBounds_toArray, List.set_cons_zero, List.set_cons_succ, i64_w, i32_w]
          rfl
        refine pure_ (i := 6) (N := some 37) (v := ?_) (a' := ?_) #[true, true, true, true, true, true, true, false] rfl rfl (by kernel_rfl) (fun _ _ _ h => h) (Or.inl ⟨by rfl, ?_⟩) ?_ ?_
        rotate_left
        · intro w'
          go_simp
          with_reducible rfl
        rotate_left
        · simp only [Act.put, List.setIfInBounds_toArray, List.set_cons_zero, List.set_cons_succ, i64_w, i32_w]
          rfl
        refine last_ (i := 7) (N := none) #[true, true, true, true, true, true, true, true] rfl rfl (by kernel_rfl) (by decide) (fun K hK => ?_)
        refine skip_ (w1 := ?_) (by rfl) rfl ?_ ?_
        rotate_left
        · go_simp
          rfl
        refine hK.out _ _ ?_
        clear hK K
        refine done_ (by kernel_rfl) ?_
        clear hlk2 he2 hs2
        have HE7 : Hid (EM w6 w2.heap.size (ends2 (u.take (k + 1)))) := by show EM _ _ _; rw [HS.out]; have := HE6; rwa [List.append_assoc] at this
        have HB7 : Hid (Below w2.heap.size w2 w6) := below_kept (below_drew (below_kept (below_step HB.out BW0) hk4 (fun b hb => by omega))) hk6 (fun b hb => by omega)
        clear HE4 HE6 hk4 hk6 HA HA4 BW0 hx0 hx1 hx2 hx3 HEm HB
        go_wp2
        go_roundw
        case rel => exact ⟨k + 1, by omega, by go_num, HB7, HE7⟩
        case measure => simp [intOf]; omega
      · obtain rfl : k = u.length := by omega
        rw [List.take_length] at HEm
        obtain ⟨vs, hM, hen, hall⟩ := HEm.out.entries
        have HEN := Lib.hid hen
        have HAL := Lib.hid hall
        obtain ⟨w5, hrun, hR, hb5, hs5⟩ := hM.range (P := Try.prog) (t := 46) (kt := 25) (et := 3) (by kernel_rfl)
        have HR0 := Lib.hid hR
        have HB5 : Hid (Below w.heap.size w w5) := below_step (below_step HB2.out HB.out) hb5
        have hbl := hM.lt
        have hwz := (below_step HB2.out HB.out).size
        clear hR hen hall hM hb5 HB HEm
        obtain ⟨r0, hre⟩ : ∃ r0, r0 = wr.heap.size := ⟨_, rfl⟩
        have hrz : w.heap.size ≤ r0 := by omega
        rw [← hre] at HR0 hrun
        clear hre hs5 hbl hwz
        go_wp2
        clear hrun
        go_loopg [8] vs.length (fun gg v wq => ∃ ds : List Nat, vs.length - ds.length ≤ gg ∧ Hid (RngM ptV wq w2.heap.size r0 vs ds) ∧ Hid (KeptS (fun i => i = r0) w5 wq) ∧ Hid (∀ i ∈ ds, ∀ hi : i < vs.length, ¬ (ends2 u).count (vs[i]'hi).1 % 2 = 1))
        case atStart => exact ⟨[], by simp, HR0.out, kept_refl _ _, fun i hi => by cases hi⟩
        case round =>
          obtain ⟨ds, hgg, HRG, HKq, HEV⟩ := hrel
          have HBq : Hid (Below w.heap.size w wr) := below_kept HB5.out HKq.out (fun b hb => by omega)
          rcases HRG.out.next (P := Try.prog) 0 with ⟨hdl, hrun⟩ | ⟨i, hi, w6, hni, hrun, hR6, hK6, hs6, hent⟩
          · have HR0' : Hid (r = 0) := HE.out.trans (checkU_ok HN.out HC.out (fun p hp => by
              obtain ⟨i, hi, rfl⟩ := HAL.out p hp
              obtain ⟨_, _, _, _, _, _, _, _, _, _, _, _, hnd, hb⟩ := HRG.out
              exact HEV.out i (nodup_full hnd hb hdl i hi) hi))
            clear hdl hgg
            go_wp2
            go_ret
            exact ⟨ret_int HR0'.out.symm, HBq.out⟩
          · obtain ⟨hin, hval⟩ := HEN.out i hi
            rw [hval] at hrun hent
            by_cases hodd : (ends2 u).count (vs[i]'hi).1 % 2 = 1
            · have HR14 : Hid (r = 14) := HE.out.trans (checkU_open HN.out HC.out ⟨_, hin, hodd⟩)
              have hq3 : (((ends2 u).count (vs[i]'hi).1 : Int) % 2 == 1) = true := (odd_eq _).trans (decide_eq_true hodd)
              have HB6 : Hid (Below w.heap.size w w6) := below_kept HBq.out hK6 (fun b hb => by omega)
              clear hodd hval hgg hK6 hs6
              go_wp2
              go_ret
              exact ⟨ret_int HR14.out.symm, HB6.out⟩
            · have HEV2 : Hid (∀ j ∈ ds ++ [i], ∀ hj : j < vs.length, ¬ (ends2 u).count (vs[j]'hj).1 % 2 = 1) := fun j hj hjl => by
                rcases List.mem_append.1 hj with h | h
                · exact HEV.out j h hjl
                · obtain rfl := List.mem_singleton.1 h; exact hodd
              have hq3 : (((ends2 u).count (vs[i]'hi).1 : Int) % 2 == 1) = false := (odd_eq _).trans (decide_eq_false hodd)
              have HR6 := Lib.hid hR6
              have HK6 := Lib.hid (kept_step HKq.out hK6)
              have hdlt : ds.length + 1 ≤ vs.length := by
                obtain ⟨_, _, _, _, _, _, _, _, _, _, _, _, hnd, hb⟩ := hR6
                have := nodup_sub (m := List.range vs.length) hnd (fun x hx => List.mem_range.2 (hb x hx))
                rw [List.length_append, List.length_range] at this
                simpa using this
              clear hodd hval hK6 hs6 hR6
              go_wp2
              go_roundg (vs.length - (ds.length + 1))
              case measure => omega
              case rel => exact ⟨ds ++ [i], by rw [List.length_append]; simp, HR6, HK6, HEV2⟩
end Go.Proofs.Ytlmjciajpjdilaa
