/- Contract of mapmakerref19.Merged. -/
import Derived.Test.YtniceoinipffmaaNMerg
import Derived.Laws.MakeOwn
namespace Go.Proofs.Ytniceoinipffmaa
open Go.RowKit Go.Proofs.YtniceoinipffmaaW.PrintLast
set_option linter.unusedVariables false
set_option linter.unusedSimpArgs false

def aD (l : List Place) (k : Nat) : Pt := (ndD l k).2.1
def dnF (l : List Place) (i k m : Nat) : Bool := decide (aD l m ∈ atL (l.take i)) || (decide (i ≤ m) && (decide (m < k) && decide (aD l m = aD l i)))
def dnL (l : List Place) (i k : Nat) : List Bool := (List.range l.length).map (dnF l i k)
def idL (l : List Place) (i k : Nat) : List Int := if aD l i ∈ atL (l.take i) then [] else gi (l.take k) (aD l i)
def outL (l : List Place) (i : Nat) : Sets := ((dk (atL (l.take i))).map (gi l)).filter big
theorem atL_take {l : List Place} {k m : Nat} (hk : m < k) (hm : m < l.length) : aD l m ∈ atL (l.take k) := by
  refine List.mem_map.2 ⟨ndD l m, ?_, rfl⟩
  have hi' : m < (l.take k).length := by rw [List.length_take]; omega
  have : (l.take k)[m] = ndD l m := by simp [ndD, hm]
  rw [← this]; exact List.getElem_mem hi'
theorem atL_next {l : List Place} {i : Nat} (hi : i < l.length) : atL (l.take (i + 1)) = atL (l.take i) ++ [aD l i] := by
  rw [take_snoc l i (0, ((0, 0), [])) hi, atL_snoc]; rfl
theorem dnL_start (l : List Place) : dnL l 0 0 = List.replicate l.length false := by
  apply List.ext_getElem
  · simp [dnL]
  · intro m h1 h2
    simp [dnL, dnF, atL]
theorem dnL_get {l : List Place} {i k m : Nat} (hm : m < l.length) : (dnL l i k).getD m false = dnF l i k m := by
  simp [dnL, hm]
theorem dnF_at (l : List Place) (i k : Nat) : dnF l i k k = decide (aD l k ∈ atL (l.take i)) := by simp [dnF]
theorem dnL_len (l : List Place) (i k : Nat) : (dnL l i k).length = l.length := by simp [dnL]
theorem dnL_next {l : List Place} {i : Nat} (hi : i < l.length) : dnL l i l.length = dnL l (i + 1) (i + 1) := by
  apply List.ext_getElem
  · simp [dnL]
  · intro m h1 h2
    have hm : m < l.length := by simpa [dnL] using h1
    simp only [dnL, List.getElem_map, List.getElem_range, dnF]
    rw [Bool.eq_iff_iff]
    simp only [Bool.or_eq_true, Bool.and_eq_true, decide_eq_true_eq, atL_next hi, List.mem_append, List.mem_singleton]
    constructor
    · rintro (h | ⟨_, _, h⟩)
      · exact .inl (.inl h)
      · exact .inl (.inr h)
    · rintro ((h | h) | ⟨h1, h2, h⟩)
      · exact .inl h
      · by_cases e : m < i
        · exact .inl (atL_take e hm)
        · exact .inr ⟨by omega, hm, h⟩
      · omega
theorem dnL_set {l : List Place} {i k : Nat} (hik : i ≤ k) (hk : k < l.length) (he : aD l k = aD l i) : (dnL l i k).set k true = dnL l i (k + 1) := by
  apply List.ext_getElem
  · simp [dnL]
  · intro m h1 h2
    have hm : m < l.length := by simpa [dnL] using h2
    rw [List.getElem_set]
    simp only [dnL, List.getElem_map, List.getElem_range, dnF]
    split
    · rename_i e; subst e
      simp [hik, he]
    · rename_i e
      have : decide (m < k) = decide (m < k + 1) := by rw [decide_eq_decide]; omega
      rw [this]
theorem dnL_same {l : List Place} {i k : Nat} (h : aD l k ∈ atL (l.take i) ∨ aD l k ≠ aD l i) : dnL l i k = dnL l i (k + 1) := by
  apply List.ext_getElem
  · simp [dnL]
  · intro m h1 h2
    simp only [dnL, List.getElem_map, List.getElem_range, dnF]
    by_cases e : m = k
    · subst e
      rcases h with h | h
      · simp [h]
      · simp [h]
    · have : decide (m < k) = decide (m < k + 1) := by rw [decide_eq_decide]; omega
      rw [this]
theorem idL_start (l : List Place) (i : Nat) : idL l i i = [] := by
  unfold idL; split
  · rfl
  · rename_i h; exact gi_none h
theorem take_next {l : List Place} {k : Nat} (hk : k < l.length) : l.take (k + 1) = l.take k ++ [ndD l k] := take_snoc l k (0, ((0, 0), [])) hk
theorem idL_add {l : List Place} {i k : Nat} (hk : k < l.length) (he : aD l k = aD l i) (hn : aD l k ∉ atL (l.take i)) : idL l i (k + 1) = idL l i k ++ [(ndD l k).1] := by
  unfold idL
  rw [if_neg (by rw [← he]; exact hn), if_neg (by rw [← he]; exact hn), take_next hk, gi_snoc, if_pos (show (ndD l k).2.1 = aD l i from he)]
theorem idL_same {l : List Place} {i k : Nat} (hk : k < l.length) (h : aD l k ∈ atL (l.take i) ∨ aD l k ≠ aD l i) : idL l i k = idL l i (k + 1) := by
  unfold idL
  split
  · rfl
  · rename_i hn
    rw [take_next hk, gi_snoc]
    rcases h with h | h
    · by_cases e : (ndD l k).2.1 = aD l i
      · exact absurd (by rw [← e]; exact h) hn
      · rw [if_neg e]
    · rw [if_neg (show ¬ (ndD l k).2.1 = aD l i from h)]
theorem outL_end (l : List Place) : outL l l.length = mergedZ l := by unfold outL mergedZ; rw [List.take_length]
theorem idL_len (l : List Place) (i k : Nat) : (idL l i k).length ≤ k := by
  unfold idL; split
  · simp
  · unfold gi; rw [List.length_map]; have := List.length_filter_le (fun x : Place => decide (x.2.1 = aD l i)) (l.take k); rw [List.length_take] at this; omega
theorem outL_big {l : List Place} {i : Nat} (hi : i < l.length) (h : 2 ≤ (idL l i l.length).length) : outL l (i + 1) = outL l i ++ [idL l i l.length] := by
  have hn : aD l i ∉ atL (l.take i) := fun hm => by unfold idL at h; rw [if_pos hm] at h; simp at h
  have e : idL l i l.length = gi l (aD l i) := by unfold idL; rw [if_neg hn, List.take_length]
  rw [e] at h ⊢
  unfold outL
  rw [atL_next hi, dk_snoc, if_neg (fun hm => hn ((dk_mem _ _).1 hm)), List.map_append, List.filter_append]
  congr 1
  exact List.filter_cons_of_pos (by simp [big, h])
theorem outL_small {l : List Place} {i : Nat} (hi : i < l.length) (h : ¬ 2 ≤ (idL l i l.length).length) : outL l (i + 1) = outL l i := by
  unfold outL
  rw [atL_next hi, dk_snoc]
  split
  · rfl
  · rename_i hm
    have hn : aD l i ∉ atL (l.take i) := fun h' => hm ((dk_mem _ _).2 h')
    have e : idL l i l.length = gi l (aD l i) := by unfold idL; rw [if_neg hn, List.take_length]
    rw [e] at h
    rw [List.map_append, List.filter_append]
    have : [aD l i].map (gi l) = [gi l (aD l i)] := rfl
    rw [this, List.filter_cons_of_neg (by simp [big]; omega), List.filter_nil, List.append_nil]
theorem outL_len (l : List Place) (i : Nat) : (outL l i).length ≤ i := by
  unfold outL
  have h1 := List.length_filter_le big ((dk (atL (l.take i))).map (gi l))
  rw [List.length_map] at h1
  have h2 := dk_len (atL (l.take i))
  rw [atL, List.length_map, List.length_take] at h2
  simp only [atL] at h1 ⊢
  omega
theorem reps_bool {ok : Nat → Prop} {w : World} : ∀ xs : List Bool, Reps Ty.bool ok w xs (xs.map Value.bool)
  | [] => rfl
  | x :: xs => ⟨[.bool x], xs.map Value.bool, rfl, rfl, reps_bool xs⟩
theorem OwnR.bool_cell {base : Nat} {e : TypeId} {M : Nat → Prop} {w : World} {g n cap : Nat} {xs : List Bool} (h : OwnR Ty.bool e base M w (.slice (some ⟨g, 0, none⟩) n cap) xs) (k : Nat) (hk : k < xs.length) :
    w.cell? ⟨g, k, none⟩ = some (.bool (xs.getD k false)) ∧ w.frozen? ⟨g, k, none⟩ = false := by
  obtain ⟨h0, inner, ho, hr⟩ := h
  obtain ⟨c, hc0, hc⟩ := hr.get k xs[k] (by simp [hk])
  obtain rfl : c = [.bool xs[k]] := hc0
  constructor
  · have := ho.cells (g := g) rfl k (.bool xs[k]) (by have := hc 0 _ rfl; rwa [show Ty.bool.sz = 1 from rfl, Nat.mul_one, Nat.add_zero] at this)
    rw [add_at, Nat.zero_add] at this
    simpa [hk] using this
  · rcases ho.2 with ⟨h1, _⟩ | ⟨g', cap', cur, h1, _, hh, _⟩
    · cases h1
    · injection h1 with h1; injection h1 with h1; injection h1 with h1
      subst h1
      simp [World.frozen?, hh]
theorem bool_flat (ok ok' : Nat → Prop) (w w' : World) (x : Bool) (cs : List Value) (h : Ty.bool.R ok w x cs) : Ty.bool.R ok' w' x cs := h
theorem OwnR.flat_kept {α : Type} {T : Ty α} {e : TypeId} {base : Nat} {M : Nat → Prop} {w w' : World} {v : Value} {xs : List α} {S : Nat → Prop} (hf : ∀ (ok ok' : Nat → Prop) (w w' : World) (x : α) (cs : List Value), T.R ok w x cs → T.R ok' w' x cs) (h : OwnR T e base M w v xs) (k : KeptS S w w') (hv : ∀ b, v.ownBlock = some b → ¬ S b) : OwnR T e base M w' v xs := by
  obtain ⟨h0, inner, ⟨h1, h2⟩, hr⟩ := h
  refine ⟨h0, inner, ⟨h1, ?_⟩, hr.imp (fun x c hc => hf _ _ _ _ _ _ hc)⟩
  rcases h2 with h2 | ⟨g, cap, cur, rfl, hg, hh, r⟩
  · exact .inl h2
  · exact .inr ⟨g, cap, cur, rfl, hg, (k.block g (lt_of_block hh) (hv g rfl)).trans hh, r⟩
theorem infoBool : (Try.prog.info? 4).map (fun i => (i.zero, i.size, i.bytes)) = some (some (.bool false), 1, 1) := by kernel_rfl
theorem made_bools (w : World) (n : Nat) (hn : n ≤ 1000000) : ∃ w2, (Instr.makeSlice 90 (.int .i64 (n : Int)) (.int .i64 (n : Int))).run Try.prog w = .ok (.slice (some ⟨w.heap.size, 0, none⟩) n n) w2 ∧
    OwnR Ty.bool 4 w.heap.size (fun k => k = w.heap.size) w2 (.slice (some ⟨w.heap.size, 0, none⟩) n n) (List.replicate n false) ∧ Below w.heap.size w w2 ∧ w2.heap.size = w.heap.size + 1 := by
  obtain ⟨i, hi, hzz⟩ := Option.map_eq_some_iff.1 infoBool
  simp only [Prod.mk.injEq] at hzz
  obtain ⟨hz, hs, hb⟩ := hzz
  have hr := run_make (P := Try.prog) w 90 4 i (.bool false) (by kernel_rfl) hi hz .i64 .i64 n n (by omega) (by omega) (by rw [hb]; omega) (by omega)
  simp only [Int.toNat_natCast, hs, Nat.mul_one] at hr
  refine ⟨_, hr, ⟨fun k hk => by simp [Value.ownBlock] at hk; exact hk.symm, (List.replicate n false).map Value.bool, ⟨by simp; exact (Nat.mul_one n).symm, .inr ⟨w.heap.size, n, _, by simp, Nat.le_refl _, heap_alloc_new w _, by simp, by simp only [maxLen]; omega, by rw [size_madeCells]; exact (Nat.mul_one n).symm, ?_⟩⟩, reps_bool _⟩, (by repeat (first | exact Below.refl _ _ | apply below_alloc | apply below_drewN | apply below_drew | (refine below_set2 ?_ ?_; (first | (simp; done) | (simp; omega))))), by simp⟩
  rw [List.length_replicate, show n * Ty.bool.sz = n from Nat.mul_one n]
  unfold madeCells
  apply List.ext_getElem
  · simp
  · intro j h1 h2
    simp [Value.cells, Nat.mod_one]

set_option maxRecDepth 20000 in
set_option maxHeartbeats 1000000 in
theorem ref19_Merged {ok : Nat → Prop} (ns : List Node) (ws : List Way) (rs : List Rel) (A1 A2 A3 : Option Addr) (c1 c2 c3 : Nat) (w : World) (h1 : Row Ty.node ok w A1 ns) (h2 : Row Ty.way ok w A2 ws) (h3 : Row Ty.rel ok w A3 rs)
    (q1 : ns.length ≤ 10000) (q2 : ws.length ≤ 10000) (q3 : rs.length ≤ 10000) :
    Calls Try.prog 21 #[.agg #[.slice A1 ns.length c1, .slice A2 ws.length c2, .slice A3 rs.length c3]] w fun e w' => ∃ v, e = .returned v ∧ Own1 Ty.ids 39 w.heap.size w' v (mergedZ (placesZ ns ws rs)) ∧ Below w.heap.size w w' := by
  have HR1 := Lib.hid h1
  have HR2 := Lib.hid h2
  have HR3 := Lib.hid h3
  clear h1 h2 h3
  have B0 : Below w.heap.size w (w.alloc (.cells #[.slice A1 ns.length c1, .slice A2 ws.length c2, .slice A3 rs.length c3] 26)) := (by repeat (first | exact Below.refl _ _ | apply below_alloc | apply below_drewN | apply below_drew | (refine below_set2 ?_ ?_; (first | (simp; done) | (simp; omega)))))
  go_enter Try.func21, Try.ntmps21
  go_wp2_with fail
  refine (ref19_Points ns ws rs A1 A2 A3 c1 c2 c3 _ (HR1.out.below B0) (HR2.out.below B0) (HR3.out.below B0) q1 q2 q3).mono ?_
  rintro e w1 ⟨v, rfl, ho, hb1⟩
  have B1 : Below w.heap.size w w1 := (by repeat (first | exact Below.refl _ _ | apply below_alloc | apply below_drewN | apply below_drew | (refine below_set2 ?_ ?_; (first | (simp; done) | (simp; omega))) | (refine below_step ?_ hb1)))
  have hpl := placesZ_len ns ws rs
  obtain ⟨A, c, rfl, hlc, hr⟩ := ho.reads
  obtain ⟨l, hl⟩ : ∃ l, l = placesZ ns ws rs := ⟨_, rfl⟩
  have HE : Hid (mergedZ l = mergedZ (placesZ ns ws rs)) := by show _ = _; rw [hl]
  rw [← hl] at hr hlc hpl ⊢
  obtain ⟨w2, hrun, hd, hb2, hs2⟩ := made_bools w1 l.length (by omega)
  obtain ⟨gd, hgd⟩ : ∃ gd, gd = w1.heap.size := ⟨_, rfl⟩
  have HC : Hid (∀ W, KeptS (fun i => i = gd) w2 W → ∀ k, k < l.length → ∃ ad, A = some ad ∧ ad.block ≠ gd ∧ W.cell? (ad.add (k * 4)) = some (.int .i64 (ndD l k).1) ∧ W.cell? ⟨(ad.add (k * 4)).block, (ad.add (k * 4)).off + 1, none⟩ = some (.int .i64 (aD l k).1) ∧
      W.cell? ⟨(ad.add (k * 4)).block, (ad.add (k * 4)).off + 2, none⟩ = some (.int .i64 (aD l k).2)) := fun W hK k hk => by
    obtain ⟨ad, A4, c4, hA, x1, x2, x3, x4, _, _⟩ := hr.node_at k hk
    have hb' : ¬ (ad.add (k * 4)).block = gd := fun e => by have := World.block_lt_of_cell? w1 _ x1; omega
    exact ⟨ad, hA, fun e => hb' (by rw [add_block]; exact e), hK.cell (cell_below hb2 x1) hb', hK.cell (cell_below hb2 x2) hb', hK.cell (cell_below hb2 x3) hb'⟩
  have HD0 : Hid (OwnR Ty.bool 4 gd (fun k => k = gd) w2 (.slice (some ⟨gd, 0, none⟩) l.length l.length) (dnL l 0 0)) := by show OwnR _ _ _ _ _ _ _; rw [dnL_start, hgd]; exact hd
  have B2 : Below w.heap.size w w2 := (by repeat (first | exact Below.refl _ _ | apply below_alloc | apply below_drewN | apply below_drew | (refine below_set2 ?_ ?_; (first | (simp; done) | (simp; omega))) | (refine below_step ?_ hb2) | (refine below_step ?_ B1)))
  have hg2 : gd < w2.heap.size := by omega
  have hgw : w.heap.size ≤ gd := by have := B1.size; omega
  rw [← hgd] at hrun
  clear hr ho hl HR1 HR2 HR3 hb1 B0 hd hgd hb2 hs2 B1
  go_wp2
  clear hrun
  go_loopw [4, 6] (fun v iv wr => ∃ i : Nat, i ≤ l.length ∧ iv = .int .i64 i ∧ KeptS (fun j => j = gd) w2 wr ∧ Hid (OwnR Ty.bool 4 gd (fun k => k = gd) wr (.slice (some ⟨gd, 0, none⟩) l.length l.length) (dnL l i i)) ∧
      Hid (OwnR Ty.ids 39 w2.heap.size (fun k => k = gd ∨ v.ownBlock = some k) wr v (outL l i))) (fun _ iv _ => l.length - (intOf iv).toNat)
  case atStart => exact ⟨0, Nat.zero_le _, rfl, kept_refl _ _, HD0.out, OwnR.nil _ _ _ _ _⟩
  case round =>
    obtain ⟨i, hi, rfl, hKo, HDo, HOo⟩ := hrel
    by_cases hlt : i < l.length
    · have HDS0 := Lib.hid HDo.out
      go_wp2
      obtain ⟨wi, rfl⟩ : ∃ wi : World, wi = wr := ⟨_, rfl⟩
      have hgi : gd < wi.heap.size := Nat.lt_of_lt_of_le hg2 hKo.size
      go_loopw [7, 8] (fun vi kv wr => ∃ k : Nat, i ≤ k ∧ k ≤ l.length ∧ kv = .int .i64 k ∧ KeptS (fun j => j = gd) wi wr ∧ Hid (OwnR Ty.bool 4 gd (fun k => k = gd) wr (.slice (some ⟨gd, 0, none⟩) l.length l.length) (dnL l i k)) ∧
          Hid (Own1 Ty.i64 3 wi.heap.size wr vi (idL l i k))) (fun _ kv _ => l.length - (intOf kv).toNat)
      case atStart => exact ⟨i, Nat.le_refl _, hi, rfl, kept_refl _ _, HDo.out, by rw [idL_start]; exact OwnR.nil _ _ _ _ _⟩
      case round =>
        obtain ⟨k, hik, hk, rfl, hK, HDN, HID⟩ := hrel
        by_cases hkl : k < l.length
        · obtain ⟨ad, rfl, hadg, x0, x1, x2⟩ := HC.out wr (kept_step hKo hK) k hkl
          obtain ⟨ad', e', _, y0, y1, y2⟩ := HC.out wr (kept_step hKo hK) i hlt
          cases e'
          obtain ⟨d0, df⟩ := HDN.out.bool_cell k (by rw [dnL_len]; exact hkl)
          rw [dnL_get hkl, dnF_at] at d0
          by_cases hdn : aD l k ∈ atL (l.take i)
          · rw [decide_eq_true hdn] at d0
            have HDS := Lib.hid (dnL_same (k := k) (.inl hdn))
            have HIS := Lib.hid (idL_same hkl (.inl hdn))
            clear hdn y0
            go_wp2_with fail
            refine start_ (n := 18) (S := fun w' => w'.cell? ⟨gd, k, none⟩ = some (.bool true)) (ds := []) #[false, false, false, false, false, false, false, false, false, false, false, false, false, false, false, false, false, false] (by kernel_rfl) rfl rfl (d0) (fun hHeld => ?_)
            refine pure_ (i := 0) (N := some 27) (v := ?_) (a' := ?_) #[true, false, false, false, false, false, false, false, false, false, false, false, false, false, false, false, false, false] rfl rfl (by kernel_rfl) (fun _ _ _ h => h) (Or.inl ⟨by rfl, ?_⟩) ?_ ?_
            rotate_left
            · intro w'
              go_simp
              with_reducible rfl
            rotate_left
            · simp only [Act.put, List.setIfInBounds_toArray, List.set_cons_zero, List.set_cons_succ, i64_w, i32_w]
              rfl
            refine pure_ (i := 1) (N := some 28) (v := ?_) (a' := ?_) #[true, true, false, false, false, false, false, false, false, false, false, false, false, false, false, false, false, false] rfl rfl (by kernel_rfl) (fun _ _ _ h => h) (Or.inl ⟨by rfl, ?_⟩) ?_ ?_
            rotate_left
            · intro w'
              go_simp
              with_reducible rfl
            rotate_left
            · simp only [Act.put, List.setIfInBounds_toArray, List.set_cons_zero, List.set_cons_succ, i64_w, i32_w]
              rfl
            refine pure_ (i := 2) (N := some 29) (v := ?_) (a' := ?_) #[true, true, true, false, false, false, false, false, false, false, false, false, false, false, false, false, false, false] rfl rfl (by kernel_rfl) (fun _ _ _ h => h) (Or.inl ⟨by rfl, ?_⟩) ?_ ?_
            rotate_left
            · intro w'
              go_simp
              with_reducible rfl
            rotate_left
            · simp only [Act.put, List.setIfInBounds_toArray, List.set_cons_zero, List.set_cons_succ, i64_w, i32_w]
              rfl
            refine take_ (i := 3) (N := some 30) (v := ?_) (a' := ?_) #[true, true, true, true, false, false, false, false, false, false, false, false, false, false, false, false, false, false] rfl rfl (by kernel_rfl) (fun _ _ _ h => h) (Or.inl ⟨by rfl, ?_⟩) hHeld ?_ ?_
            rotate_left
            · intro w' s0
              go_simp
              with_reducible rfl
            rotate_left
            · simp only [Act.put, List.setIfInBounds_toArray, List.set_cons_zero, List.set_cons_succ, i64_w, i32_w]
              rfl
            refine pure_ (i := 4) (N := some 31) (v := ?_) (a' := ?_) #[true, true, true, true, true, false, false, false, false, false, false, false, false, false, false, false, false, false] rfl rfl (by kernel_rfl) (fun _ _ _ h => h) (Or.inl ⟨by rfl, ?_⟩) ?_ ?_
            rotate_left
            · intro w'
              go_simp
              with_reducible rfl
            rotate_left
            · simp only [Act.put, List.setIfInBounds_toArray, List.set_cons_zero, List.set_cons_succ, i64_w, i32_w]
              rfl
            refine pure_ (i := 5) (N := some 32) (v := ?_) (a' := ?_) #[true, true, true, true, true, true, false, false, false, false, false, false, false, false, false, false, false, false] rfl rfl (by kernel_rfl) (fun _ _ _ h => h) (Or.inl ⟨by rfl, ?_⟩) ?_ ?_
            rotate_left
            · intro w'
              go_simp
              with_reducible rfl
            rotate_left
            · simp only [Act.put, List.setIfInBounds_toArray, List.set_cons_zero, List.set_cons_succ, i64_w, i32_w]
              rfl
            refine pure_ (i := 6) (N := some 33) (v := undef) (a' := ?_) #[true, true, true, true, true, true, true, false, false, false, false, false, false, false, false, false, false, false] rfl rfl (by kernel_rfl) (fun _ _ _ h => h) (Or.inr ⟨by rfl, rfl⟩) ?_ ?_
            rotate_left
            · simp only [Act.put, List.setIfInBounds_toArray, List.set_cons_zero, List.set_cons_succ, i64_w, i32_w]
              rfl
            refine pure_ (i := 7) (N := some 34) (v := undef) (a' := ?_) #[true, true, true, true, true, true, true, true, false, false, false, false, false, false, false, false, false, false] rfl rfl (by kernel_rfl) (fun _ _ _ h => h) (Or.inr ⟨by rfl, rfl⟩) ?_ ?_
            rotate_left
            · simp only [Act.put, List.setIfInBounds_toArray, List.set_cons_zero, List.set_cons_succ, i64_w, i32_w]
              rfl
            refine pure_ (i := 8) (N := some 35) (v := undef) (a' := ?_) #[true, true, true, true, true, true, true, true, true, false, false, false, false, false, false, false, false, false] rfl rfl (by kernel_rfl) (fun _ _ _ h => h) (Or.inr ⟨by rfl, rfl⟩) ?_ ?_
            rotate_left
            · simp only [Act.put, List.setIfInBounds_toArray, List.set_cons_zero, List.set_cons_succ, i64_w, i32_w]
              rfl
            refine pure_ (i := 9) (N := some 36) (v := undef) (a' := ?_) #[true, true, true, true, true, true, true, true, true, true, false, false, false, false, false, false, false, false] rfl rfl (by kernel_rfl) (fun _ _ _ h => h) (Or.inr ⟨by rfl, rfl⟩) ?_ ?_
            rotate_left
            · simp only [Act.put, List.setIfInBounds_toArray, List.set_cons_zero, List.set_cons_succ, i64_w, i32_w]
              rfl
            refine pure_ (i := 10) (N := some 37) (v := undef) (a' := ?_) #[true, true, true, true, true, true, true, true, true, true, true, false, false, false, false, false, false, false] rfl rfl (by kernel_rfl) (fun _ _ _ h => h) (Or.inr ⟨by rfl, rfl⟩) ?_ ?_
            rotate_left
            · simp only [Act.put, List.setIfInBounds_toArray, List.set_cons_zero, List.set_cons_succ, i64_w, i32_w]
              rfl
            refine pure_ (i := 11) (N := some 38) (v := undef) (a' := ?_) #[true, true, true, true, true, true, true, true, true, true, true, true, false, false, false, false, false, false] rfl rfl (by kernel_rfl) (fun _ _ _ h => h) (Or.inr ⟨by rfl, rfl⟩) ?_ ?_
            rotate_left
            · simp only [Act.put, List.setIfInBounds_toArray, List.set_cons_zero, List.set_cons_succ, i64_w, i32_w]
              rfl
            refine pure_ (i := 12) (N := some 39) (v := undef) (a' := ?_) #[true, true, true, true, true, true, true, true, true, true, true, true, true, false, false, false, false, false] rfl rfl (by kernel_rfl) (fun _ _ _ h => h) (Or.inr ⟨by rfl, rfl⟩) ?_ ?_
            rotate_left
            · simp only [Act.put, List.setIfInBounds_toArray, List.set_cons_zero, List.set_cons_succ, i64_w, i32_w]
              rfl
            refine pure_ (i := 13) (N := some 40) (v := undef) (a' := ?_) #[true, true, true, true, true, true, true, true, true, true, true, true, true, true, false, false, false, false] rfl rfl (by kernel_rfl) (fun _ _ _ h => h) (Or.inr ⟨by rfl, rfl⟩) ?_ ?_
            rotate_left
            · simp only [Act.put, List.setIfInBounds_toArray, List.set_cons_zero, List.set_cons_succ, i64_w, i32_w]
              rfl
            refine pure_ (i := 14) (N := some 41) (v := undef) (a' := ?_) #[true, true, true, true, true, true, true, true, true, true, true, true, true, true, true, false, false, false] rfl rfl (by kernel_rfl) (fun _ _ _ h => h) (Or.inr ⟨by rfl, rfl⟩) ?_ ?_
            rotate_left
            · simp only [Act.put, List.setIfInBounds_toArray, List.set_cons_zero, List.set_cons_succ, i64_w, i32_w]
              rfl
            refine pure_ (i := 15) (N := some 42) (v := undef) (a' := ?_) #[true, true, true, true, true, true, true, true, true, true, true, true, true, true, true, true, false, false] rfl rfl (by kernel_rfl) (fun _ _ _ h => h) (Or.inr ⟨by rfl, rfl⟩) ?_ ?_
            rotate_left
            · simp only [Act.put, List.setIfInBounds_toArray, List.set_cons_zero, List.set_cons_succ, i64_w, i32_w]
              rfl
            refine pure_ (i := 16) (N := some 43) (v := undef) (a' := ?_) #[true, true, true, true, true, true, true, true, true, true, true, true, true, true, true, true, true, false] rfl rfl (by kernel_rfl) (fun _ _ _ h => h) (Or.inr ⟨by rfl, rfl⟩) ?_ ?_
            rotate_left
            · simp only [Act.put, List.setIfInBounds_toArray, List.set_cons_zero, List.set_cons_succ, i64_w, i32_w]
              rfl
            refine pure_ (i := 17) (N := some 44) (v := ?_) (a' := ?_) #[true, true, true, true, true, true, true, true, true, true, true, true, true, true, true, true, true, true] rfl rfl (by kernel_rfl) (fun _ _ _ h => h) (Or.inl ⟨by rfl, ?_⟩) ?_ ?_
            rotate_left
            · intro w'
              go_simp
              with_reducible rfl
            rotate_left
            · simp only [Act.put, List.setIfInBounds_toArray, List.set_cons_zero, List.set_cons_succ, i64_w, i32_w]
              rfl
            refine done_ (by kernel_rfl) ?_
            have HO9 := Lib.hid (HDN.out.drew)
            have HI9 := Lib.hid (OwnR.drew HID.out)
            have K9 : KeptS (fun j => j = gd) wi wr.drew := kept_drew hK
            clear hHeld d0 x0 x1 x2 y1 y2
            go_wp2
            go_roundw
            case rel => exact ⟨k + 1, by omega, by omega, by go_num, K9, by rw [← HDS.out]; exact HO9.out, by rw [← HIS.out]; exact HI9.out⟩
            case measure => simp [intOf]; omega
          · rw [decide_eq_false hdn] at d0
            have HND := Lib.hid hdn
            clear hdn y0
            obtain ⟨p, hpe⟩ : ∃ p, p = aD l i := ⟨_, rfl⟩
            obtain ⟨q, hqe⟩ : ∃ q, q = aD l k := ⟨_, rfl⟩
            rw [← hpe] at y1 y2
            rw [← hqe] at x1 x2
            have HPE := Lib.hid hpe
            have HQE := Lib.hid hqe
            clear hpe hqe
            obtain ⟨px, py⟩ := p
            obtain ⟨qx, qy⟩ := q
            simp only at x1 x2 y1 y2
            by_cases hqx : qx = px
            · subst hqx
              by_cases hqy : qy = py
              · subst hqy
                have HEQ : Hid (aD l k = aD l i) := by show _ = _; rw [← HPE.out, ← HQE.out]
                have HDS := Lib.hid (dnL_set hik hkl HEQ.out)
                have HIS := Lib.hid (idL_add hkl HEQ.out HND.out)
                clear HPE HQE
                go_wp2_with fail
                refine start_ (n := 18) (S := fun w' => w'.cell? ⟨gd, k, none⟩ = some (.bool false) ∧ w'.cell? (ad.add (k * 4)) = some (.int .i64 (ndD l k).1) ∧ w'.cell? ⟨(ad.add (k * 4)).block, (ad.add (k * 4)).off + 1, none⟩ = some (.int .i64 (qx)) ∧ w'.cell? ⟨(ad.add (k * 4)).block, (ad.add (k * 4)).off + 2, none⟩ = some (.int .i64 (qy)) ∧ w'.cell? ⟨(ad.add (i * 4)).block, (ad.add (i * 4)).off + 1, none⟩ = some (.int .i64 (qx)) ∧ w'.cell? ⟨(ad.add (i * 4)).block, (ad.add (i * 4)).off + 2, none⟩ = some (.int .i64 (qy))) (ds := []) #[false, false, false, false, false, false, false, false, false, false, false, false, false, false, false, false, false, false] (by kernel_rfl) rfl rfl ⟨d0, x0, x1, x2, y1, y2⟩ (fun hHeld => ?_)
                refine pure_ (i := 0) (N := some 27) (v := ?_) (a' := ?_) #[true, false, false, false, false, false, false, false, false, false, false, false, false, false, false, false, false, false] rfl rfl (by kernel_rfl) (fun _ _ _ h => h) (Or.inl ⟨by rfl, ?_⟩) ?_ ?_
                rotate_left
                · intro w'
                  go_simp
                  with_reducible rfl
                rotate_left
                · simp only [Act.put, List.setIfInBounds_toArray, List.set_cons_zero, List.set_cons_succ, i64_w, i32_w]
                  rfl
                refine pure_ (i := 1) (N := some 28) (v := ?_) (a' := ?_) #[true, true, false, false, false, false, false, false, false, false, false, false, false, false, false, false, false, false] rfl rfl (by kernel_rfl) (fun _ _ _ h => h) (Or.inl ⟨by rfl, ?_⟩) ?_ ?_
                rotate_left
                · intro w'
                  go_simp
                  with_reducible rfl
                rotate_left
                · simp only [Act.put, List.setIfInBounds_toArray, List.set_cons_zero, List.set_cons_succ, i64_w, i32_w]
                  rfl
                refine pure_ (i := 2) (N := some 29) (v := ?_) (a' := ?_) #[true, true, true, false, false, false, false, false, false, false, false, false, false, false, false, false, false, false] rfl rfl (by kernel_rfl) (fun _ _ _ h => h) (Or.inl ⟨by rfl, ?_⟩) ?_ ?_
                rotate_left
                · intro w'
                  go_simp
                  with_reducible rfl
                rotate_left
                · simp only [Act.put, List.setIfInBounds_toArray, List.set_cons_zero, List.set_cons_succ, i64_w, i32_w]
                  rfl
                refine take_ (i := 3) (N := some 30) (v := ?_) (a' := ?_) #[true, true, true, true, false, false, false, false, false, false, false, false, false, false, false, false, false, false] rfl rfl (by kernel_rfl) (fun _ _ _ h => h) (Or.inl ⟨by rfl, ?_⟩) hHeld ?_ ?_
                rotate_left
                · rintro w' ⟨s0, s1, s2, s3, s4, s5⟩
                  go_simp
                  with_reducible rfl
                rotate_left
                · simp only [Act.put, List.setIfInBounds_toArray, List.set_cons_zero, List.set_cons_succ, i64_w, i32_w]
                  rfl
                refine pure_ (i := 4) (N := some 31) (v := ?_) (a' := ?_) #[true, true, true, true, true, false, false, false, false, false, false, false, false, false, false, false, false, false] rfl rfl (by kernel_rfl) (fun _ _ _ h => h) (Or.inl ⟨by rfl, ?_⟩) ?_ ?_
                rotate_left
                · intro w'
                  go_simp
                  with_reducible rfl
                rotate_left
                · simp only [Act.put, List.setIfInBounds_toArray, List.set_cons_zero, List.set_cons_succ, i64_w, i32_w]
                  rfl
                refine pure_ (i := 5) (N := some 32) (v := ?_) (a' := ?_) #[true, true, true, true, true, true, false, false, false, false, false, false, false, false, false, false, false, false] rfl rfl (by kernel_rfl) (fun _ _ _ h => h) (Or.inl ⟨by rfl, ?_⟩) ?_ ?_
                rotate_left
                · intro w'
                  go_simp
                  with_reducible rfl
                rotate_left
                · simp only [Act.put, List.setIfInBounds_toArray, List.set_cons_zero, List.set_cons_succ, i64_w, i32_w]
                  rfl
                refine pure_ (i := 6) (N := some 33) (v := ?_) (a' := ?_) #[true, true, true, true, true, true, true, false, false, false, false, false, false, false, false, false, false, false] rfl rfl (by kernel_rfl) (fun _ _ _ h => h) (Or.inl ⟨by rfl, ?_⟩) ?_ ?_
                rotate_left
                · intro w'
                  go_simp
                  with_reducible rfl
                rotate_left
                · simp only [Act.put, List.setIfInBounds_toArray, List.set_cons_zero, List.set_cons_succ, i64_w, i32_w]
                  rfl
                refine pure_ (i := 7) (N := some 34) (v := ?_) (a' := ?_) #[true, true, true, true, true, true, true, true, false, false, false, false, false, false, false, false, false, false] rfl rfl (by kernel_rfl) (fun _ _ _ h => h) (Or.inl ⟨by rfl, ?_⟩) ?_ ?_
                rotate_left
                · intro w'
                  go_simp
                  with_reducible rfl
                rotate_left
                · simp only [Act.put, List.setIfInBounds_toArray, List.set_cons_zero, List.set_cons_succ, i64_w, i32_w]
                  rfl
                refine pure_ (i := 8) (N := some 35) (v := ?_) (a' := ?_) #[true, true, true, true, true, true, true, true, true, false, false, false, false, false, false, false, false, false] rfl rfl (by kernel_rfl) (fun _ _ _ h => h) (Or.inl ⟨by rfl, ?_⟩) ?_ ?_
                rotate_left
                · intro w'
                  go_simp
                  with_reducible rfl
                rotate_left
                · simp only [Act.put, List.setIfInBounds_toArray, List.set_cons_zero, List.set_cons_succ, i64_w, i32_w]
                  rfl
                refine pure_ (i := 9) (N := some 36) (v := ?_) (a' := ?_) #[true, true, true, true, true, true, true, true, true, true, false, false, false, false, false, false, false, false] rfl rfl (by kernel_rfl) (fun _ _ _ h => h) (Or.inl ⟨by rfl, ?_⟩) ?_ ?_
                rotate_left
                · intro w'
                  go_simp
                  with_reducible rfl
                rotate_left
                · simp only [Act.put, List.setIfInBounds_toArray, List.set_cons_zero, List.set_cons_succ, i64_w, i32_w]
                  rfl
                refine pure_ (i := 11) (N := some 38) (v := ?_) (a' := ?_) #[true, true, true, true, true, true, true, true, true, true, false, true, false, false, false, false, false, false] rfl rfl (by kernel_rfl) (fun _ _ _ h => h) (Or.inl ⟨by rfl, ?_⟩) ?_ ?_
                rotate_left
                · intro w'
                  go_simp
                  with_reducible rfl
                rotate_left
                · simp only [Act.put, List.setIfInBounds_toArray, List.set_cons_zero, List.set_cons_succ, i64_w, i32_w]
                  rfl
                refine pure_ (i := 12) (N := some 39) (v := ?_) (a' := ?_) #[true, true, true, true, true, true, true, true, true, true, false, true, true, false, false, false, false, false] rfl rfl (by kernel_rfl) (fun _ _ _ h => h) (Or.inl ⟨by rfl, ?_⟩) ?_ ?_
                rotate_left
                · intro w'
                  go_simp
                  with_reducible rfl
                rotate_left
                · simp only [Act.put, List.setIfInBounds_toArray, List.set_cons_zero, List.set_cons_succ, i64_w, i32_w]
                  rfl
                refine pure_ (i := 13) (N := some 40) (v := ?_) (a' := ?_) #[true, true, true, true, true, true, true, true, true, true, false, true, true, true, false, false, false, false] rfl rfl (by kernel_rfl) (fun _ _ _ h => h) (Or.inl ⟨by rfl, ?_⟩) ?_ ?_
                rotate_left
                · intro w'
                  go_simp
                  with_reducible rfl
                rotate_left
                · simp only [Act.put, List.setIfInBounds_toArray, List.set_cons_zero, List.set_cons_succ, i64_w, i32_w]
                  rfl
                refine pure_ (i := 14) (N := some 41) (v := ?_) (a' := ?_) #[true, true, true, true, true, true, true, true, true, true, false, true, true, true, true, false, false, false] rfl rfl (by kernel_rfl) (fun _ _ _ h => h) (Or.inl ⟨by rfl, ?_⟩) ?_ ?_
                rotate_left
                · intro w'
                  go_simp
                  with_reducible rfl
                rotate_left
                · simp only [Act.put, List.setIfInBounds_toArray, List.set_cons_zero, List.set_cons_succ, i64_w, i32_w]
                  rfl
                refine take_ (i := 10) (N := some 37) (v := ?_) (a' := ?_) #[true, true, true, true, true, true, true, true, true, true, true, true, true, true, true, false, false, false] rfl rfl (by kernel_rfl) (fun _ _ _ h => h) (Or.inl ⟨by rfl, ?_⟩) hHeld ?_ ?_
                rotate_left
                · rintro w' ⟨s0, s1, s2, s3, s4, s5⟩
                  go_simp
                  with_reducible rfl
                rotate_left
                · simp only [Act.put, List.setIfInBounds_toArray, List.set_cons_zero, List.set_cons_succ, i64_w, i32_w]
                  rfl
                refine take_ (i := 15) (N := some 42) (v := ?_) (a' := ?_) #[true, true, true, true, true, true, true, true, true, true, true, true, true, true, true, true, false, false] rfl rfl (by kernel_rfl) (fun _ _ _ h => h) (Or.inl ⟨by rfl, ?_⟩) hHeld ?_ ?_
                rotate_left
                · rintro w' ⟨s0, s1, s2, s3, s4, s5⟩
                  go_simp
                  with_reducible rfl
                rotate_left
                · simp only [Act.put, List.setIfInBounds_toArray, List.set_cons_zero, List.set_cons_succ, i64_w, i32_w]
                  rfl
                refine pure_ (i := 16) (N := some 43) (v := ?_) (a' := ?_) #[true, true, true, true, true, true, true, true, true, true, true, true, true, true, true, true, true, false] rfl rfl (by kernel_rfl) (fun _ _ _ h => h) (Or.inl ⟨by rfl, ?_⟩) ?_ ?_
                rotate_left
                · intro w'
                  go_simp
                  with_reducible rfl
                rotate_left
                · simp only [Act.put, List.setIfInBounds_toArray, List.set_cons_zero, List.set_cons_succ, i64_w, i32_w]
                  rfl
                refine pure_ (i := 17) (N := some 44) (v := ?_) (a' := ?_) #[true, true, true, true, true, true, true, true, true, true, true, true, true, true, true, true, true, true] rfl rfl (by kernel_rfl) (fun _ _ _ h => h) (Or.inl ⟨by rfl, ?_⟩) ?_ ?_
                rotate_left
                · intro w'
                  go_simp
                  with_reducible rfl
                rotate_left
                · simp only [Act.put, List.setIfInBounds_toArray, List.set_cons_zero, List.set_cons_succ, i64_w, i32_w]
                  rfl
                refine done_ (by kernel_rfl) ?_
                obtain ⟨Wq, hWq⟩ : ∃ Wq, Wq = wr.drew := ⟨_, rfl⟩
                have BQ : Below wr.heap.size wr Wq := by rw [hWq]; exact below_drew (Below.refl _ _)
                have HDN2 := HDN.out.below BQ
                obtain ⟨Ai, ci, rfl, _, _⟩ := HID.out.reads
                have HID2 := Own1.below HID.out BQ
                have KQ : KeptS (fun j => j = gd) wi Wq := kept_below hK BQ
                rw [← hWq]
                obtain ⟨e0, ef⟩ := HDN2.bool_cell k (by rw [dnL_len]; exact hkl)
                have g0 := cell_below BQ x0
                have hrun0 : ¬ (ad.add (k * 4)).block = gd := by rw [add_block]; exact hadg
                have HDW : Hid (OwnR Ty.bool 4 gd (fun k => k = gd) (Wq.setCell ⟨gd, k, none⟩ (.bool true)) (.slice (some ⟨gd, 0, none⟩) l.length l.length) (dnL l i (k + 1))) := by
                  show OwnR _ _ _ _ _ _ _
                  rw [← HDS.out]
                  exact HDN2.store1 rfl k rfl
                have KS : KeptS (fun j => j = gd) Wq (Wq.setCell ⟨gd, k, none⟩ (.bool true)) := kept_set rfl (kept_refl _ _)
                have HIDW := Lib.hid (Own1.flat_kept int_flat HID2 KS (fun b hb e => by have := (OwnR.lt HID2 b hb).1; omega))
                have KW : KeptS (fun j => j = gd) wi (Wq.setCell ⟨gd, k, none⟩ (.bool true)) := kept_step KQ KS
                have gz : wi.heap.size ≤ (Wq.setCell ⟨gd, k, none⟩ (.bool true)).heap.size := KW.size
                have g1 := KS.cell g0 hrun0
                have hlen : ((idL l i k).length + 1) * 8 ≤ 140737488355328 := by have := idL_len l i k; omega
                clear hHeld d0 x0 x1 x2 y1 y2 df hWq BQ HDN2 HID2 KQ KS
                go_wp2_with (first | (at_builtin; refine app_one Ty.i64 (W := Wq.setCell ⟨gd, k, none⟩ (.bool true)) wi.heap.size rfl _ _ 39 3 _ 8 rfl Try.underlying39 infoInt rfl (by decide) (.slice Ai (idL l i k).length ci) (idL l i k) (ndD l k).1 [.int .i64 (ndD l k).1] _ rfl rfl (by simp) rfl HIDW.out gz hlen ?_; intro v1 w4 HO1 hg1 hat1))
                have HI9 : Hid (Own1 Ty.i64 3 wi.heap.size w4 v1 (idL l i (k + 1))) := by show Own1 _ _ _ _ _ _; rw [HIS.out]; exact Own1.of HO1
                have hov : ∀ b, (Value.slice Ai (idL l i k).length ci).ownBlock = some b → wi.heap.size ≤ b := fun b e => (OwnR.lt HIDW.out b e).1
                have K9 : KeptS (fun j => j = gd) wi w4 := kept_own KW hg1 hov
                have HD9 : Hid (OwnR Ty.bool 4 gd (fun k => k = gd) w4 (.slice (some ⟨gd, 0, none⟩) l.length l.length) (dnL l i (k + 1))) := by
                  exact OwnR.flat_kept bool_flat HDW.out (kept_grown (S := fun j => (Value.slice Ai (idL l i k).length ci).ownBlock = some j) hg1 (fun b e => e)) (fun b hb e => by have h1 := hov b e; have hb2 : gd = b := Option.some.inj hb; omega)
                clear HO1 hg1 hat1 e0 ef g0 g1
                go_wp2
                go_roundw
                case rel => exact ⟨k + 1, by omega, by omega, by go_num, K9, HD9.out, HI9.out⟩
                case measure => simp [intOf]; omega
              · have hne : aD l k ≠ aD l i := fun e => hqy (congrArg Prod.snd (HQE.out.trans (e.trans HPE.out.symm)))
                have HDS := Lib.hid (dnL_same (k := k) (.inr hne))
                have HIS := Lib.hid (idL_same hkl (.inr hne))
                clear HPE HQE hne
                go_wp2_with fail
                refine start_ (n := 18) (S := fun w' => w'.cell? ⟨gd, k, none⟩ = some (.bool false) ∧ w'.cell? (ad.add (k * 4)) = some (.int .i64 (ndD l k).1) ∧ w'.cell? ⟨(ad.add (k * 4)).block, (ad.add (k * 4)).off + 1, none⟩ = some (.int .i64 (qx)) ∧ w'.cell? ⟨(ad.add (k * 4)).block, (ad.add (k * 4)).off + 2, none⟩ = some (.int .i64 (qy)) ∧ w'.cell? ⟨(ad.add (i * 4)).block, (ad.add (i * 4)).off + 1, none⟩ = some (.int .i64 (qx)) ∧ w'.cell? ⟨(ad.add (i * 4)).block, (ad.add (i * 4)).off + 2, none⟩ = some (.int .i64 (py))) (ds := []) #[false, false, false, false, false, false, false, false, false, false, false, false, false, false, false, false, false, false] (by kernel_rfl) rfl rfl ⟨d0, x0, x1, x2, y1, y2⟩ (fun hHeld => ?_)
                refine pure_ (i := 0) (N := some 27) (v := ?_) (a' := ?_) #[true, false, false, false, false, false, false, false, false, false, false, false, false, false, false, false, false, false] rfl rfl (by kernel_rfl) (fun _ _ _ h => h) (Or.inl ⟨by rfl, ?_⟩) ?_ ?_
                rotate_left
                · intro w'
                  go_simp
                  with_reducible rfl
                rotate_left
                · simp only [Act.put, List.setIfInBounds_toArray, List.set_cons_zero, List.set_cons_succ, i64_w, i32_w]
                  rfl
                refine pure_ (i := 1) (N := some 28) (v := ?_) (a' := ?_) #[true, true, false, false, false, false, false, false, false, false, false, false, false, false, false, false, false, false] rfl rfl (by kernel_rfl) (fun _ _ _ h => h) (Or.inl ⟨by rfl, ?_⟩) ?_ ?_
                rotate_left
                · intro w'
                  go_simp
                  with_reducible rfl
                rotate_left
                · simp only [Act.put, List.setIfInBounds_toArray, List.set_cons_zero, List.set_cons_succ, i64_w, i32_w]
                  rfl
                refine pure_ (i := 2) (N := some 29) (v := ?_) (a' := ?_) #[true, true, true, false, false, false, false, false, false, false, false, false, false, false, false, false, false, false] rfl rfl (by kernel_rfl) (fun _ _ _ h => h) (Or.inl ⟨by rfl, ?_⟩) ?_ ?_
                rotate_left
                · intro w'
                  go_simp
                  with_reducible rfl
                rotate_left
                · simp only [Act.put, List.setIfInBounds_toArray, List.set_cons_zero, List.set_cons_succ, i64_w, i32_w]
                  rfl
                refine take_ (i := 3) (N := some 30) (v := ?_) (a' := ?_) #[true, true, true, true, false, false, false, false, false, false, false, false, false, false, false, false, false, false] rfl rfl (by kernel_rfl) (fun _ _ _ h => h) (Or.inl ⟨by rfl, ?_⟩) hHeld ?_ ?_
                rotate_left
                · rintro w' ⟨s0, s1, s2, s3, s4, s5⟩
                  go_simp
                  with_reducible rfl
                rotate_left
                · simp only [Act.put, List.setIfInBounds_toArray, List.set_cons_zero, List.set_cons_succ, i64_w, i32_w]
                  rfl
                refine pure_ (i := 4) (N := some 31) (v := ?_) (a' := ?_) #[true, true, true, true, true, false, false, false, false, false, false, false, false, false, false, false, false, false] rfl rfl (by kernel_rfl) (fun _ _ _ h => h) (Or.inl ⟨by rfl, ?_⟩) ?_ ?_
                rotate_left
                · intro w'
                  go_simp
                  with_reducible rfl
                rotate_left
                · simp only [Act.put, List.setIfInBounds_toArray, List.set_cons_zero, List.set_cons_succ, i64_w, i32_w]
                  rfl
                refine pure_ (i := 5) (N := some 32) (v := ?_) (a' := ?_) #[true, true, true, true, true, true, false, false, false, false, false, false, false, false, false, false, false, false] rfl rfl (by kernel_rfl) (fun _ _ _ h => h) (Or.inl ⟨by rfl, ?_⟩) ?_ ?_
                rotate_left
                · intro w'
                  go_simp
                  with_reducible rfl
                rotate_left
                · simp only [Act.put, List.setIfInBounds_toArray, List.set_cons_zero, List.set_cons_succ, i64_w, i32_w]
                  rfl
                refine pure_ (i := 6) (N := some 33) (v := ?_) (a' := ?_) #[true, true, true, true, true, true, true, false, false, false, false, false, false, false, false, false, false, false] rfl rfl (by kernel_rfl) (fun _ _ _ h => h) (Or.inl ⟨by rfl, ?_⟩) ?_ ?_
                rotate_left
                · intro w'
                  go_simp
                  with_reducible rfl
                rotate_left
                · simp only [Act.put, List.setIfInBounds_toArray, List.set_cons_zero, List.set_cons_succ, i64_w, i32_w]
                  rfl
                refine pure_ (i := 7) (N := some 34) (v := ?_) (a' := ?_) #[true, true, true, true, true, true, true, true, false, false, false, false, false, false, false, false, false, false] rfl rfl (by kernel_rfl) (fun _ _ _ h => h) (Or.inl ⟨by rfl, ?_⟩) ?_ ?_
                rotate_left
                · intro w'
                  go_simp
                  with_reducible rfl
                rotate_left
                · simp only [Act.put, List.setIfInBounds_toArray, List.set_cons_zero, List.set_cons_succ, i64_w, i32_w]
                  rfl
                refine pure_ (i := 8) (N := some 35) (v := ?_) (a' := ?_) #[true, true, true, true, true, true, true, true, true, false, false, false, false, false, false, false, false, false] rfl rfl (by kernel_rfl) (fun _ _ _ h => h) (Or.inl ⟨by rfl, ?_⟩) ?_ ?_
                rotate_left
                · intro w'
                  go_simp
                  with_reducible rfl
                rotate_left
                · simp only [Act.put, List.setIfInBounds_toArray, List.set_cons_zero, List.set_cons_succ, i64_w, i32_w]
                  rfl
                refine pure_ (i := 9) (N := some 36) (v := ?_) (a' := ?_) #[true, true, true, true, true, true, true, true, true, true, false, false, false, false, false, false, false, false] rfl rfl (by kernel_rfl) (fun _ _ _ h => h) (Or.inl ⟨by rfl, ?_⟩) ?_ ?_
                rotate_left
                · intro w'
                  go_simp
                  with_reducible rfl
                rotate_left
                · simp only [Act.put, List.setIfInBounds_toArray, List.set_cons_zero, List.set_cons_succ, i64_w, i32_w]
                  rfl
                refine pure_ (i := 11) (N := some 38) (v := ?_) (a' := ?_) #[true, true, true, true, true, true, true, true, true, true, false, true, false, false, false, false, false, false] rfl rfl (by kernel_rfl) (fun _ _ _ h => h) (Or.inl ⟨by rfl, ?_⟩) ?_ ?_
                rotate_left
                · intro w'
                  go_simp
                  with_reducible rfl
                rotate_left
                · simp only [Act.put, List.setIfInBounds_toArray, List.set_cons_zero, List.set_cons_succ, i64_w, i32_w]
                  rfl
                refine pure_ (i := 12) (N := some 39) (v := ?_) (a' := ?_) #[true, true, true, true, true, true, true, true, true, true, false, true, true, false, false, false, false, false] rfl rfl (by kernel_rfl) (fun _ _ _ h => h) (Or.inl ⟨by rfl, ?_⟩) ?_ ?_
                rotate_left
                · intro w'
                  go_simp
                  with_reducible rfl
                rotate_left
                · simp only [Act.put, List.setIfInBounds_toArray, List.set_cons_zero, List.set_cons_succ, i64_w, i32_w]
                  rfl
                refine pure_ (i := 13) (N := some 40) (v := ?_) (a' := ?_) #[true, true, true, true, true, true, true, true, true, true, false, true, true, true, false, false, false, false] rfl rfl (by kernel_rfl) (fun _ _ _ h => h) (Or.inl ⟨by rfl, ?_⟩) ?_ ?_
                rotate_left
                · intro w'
                  go_simp
                  with_reducible rfl
                rotate_left
                · simp only [Act.put, List.setIfInBounds_toArray, List.set_cons_zero, List.set_cons_succ, i64_w, i32_w]
                  rfl
                refine pure_ (i := 14) (N := some 41) (v := ?_) (a' := ?_) #[true, true, true, true, true, true, true, true, true, true, false, true, true, true, true, false, false, false] rfl rfl (by kernel_rfl) (fun _ _ _ h => h) (Or.inl ⟨by rfl, ?_⟩) ?_ ?_
                rotate_left
                · intro w'
                  go_simp
                  with_reducible rfl
                rotate_left
                · simp only [Act.put, List.setIfInBounds_toArray, List.set_cons_zero, List.set_cons_succ, i64_w, i32_w]
                  rfl
                refine take_ (i := 10) (N := some 37) (v := ?_) (a' := ?_) #[true, true, true, true, true, true, true, true, true, true, true, true, true, true, true, false, false, false] rfl rfl (by kernel_rfl) (fun _ _ _ h => h) (Or.inl ⟨by rfl, ?_⟩) hHeld ?_ ?_
                rotate_left
                · rintro w' ⟨s0, s1, s2, s3, s4, s5⟩
                  go_simp
                  with_reducible rfl
                rotate_left
                · simp only [Act.put, List.setIfInBounds_toArray, List.set_cons_zero, List.set_cons_succ, i64_w, i32_w]
                  rfl
                refine take_ (i := 15) (N := some 42) (v := ?_) (a' := ?_) #[true, true, true, true, true, true, true, true, true, true, true, true, true, true, true, true, false, false] rfl rfl (by kernel_rfl) (fun _ _ _ h => h) (Or.inl ⟨by rfl, ?_⟩) hHeld ?_ ?_
                rotate_left
                · rintro w' ⟨s0, s1, s2, s3, s4, s5⟩
                  go_simp
                  with_reducible rfl
                rotate_left
                · simp only [Act.put, List.setIfInBounds_toArray, List.set_cons_zero, List.set_cons_succ, i64_w, i32_w]
                  rfl
                refine pure_ (i := 16) (N := some 43) (v := ?_) (a' := ?_) #[true, true, true, true, true, true, true, true, true, true, true, true, true, true, true, true, true, false] rfl rfl (by kernel_rfl) (fun _ _ _ h => h) (Or.inl ⟨by rfl, ?_⟩) ?_ ?_
                rotate_left
                · intro w'
                  go_simp
                  with_reducible rfl
                rotate_left
                · simp only [Act.put, List.setIfInBounds_toArray, List.set_cons_zero, List.set_cons_succ, i64_w, i32_w]
                  rfl
                refine pure_ (i := 17) (N := some 44) (v := ?_) (a' := ?_) #[true, true, true, true, true, true, true, true, true, true, true, true, true, true, true, true, true, true] rfl rfl (by kernel_rfl) (fun _ _ _ h => h) (Or.inl ⟨by rfl, ?_⟩) ?_ ?_
                rotate_left
                · intro w'
                  go_simp
                  with_reducible rfl
                rotate_left
                · simp only [Act.put, List.setIfInBounds_toArray, List.set_cons_zero, List.set_cons_succ, i64_w, i32_w]
                  rfl
                refine done_ (by kernel_rfl) ?_
                have HO9 := Lib.hid (HDN.out.drew)
                have HI9 := Lib.hid (OwnR.drew HID.out)
                have K9 : KeptS (fun j => j = gd) wi wr.drew := kept_drew hK
                clear hHeld d0 x0 x1 x2 y1 y2
                go_wp2
                go_roundw
                case rel => exact ⟨k + 1, by omega, by omega, by go_num, K9, by rw [← HDS.out]; exact HO9.out, by rw [← HIS.out]; exact HI9.out⟩
                case measure => simp [intOf]; omega
            · have hne : aD l k ≠ aD l i := fun e => hqx (congrArg Prod.fst (HQE.out.trans (e.trans HPE.out.symm)))
              have HDS := Lib.hid (dnL_same (k := k) (.inr hne))
              have HIS := Lib.hid (idL_same hkl (.inr hne))
              clear HPE HQE hne
              go_wp2_with fail
              refine start_ (n := 18) (S := fun w' => w'.cell? ⟨gd, k, none⟩ = some (.bool false) ∧ w'.cell? (ad.add (k * 4)) = some (.int .i64 (ndD l k).1) ∧ w'.cell? ⟨(ad.add (k * 4)).block, (ad.add (k * 4)).off + 1, none⟩ = some (.int .i64 (qx)) ∧ w'.cell? ⟨(ad.add (k * 4)).block, (ad.add (k * 4)).off + 2, none⟩ = some (.int .i64 (qy)) ∧ w'.cell? ⟨(ad.add (i * 4)).block, (ad.add (i * 4)).off + 1, none⟩ = some (.int .i64 (px)) ∧ w'.cell? ⟨(ad.add (i * 4)).block, (ad.add (i * 4)).off + 2, none⟩ = some (.int .i64 (py))) (ds := []) #[false, false, false, false, false, false, false, false, false, false, false, false, false, false, false, false, false, false] (by kernel_rfl) rfl rfl ⟨d0, x0, x1, x2, y1, y2⟩ (fun hHeld => ?_)
              refine pure_ (i := 0) (N := some 27) (v := ?_) (a' := ?_) #[true, false, false, false, false, false, false, false, false, false, false, false, false, false, false, false, false, false] rfl rfl (by kernel_rfl) (fun _ _ _ h => h) (Or.inl ⟨by rfl, ?_⟩) ?_ ?_
              rotate_left
              · intro w'
                go_simp
                with_reducible rfl
              rotate_left
              · simp only [Act.put, List.setIfInBounds_toArray, List.set_cons_zero, List.set_cons_succ, i64_w, i32_w]
                rfl
              refine pure_ (i := 1) (N := some 28) (v := ?_) (a' := ?_) #[true, true, false, false, false, false, false, false, false, false, false, false, false, false, false, false, false, false] rfl rfl (by kernel_rfl) (fun _ _ _ h => h) (Or.inl ⟨by rfl, ?_⟩) ?_ ?_
              rotate_left
              · intro w'
                go_simp
                with_reducible rfl
              rotate_left
              · simp only [Act.put, List.setIfInBounds_toArray, List.set_cons_zero, List.set_cons_succ, i64_w, i32_w]
                rfl
              refine pure_ (i := 2) (N := some 29) (v := ?_) (a' := ?_) #[true, true, true, false, false, false, false, false, false, false, false, false, false, false, false, false, false, false] rfl rfl (by kernel_rfl) (fun _ _ _ h => h) (Or.inl ⟨by rfl, ?_⟩) ?_ ?_
              rotate_left
              · intro w'
                go_simp
                with_reducible rfl
              rotate_left
              · simp only [Act.put, List.setIfInBounds_toArray, List.set_cons_zero, List.set_cons_succ, i64_w, i32_w]
                rfl
              refine take_ (i := 3) (N := some 30) (v := ?_) (a' := ?_) #[true, true, true, true, false, false, false, false, false, false, false, false, false, false, false, false, false, false] rfl rfl (by kernel_rfl) (fun _ _ _ h => h) (Or.inl ⟨by rfl, ?_⟩) hHeld ?_ ?_
              rotate_left
              · rintro w' ⟨s0, s1, s2, s3, s4, s5⟩
                go_simp
                with_reducible rfl
              rotate_left
              · simp only [Act.put, List.setIfInBounds_toArray, List.set_cons_zero, List.set_cons_succ, i64_w, i32_w]
                rfl
              refine pure_ (i := 4) (N := some 31) (v := ?_) (a' := ?_) #[true, true, true, true, true, false, false, false, false, false, false, false, false, false, false, false, false, false] rfl rfl (by kernel_rfl) (fun _ _ _ h => h) (Or.inl ⟨by rfl, ?_⟩) ?_ ?_
              rotate_left
              · intro w'
                go_simp
                with_reducible rfl
              rotate_left
              · simp only [Act.put, List.setIfInBounds_toArray, List.set_cons_zero, List.set_cons_succ, i64_w, i32_w]
                rfl
              refine pure_ (i := 5) (N := some 32) (v := ?_) (a' := ?_) #[true, true, true, true, true, true, false, false, false, false, false, false, false, false, false, false, false, false] rfl rfl (by kernel_rfl) (fun _ _ _ h => h) (Or.inl ⟨by rfl, ?_⟩) ?_ ?_
              rotate_left
              · intro w'
                go_simp
                with_reducible rfl
              rotate_left
              · simp only [Act.put, List.setIfInBounds_toArray, List.set_cons_zero, List.set_cons_succ, i64_w, i32_w]
                rfl
              refine pure_ (i := 6) (N := some 33) (v := ?_) (a' := ?_) #[true, true, true, true, true, true, true, false, false, false, false, false, false, false, false, false, false, false] rfl rfl (by kernel_rfl) (fun _ _ _ h => h) (Or.inl ⟨by rfl, ?_⟩) ?_ ?_
              rotate_left
              · intro w'
                go_simp
                with_reducible rfl
              rotate_left
              · simp only [Act.put, List.setIfInBounds_toArray, List.set_cons_zero, List.set_cons_succ, i64_w, i32_w]
                rfl
              refine pure_ (i := 7) (N := some 34) (v := ?_) (a' := ?_) #[true, true, true, true, true, true, true, true, false, false, false, false, false, false, false, false, false, false] rfl rfl (by kernel_rfl) (fun _ _ _ h => h) (Or.inl ⟨by rfl, ?_⟩) ?_ ?_
              rotate_left
              · intro w'
                go_simp
                with_reducible rfl
              rotate_left
              · simp only [Act.put, List.setIfInBounds_toArray, List.set_cons_zero, List.set_cons_succ, i64_w, i32_w]
                rfl
              refine pure_ (i := 8) (N := some 35) (v := ?_) (a' := ?_) #[true, true, true, true, true, true, true, true, true, false, false, false, false, false, false, false, false, false] rfl rfl (by kernel_rfl) (fun _ _ _ h => h) (Or.inl ⟨by rfl, ?_⟩) ?_ ?_
              rotate_left
              · intro w'
                go_simp
                with_reducible rfl
              rotate_left
              · simp only [Act.put, List.setIfInBounds_toArray, List.set_cons_zero, List.set_cons_succ, i64_w, i32_w]
                rfl
              refine pure_ (i := 9) (N := some 36) (v := ?_) (a' := ?_) #[true, true, true, true, true, true, true, true, true, true, false, false, false, false, false, false, false, false] rfl rfl (by kernel_rfl) (fun _ _ _ h => h) (Or.inl ⟨by rfl, ?_⟩) ?_ ?_
              rotate_left
              · intro w'
                go_simp
                with_reducible rfl
              rotate_left
              · simp only [Act.put, List.setIfInBounds_toArray, List.set_cons_zero, List.set_cons_succ, i64_w, i32_w]
                rfl
              refine pure_ (i := 11) (N := some 38) (v := ?_) (a' := ?_) #[true, true, true, true, true, true, true, true, true, true, false, true, false, false, false, false, false, false] rfl rfl (by kernel_rfl) (fun _ _ _ h => h) (Or.inl ⟨by rfl, ?_⟩) ?_ ?_
              rotate_left
              · intro w'
                go_simp
                with_reducible rfl
              rotate_left
              · simp only [Act.put, List.setIfInBounds_toArray, List.set_cons_zero, List.set_cons_succ, i64_w, i32_w]
                rfl
              refine pure_ (i := 12) (N := some 39) (v := ?_) (a' := ?_) #[true, true, true, true, true, true, true, true, true, true, false, true, true, false, false, false, false, false] rfl rfl (by kernel_rfl) (fun _ _ _ h => h) (Or.inl ⟨by rfl, ?_⟩) ?_ ?_
              rotate_left
              · intro w'
                go_simp
                with_reducible rfl
              rotate_left
              · simp only [Act.put, List.setIfInBounds_toArray, List.set_cons_zero, List.set_cons_succ, i64_w, i32_w]
                rfl
              refine pure_ (i := 13) (N := some 40) (v := ?_) (a' := ?_) #[true, true, true, true, true, true, true, true, true, true, false, true, true, true, false, false, false, false] rfl rfl (by kernel_rfl) (fun _ _ _ h => h) (Or.inl ⟨by rfl, ?_⟩) ?_ ?_
              rotate_left
              · intro w'
                go_simp
                with_reducible rfl
              rotate_left
              · simp only [Act.put, List.setIfInBounds_toArray, List.set_cons_zero, List.set_cons_succ, i64_w, i32_w]
                rfl
              refine pure_ (i := 14) (N := some 41) (v := ?_) (a' := ?_) #[true, true, true, true, true, true, true, true, true, true, false, true, true, true, true, false, false, false] rfl rfl (by kernel_rfl) (fun _ _ _ h => h) (Or.inl ⟨by rfl, ?_⟩) ?_ ?_
              rotate_left
              · intro w'
                go_simp
                with_reducible rfl
              rotate_left
              · simp only [Act.put, List.setIfInBounds_toArray, List.set_cons_zero, List.set_cons_succ, i64_w, i32_w]
                rfl
              refine take_ (i := 10) (N := some 37) (v := ?_) (a' := ?_) #[true, true, true, true, true, true, true, true, true, true, true, true, true, true, true, false, false, false] rfl rfl (by kernel_rfl) (fun _ _ _ h => h) (Or.inl ⟨by rfl, ?_⟩) hHeld ?_ ?_
              rotate_left
              · rintro w' ⟨s0, s1, s2, s3, s4, s5⟩
                go_simp
                with_reducible rfl
              rotate_left
              · simp only [Act.put, List.setIfInBounds_toArray, List.set_cons_zero, List.set_cons_succ, i64_w, i32_w]
                rfl
              refine take_ (i := 15) (N := some 42) (v := ?_) (a' := ?_) #[true, true, true, true, true, true, true, true, true, true, true, true, true, true, true, true, false, false] rfl rfl (by kernel_rfl) (fun _ _ _ h => h) (Or.inl ⟨by rfl, ?_⟩) hHeld ?_ ?_
              rotate_left
              · rintro w' ⟨s0, s1, s2, s3, s4, s5⟩
                go_simp
                with_reducible rfl
              rotate_left
              · simp only [Act.put, List.setIfInBounds_toArray, List.set_cons_zero, List.set_cons_succ, i64_w, i32_w]
                rfl
              refine pure_ (i := 16) (N := some 43) (v := ?_) (a' := ?_) #[true, true, true, true, true, true, true, true, true, true, true, true, true, true, true, true, true, false] rfl rfl (by kernel_rfl) (fun _ _ _ h => h) (Or.inl ⟨by rfl, ?_⟩) ?_ ?_
              rotate_left
              · intro w'
                go_simp
                with_reducible rfl
              rotate_left
              · simp only [Act.put, List.setIfInBounds_toArray, List.set_cons_zero, List.set_cons_succ, i64_w, i32_w]
                rfl
              refine pure_ (i := 17) (N := some 44) (v := ?_) (a' := ?_) #[true, true, true, true, true, true, true, true, true, true, true, true, true, true, true, true, true, true] rfl rfl (by kernel_rfl) (fun _ _ _ h => h) (Or.inl ⟨by rfl, ?_⟩) ?_ ?_
              rotate_left
              · intro w'
                go_simp
                with_reducible rfl
              rotate_left
              · simp only [Act.put, List.setIfInBounds_toArray, List.set_cons_zero, List.set_cons_succ, i64_w, i32_w]
                rfl
              refine done_ (by kernel_rfl) ?_
              have HO9 := Lib.hid (HDN.out.drew)
              have HI9 := Lib.hid (OwnR.drew HID.out)
              have K9 : KeptS (fun j => j = gd) wi wr.drew := kept_drew hK
              clear hHeld d0 x0 x1 x2 y1 y2
              go_wp2
              go_roundw
              case rel => exact ⟨k + 1, by omega, by omega, by go_num, K9, by rw [← HDS.out]; exact HO9.out, by rw [← HIS.out]; exact HI9.out⟩
              case measure => simp [intOf]; omega
        · obtain rfl : k = l.length := by omega
          have HD9 : Hid (OwnR Ty.bool 4 gd (fun k => k = gd) wr (.slice (some ⟨gd, 0, none⟩) l.length l.length) (dnL l (i + 1) (i + 1))) := by show OwnR _ _ _ _ _ _ _; rw [← dnL_next hlt]; exact HDN.out
          have K9 : KeptS (fun j => j = gd) w2 wr := kept_step hKo hK
          have HO9 := Lib.hid (OwnR.kept HOo.out hK (fun b hb => .inl hb) (fun b hb e => by have := (OwnR.lt HOo.out b hb).1; omega))
          have hz9 := K9.size
          by_cases hbg : 2 ≤ (idL l i l.length).length
          · have HP9 : Hid (Ty.ids.R (fun j => ¬ (j = gd ∨ u4.ownBlock = some j)) wr (idL l i l.length) [u7]) := idsR HID.out (fun b hb hm => by
              have h1 := (OwnR.lt HID.out b hb).1
              rcases hm with hm | hm
              · omega
              · have := (OwnR.lt HOo.out b hm).2; omega)
            have HL := Lib.hid (outL_big hlt hbg)
            have hlen : ((outL l i).length + 1) * 24 ≤ 140737488355328 := by have := outL_len l i; omega
            obtain ⟨Ai, ci, rfl, _, _⟩ := HID.out.reads
            have q : decide (((idL l i l.length).length : Int) ≥ 2) = true := decide_eq_true (by omega)
            have q' : decide (2 ≤ ((idL l i l.length).length : Int)) = true := decide_eq_true (by omega)
            clear hbg hKo HDo HOo hK HDN HID
            go_wp2_with (first | (at_builtin; refine app_one Ty.ids (W := wr) w2.heap.size rfl _ _ 36 39 _ 24 rfl Try.underlying36 infoIds rfl (by decide) u4 (outL l i) (idL l i l.length) [.slice Ai (idL l i l.length).length ci] _ rfl rfl (by simp) HP9.out HO9.out hz9 hlen ?_; intro v1 w4 HO1 hg1 hat1))
            have hov : ∀ b, u4.ownBlock = some b → w2.heap.size ≤ b := fun b e => (OwnR.lt HO9.out b e).1
            have K10 : KeptS (fun j => j = gd) w2 w4 := kept_own K9 hg1 hov
            have HD10 : Hid (OwnR Ty.bool 4 gd (fun k => k = gd) w4 (.slice (some ⟨gd, 0, none⟩) l.length l.length) (dnL l (i + 1) (i + 1))) := OwnR.flat_kept bool_flat HD9.out (kept_grown (S := fun j => u4.ownBlock = some j) hg1 (fun b e => e)) (fun b hb e => by have h1 := hov b e; have hb2 : gd = b := Option.some.inj hb; omega)
            have HO10 : Hid (OwnR Ty.ids 39 w2.heap.size (fun k => k = gd ∨ v1.ownBlock = some k) w4 v1 (outL l (i + 1))) := by
              show OwnR _ _ _ _ _ _ _
              rw [HL.out]
              exact HO1.remut (fun k _ hm => by rcases hm with hm | hm; exact .inl (.inl hm); exact .inr hm) (fun k hk => .inr hk)
            clear HO1 hg1 hat1
            go_wp2
            go_roundw
            case rel => exact ⟨i + 1, by omega, by go_num, K10, HD10.out, HO10.out⟩
            case measure => simp [intOf]; omega
          · have HL := Lib.hid (outL_small hlt hbg)
            obtain ⟨Ai, ci, rfl, _, _⟩ := HID.out.reads
            have q : decide (((idL l i l.length).length : Int) ≥ 2) = false := decide_eq_false (by omega)
            have q' : decide (2 ≤ ((idL l i l.length).length : Int)) = false := decide_eq_false (by omega)
            clear hbg hKo HDo HOo hK HDN HID
            go_wp2
            go_roundw
            case rel => exact ⟨i + 1, by omega, by go_num, K9, HD9.out, by rw [HL.out]; exact HO9.out⟩
            case measure => simp [intOf]; omega
    · obtain rfl : i = l.length := by omega
      have HF : Hid (Own1 Ty.ids 39 w.heap.size wr u4 (mergedZ (placesZ ns ws rs))) := by
        show Own1 _ _ _ _ _ _
        rw [← HE.out, ← outL_end]
        exact (Own1.of HOo.out).base B2.size
      have BF : Below w.heap.size w wr := below_kept B2 hKo (fun b hb => by omega)
      clear hKo HDo HOo
      go_wp2
      go_ret
      exact ⟨_, rfl, HF.out, BF⟩
end Go.Proofs.Ytniceoinipffmaa
