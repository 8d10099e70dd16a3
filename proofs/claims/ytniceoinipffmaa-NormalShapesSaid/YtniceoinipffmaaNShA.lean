/- Contract of law19.at. -/
import Derived.Test.YtniceoinipffmaaNShP
namespace Go.Proofs.Ytniceoinipffmaa
open Go.RowKit Go.Proofs.YtniceoinipffmaaW.PrintLast
set_option linter.unusedVariables false
set_option linter.unusedSimpArgs false

theorem atZ_first {pl : List Place} {id : Int} {k : Nat} (hk : k < pl.length) (h : ∀ j, j < k → (ndD pl j).1 ≠ id) (he : (ndD pl k).1 = id) : atZ pl id = some (ndD pl k).2.1 := by
  have : pl.find? (fun x => x.1 == id) = some (ndD pl k) := by
    rw [List.find?_eq_some_iff_getElem]
    refine ⟨by simpa using he, k, hk, by simp [ndD, hk], fun j hj => ?_⟩
    have := h j hj
    simp only [ndD, List.getD_eq_getElem?_getD, List.getElem?_eq_getElem (show j < pl.length by omega), Option.getD_some] at this
    simpa using this
  rw [atZ, this]; rfl
theorem atZ_none {pl : List Place} {id : Int} (h : ∀ j, j < pl.length → (ndD pl j).1 ≠ id) : atZ pl id = none := by
  have : pl.find? (fun x => x.1 == id) = none := by
    rw [List.find?_eq_none]
    intro n hn
    obtain ⟨j, hj, rfl⟩ := List.getElem_of_mem hn
    have := h j hj
    simp only [ndD, List.getD_eq_getElem?_getD, List.getElem?_eq_getElem hj, Option.getD_some] at this
    simpa using this
  rw [atZ, this]; rfl
set_option maxRecDepth 20000 in
set_option maxHeartbeats 400000 in
theorem law19_at {ok : Nat → Prop} (pl : List Place) (A : Option Addr) (n c : Nat) (id : Int) (w : World) (hr : Row Ty.place ok w A pl) (hn : n = pl.length) :
    Calls Try.prog 22 #[.slice A n c, .int .i64 id] w fun e w' => e = .returned (.tuple #[.agg #[.int .i64 ((atZ pl id).getD (0, 0)).1, .int .i64 ((atZ pl id).getD (0, 0)).2], .bool (atZ pl id).isSome]) ∧ Below w.heap.size w w' := by
  subst hn
  have hlen := hr.len
  have HR := Lib.hid hr
  clear hr
  obtain ⟨W0, hW⟩ : ∃ W0, W0 = w.alloc (.cells #[.int .i64 0, .int .i64 0] 44) := ⟨_, rfl⟩
  have hb1 : W0.heap[w.heap.size]? = some (.cells #[.int .i64 0, .int .i64 0] 44 (0, 0)) := by rw [hW]; exact heap_alloc_new _ _
  have B0 : Below w.heap.size w W0 := by rw [hW]; exact (by repeat (first | exact Below.refl _ _ | apply below_alloc | apply below_drewN | apply below_drew | (refine below_set2 ?_ ?_; (first | (simp; done) | (simp; omega)))))
  have HL : Hid (∀ W, Below W0.heap.size W0 W → W.heap[w.heap.size]? = some (.cells #[.int .i64 0, .int .i64 0] 44 (0, 0))) := fun W hW => (hW.block _ (lt_of_block hb1)).trans hb1
  go_enter Try.func22, Try.ntmps22
  go_wp2_with fail
  rw [← hW]
  clear hW hb1
  go_loopw [6] (fun i wr => ∃ k : Nat, k ≤ pl.length ∧ i = .int .i64 k ∧ Below W0.heap.size W0 wr ∧ Hid (∀ j, j < k → (ndD pl j).1 ≠ id)) (fun i _ => pl.length - (intOf i).toNat)
  case atStart => exact ⟨0, Nat.zero_le _, rfl, Below.refl _ _, fun j hj => absurd hj (Nat.not_lt_zero _)⟩
  case round =>
    obtain ⟨k, hk, rfl, hb, HS⟩ := hrel
    have BW : Below w.heap.size w wr := (by repeat (first | exact Below.refl _ _ | apply below_alloc | apply below_drewN | apply below_drew | (refine below_set2 ?_ ?_; (first | (simp; done) | (simp; omega))) | (refine below_step ?_ hb) | (refine below_step ?_ B0)))
    have hbk := HL.out wr hb
    have bc0 := blk_cell hbk 0 rfl
    have bc1 := blk_cell hbk 1 rfl
    have bf0 := blk_free hbk 0
    have bf1 := blk_free hbk 1
    by_cases hlt : k < pl.length
    · obtain ⟨ad, A4, c4, rfl, x1, x2, x3, x4, _, _⟩ := (HR.out.below BW).node_at k hlt
      by_cases he : (ndD pl k).1 = id
      · have q1 : ((ndD pl k).1 == id) = true := by simp [he]
        have HM : Hid (atZ pl id = some (ndD pl k).2.1) := atZ_first hlt HS.out he
        clear he
        go_wp2
        refine bodyPost_ret (v := .tuple #[.agg #[.int .i64 (ndD pl k).2.1.1, .int .i64 (ndD pl k).2.1.2], .bool true]) ?_ rfl ⟨by rw [HM.out]; rfl, by repeat (first | exact BW | (apply below_alloc) | (refine below_set2 (by simp) ?_))⟩
        simp [results, Try.results22]
        go_simp
      · have q1 : ((ndD pl k).1 == id) = false := by simp [he]
        have HN : Hid (∀ j, j < k + 1 → (ndD pl j).1 ≠ id) := fun j hj => by
          by_cases e : j = k
          · rw [e]; exact he
          · exact HS.out j (by omega)
        clear he bc0 bc1 bf0 bf1 hbk
        go_wp2
        go_roundw
        case rel => exact ⟨k + 1, by omega, by go_num, hb, HN⟩
        case measure => simp [intOf]; omega
    · obtain rfl : k = pl.length := by omega
      have HM : Hid (atZ pl id = none) := atZ_none HS.out
      go_wp2
      refine bodyPost_ret (v := .tuple #[.agg #[.int .i64 0, .int .i64 0], .bool false]) ?_ rfl ⟨by rw [HM.out]; rfl, by repeat (first | exact BW | (apply below_alloc) | (refine below_set2 (by simp) ?_))⟩
      simp [results, Try.results22]
      go_simp
end Go.Proofs.Ytniceoinipffmaa
