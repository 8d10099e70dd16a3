/- Contracts of ref08.Same, ref21.Same and law21.square. Contract of law21.lives: the chapter's example holds. Plain words: a set of segments does not hang on order, direction, or a segment told twice. Contract of ref20.Crossings: how many pairs cross or overlap. Contract of ref21.ends. Contracts of ref20.Clean and ref21.Check. Contract of ref21.Check. -/
import Derived.Test.YtlmjciajpjdilaaGreatKC15
import Derived.StillTailTactics
import Derived.Test.YtlmjciajpjdilaaGreatKC9
import Derived.Test.YtlmjciajpjdilaaGreatKC7
import Derived.Test.YtlmjciajpjdilaaGreatKC10
import Derived.Test.YtlmjciajpjdilaaGreatKC1
import Derived.Test.YtlmjciajpjdilaaGreatKC4

section
namespace Go.Proofs.YtlmjciajpjdilaaGreat
open Go.RowKit Go.Proofs.YtlmjciajpjdilaaGreatW.PrintLast
set_option linter.unusedVariables false
set_option linter.unusedSimpArgs false

set_option maxRecDepth 100000 in
theorem ref08_Same {ok ok' : Nat → Prop} (a b : Pts) (A B : Option Addr) (n m c d : Nat) (w : World) (ha : Row Ty.pt ok w A a) (hb : Row Ty.pt ok' w B b) (hn : n = a.length) (hm : m = b.length) :
    Calls Tryz.prog 53 #[.slice A n c, .slice B m d] w fun e w' => e = .returned (.bool (decide (a = b))) ∧ Below w.heap.size w w' := by
  subst hn hm
  have hl1 := ha.len
  have hl2 := hb.len
  by_cases hl : a.length = b.length
  · have HL := Lib.hid hl
    have hlb : ((a.length : Int) != (b.length : Int)) = false := by simp [hl]
    have hlb2 : (a.length == b.length) = true := by simp [hl]
    clear hl
    go_enter Tryz.func53, Tryz.ntmps53
    go_wp2
    go_loopw [5] (fun i wr => ∃ k : Nat, k ≤ a.length ∧ i = .int .i64 k ∧ Below w.heap.size w wr ∧ Hid (a.take k = b.take k)) (fun i _ => a.length - (intOf i).toNat)
    case atStart => exact ⟨0, Nat.zero_le _, rfl, Below.refl _ _, by simp [Hid]⟩
    case round =>
      obtain ⟨k, hk, rfl, hbl, hall⟩ := hrel
      by_cases hlt : k < a.length
      · have hlt2 : k < b.length := by have := HL.out; omega
        obtain ⟨ad, rfl, hc1, hc2⟩ := (ha.below hbl).pt_at k hlt
        obtain ⟨bd, rfl, hd1, hd2⟩ := (hb.below hbl).pt_at k hlt2
        obtain ⟨ax, ay, hab⟩ : ∃ ax ay, ptD a k = (ax, ay) := ⟨_, _, rfl⟩
        obtain ⟨bx, by_, hbb⟩ : ∃ bx by_, ptD b k = (bx, by_) := ⟨_, _, rfl⟩
        rw [hab] at hc1 hc2
        rw [hbb] at hd1 hd2
        simp only at hc1 hc2 hd1 hd2
        have HA := Lib.hid hab
        have HB := Lib.hid hbb
        clear hab hbb
        by_cases h1 : ax = bx
        · by_cases h2 : ay = by_
          · subst h1 h2
            go_wp2_with fail
            go_quiet (fail)
            go_wp2
            go_roundw
            case rel => exact ⟨k + 1, by omega, by go_num, (by repeat (first | exact Below.refl _ _ | apply below_alloc | apply below_drewN | apply below_drew | (refine below_set2 ?_ ?_; (first | (simp; done) | (simp; omega))) | (refine below_step ?_ hbl))), take_eq_step (0, 0) hall.out hlt hlt2 (HA.out.trans HB.out.symm)⟩
            case measure => simp [intOf]; omega
          · subst h1
            go_wp2_with fail
            go_quiet (fail)
            go_wp2
            go_ret
            exact ⟨ret_bool (by rw [eq_comm, decide_eq_false_iff_not]; exact take_ne (0, 0) (fun h => h2 (by have := HA.out.symm.trans (h.trans HB.out); exact (Prod.mk.inj this).2))), (by repeat (first | exact Below.refl _ _ | apply below_alloc | apply below_drewN | apply below_drew | (refine below_set2 ?_ ?_; (first | (simp; done) | (simp; omega))) | (refine below_step ?_ hbl)))⟩
        · go_wp2_with fail
          go_quiet (fail)
          go_wp2
          go_ret
          exact ⟨ret_bool (by rw [eq_comm, decide_eq_false_iff_not]; exact take_ne (0, 0) (fun h => h1 (by have := HA.out.symm.trans (h.trans HB.out); exact (Prod.mk.inj this).1))), (by repeat (first | exact Below.refl _ _ | apply below_alloc | apply below_drewN | apply below_drew | (refine below_set2 ?_ ?_; (first | (simp; done) | (simp; omega))) | (refine below_step ?_ hbl)))⟩
      · go_wp2
        go_ret
        refine ⟨ret_bool ?_, hbl⟩
        have := hall.out
        rw [List.take_of_length_le (by omega), List.take_of_length_le (by have := HL.out; omega)] at this
        simp [this]
  · have HL := Lib.hid hl
    have hlb : ((a.length : Int) != (b.length : Int)) = true := by simp; omega
    have hlb2 : (a.length == b.length) = false := by simpa using hl
    clear hl
    go_enter Tryz.func53, Tryz.ntmps53
    go_wp2
    go_ret
    exact ⟨ret_bool (by rw [eq_comm, decide_eq_false_iff_not]; exact fun h => HL.out (by rw [h])), Below.refl _ _⟩

set_option maxRecDepth 100000 in
theorem ref21_Same {ok ok' : Nat → Prop} (a b : Rgs) (A B : Option Addr) (n m c d : Nat) (w : World) (ha : Row Ty.ring ok w A a) (hb : Row Ty.ring ok' w B b) (hn : n = a.length) (hm : m = b.length) :
    Calls Tryz.prog 15 #[.slice A n c, .slice B m d] w fun e w' => e = .returned (.bool (decide (a = b))) ∧ Below w.heap.size w w' := by
  subst hn hm
  have hl1 := ha.len
  have hl2 := hb.len
  by_cases hl : a.length = b.length
  · have HL := Lib.hid hl
    have hlb : ((a.length : Int) != (b.length : Int)) = false := by simp [hl]
    have hlb2 : (a.length == b.length) = true := by simp [hl]
    clear hl
    go_enter Tryz.func15, Tryz.ntmps15
    go_wp2
    go_loopw [5] (fun i wr => ∃ k : Nat, k ≤ a.length ∧ i = .int .i64 k ∧ Below w.heap.size w wr ∧ Hid (a.take k = b.take k)) (fun i _ => a.length - (intOf i).toNat)
    case atStart => exact ⟨0, Nat.zero_le _, rfl, Below.refl _ _, by simp [Hid]⟩
    case round =>
      obtain ⟨k, hk, rfl, hbl, hall⟩ := hrel
      by_cases hlt : k < a.length
      · have hlt2 : k < b.length := by have := HL.out; omega
        obtain ⟨ad, A0, c0, rfl, hc1, hc2, hr1⟩ := (ha.below hbl).ring_at k hlt
        obtain ⟨bd, B0, d0, rfl, hd1, hd2, hr2⟩ := (hb.below hbl).ring_at k hlt2
        have R1 := Lib.hid hr1
        have R2 := Lib.hid hr2
        clear hr1 hr2
        by_cases he : rgD a k = rgD b k
        · have HE := Lib.hid he
          clear he
          go_wp2_with fail
          go_still_tail 8, (by kernel_rfl)
          change wpList _ _ _ _ _ wr.drew
          go_wp2_with fail
          (refine (ref08_Same (rgD a k) (rgD b k) _ _ _ _ _ _ _ (R1.out.below (below_drew (Below.refl _ _))) (R2.out.below (below_drew (Below.refl _ _))) rfl rfl).mono ?_; rintro e w1 ⟨rfl, hb1⟩)
          have HE2 : decide (rgD a k = rgD b k) = true := decide_eq_true HE.out
          go_wp2
          go_roundw
          case rel => exact ⟨k + 1, by omega, by go_num, (by repeat (first | exact Below.refl _ _ | apply below_alloc | apply below_drewN | apply below_drew | (refine below_set2 ?_ ?_; (first | (simp; done) | (simp; omega))) | (refine below_step ?_ hb1) | (refine below_step ?_ hbl))), take_eq_step [] hall.out hlt hlt2 HE.out⟩
          case measure => simp [intOf]; omega
        · have HE := Lib.hid he
          clear he
          go_wp2_with fail
          go_still_tail 8, (by kernel_rfl)
          change wpList _ _ _ _ _ wr.drew
          go_wp2_with fail
          (refine (ref08_Same (rgD a k) (rgD b k) _ _ _ _ _ _ _ (R1.out.below (below_drew (Below.refl _ _))) (R2.out.below (below_drew (Below.refl _ _))) rfl rfl).mono ?_; rintro e w1 ⟨rfl, hb1⟩)
          have HE2 : decide (rgD a k = rgD b k) = false := decide_eq_false HE.out
          go_wp2
          go_ret
          exact ⟨ret_bool (by rw [eq_comm, decide_eq_false_iff_not]; exact take_ne [] HE.out), (by repeat (first | exact Below.refl _ _ | apply below_alloc | apply below_drewN | apply below_drew | (refine below_set2 ?_ ?_; (first | (simp; done) | (simp; omega))) | (refine below_step ?_ hb1) | (refine below_step ?_ hbl)))⟩
      · go_wp2
        go_ret
        refine ⟨ret_bool ?_, hbl⟩
        have := hall.out
        rw [List.take_of_length_le (by omega), List.take_of_length_le (by have := HL.out; omega)] at this
        simp [this]
  · have HL := Lib.hid hl
    have hlb : ((a.length : Int) != (b.length : Int)) = true := by simp; omega
    have hlb2 : (a.length == b.length) = false := by simpa using hl
    clear hl
    go_enter Tryz.func15, Tryz.ntmps15
    go_wp2
    go_ret
    exact ⟨ret_bool (by rw [eq_comm, decide_eq_false_iff_not]; exact fun h => HL.out (by rw [h])), Below.refl _ _⟩

theorem own_lit {w : World} {g base : Nat} {cs : Array Value} {xs : Sgs} {t : TypeId} (hg : g = w.heap.size) (hcs : cs = (xs.flatMap fun x => [Value.int .i64 x.1.1, .int .i64 x.1.2, .int .i64 x.2.1, .int .i64 x.2.2]).toArray) (hl : xs.length ≤ 1000000) (hb : base ≤ w.heap.size) :
    Own1 Ty.sg t base (w.alloc (.cells cs t)) (.slice (some ⟨g, 0, none⟩) xs.length xs.length) xs := by
  subst hg hcs
  have hl4 : (xs.flatMap fun x => [Value.int .i64 x.1.1, .int .i64 x.1.2, .int .i64 x.2.1, .int .i64 x.2.2]).length = xs.length * 4 := flat_len (k := 4) (enc := fun x : Sg => [.int .i64 x.1.1, .int .i64 x.1.2, .int .i64 x.2.1, .int .i64 x.2.2]) (fun _ => rfl) xs
  refine ⟨fun k hk => hk, _, ⟨hl4, .inr ⟨_, _, _, rfl, hb, heap_alloc_new _ _, Nat.le_refl _, by unfold maxLen; omega, hl4, ?_⟩⟩, reps_flat (k := 4) (enc := fun x : Sg => [.int .i64 x.1.1, .int .i64 x.1.2, .int .i64 x.2.1, .int .i64 x.2.2]) (fun _ => rfl) _ _ xs⟩
  rw [List.take_of_length_le]
  simp only [hl4]
  exact Nat.le_refl _
set_option maxHeartbeats 1000000 in
theorem law21_square (x y d : Int) (w : World) (hx : 0 ≤ x) (hx2 : x ≤ 1000) (hy : 0 ≤ y) (hy2 : y ≤ 1000) (hs : 0 ≤ d) (hs2 : d ≤ 1000) :
    Calls Tryz.prog 33 #[.int .i64 x, .int .i64 y, .int .i64 d] w fun e w' => ∃ g, e = .returned (.slice (some ⟨g, 0, none⟩) 4 4) ∧ Own1 Ty.sg 32 w.heap.size w' (.slice (some ⟨g, 0, none⟩) 4 4) (sqS x y d) ∧ Below w.heap.size w w' := by
  have hw : IntKind.i64.wrap (x + d) = x + d := IntWalk.i64_in _ (by omega)
  have hw2 : IntKind.i64.wrap (y + d) = y + d := IntWalk.i64_in _ (by omega)
  go_enter Tryz.func33, Tryz.ntmps33
  go_wp2
  go_ret
  exact ⟨_, rfl, own_lit (xs := sqS x y d) (by simp) (by simp [sqS]) (by simp [sqS]) (by simp; omega), (by repeat (first | exact Below.refl _ _ | apply below_alloc | apply below_drewN | apply below_drew | (refine below_set2 ?_ ?_; (first | (simp; done) | (simp; omega)))))⟩
end Go.Proofs.YtlmjciajpjdilaaGreat
end

section
namespace Go.Proofs.YtlmjciajpjdilaaGreat
open Go.RowKit Go.Proofs.YtlmjciajpjdilaaGreatW.PrintLast
set_option linter.unusedVariables false
set_option linter.unusedSimpArgs false

theorem Row.rings_lit (w : World) {ok : Nat → Prop} {xs : Rgs} {cs : List Value} (t : TypeId) (hg : ok w.heap.size) (hl : xs.length ≤ 9223372036854775807) (h : Reps Ty.ring ok w xs cs) : Row Ty.ring ok (w.alloc (.cells cs.toArray t)) (some ⟨w.heap.size, 0, none⟩) xs := by
  refine Row.of_reps hl hg (h.imp (fun x c hc => Ty.ring.below hc (below_alloc (Below.refl _ _) _))) (fun j u hu => ?_)
  simp only [World.cell?, heap_alloc_new]
  simpa using hu
set_option maxRecDepth 100000 in
set_option maxHeartbeats 4000000 in
theorem law21_lives (w : World) : Calls Tryz.prog 8 #[] w fun e w' => e = .returned (.bool true) ∧ Below w.heap.size w w' := by
  go_enter Tryz.func8, Tryz.ntmps8
  go_wp2_with fail
  refine (law21_square 0 0 9 _ (by decide) (by decide) (by decide) (by decide) (by decide) (by decide)).mono ?_
  rintro e w1 ⟨g1, rfl, ho1, hb1⟩
  have hg1 := ho1.lt g1 rfl
  go_wp2_with fail
  refine (law21_square 3 3 2 _ (by decide) (by decide) (by decide) (by decide) (by decide) (by decide)).mono ?_
  rintro e w2 ⟨g2, rfl, ho2, hb2⟩
  have hg2 := ho2.lt g2 rfl
  have HO1 := Lib.hid (ho1.below hb2)
  have HR2 : Hid (Row Ty.sg (fun k => ¬ (Value.slice (some ⟨g1, 0, none⟩) 4 4).ownBlock = some k) w2 (some ⟨g2, 0, none⟩) (sqS 3 3 2)) := by
    obtain ⟨A, c, e, _, hr⟩ := Own1.row_ok sg_flat ho2 (fun k => ¬ (Value.slice (some ⟨g1, 0, none⟩) 4 4).ownBlock = some k) (fun b e h => by simp [Value.ownBlock] at e h; omega)
    injection e with e1 e2 e3
    subst e1; exact hr
  have HB2 : Hid (Below w.heap.size w w2) := (by repeat (first | exact Below.refl _ _ | apply below_alloc | apply below_drewN | apply below_drew | (refine below_set2 ?_ ?_; (first | (simp; done) | (simp; omega))) | (refine below_step ?_ hb2) | (refine below_step ?_ hb1)))
  clear ho1 ho2 hb1 hb2
  go_wp2_with (at_builtin; refine app_row Ty.sg (W := w2) w.heap.size rfl _ _ 22 32 _ 32 rfl Tryz.underlying22 infoSg rfl (by decide) (.slice (some ⟨g1, 0, none⟩) 4 4) (sqS 0 0 9) (sqS 3 3 2) (some ⟨g2, 0, none⟩) 4 4 _ rfl rfl rfl HR2.out HO1.out HB2.out.size (by decide) ?_; intro v1 w3 HO3 hgr hat)
  have HB3 : Hid (Below w.heap.size w w3) := below_own HB2.out hgr (fun k e => by simp [Value.ownBlock] at e; omega)
  obtain ⟨A3, c3, rfl, hl3, hr3, _⟩ := HO3.reads
  have HR3 : Hid (Row Ty.sg (fun _ => True) w3 A3 exS) := Row.mono hr3 (fun _ _ => trivial)
  obtain ⟨ad, rfl, k0, k1, k2, k3⟩ := HR3.out.sg_at 0 (by decide)
  clear HO1 HR2 HO3 hr3 hgr hat
  simp only [show (sqS 0 0 9 ++ sqS 3 3 2).length = 8 from rfl]
  have HC : Calls Tryz.prog 13 #[.slice (some ad) 8 c3] w3 fun e w' => ∃ v, e = .returned (.tuple #[v, .int .i64 0]) ∧ Own1 Ty.ring 41 w3.heap.size w' v [[(0, 0), (9, 0), (9, 9), (0, 9)], [(3, 3), (3, 5), (5, 5), (5, 3)]] ∧ Below w3.heap.size w3 w' := by
    have := trace_Rings exS (some ad) 8 c3 w3 HR3.out rfl (by decide)
    rw [ex_check, ex_rings] at this
    exact this
  have HCH := Lib.hid HC
  clear HC
  go_wp2_with fail
  refine Calls.mono HCH.out ?_
  rintro e w4 ⟨v4, rfl, ho4, hb4⟩
  obtain ⟨A4, c4, rfl, hl4, hr4⟩ := ho4.reads
  have HRR := Lib.hid hr4
  have HB4 := Lib.hid hb4
  clear ho4 hr4 HCH hb4
  have HB5 := Lib.hid (below_step HB3.out HB4.out)
  have HS4 := Lib.hid (HR3.out.below HB4.out)
  simp only [show [[((0 : Int), (0 : Int)), (9, 0), (9, 9), (0, 9)], [(3, 3), (3, 5), (5, 5), (5, 3)]].length = 2 from rfl]
  have HW : Hid (Row Ty.ring (fun _ => True) (((w4.alloc (.cells #[.int .i64 0, .int .i64 0, .int .i64 9, .int .i64 0, .int .i64 9, .int .i64 9, .int .i64 0, .int .i64 9] 24)).alloc (.cells #[.int .i64 3, .int .i64 3, .int .i64 3, .int .i64 5, .int .i64 5, .int .i64 5, .int .i64 5, .int .i64 3] 24)).alloc
      (.cells #[.slice (some ⟨w4.heap.size, 0, none⟩) 4 4, .slice (some ⟨w4.heap.size + 1, 0, none⟩) 4 4] 41)) (some ⟨w4.heap.size + 1 + 1, 0, none⟩) [[(0, 0), (9, 0), (9, 9), (0, 9)], [(3, 3), (3, 5), (5, 5), (5, 3)]]) := by
    have h1 := Row.pt_lit w4 [(0, 0), (9, 0), (9, 9), (0, 9)] 24 (fun _ => True) trivial (by decide)
    have h2 := Row.pt_lit (w4.alloc (.cells #[.int .i64 0, .int .i64 0, .int .i64 9, .int .i64 0, .int .i64 9, .int .i64 9, .int .i64 0, .int .i64 9] 24)) [(3, 3), (3, 5), (5, 5), (5, 3)] 24 (fun _ => True) trivial (by decide)
    have h3 := Row.rings_lit ((w4.alloc (.cells #[.int .i64 0, .int .i64 0, .int .i64 9, .int .i64 0, .int .i64 9, .int .i64 9, .int .i64 0, .int .i64 9] 24)).alloc (.cells #[.int .i64 3, .int .i64 3, .int .i64 3, .int .i64 5, .int .i64 5, .int .i64 5, .int .i64 5, .int .i64 3] 24))
      (ok := fun _ => True) (xs := [[(0, 0), (9, 0), (9, 9), (0, 9)], [(3, 3), (3, 5), (5, 5), (5, 3)]]) (cs := [.slice (some ⟨w4.heap.size, 0, none⟩) 4 4, .slice (some ⟨w4.heap.size + 1, 0, none⟩) 4 4]) 41 trivial (by decide)
      ⟨[_], _, rfl, ⟨_, _, rfl, Nat.le_refl _, h1.below (below_alloc (Below.refl _ _) _)⟩, [_], _, rfl, ⟨_, _, rfl, Nat.le_refl _, (by simpa using h2)⟩, rfl⟩
    exact Lib.hid (by simpa using h3)
  go_wp2_with fail
  refine (ref21_Same _ _ _ _ _ _ _ _ _ (((HRR.out.alloc _).alloc _).alloc _) HW.out rfl rfl).mono ?_
  rintro e w5 ⟨rfl, hb5⟩
  have HB6 : Hid (Below w4.heap.size w4 w5) := (by repeat (first | exact Below.refl _ _ | apply below_alloc | apply below_drewN | apply below_drew | (refine below_set2 ?_ ?_; (first | (simp; done) | (simp; omega))) | (refine below_step ?_ hb5)))
  have HS5 := Lib.hid (HS4.out.below HB6.out)
  obtain ⟨cb5, fb5⟩ := bcell HB6.out
  have z5 := HB6.out.size
  clear hb5 HW
  simp only [decide_true]
  have HCN := Lib.hid (fun W => trace_Check (ok := fun _ => True) [] none 0 0 W (Row.nil _ _ _ _) rfl (by decide))
  rw [nil_check] at HCN
  go_wp2_with fail
  refine (HCN.out _).mono ?_
  rintro e w6 ⟨rfl, hb6⟩
  have HS6 := Lib.hid (HS5.out.below hb6)
  have HB7 := Lib.hid (below_step HB6.out hb6)
  obtain ⟨cb6, fb6⟩ := bcell hb6
  have z6 := hb6.size
  clear hb6 HCN
  go_wp2_with fail
  refine (trace_Where exS _ _ _ (1, 1) _ HS6.out rfl (by decide)).mono ?_
  rintro e w7 ⟨rfl, hb7⟩
  rw [ex_in]
  have HS7 := Lib.hid (HS6.out.below hb7)
  have HB8 := Lib.hid (below_step HB7.out hb7)
  clear hb7
  go_wp2_with fail
  refine (trace_Where exS _ _ _ (4, 4) _ HS7.out rfl (by decide)).mono ?_
  rintro e w8 ⟨rfl, hb8⟩
  rw [ex_out]
  have HS8 := Lib.hid (HS7.out.below hb8)
  have HB9 := Lib.hid (below_step HB8.out hb8)
  clear hb8
  obtain ⟨ad', e', m0, m1, m2, m3⟩ := HS8.out.sg_at 0 (by decide)
  cases e'
  simp only [show sgD exS 0 = ((0, 0), (9, 0)) from rfl] at m0 m1 m2 m3
  have n0 : w8.cell? ad = some (.int .i64 0) := m0
  have n1 : w8.cell? ⟨ad.block, ad.off + 1, none⟩ = some (.int .i64 0) := m1
  have n2 : w8.cell? ⟨ad.block, ad.off + 2, none⟩ = some (.int .i64 9) := m2
  have n3 : w8.cell? ⟨ad.block, ad.off + 3, none⟩ = some (.int .i64 0) := m3
  clear k0 k1 k2 k3 m0 m1 m2 m3
  go_wp2_with fail
  refine (trace_LeftInside exS _ _ _ ((0, 0), (9, 0)) _ HS8.out rfl (by decide)).mono ?_
  rintro e w9 ⟨rfl, hb9⟩
  rw [ex_left]
  have HB10 := Lib.hid (below_step HB9.out hb9)
  clear hb9
  go_wp2
  go_ret
  exact ⟨rfl, below_step HB5.out HB10.out⟩
end Go.Proofs.YtlmjciajpjdilaaGreat
end

section
namespace Go.Proofs.YtlmjciajpjdilaaGreat
open Go.RowKit Go.Proofs.YtlmjciajpjdilaaGreatW.PrintLast
set_option linter.unusedVariables false
set_option linter.unusedSimpArgs false

theorem ofB_symm (a b : Pt) : ofB a b = ofB b a := by
  unfold ofB
  cases h1 : lessB a b <;> cases h2 : lessB b a
  · rw [totB.antisymm h1 h2]
  · rfl
  · rfl
  · exact absurd (totB.asymm h1) (by simp [h2])
def revS (s : Sg) : Sg := (s.2, s.1)
theorem ofS_rev (s : Sg) : ofS (revS s) = ofS s := ofB_symm _ _
theorem good_rev (s : Sg) : goodB (revS s) = goodB s := by
  unfold goodB revS
  rw [Bool.and_comm (validB s.2)]
  congr 1
  exact decide_eq_decide.2 ⟨fun h e => h e.symm, fun h e => h e.symm⟩
theorem mem_uniq {l : Sgs} {x : Sg} : x ∈ uniqZ l ↔ ∃ s ∈ l, goodB s = true ∧ ofS s = x := by
  unfold uniqZ sortZ canonZ
  rw [mem_compact, mem_sortG, List.mem_map]
  constructor
  · rintro ⟨s, hs, rfl⟩
    exact ⟨s, (List.mem_filter.1 hs).1, (List.mem_filter.1 hs).2, rfl⟩
  · rintro ⟨s, hs, hg, rfl⟩
    exact ⟨s, List.mem_filter.2 ⟨hs, hg⟩, rfl⟩
theorem uniq_inc (l : Sgs) : Inc lessS (uniqZ l) := compact_inc totS (sortG_srt totS _)
theorem uniq_congr {l m : Sgs} (h1 : ∀ s ∈ l, s ∈ m ∨ revS s ∈ m) (h2 : ∀ s ∈ m, s ∈ l ∨ revS s ∈ l) : uniqZ l = uniqZ m := by
  have key : ∀ {l m : Sgs}, (∀ s ∈ l, s ∈ m ∨ revS s ∈ m) → ∀ x ∈ uniqZ l, x ∈ uniqZ m := by
    intro l m h x hx
    obtain ⟨s, hs, hg, rfl⟩ := mem_uniq.1 hx
    rcases h s hs with h | h
    · exact mem_uniq.2 ⟨s, h, hg, rfl⟩
    · exact mem_uniq.2 ⟨revS s, h, (good_rev s).trans hg, ofS_rev s⟩
  exact inc_unique totS (fun x => ⟨key h1 x, key h2 x⟩) (uniq_inc l) (uniq_inc m)
def rotS (l : Sgs) (k i : Nat) : Sg := if i % 2 = 0 then revS (sgD l ((i + k) % l.length)) else sgD l ((i + k) % l.length)
def mixZ (l : Sgs) (k : Nat) : Sgs := (List.range l.length).map (rotS l k) ++ [sgD l k]
theorem sgD_mem {l : Sgs} {k : Nat} (h : k < l.length) : sgD l k ∈ l := by rw [sgD_eq h]; exact List.getElem_mem h
theorem revS_rev (s : Sg) : revS (revS s) = s := rfl
theorem uniq_mix {l : Sgs} {k : Nat} (hk : k < l.length) : uniqZ (mixZ l k) = uniqZ l := by
  refine uniq_congr ?_ ?_
  · intro s hs
    rcases List.mem_append.1 hs with hs | hs
    · obtain ⟨i, hi, rfl⟩ := List.mem_map.1 hs
      have hm := sgD_mem (l := l) (k := (i + k) % l.length) (Nat.mod_lt _ (by omega))
      unfold rotS
      split
      · right; exact hm
      · left; exact hm
    · left
      rw [List.mem_singleton.1 hs]
      exact sgD_mem hk
  · intro s hs
    obtain ⟨j, hj, rfl⟩ := List.getElem_of_mem hs
    have h1 : ((j + (l.length - k)) % l.length + k) % l.length = j := by
      rw [Nat.mod_add_mod, show j + (l.length - k) + k = j + l.length by omega, Nat.add_mod_right, Nat.mod_eq_of_lt hj]
    have h2 : rotS l k ((j + (l.length - k)) % l.length) ∈ mixZ l k := List.mem_append_left _ (List.mem_map.2 ⟨_, List.mem_range.2 (Nat.mod_lt _ (by omega)), rfl⟩)
    unfold rotS at h2
    rw [h1, sgD_eq hj] at h2
    split at h2
    · right; exact h2
    · left; exact h2
theorem mix_check {l : Sgs} {k : Nat} (hk : k < l.length) : checkZ (mixZ l k) = checkZ l := by unfold checkZ; rw [uniq_mix hk]
theorem mix_rings {l : Sgs} {k : Nat} (hk : k < l.length) : ringsZ (mixZ l k) = ringsZ l := by unfold ringsZ; rw [mix_check hk, uniq_mix hk]
theorem mix_len (l : Sgs) (k : Nat) : (mixZ l k).length = l.length + 1 := by simp [mixZ]
def mixTo (l : Sgs) (k i : Nat) : Sgs := (List.range i).map (rotS l k)
theorem mixTo_snoc (l : Sgs) (k i : Nat) : mixTo l k (i + 1) = mixTo l k i ++ [rotS l k i] := by unfold mixTo; rw [List.range_succ, List.map_append]; rfl
theorem mixTo_len (l : Sgs) (k i : Nat) : (mixTo l k i).length = i := by simp [mixTo]
end Go.Proofs.YtlmjciajpjdilaaGreat
end

section
namespace Go.Proofs.YtlmjciajpjdilaaGreat
open Go.RowKit Go.Proofs.YtlmjciajpjdilaaGreatW.PrintLast
set_option linter.unusedVariables false
set_option linter.unusedSimpArgs false

theorem uniq_ne {l : Sgs} {s : Sg} (h : s ∈ uniqZ l) : ¬ s.1 = s.2 := by
  obtain ⟨t, ht, hg, rfl⟩ := mem_uniq.1 h
  unfold goodB at hg
  have h1 : t.1 ≠ t.2 := by have := (Bool.and_eq_true _ _).mp hg; exact of_decide_eq_true this.1
  unfold ofS ofB
  split
  · exact fun e => h1 e.symm
  · exact h1
def badR (s t : Sg) : Bool := decide (2 ≤ relR s t)
def crossR (u : Sgs) : List (Sg × Sg) := (List.range u.length).flatMap fun i => ((u.drop (i + 1)).filter (badR (sgD u i))).map fun t => (sgD u i, t)
def crTo (u : Sgs) (i : Nat) : List (Sg × Sg) := (List.range i).flatMap fun i => ((u.drop (i + 1)).filter (badR (sgD u i))).map fun t => (sgD u i, t)
def crIn (u : Sgs) (i j : Nat) : List (Sg × Sg) := crTo u i ++ (((u.drop (i + 1)).take j).filter (badR (sgD u i))).map fun t => (sgD u i, t)
theorem crTo_succ (u : Sgs) (i : Nat) : crTo u (i + 1) = crIn u i (u.drop (i + 1)).length := by
  unfold crTo crIn
  rw [List.range_succ, List.flatMap_append, List.take_length]
  simp [crTo]
theorem crIn_zero (u : Sgs) (i : Nat) : crIn u i 0 = crTo u i := by simp [crIn]
theorem crIn_succ (u : Sgs) (i j : Nat) (h : i + 1 + j < u.length) : crIn u i (j + 1) = crIn u i j ++ (if badR (sgD u i) (sgD u (i + 1 + j)) = true then [(sgD u i, sgD u (i + 1 + j))] else []) := by
  unfold crIn
  rw [take_snoc (u.drop (i + 1)) j ((0, 0), (0, 0)) (by rw [List.length_drop]; omega), List.filter_append, List.map_append, List.append_assoc]
  have e : (u.drop (i + 1)).getD j ((0, 0), (0, 0)) = sgD u (i + 1 + j) := by simp [sgD, List.getD_eq_getElem?_getD]
  rw [e]
  congr 2
  by_cases hb : badR (sgD u i) (sgD u (i + 1 + j)) = true
  · rw [if_pos hb, List.filter_cons_of_pos hb]; rfl
  · rw [if_neg hb, List.filter_cons_of_neg hb]; rfl
theorem crIn_len (u : Sgs) (i : Nat) : ∀ j, (crIn u i j).length ≤ (crTo u i).length + j
  | 0 => by rw [crIn_zero]; omega
  | j + 1 => by
    unfold crIn
    rw [List.length_append, List.length_map]
    have h1 := List.length_filter_le (badR (sgD u i)) ((u.drop (i + 1)).take (j + 1))
    rw [List.length_take] at h1
    omega
theorem crTo_len (u : Sgs) : ∀ i, (crTo u i).length ≤ i * u.length
  | 0 => by simp [crTo]
  | i + 1 => by
    have ih := crTo_len u i
    rw [crTo_succ, Nat.add_mul, Nat.one_mul]
    have := crIn_len u i (u.drop (i + 1)).length
    rw [List.length_drop] at this ⊢
    omega
set_option maxRecDepth 100000 in
set_option maxHeartbeats 4000000 in
theorem ref20_Crossings {ok : Nat → Prop} (l : Sgs) (A : Option Addr) (n c : Nat) (w : World) (hr : Row Ty.sg ok w A l) (hn : n = l.length) (hlen : l.length ≤ 600) :
    Calls Tryz.prog 80 #[.slice A n c] w fun e w' => ∃ B d, e = .returned (.slice B (crossR (uniqZ l)).length d) ∧ Below w.heap.size w w' := by
  subst hn
  have HR := Lib.hid hr
  clear hr
  have hul := uniq_len l
  have CU := Lib.hid (fun W h => ref20_Unique (ok := ok) l A l.length c W h rfl (by omega))
  have HUV := Lib.hid (uniq_V l)
  have HNE := Lib.hid (fun s h => uniq_ne (l := l) (s := s) h)
  have HZ : Hid (crossR (uniqZ l) = crTo (uniqZ l) (uniqZ l).length) := rfl
  obtain ⟨z, hz⟩ : ∃ z, z = (crossR (uniqZ l)).length := ⟨_, rfl⟩
  rw [← hz]
  have HZ2 : Hid (z = (crTo (uniqZ l) (uniqZ l).length).length) := by rw [← HZ.out]; exact hz
  clear hz HZ
  generalize uniqZ l = u at *
  go_enter Tryz.func80, Tryz.ntmps80
  go_wp2_with fail
  refine Calls.mono (CU.out _ HR.out) ?_
  rintro e w1 ⟨v, rfl, ho, hb1⟩
  obtain ⟨A1, c1, rfl, hl1, hr1⟩ := ho.reads
  have HU := Lib.hid hr1
  have HB1 := Lib.hid hb1
  clear ho hr1 hb1 CU
  go_wp2
  go_loopw [4, 5] (fun v i wr => ∃ k : Nat, k ≤ u.length ∧ i = .int .i64 k ∧ Hid (Below w1.heap.size w1 wr) ∧ Hid (Own1 Ty.sg2 97 w1.heap.size wr v (crTo u k))) (fun _ i _ => u.length - (intOf i).toNat)
  case atStart => exact ⟨0, Nat.zero_le _, rfl, Below.refl _ _, OwnR.nil _ _ _ _ _⟩
  case round =>
    obtain ⟨k, hk, rfl, HB, HO⟩ := hrel
    by_cases hlt : k < u.length
    · have hcl := cross_le (a := k) (n := (crTo u k).length) (m := u.length) (by omega) (crTo_len u k) (by omega)
      have HS1 := Lib.hid (crTo_succ u k)
      have hdl : (u.drop (k + 1)).length = u.length - (k + 1) := List.length_drop ..
      rw [hdl] at HS1
      have HO0 : Hid (Own1 Ty.sg2 97 w1.heap.size wr u4 (crIn u k 0)) := by rw [crIn_zero]; exact HO.out
      clear hdl HO
      go_wp2
      go_loopw [4, 6] (fun v i wi => ∃ j : Nat, k + 1 + j ≤ u.length ∧ i = .int .i64 ((k + 1 + j : Nat) : Int) ∧ Hid (Below w1.heap.size w1 wi) ∧ Hid (Own1 Ty.sg2 97 w1.heap.size wi v (crIn u k j))) (fun _ i _ => u.length - (intOf i).toNat)
      case atStart => exact ⟨0, by omega, by go_num, HB.out, HO0.out⟩
      case round =>
        obtain ⟨j, hj, rfl, HBi, HOi⟩ := hrel
        clear HO0
        have hil := crIn_len u k j
        have hj6 : j ≤ 600 := by omega
        have HUr := Lib.hid (HU.out.below HBi.out)
        have hzi := HBi.out.size
        by_cases hjt : k + 1 + j < u.length
        · obtain ⟨ad, rfl, hx0, hx1, hx2, hx3⟩ := HUr.out.sg_at k hlt
          obtain ⟨ad2, e2, hy0, hy1, hy2, hy3⟩ := HUr.out.sg_at (k + 1 + j) hjt
          cases e2
          have HS2 := Lib.hid (crIn_succ u k j hjt)
          have m1 : sgD u k ∈ u := by rw [sgD_eq hlt]; exact List.getElem_mem hlt
          have m2 : sgD u (k + 1 + j) ∈ u := by rw [sgD_eq hjt]; exact List.getElem_mem hjt
          have v1 := HUV.out _ m1
          have v2 := HUV.out _ m2
          have n1 := HNE.out _ m1
          have n2 := HNE.out _ m2
          clear m1 m2
          generalize sgD u k = x at *
          generalize hm : k + 1 + j = m at *
          generalize sgD u m = y at *
          have CR := Lib.hid (fun W => ref09_Relate x.1.1 x.1.2 x.2.1 x.2.2 y.1.1 y.1.2 y.2.1 y.2.2 W (by rw [Bool.and_eq_true] at v1 v2; rw [Bool.and_eq_true, Bool.and_eq_true]; exact ⟨⟨v1.1, v1.2⟩, v2.1⟩) (by rw [Bool.and_eq_true] at v2; exact v2.2) n1 n2)
          have HBR : Hid (badR x y = decide (2 ≤ relR ((x.1.1, x.1.2), (x.2.1, x.2.2)) ((y.1.1, y.1.2), (y.2.1, y.2.2)))) := rfl
          have HM := Lib.hid hm
          clear v1 v2 n1 n2 hm
          generalize relR ((x.1.1, x.1.2), (x.2.1, x.2.2)) ((y.1.1, y.1.2), (y.2.1, y.2.2)) = rv at *
          by_cases hq : 2 ≤ rv
          · have t1 : decide (2 ≤ rv) = true := decide_eq_true hq
            have HS3 : Hid (crIn u k (j + 1) = crIn u k j ++ [(x, y)]) := HS2.out.trans (by rw [HBR.out, t1]; rfl)
            clear HS2 HBR hq
            go_wp2_with fail
            go_still_tail 8, (by kernel_rfl)
            change wpList _ _ _ _ _ wr.drew
            go_wp2_with fail
            (refine (CR.out _).mono ?_; rintro e w5 ⟨rfl, hb5⟩)
            have BR : Below wr.heap.size wr w5 := (by repeat (first | exact Below.refl _ _ | apply below_alloc | apply below_drewN | apply below_drew | (refine below_set2 ?_ ?_; (first | (simp; done) | (simp; omega))) | (refine below_step ?_ hb5)))
            have p0 := cell_below BR hx0
            have p1 := cell_below BR hx1
            have p2 := cell_below BR hx2
            have p3 := cell_below BR hx3
            have q0 := cell_below BR hy0
            have q1 := cell_below BR hy1
            have q2 := cell_below BR hy2
            have q3 := cell_below BR hy3
            have HB5 := Lib.hid (below_step HBi.out BR)
            have HOd := Lib.hid (OwnR.drew (Own1.below HOi.out BR))
            have hzd : w1.heap.size ≤ w5.drew.heap.size := HB5.out.size
            have hlen5 : ((crIn u k j).length + 1) * 64 ≤ 140737488355328 := by omega
            clear hb5 BR hx0 hx1 hx2 hx3 hy0 hy1 hy2 hy3 HUr
            go_wp2_with fail
            refine start_ (n := 13) (S := fun w' => w'.cell? (ad.add (k * 4)) = some (.int .i64 x.1.1) ∧ w'.cell? ⟨(ad.add (k * 4)).block, (ad.add (k * 4)).off + 1, none⟩ = some (.int .i64 x.1.2) ∧ w'.cell? ⟨(ad.add (k * 4)).block, (ad.add (k * 4)).off + 2, none⟩ = some (.int .i64 x.2.1) ∧ w'.cell? ⟨(ad.add (k * 4)).block, (ad.add (k * 4)).off + 3, none⟩ = some (.int .i64 x.2.2) ∧ w'.cell? (ad.add (m * 4)) = some (.int .i64 y.1.1) ∧ w'.cell? ⟨(ad.add (m * 4)).block, (ad.add (m * 4)).off + 1, none⟩ = some (.int .i64 y.1.2) ∧ w'.cell? ⟨(ad.add (m * 4)).block, (ad.add (m * 4)).off + 2, none⟩ = some (.int .i64 y.2.1) ∧ w'.cell? ⟨(ad.add (m * 4)).block, (ad.add (m * 4)).off + 3, none⟩ = some (.int .i64 y.2.2)) (ds := [10, 11]) #[false, false, false, false, false, false, false, false, false, false, false, false, false] (by kernel_rfl) rfl rfl ⟨p0, p1, p2, p3, q0, q1, q2, q3⟩ (fun hHeld => ?_)
            refine pure_ (i := 0) (N := some 33) (v := ?_) (a' := ?_) #[true, false, false, false, false, false, false, false, false, false, false, false, false] rfl rfl (by kernel_rfl) (fun _ _ _ h => h) (Or.inl ⟨by rfl, ?_⟩) ?_ ?_
            rotate_left
            · intro w'
              go_simp
              with_reducible rfl
            rotate_left
            · simp only [Act.put, List.setIfInBounds_toArray, List.set_cons_zero, List.set_cons_succ, i64_w, i32_w]
              rfl
            refine pure_ (i := 1) (N := some 34) (v := ?_) (a' := ?_) #[true, true, false, false, false, false, false, false, false, false, false, false, false] rfl rfl (by kernel_rfl) (fun _ _ _ h => h) (Or.inl ⟨by rfl, ?_⟩) ?_ ?_
            rotate_left
            · intro w'
              go_simp
              with_reducible rfl
            rotate_left
            · simp only [Act.put, List.setIfInBounds_toArray, List.set_cons_zero, List.set_cons_succ, i64_w, i32_w]
              rfl
            refine pure_ (i := 2) (N := some 35) (v := ?_) (a' := ?_) #[true, true, true, false, false, false, false, false, false, false, false, false, false] rfl rfl (by kernel_rfl) (fun _ _ _ h => h) (Or.inl ⟨by rfl, ?_⟩) ?_ ?_
            rotate_left
            · intro w'
              go_simp
              with_reducible rfl
            rotate_left
            · simp only [Act.put, List.setIfInBounds_toArray, List.set_cons_zero, List.set_cons_succ, i64_w, i32_w]
              rfl
            refine pure_ (i := 3) (N := some 36) (v := ?_) (a' := ?_) #[true, true, true, true, false, false, false, false, false, false, false, false, false] rfl rfl (by kernel_rfl) (fun _ _ _ h => h) (Or.inl ⟨by rfl, ?_⟩) ?_ ?_
            rotate_left
            · intro w'
              go_simp
              with_reducible rfl
            rotate_left
            · simp only [Act.put, List.setIfInBounds_toArray, List.set_cons_zero, List.set_cons_succ, i64_w, i32_w]
              rfl
            refine pure_ (i := 5) (N := some 38) (v := ?_) (a' := ?_) #[true, true, true, true, false, true, false, false, false, false, false, false, false] rfl rfl (by kernel_rfl) (fun _ _ _ h => h) (Or.inl ⟨by rfl, ?_⟩) ?_ ?_
            rotate_left
            · intro w'
              go_simp
              with_reducible rfl
            rotate_left
            · simp only [Act.put, List.setIfInBounds_toArray, List.set_cons_zero, List.set_cons_succ, i64_w, i32_w]
              rfl
            refine pure_ (i := 6) (N := some 39) (v := ?_) (a' := ?_) #[true, true, true, true, false, true, true, false, false, false, false, false, false] rfl rfl (by kernel_rfl) (fun _ _ _ h => h) (Or.inl ⟨by rfl, ?_⟩) ?_ ?_
            rotate_left
            · intro w'
              go_simp
              with_reducible rfl
            rotate_left
            · simp only [Act.put, List.setIfInBounds_toArray, List.set_cons_zero, List.set_cons_succ, i64_w, i32_w]
              rfl
            refine pure_ (i := 7) (N := some 40) (v := ?_) (a' := ?_) #[true, true, true, true, false, true, true, true, false, false, false, false, false] rfl rfl (by kernel_rfl) (fun _ _ _ h => h) (Or.inl ⟨by rfl, ?_⟩) ?_ ?_
            rotate_left
            · intro w'
              go_simp
              with_reducible rfl
            rotate_left
            · simp only [Act.put, List.setIfInBounds_toArray, List.set_cons_zero, List.set_cons_succ, i64_w, i32_w]
              rfl
            refine take_ (i := 4) (N := some 37) (v := ?_) (a' := ?_) #[true, true, true, true, true, true, true, true, false, false, false, false, false] rfl rfl (by kernel_rfl) (fun _ _ _ h => h) (Or.inl ⟨by rfl, ?_⟩) hHeld ?_ ?_
            rotate_left
            · rintro w' ⟨s0, s1, s2, s3, s4, s5, s6, s7⟩
              go_simp
              with_reducible rfl
            rotate_left
            · simp only [Act.put, List.setIfInBounds_toArray, List.set_cons_zero, List.set_cons_succ, i64_w, i32_w]
              rfl
            refine take_ (i := 8) (N := some 41) (v := ?_) (a' := ?_) #[true, true, true, true, true, true, true, true, true, false, false, false, false] rfl rfl (by kernel_rfl) (fun _ _ _ h => h) (Or.inl ⟨by rfl, ?_⟩) hHeld ?_ ?_
            rotate_left
            · rintro w' ⟨s0, s1, s2, s3, s4, s5, s6, s7⟩
              go_simp
              with_reducible rfl
            rotate_left
            · simp only [Act.put, List.setIfInBounds_toArray, List.set_cons_zero, List.set_cons_succ, i64_w, i32_w]
              rfl
            refine pure_ (i := 9) (N := some 42) (v := ?_) (a' := ?_) #[true, true, true, true, true, true, true, true, true, true, false, false, false] rfl rfl (by kernel_rfl) (fun _ _ _ h => h) (Or.inl ⟨by rfl, ?_⟩) ?_ ?_
            rotate_left
            · intro w'
              go_simp
              with_reducible rfl
            rotate_left
            · simp only [Act.put, List.setIfInBounds_toArray, List.set_cons_zero, List.set_cons_succ, i64_w, i32_w]
              rfl
            refine last_ (i := 10) (N := some 43) #[true, true, true, true, true, true, true, true, true, true, true, false, false] rfl rfl (by kernel_rfl) (by decide) (fun K hK => ?_)
            refine value_ (w1 := ?_) (v := ?_) (by rfl) rfl ?_ ?_
            rotate_left 2
            · go_simp
              constructor
              · rfl
              · rfl
            refine hK.out _ _ ?_
            clear hK K
            refine norm_ (a' := ?_) ?_ ?_
            rotate_left
            · show Act.put _ (some 43) _ = _
              simp only [Act.put, List.setIfInBounds_toArray, List.set_cons_zero, List.set_cons_succ, i64_w, i32_w]
              rfl
            refine last_ (i := 11) (N := some 44) #[true, true, true, true, true, true, true, true, true, true, true, true, false] rfl rfl (by kernel_rfl) (by decide) (fun K hK => ?_)
            refine step_one Ty.sg2 (W := w5.drew) w1.heap.size rfl (.tmp 33) (.tmp 43) 78 97 _ 64 rfl Tryz.underlying78 infoSg2 rfl (by decide) u4 (crIn u k j) (x, y) _ _ rfl rfl (by simp) rfl HOd.out hzd hlen5 ?_
            intro v7 w7 HO7 hg7 hat7
            refine hK.out _ _ ?_
            clear hK K
            refine norm_ (a' := ?_) ?_ ?_
            rotate_left
            · show Act.put _ (some 44) _ = _
              simp only [Act.put, List.setIfInBounds_toArray, List.set_cons_zero, List.set_cons_succ, i64_w, i32_w]
              rfl
            refine pure_ (i := 12) (N := some 4) (v := ?_) (a' := ?_) #[true, true, true, true, true, true, true, true, true, true, true, true, true] rfl rfl (by kernel_rfl) (fun _ _ _ h => h) (Or.inl ⟨by rfl, ?_⟩) ?_ ?_
            rotate_left
            · intro w'
              go_simp
              with_reducible rfl
            rotate_left
            · simp only [Act.put, List.setIfInBounds_toArray, List.set_cons_zero, List.set_cons_succ, i64_w, i32_w]
              rfl
            refine done_ (by kernel_rfl) ?_
            have HB7 := Lib.hid (show Below w1.heap.size w1 w7 from below_own (below_drew HB5.out) hg7 (fun b e => (OwnR.lt HOd.out b e).1))
            have HO8 := Lib.hid (Own1.of HO7)
            clear HO7 hg7 hat7
            go_wp2
            go_roundw
            case rel => exact ⟨j + 1, by have := HM.out; omega, by rw [show k + 1 + (j + 1) = m + 1 by have := HM.out; omega]; go_num, HB7.out, by rw [HS3.out]; exact HO8.out⟩
            case measure => simp [intOf]; omega
          · have t1 : decide (2 ≤ rv) = false := decide_eq_false hq
            have HS3 : Hid (crIn u k (j + 1) = crIn u k j) := HS2.out.trans (by rw [HBR.out, t1]; simp)
            clear HS2 HBR hq
            go_wp2_with fail
            go_still_tail 8, (by kernel_rfl)
            change wpList _ _ _ _ _ wr.drew
            go_wp2_with fail
            (refine (CR.out _).mono ?_; rintro e w5 ⟨rfl, hb5⟩)
            have BR : Below wr.heap.size wr w5 := (by repeat (first | exact Below.refl _ _ | apply below_alloc | apply below_drewN | apply below_drew | (refine below_set2 ?_ ?_; (first | (simp; done) | (simp; omega))) | (refine below_step ?_ hb5)))
            have HB5 := Lib.hid (below_step HBi.out BR)
            have HO5 := Lib.hid (Own1.below HOi.out BR)
            clear hb5 BR hx0 hx1 hx2 hx3 hy0 hy1 hy2 hy3 HUr
            go_wp2
            go_roundw
            case rel => exact ⟨j + 1, by have := HM.out; omega, by rw [show k + 1 + (j + 1) = m + 1 by have := HM.out; omega]; go_num, HB5.out, by rw [HS3.out]; exact HO5.out⟩
            case measure => simp [intOf]; omega
        · have hje : u.length - (k + 1) = j := by omega
          have HO9 : Hid (Own1 Ty.sg2 97 w1.heap.size wr u4 (crTo u (k + 1))) := by rw [HS1.out, hje]; exact HOi.out
          clear hje
          go_wp2
          go_roundw
          case rel => exact ⟨k + 1, by omega, by go_num, HBi.out, HO9.out⟩
          case measure => simp [intOf]; omega
    · obtain rfl : k = u.length := by omega
      obtain ⟨A9, c9, hv9, hl9, hr9⟩ := HO.out.reads
      subst hv9
      rw [← HZ2.out] 
      go_wp2
      go_ret
      exact ⟨_, _, rfl, below_step HB1.out HB.out⟩
end Go.Proofs.YtlmjciajpjdilaaGreat
end

section
namespace Go.Proofs.YtlmjciajpjdilaaGreat
open Go.RowKit Go.Proofs.YtlmjciajpjdilaaGreatW.PrintLast
set_option linter.unusedVariables false
set_option linter.unusedSimpArgs false

attribute [local go_sem high] eqPt eqSg
def endB (p : Pt) (s : Sg) : Bool := decide (s.1 = p) || decide (s.2 = p)
def endsN (l : Sgs) (p : Pt) : Nat := l.countP (endB p)
theorem endsN_snoc (l : Sgs) (p : Pt) (k : Nat) (h : k < l.length) : endsN (l.take (k + 1)) p = endsN (l.take k) p + if endB p (sgD l k) = true then 1 else 0 := by
  unfold endsN
  rw [take_snoc l k ((0, 0), (0, 0)) h, List.countP_append, List.countP_singleton]
  rfl
theorem endsN_le (l : Sgs) (p : Pt) (k : Nat) : endsN (l.take k) p ≤ k := by
  unfold endsN
  exact Nat.le_trans List.countP_le_length (by rw [List.length_take]; omega)
set_option maxRecDepth 100000 in
set_option maxHeartbeats 2000000 in
theorem ref21_ends {ok : Nat → Prop} (l : Sgs) (A : Option Addr) (n c : Nat) (p : Pt) (w : World) (hr : Row Ty.sg ok w A l) (hn : n = l.length) :
    Calls Tryz.prog 37 #[.slice A n c, ptA p] w fun e w' => e = .returned (.int .i64 (endsN l p : Nat)) ∧ Below w.heap.size w w' := by
  subst hn
  have hmx := hr.len
  have HR := Lib.hid hr
  clear hr
  go_enter Tryz.func37, Tryz.ntmps37
  go_wp2
  go_loopw [5, 6] (fun v i wr => ∃ k : Nat, k ≤ l.length ∧ i = .int .i64 k ∧ v = .int .i64 (endsN (l.take k) p : Nat) ∧ wr.heap[w.heap.size]? = some (.cells #[.int .i64 p.1, .int .i64 p.2] 24 (0, 0)) ∧ Hid (Below w.heap.size w wr)) (fun _ i _ => l.length - (intOf i).toNat)
  case atStart => exact ⟨0, Nat.zero_le _, rfl, rfl, heap_alloc_new _ _, below_alloc (Below.refl _ _) _⟩
  case round =>
    obtain ⟨k, hk, rfl, rfl, HX, HB⟩ := hrel
    have hsz := lt_of_block HX
    have pc0 := blk_cell HX 0 rfl
    have pc1 := blk_cell HX 1 rfl
    have hle := endsN_le l p k
    by_cases hlt : k < l.length
    · obtain ⟨ad, rfl, hx0, hx1, hx2, hx3⟩ := (HR.out.below HB.out).sg_at k hlt
      have hx3' : wr.cell? ⟨(ad.add (k * 4)).block, (ad.add (k * 4)).off + 2 + 1, none⟩ = some (.int .i64 (sgD l k).2.2) := hx3
      have HS := Lib.hid (endsN_snoc l p k hlt)
      generalize sgD l k = x at *
      generalize endsN (l.take k) p = cn at *
      by_cases h1 : x.1 = p
      · have hd := (ptB x.1 p).trans (decide_eq_true h1)
        have HT : Hid (endsN (l.take (k + 1)) p = cn + 1) := HS.out.trans (by rw [if_pos (by simp [endB, h1])])
        clear h1 HS
        go_wp2_with fail
        go_quiet (fail)
        have BR : Below wr.heap.size wr (wr.drewN nq) := (by repeat (first | exact Below.refl _ _ | apply below_alloc | apply below_drewN | apply below_drew | (refine below_set2 ?_ ?_; (first | (simp; done) | (simp; omega)))))
        have HX1 := blk_below HX BR
        clear BR
        go_wp2
        go_roundw
        case rel => exact ⟨k + 1, by omega, by go_num, by rw [HT.out]; go_num, HX1, (by repeat (first | exact Below.refl _ _ | apply below_alloc | apply below_drewN | apply below_drew | (refine below_set2 ?_ ?_; (first | (simp; done) | (simp; omega))) | (refine below_step ?_ HB.out)))⟩
        case measure => simp [intOf]; omega
      · have hd := (ptB x.1 p).trans (decide_eq_false h1)
        by_cases h2 : x.2 = p
        · have hd2 := (ptB x.2 p).trans (decide_eq_true h2)
          have HT : Hid (endsN (l.take (k + 1)) p = cn + 1) := HS.out.trans (by rw [if_pos (by simp [endB, h2])])
          clear h1 h2 HS
          go_wp2_with fail
          go_quiet (fail)
          have BR : Below wr.heap.size wr (wr.drewN nq) := (by repeat (first | exact Below.refl _ _ | apply below_alloc | apply below_drewN | apply below_drew | (refine below_set2 ?_ ?_; (first | (simp; done) | (simp; omega)))))
          have HX1 := blk_below HX BR
          clear BR
          go_wp2
          go_roundw
          case rel => exact ⟨k + 1, by omega, by go_num, by rw [HT.out]; go_num, HX1, (by repeat (first | exact Below.refl _ _ | apply below_alloc | apply below_drewN | apply below_drew | (refine below_set2 ?_ ?_; (first | (simp; done) | (simp; omega))) | (refine below_step ?_ HB.out)))⟩
          case measure => simp [intOf]; omega
        · have hd2 := (ptB x.2 p).trans (decide_eq_false h2)
          have HT : Hid (endsN (l.take (k + 1)) p = cn) := HS.out.trans (by rw [if_neg (by simp [endB, h1, h2])]; rfl)
          clear h1 h2 HS
          go_wp2_with fail
          go_quiet (fail)
          have BR : Below wr.heap.size wr (wr.drewN nq) := (by repeat (first | exact Below.refl _ _ | apply below_alloc | apply below_drewN | apply below_drew | (refine below_set2 ?_ ?_; (first | (simp; done) | (simp; omega)))))
          have HX1 := blk_below HX BR
          clear BR
          go_wp2
          go_roundw
          case rel => exact ⟨k + 1, by omega, by go_num, by rw [HT.out], HX1, (by repeat (first | exact Below.refl _ _ | apply below_alloc | apply below_drewN | apply below_drew | (refine below_set2 ?_ ?_; (first | (simp; done) | (simp; omega))) | (refine below_step ?_ HB.out)))⟩
          case measure => simp [intOf]; omega
    · obtain rfl : k = l.length := by omega
      have HL : Hid (endsN (l.take l.length) p = endsN l p) := by rw [List.take_length]; exact rfl
      generalize endsN (l.take l.length) p = cn at *
      go_wp2
      go_ret
      exact ⟨ret_int (by rw [HL.out]), HB.out⟩
end Go.Proofs.YtlmjciajpjdilaaGreat
end

section
namespace Go.Proofs.YtlmjciajpjdilaaGreat
open Go.RowKit Go.Proofs.YtlmjciajpjdilaaGreatW.PrintLast
set_option linter.unusedVariables false
set_option linter.unusedSimpArgs false

def cleanR (l : Sgs) : Bool := decide (splR (sortZ l) = sortZ l) && decide (crossR (uniqZ l) = [])
set_option maxHeartbeats 2000000 in
theorem ref20_Clean {ok : Nat → Prop} (l : Sgs) (A : Option Addr) (n c : Nat) (w : World) (hr : Row Ty.sg ok w A l) (hn : n = l.length) (hlen : l.length ≤ 600) :
    Calls Tryz.prog 36 #[.slice A n c] w fun e w' => e = .returned (.bool (cleanR l)) ∧ Below w.heap.size w w' := by
  subst hn
  have HR := Lib.hid hr
  clear hr
  have C1 := Lib.hid (fun W h => ref20_Split (ok := ok) l A l.length c W h rfl hlen)
  have C2 := Lib.hid (fun W h => ref20_Sort (ok := ok) l A l.length c W h rfl (by omega))
  have C3 := Lib.hid (fun W h => ref20_Crossings (ok := ok) l A l.length c W h rfl hlen)
  have HZ : Hid (cleanR l = (decide (splR (sortZ l) = sortZ l) && decide (crossR (uniqZ l) = []))) := rfl
  obtain ⟨z, hz⟩ : ∃ z, z = cleanR l := ⟨_, rfl⟩
  rw [← hz] at HZ ⊢
  clear hz
  generalize splR (sortZ l) = a at *
  generalize sortZ l = b at *
  generalize crossR (uniqZ l) = cr at *
  cases hq : decide (a = b)
  · have HQ := Lib.hid hq
    have HR1 : Hid (z = false) := HZ.out.trans (by rw [hq]; rfl)
    clear hq HZ
    go_enter Tryz.func36, Tryz.ntmps36
    go_wp2_with fail
    refine Calls.mono (C1.out _ HR.out) ?_
    rintro e w1 ⟨v1, rfl, ho1, hb1⟩
    obtain ⟨A1, c1, rfl, hl1, hr1⟩ := ho1.reads
    have HA := Lib.hid hr1
    have HB1 := Lib.hid hb1
    clear ho1 hr1 hb1
    go_wp2_with fail
    refine Calls.mono (C2.out _ (HR.out.below HB1.out)) ?_
    rintro e w2 ⟨v2, rfl, ho2, hb2⟩
    obtain ⟨A2, c2, rfl, hl2, hr2⟩ := ho2.reads
    have HBr := Lib.hid hr2
    have HA2 := Lib.hid (HA.out.below hb2)
    have HB2 := Lib.hid (below_step HB1.out hb2)
    clear ho2 hr2 hb2
    go_wp2_with fail
    refine (ref20_Same a b A1 A2 _ _ c1 c2 _ HA2.out HBr.out rfl rfl).mono ?_
    rintro e w3 ⟨rfl, hb3⟩
    rw [HQ.out]
    have HB3 := Lib.hid (below_step HB2.out hb3)
    clear hb3
    go_wp2
    go_ret
    exact ⟨ret_bool HR1.out.symm, HB3.out⟩
  · have HQ := Lib.hid hq
    have HR1 : Hid (z = decide (cr = [])) := HZ.out.trans (by rw [hq]; rfl)
    clear hq HZ
    go_enter Tryz.func36, Tryz.ntmps36
    go_wp2_with fail
    refine Calls.mono (C1.out _ HR.out) ?_
    rintro e w1 ⟨v1, rfl, ho1, hb1⟩
    obtain ⟨A1, c1, rfl, hl1, hr1⟩ := ho1.reads
    have HA := Lib.hid hr1
    have HB1 := Lib.hid hb1
    clear ho1 hr1 hb1
    go_wp2_with fail
    refine Calls.mono (C2.out _ (HR.out.below HB1.out)) ?_
    rintro e w2 ⟨v2, rfl, ho2, hb2⟩
    obtain ⟨A2, c2, rfl, hl2, hr2⟩ := ho2.reads
    have HBr := Lib.hid hr2
    have HA2 := Lib.hid (HA.out.below hb2)
    have HB2 := Lib.hid (below_step HB1.out hb2)
    clear ho2 hr2 hb2
    go_wp2_with fail
    refine (ref20_Same a b A1 A2 _ _ c1 c2 _ HA2.out HBr.out rfl rfl).mono ?_
    rintro e w3 ⟨rfl, hb3⟩
    rw [HQ.out]
    have HB3 := Lib.hid (below_step HB2.out hb3)
    clear hb3
    go_wp2_with fail
    refine Calls.mono (C3.out _ (HR.out.below HB3.out)) ?_
    rintro e w4 ⟨B4, d4, rfl, hb4⟩
    have HB4 := Lib.hid (below_step HB3.out hb4)
    clear hb4
    by_cases hc : cr = []
    · have q0 : ((cr.length : Int) == 0) = true := by rw [hc]; rfl
      have q1 : (cr.length == 0) = true := by rw [hc]; rfl
      have HR2 : Hid (z = true) := HR1.out.trans (decide_eq_true hc)
      clear hc
      generalize cr.length = nn at *
      go_wp2
      go_ret
      exact ⟨ret_bool HR2.out.symm, HB4.out⟩
    · have hl : 0 < cr.length := List.length_pos_iff.2 hc
      have q0 : ((cr.length : Int) == 0) = false := by rw [beq_eq_false_iff_ne]; omega
      have q1 : (cr.length == 0) = false := by rw [beq_eq_false_iff_ne]; omega
      have HR2 : Hid (z = false) := HR1.out.trans (decide_eq_false hc)
      clear hc
      generalize cr.length = nn at *
      go_wp2
      go_ret
      exact ⟨ret_bool HR2.out.symm, HB4.out⟩
end Go.Proofs.YtlmjciajpjdilaaGreat
end

section
namespace Go.Proofs.YtlmjciajpjdilaaGreat
open Go.RowKit Go.Proofs.YtlmjciajpjdilaaGreatW.PrintLast
set_option linter.unusedVariables false
set_option linter.unusedSimpArgs false

def oddB (u : Sgs) (s : Sg) : Bool := decide (endsN u s.1 % 2 = 1) || decide (endsN u s.2 % 2 = 1)
def checkUR (u : Sgs) : Int := if u = [] then 15 else if cleanR u = false then 13 else if u.any (oddB u) = true then 14 else 0
def checkR (l : Sgs) : Int := checkUR (uniqZ l)
theorem odd_of {n : Nat} (h : n % 2 = 1) : ((n : Int) % 2 == 1) = true := by simp; omega
theorem even_of {n : Nat} (h : ¬ n % 2 = 1) : ((n : Int) % 2 == 1) = false := by rw [beq_eq_false_iff_ne]; omega
set_option maxRecDepth 100000 in
set_option maxHeartbeats 2000000 in
theorem ref21_Check {ok : Nat → Prop} (l : Sgs) (A : Option Addr) (n c : Nat) (w : World) (hr : Row Ty.sg ok w A l) (hn : n = l.length) (hlen : l.length ≤ 600) :
    Calls Tryz.prog 10 #[.slice A n c] w fun e w' => e = .returned (.int .i64 (checkR l)) ∧ Below w.heap.size w w' := by
  subst hn
  have HR := Lib.hid hr
  clear hr
  have hul := uniq_len l
  have CU := Lib.hid (fun W h => ref20_Unique (ok := ok) l A l.length c W h rfl (by omega))
  obtain ⟨z, hz⟩ : ∃ z, z = checkR l := ⟨_, rfl⟩
  rw [← hz]
  have HE : Hid (z = checkUR (uniqZ l)) := hz
  clear hz
  generalize uniqZ l = u at *
  go_enter Tryz.func10, Tryz.ntmps10
  go_wp2_with fail
  refine Calls.mono (CU.out _ HR.out) ?_
  rintro e w1 ⟨v, rfl, ho, hb1⟩
  obtain ⟨A1, c1, rfl, hl1, hr1⟩ := ho.reads
  have HU := Lib.hid hr1
  have HB1 := Lib.hid hb1
  clear ho hr1 hb1 CU
  by_cases hu : u = []
  · subst hu
    have HR15 : Hid (z = 15) := HE.out
    clear HE
    go_wp2
    go_ret
    exact ⟨ret_int HR15.out.symm, HB1.out⟩
  have HE2 : Hid (z = if cleanR u = false then 13 else if u.any (oddB u) = true then 14 else 0) := HE.out.trans (if_neg hu)
  have hpos : 0 < u.length := List.length_pos_iff.2 hu
  have hq : ((u.length : Int) == 0) = false := by rw [beq_eq_false_iff_ne]; omega
  have hq2 : (u.length == 0) = false := by rw [beq_eq_false_iff_ne]; omega
  clear hu HE
  cases hc : cleanR u
  · have HC := Lib.hid hc
    have HR13 : Hid (z = 13) := HE2.out.trans (if_pos hc)
    clear hc HE2
    go_wp2_with fail
    refine (ref20_Clean u A1 _ c1 _ HU.out rfl (by omega)).mono ?_
    rintro e w2 ⟨rfl, hb2⟩
    rw [HC.out]
    go_wp2
    go_ret
    exact ⟨ret_int HR13.out.symm, (by repeat (first | exact Below.refl _ _ | apply below_alloc | apply below_drewN | apply below_drew | (refine below_set2 ?_ ?_; (first | (simp; done) | (simp; omega))) | (refine below_step ?_ hb2) | (refine below_step ?_ HB1.out)))⟩
  · have HC := Lib.hid hc
    have HE3 : Hid (z = if u.any (oddB u) = true then 14 else 0) := HE2.out.trans (if_neg (by rw [hc]; decide))
    clear hc HE2
    go_wp2_with fail
    refine (ref20_Clean u A1 _ c1 _ HU.out rfl (by omega)).mono ?_
    rintro e w2 ⟨rfl, hb2⟩
    rw [HC.out]
    have HB2 := Lib.hid (below_step HB1.out hb2)
    have HU2 := Lib.hid (HU.out.below hb2)
    clear hb2 HU HB1
    go_wp2
    go_loopw [4] (fun i wr => ∃ k : Nat, k ≤ u.length ∧ i = .int .i64 k ∧ Hid (Below w2.heap.size w2 wr) ∧ Hid ((u.take k).any (oddB u) = false)) (fun i _ => u.length - (intOf i).toNat)
    case atStart => exact ⟨0, Nat.zero_le _, rfl, Below.refl _ _, by simp [Hid]⟩
    case round =>
      obtain ⟨k, hk, rfl, HB, HN⟩ := hrel
      by_cases hlt : k < u.length
      · have HUr := Lib.hid (HU2.out.below HB.out)
        obtain ⟨ad, rfl, hx0, hx1, hx2, hx3⟩ := HUr.out.sg_at k hlt
        have HA := Lib.hid (any_snoc u ((0, 0), (0, 0)) (oddB u) k hlt)
        have HH := Lib.hid (fun h => any_hit (xs := u) (d := ((0, 0), (0, 0))) (f := oddB u) (k := k) hlt h)
        have e0 : u.getD k ((0, 0), (0, 0)) = sgD u k := rfl
        rw [e0] at HA HH
        clear e0
        generalize sgD u k = x at *
        have E1 := Lib.hid (fun W h => ref21_ends (ok := fun _ => True) u (some ad) u.length c1 x.1 W h rfl)
        have E2 := Lib.hid (fun W h => ref21_ends (ok := fun _ => True) u (some ad) u.length c1 x.2 W h rfl)
        by_cases h1 : endsN u x.1 % 2 = 1
        · have HR1 : Hid (z = 14) := HE3.out.trans (if_pos (HH.out (by simp [oddB, h1])))
          have o1 := odd_of h1
          clear h1 HH HA
          generalize endsN u x.1 = n1 at *
          go_wp2_with fail
          refine Calls.mono (E1.out _ HUr.out) ?_
          rintro e w4 ⟨rfl, hb4⟩
          go_wp2
          go_ret
          exact ⟨ret_int HR1.out.symm, (by repeat (first | exact Below.refl _ _ | apply below_alloc | apply below_drewN | apply below_drew | (refine below_set2 ?_ ?_; (first | (simp; done) | (simp; omega))) | (refine below_step ?_ hb4) | (refine below_step ?_ HB.out) | (refine below_step ?_ HB2.out)))⟩
        · have o1 := even_of h1
          by_cases h2 : endsN u x.2 % 2 = 1
          · have HR1 : Hid (z = 14) := HE3.out.trans (if_pos (HH.out (by simp [oddB, h2])))
            have o2 := odd_of h2
            clear h1 h2 HH HA
            generalize endsN u x.1 = n1 at *
            generalize endsN u x.2 = n2 at *
            go_wp2_with fail
            refine Calls.mono (E1.out _ HUr.out) ?_
            rintro e w4 ⟨rfl, hb4⟩
            have hy2 := cell_below hb4 hx2
            have hy3 : w4.cell? ⟨(ad.add (k * 4)).block, (ad.add (k * 4)).off + 2 + 1, none⟩ = some (.int .i64 x.2.2) := cell_below hb4 hx3
            have HU4 := Lib.hid (HUr.out.below hb4)
            have HB4 := Lib.hid (below_step HB.out hb4)
            clear hb4 hx0 hx1 hx2 hx3
            go_wp2_with fail
            refine Calls.mono (E2.out _ HU4.out) ?_
            rintro e w5 ⟨rfl, hb5⟩
            go_wp2
            go_ret
            exact ⟨ret_int HR1.out.symm, (by repeat (first | exact Below.refl _ _ | apply below_alloc | apply below_drewN | apply below_drew | (refine below_set2 ?_ ?_; (first | (simp; done) | (simp; omega))) | (refine below_step ?_ hb5) | (refine below_step ?_ HB4.out) | (refine below_step ?_ HB2.out)))⟩
          · have o2 := even_of h2
            have HN2 : Hid ((u.take (k + 1)).any (oddB u) = false) := HA.out.trans (by rw [HN.out]; simp [oddB, h1, h2])
            clear h1 h2 HH HA
            generalize endsN u x.1 = n1 at *
            generalize endsN u x.2 = n2 at *
            go_wp2_with fail
            refine Calls.mono (E1.out _ HUr.out) ?_
            rintro e w4 ⟨rfl, hb4⟩
            have hy2 := cell_below hb4 hx2
            have hy3 : w4.cell? ⟨(ad.add (k * 4)).block, (ad.add (k * 4)).off + 2 + 1, none⟩ = some (.int .i64 x.2.2) := cell_below hb4 hx3
            have HU4 := Lib.hid (HUr.out.below hb4)
            have HB4 := Lib.hid (below_step HB.out hb4)
            clear hb4 hx0 hx1 hx2 hx3
            go_wp2_with fail
            refine Calls.mono (E2.out _ HU4.out) ?_
            rintro e w5 ⟨rfl, hb5⟩
            have HB5 := Lib.hid (below_step HB4.out hb5)
            clear hb5
            go_wp2
            go_roundw
            case rel => exact ⟨k + 1, by omega, by go_num, HB5.out, HN2.out⟩
            case measure => simp [intOf]; omega
      · obtain rfl : k = u.length := by omega
        have HR0 : Hid (z = 0) := HE3.out.trans (if_neg (by have := HN.out; rw [List.take_length] at this; rw [this]; decide))
        go_wp2
        go_ret
        exact ⟨ret_int HR0.out.symm, below_step HB2.out HB.out⟩
end Go.Proofs.YtlmjciajpjdilaaGreat
end
