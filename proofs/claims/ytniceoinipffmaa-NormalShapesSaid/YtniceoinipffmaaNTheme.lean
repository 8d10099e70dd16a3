/- Contracts of classify.Class, classify.Theme and of their references. -/
import Derived.Test.YtniceoinipffmaaNGet
namespace Go.Proofs.Ytniceoinipffmaa
open Go.RowKit Go.Proofs.YtniceoinipffmaaW.PrintLast
set_option linter.unusedVariables false
set_option linter.unusedSimpArgs false

abbrev kHighway : ByteArray := ⟨#[104, 105, 103, 104, 119, 97, 121]⟩
abbrev kMotorway : ByteArray := ⟨#[109, 111, 116, 111, 114, 119, 97, 121]⟩
abbrev kPrimary : ByteArray := ⟨#[112, 114, 105, 109, 97, 114, 121]⟩
abbrev kSecondary : ByteArray := ⟨#[115, 101, 99, 111, 110, 100, 97, 114, 121]⟩
abbrev kResidential : ByteArray := ⟨#[114, 101, 115, 105, 100, 101, 110, 116, 105, 97, 108]⟩
abbrev kTrack : ByteArray := ⟨#[116, 114, 97, 99, 107]⟩
abbrev kRoute : ByteArray := ⟨#[114, 111, 117, 116, 101]⟩
abbrev kFerry : ByteArray := ⟨#[102, 101, 114, 114, 121]⟩
abbrev kNatural : ByteArray := ⟨#[110, 97, 116, 117, 114, 97, 108]⟩
abbrev kWater : ByteArray := ⟨#[119, 97, 116, 101, 114]⟩
abbrev kBuilding : ByteArray := ⟨#[98, 117, 105, 108, 100, 105, 110, 103]⟩
abbrev kNo : ByteArray := ⟨#[110, 111]⟩
abbrev kLanduse : ByteArray := ⟨#[108, 97, 110, 100, 117, 115, 101]⟩
abbrev kBoundary : ByteArray := ⟨#[98, 111, 117, 110, 100, 97, 114, 121]⟩
abbrev kPlace : ByteArray := ⟨#[112, 108, 97, 99, 101]⟩
theorem run_ix (W : World) (cs : Array Value) (i : Int) (n : Nat) (s : ByteArray) (hi : i = n) (hn : n < 5) (hs : cs[n]? = some (.string s)) : (Instr.index 121 (.agg cs) (.int .i64 i)).run Try.prog W = .ok (.string s) W := by
  subst hi
  simp [Instr.index, run_underlying Try.underlying121, asIntOf, hn, part, isAgg, run_underlying Try.underlying9, hs]
def nmZ (v : ByteArray) : Int := if v.toList == [109, 111, 116, 111, 114, 119, 97, 121] then 1 else if v.toList == [112, 114, 105, 109, 97, 114, 121] then 2 else if v.toList == [115, 101, 99, 111, 110, 100, 97, 114, 121] then 3 else if v.toList == [114, 101, 115, 105, 100, 101, 110, 116, 105, 97, 108] then 4 else if v.toList == [116, 114, 97, 99, 107] then 5 else 0
def classZ (l : List Tag) : Int := match getT l kHighway with | some v => nmZ v | none => if isT l kRoute kFerry then 6 else 0
def themeZ (l : List Tag) : Int := if isT l kNatural kWater then 1 else if hasT l kBuilding && !isT l kBuilding kNo then 3 else if hasT l kLanduse then 2 else if 0 < classZ l then 4 else if hasT l kBoundary then 5 else if hasT l kPlace then 6 else 0

set_option maxRecDepth 20000 in
set_option maxHeartbeats 4000000 in
theorem classify_Class {ok : Nat → Prop} (l : List Tag) (A : Option Addr) (n c : Nat) (w : World) (hr : Row Ty.tag ok w A l) (hn : n = l.length) :
    Calls Try.prog 58 #[.slice A n c] w fun e w' => e = .returned (.int .i64 (classZ l)) ∧ Below w.heap.size w w' := by
  subst hn
  have HR := Lib.hid hr
  have HC := Lib.hid (tags_Get l A l.length c kHighway w hr rfl)
  clear hr
  cases hg : getT l kHighway with
  | none =>
    rw [hg] at HC
    have HG := Lib.hid hg
    clear hg
    cases hf : isT l kRoute kFerry
    all_goals
      have HF := Lib.hid hf
      go_enter Try.func58, Try.ntmps58
      go_wp2_with fail
      (refine (HC.out).mono ?_; rintro e w1 ⟨rfl, hb1⟩)
      go_wp2_with fail
      (refine (classify_is l _ _ _ kRoute kFerry _ (HR.out.below hb1) rfl).mono ?_; rintro e w2 ⟨rfl, hb2⟩)
      rw [HF.out]
      clear hf
      go_wp2
      go_ret
      exact ⟨ret_int (by rw [classZ, HG.out]; simp [HF.out]), (by repeat (first | exact Below.refl _ _ | apply below_alloc | apply below_drewN | apply below_drew | (refine below_set2 ?_ ?_; (first | (simp; done) | (simp; omega))) | (refine below_step ?_ hb2) | (refine below_step ?_ hb1)))⟩
  | some v =>
    rw [hg] at HC
    change Hid (Calls Try.prog 79 #[.slice A l.length c, .string kHighway] w fun e w' => e = .returned (.tuple #[.string v, .bool true]) ∧ Below w.heap.size w w') at HC
    have HG := Lib.hid hg
    clear hg
    have hix0 : ∀ W : World, (Instr.index 121 (.agg #[.string ⟨#[109, 111, 116, 111, 114, 119, 97, 121]⟩, .string ⟨#[112, 114, 105, 109, 97, 114, 121]⟩, .string ⟨#[115, 101, 99, 111, 110, 100, 97, 114, 121]⟩, .string ⟨#[114, 101, 115, 105, 100, 101, 110, 116, 105, 97, 108]⟩, .string ⟨#[116, 114, 97, 99, 107]⟩]) (.int .i64 0)).run Try.prog W = .ok (.string ⟨#[109, 111, 116, 111, 114, 119, 97, 121]⟩) W := fun W => run_ix W _ _ 0 _ rfl (by decide) rfl
    have hix1 : ∀ W : World, (Instr.index 121 (.agg #[.string ⟨#[109, 111, 116, 111, 114, 119, 97, 121]⟩, .string ⟨#[112, 114, 105, 109, 97, 114, 121]⟩, .string ⟨#[115, 101, 99, 111, 110, 100, 97, 114, 121]⟩, .string ⟨#[114, 101, 115, 105, 100, 101, 110, 116, 105, 97, 108]⟩, .string ⟨#[116, 114, 97, 99, 107]⟩]) (.int .i64 1)).run Try.prog W = .ok (.string ⟨#[112, 114, 105, 109, 97, 114, 121]⟩) W := fun W => run_ix W _ _ 1 _ rfl (by decide) rfl
    have hix2 : ∀ W : World, (Instr.index 121 (.agg #[.string ⟨#[109, 111, 116, 111, 114, 119, 97, 121]⟩, .string ⟨#[112, 114, 105, 109, 97, 114, 121]⟩, .string ⟨#[115, 101, 99, 111, 110, 100, 97, 114, 121]⟩, .string ⟨#[114, 101, 115, 105, 100, 101, 110, 116, 105, 97, 108]⟩, .string ⟨#[116, 114, 97, 99, 107]⟩]) (.int .i64 2)).run Try.prog W = .ok (.string ⟨#[115, 101, 99, 111, 110, 100, 97, 114, 121]⟩) W := fun W => run_ix W _ _ 2 _ rfl (by decide) rfl
    have hix3 : ∀ W : World, (Instr.index 121 (.agg #[.string ⟨#[109, 111, 116, 111, 114, 119, 97, 121]⟩, .string ⟨#[112, 114, 105, 109, 97, 114, 121]⟩, .string ⟨#[115, 101, 99, 111, 110, 100, 97, 114, 121]⟩, .string ⟨#[114, 101, 115, 105, 100, 101, 110, 116, 105, 97, 108]⟩, .string ⟨#[116, 114, 97, 99, 107]⟩]) (.int .i64 3)).run Try.prog W = .ok (.string ⟨#[114, 101, 115, 105, 100, 101, 110, 116, 105, 97, 108]⟩) W := fun W => run_ix W _ _ 3 _ rfl (by decide) rfl
    have hix4 : ∀ W : World, (Instr.index 121 (.agg #[.string ⟨#[109, 111, 116, 111, 114, 119, 97, 121]⟩, .string ⟨#[112, 114, 105, 109, 97, 114, 121]⟩, .string ⟨#[115, 101, 99, 111, 110, 100, 97, 114, 121]⟩, .string ⟨#[114, 101, 115, 105, 100, 101, 110, 116, 105, 97, 108]⟩, .string ⟨#[116, 114, 97, 99, 107]⟩]) (.int .i64 4)).run Try.prog W = .ok (.string ⟨#[116, 114, 97, 99, 107]⟩) W := fun W => run_ix W _ _ 4 _ rfl (by decide) rfl
    cases e0 : (v.toList == [109, 111, 116, 111, 114, 119, 97, 121])
    rotate_left
    · go_enter Try.func58, Try.ntmps58
      go_wp2_with fail
      (refine (HC.out).mono ?_; rintro e w1 ⟨rfl, hb1⟩)
      go_wp2
      refine wp_loop_rounds 1 ?_
      rw [rounds_succ]
      go_wp2
      go_ret
      exact ⟨ret_int (by rw [classZ, HG.out]; show _ = nmZ v; rw [nmZ]; simp only [e0]; rfl), (by repeat (first | exact Below.refl _ _ | apply below_alloc | apply below_drewN | apply below_drew | (refine below_set2 ?_ ?_; (first | (simp; done) | (simp; omega))) | (refine below_step ?_ hb1)))⟩
    cases e1 : (v.toList == [112, 114, 105, 109, 97, 114, 121])
    rotate_left
    · go_enter Try.func58, Try.ntmps58
      go_wp2_with fail
      (refine (HC.out).mono ?_; rintro e w1 ⟨rfl, hb1⟩)
      go_wp2
      refine wp_loop_rounds 2 ?_
      rw [rounds_succ]
      go_wp2
      rw [rounds_succ]
      go_wp2
      go_ret
      exact ⟨ret_int (by rw [classZ, HG.out]; show _ = nmZ v; rw [nmZ]; simp only [e0, e1]; rfl), (by repeat (first | exact Below.refl _ _ | apply below_alloc | apply below_drewN | apply below_drew | (refine below_set2 ?_ ?_; (first | (simp; done) | (simp; omega))) | (refine below_step ?_ hb1)))⟩
    cases e2 : (v.toList == [115, 101, 99, 111, 110, 100, 97, 114, 121])
    rotate_left
    · go_enter Try.func58, Try.ntmps58
      go_wp2_with fail
      (refine (HC.out).mono ?_; rintro e w1 ⟨rfl, hb1⟩)
      go_wp2
      refine wp_loop_rounds 3 ?_
      rw [rounds_succ]
      go_wp2
      rw [rounds_succ]
      go_wp2
      rw [rounds_succ]
      go_wp2
      go_ret
      exact ⟨ret_int (by rw [classZ, HG.out]; show _ = nmZ v; rw [nmZ]; simp only [e0, e1, e2]; rfl), (by repeat (first | exact Below.refl _ _ | apply below_alloc | apply below_drewN | apply below_drew | (refine below_set2 ?_ ?_; (first | (simp; done) | (simp; omega))) | (refine below_step ?_ hb1)))⟩
    cases e3 : (v.toList == [114, 101, 115, 105, 100, 101, 110, 116, 105, 97, 108])
    rotate_left
    · go_enter Try.func58, Try.ntmps58
      go_wp2_with fail
      (refine (HC.out).mono ?_; rintro e w1 ⟨rfl, hb1⟩)
      go_wp2
      refine wp_loop_rounds 4 ?_
      rw [rounds_succ]
      go_wp2
      rw [rounds_succ]
      go_wp2
      rw [rounds_succ]
      go_wp2
      rw [rounds_succ]
      go_wp2
      go_ret
      exact ⟨ret_int (by rw [classZ, HG.out]; show _ = nmZ v; rw [nmZ]; simp only [e0, e1, e2, e3]; rfl), (by repeat (first | exact Below.refl _ _ | apply below_alloc | apply below_drewN | apply below_drew | (refine below_set2 ?_ ?_; (first | (simp; done) | (simp; omega))) | (refine below_step ?_ hb1)))⟩
    cases e4 : (v.toList == [116, 114, 97, 99, 107])
    rotate_left
    · go_enter Try.func58, Try.ntmps58
      go_wp2_with fail
      (refine (HC.out).mono ?_; rintro e w1 ⟨rfl, hb1⟩)
      go_wp2
      refine wp_loop_rounds 5 ?_
      rw [rounds_succ]
      go_wp2
      rw [rounds_succ]
      go_wp2
      rw [rounds_succ]
      go_wp2
      rw [rounds_succ]
      go_wp2
      rw [rounds_succ]
      go_wp2
      go_ret
      exact ⟨ret_int (by rw [classZ, HG.out]; show _ = nmZ v; rw [nmZ]; simp only [e0, e1, e2, e3, e4]; rfl), (by repeat (first | exact Below.refl _ _ | apply below_alloc | apply below_drewN | apply below_drew | (refine below_set2 ?_ ?_; (first | (simp; done) | (simp; omega))) | (refine below_step ?_ hb1)))⟩
    go_enter Try.func58, Try.ntmps58
    go_wp2_with fail
    (refine (HC.out).mono ?_; rintro e w1 ⟨rfl, hb1⟩)
    go_wp2
    refine wp_loop_rounds 6 ?_
    rw [rounds_succ]
    go_wp2
    rw [rounds_succ]
    go_wp2
    rw [rounds_succ]
    go_wp2
    rw [rounds_succ]
    go_wp2
    rw [rounds_succ]
    go_wp2
    rw [rounds_succ]
    go_wp2
    go_ret
    exact ⟨ret_int (by rw [classZ, HG.out]; show _ = nmZ v; rw [nmZ]; simp only [e0, e1, e2, e3, e4]; rfl), (by repeat (first | exact Below.refl _ _ | apply below_alloc | apply below_drewN | apply below_drew | (refine below_set2 ?_ ?_; (first | (simp; done) | (simp; omega))) | (refine below_step ?_ hb1)))⟩

set_option maxHeartbeats 1000000 in
theorem ref18_Class {ok : Nat → Prop} (l : List Tag) (A : Option Addr) (n c : Nat) (w : World) (hr : Row Ty.tag ok w A l) (hn : n = l.length) :
    Calls Try.prog 61 #[.slice A n c] w fun e w' => e = .returned (.int .i64 (classZ l)) ∧ Below w.heap.size w w' := by
  subst hn
  have HR := Lib.hid hr
  have HZ : Hid (classZ l = if isT l kHighway kMotorway then 1 else if isT l kHighway kPrimary then 2 else if isT l kHighway kSecondary then 3 else if isT l kHighway kResidential then 4 else if isT l kHighway kTrack then 5 else if hasT l kHighway = false ∧ isT l kRoute kFerry = true then 6 else 0) := by
    show classZ l = _
    unfold classZ
    cases hg : getT l kHighway with
    | none => simp [isT, hasT, hg]
    | some v =>
      simp only [isT, hg, nmZ, hasT, Lib.toList_data, Option.isSome_some]
      simp
  clear hr
  go_enter Try.func61, Try.ntmps61
  go_wp2_with fail
  (refine (ref18_is l _ _ _ kHighway kMotorway _ HR.out rfl).mono ?_; rintro e w1 ⟨rfl, hb1⟩)
  cases h0 : isT l kHighway kMotorway
  rotate_left
  · go_wp2
    go_ret
    exact ⟨ret_int (by rw [HZ.out]; simp [h0]), (by repeat (first | exact Below.refl _ _ | apply below_alloc | apply below_drewN | apply below_drew | (refine below_set2 ?_ ?_; (first | (simp; done) | (simp; omega))) | (refine below_step ?_ hb1)))⟩
  go_wp2_with fail
  (refine (ref18_is l _ _ _ kHighway kPrimary _ (HR.out.below hb1) rfl).mono ?_; rintro e w2 ⟨rfl, hb2⟩)
  cases h1 : isT l kHighway kPrimary
  rotate_left
  · go_wp2
    go_ret
    exact ⟨ret_int (by rw [HZ.out]; simp [h0, h1]), (by repeat (first | exact Below.refl _ _ | apply below_alloc | apply below_drewN | apply below_drew | (refine below_set2 ?_ ?_; (first | (simp; done) | (simp; omega))) | (refine below_step ?_ hb2) | (refine below_step ?_ hb1)))⟩
  go_wp2_with fail
  (refine (ref18_is l _ _ _ kHighway kSecondary _ ((HR.out.below hb1).below hb2) rfl).mono ?_; rintro e w3 ⟨rfl, hb3⟩)
  cases h2 : isT l kHighway kSecondary
  rotate_left
  · go_wp2
    go_ret
    exact ⟨ret_int (by rw [HZ.out]; simp [h0, h1, h2]), (by repeat (first | exact Below.refl _ _ | apply below_alloc | apply below_drewN | apply below_drew | (refine below_set2 ?_ ?_; (first | (simp; done) | (simp; omega))) | (refine below_step ?_ hb3) | (refine below_step ?_ hb2) | (refine below_step ?_ hb1)))⟩
  go_wp2_with fail
  (refine (ref18_is l _ _ _ kHighway kResidential _ (((HR.out.below hb1).below hb2).below hb3) rfl).mono ?_; rintro e w4 ⟨rfl, hb4⟩)
  cases h3 : isT l kHighway kResidential
  rotate_left
  · go_wp2
    go_ret
    exact ⟨ret_int (by rw [HZ.out]; simp [h0, h1, h2, h3]), (by repeat (first | exact Below.refl _ _ | apply below_alloc | apply below_drewN | apply below_drew | (refine below_set2 ?_ ?_; (first | (simp; done) | (simp; omega))) | (refine below_step ?_ hb4) | (refine below_step ?_ hb3) | (refine below_step ?_ hb2) | (refine below_step ?_ hb1)))⟩
  go_wp2_with fail
  (refine (ref18_is l _ _ _ kHighway kTrack _ ((((HR.out.below hb1).below hb2).below hb3).below hb4) rfl).mono ?_; rintro e w5 ⟨rfl, hb5⟩)
  cases h4 : isT l kHighway kTrack
  rotate_left
  · go_wp2
    go_ret
    exact ⟨ret_int (by rw [HZ.out]; simp [h0, h1, h2, h3, h4]), (by repeat (first | exact Below.refl _ _ | apply below_alloc | apply below_drewN | apply below_drew | (refine below_set2 ?_ ?_; (first | (simp; done) | (simp; omega))) | (refine below_step ?_ hb5) | (refine below_step ?_ hb4) | (refine below_step ?_ hb3) | (refine below_step ?_ hb2) | (refine below_step ?_ hb1)))⟩
  go_wp2_with fail
  (refine (ref18_has l _ _ _ kHighway _ (((((HR.out.below hb1).below hb2).below hb3).below hb4).below hb5) rfl).mono ?_; rintro e w6 ⟨rfl, hb6⟩)
  cases h5 : hasT l kHighway
  rotate_left
  · go_wp2
    go_ret
    exact ⟨ret_int (by rw [HZ.out]; simp [h0, h1, h2, h3, h4, h5]), (by repeat (first | exact Below.refl _ _ | apply below_alloc | apply below_drewN | apply below_drew | (refine below_set2 ?_ ?_; (first | (simp; done) | (simp; omega))) | (refine below_step ?_ hb6) | (refine below_step ?_ hb5) | (refine below_step ?_ hb4) | (refine below_step ?_ hb3) | (refine below_step ?_ hb2) | (refine below_step ?_ hb1)))⟩
  go_wp2_with fail
  (refine (ref18_is l _ _ _ kRoute kFerry _ ((((((HR.out.below hb1).below hb2).below hb3).below hb4).below hb5).below hb6) rfl).mono ?_; rintro e w7 ⟨rfl, hb7⟩)
  cases h6 : isT l kRoute kFerry
  all_goals
    go_wp2
    go_ret
    exact ⟨ret_int (by rw [HZ.out]; simp [h0, h1, h2, h3, h4, h5, h6]), (by repeat (first | exact Below.refl _ _ | apply below_alloc | apply below_drewN | apply below_drew | (refine below_set2 ?_ ?_; (first | (simp; done) | (simp; omega))) | (refine below_step ?_ hb7) | (refine below_step ?_ hb6) | (refine below_step ?_ hb5) | (refine below_step ?_ hb4) | (refine below_step ?_ hb3) | (refine below_step ?_ hb2) | (refine below_step ?_ hb1)))⟩

set_option maxHeartbeats 1000000 in
theorem classify_Theme {ok : Nat → Prop} (l : List Tag) (A : Option Addr) (n c : Nat) (w : World) (hr : Row Ty.tag ok w A l) (hn : n = l.length) :
    Calls Try.prog 37 #[.slice A n c] w fun e w' => e = .returned (.int .i64 (themeZ l)) ∧ Below w.heap.size w w' := by
  subst hn
  have HR := Lib.hid hr
  have HZ : Hid (themeZ l = themeZ l) := rfl
  clear hr
  go_enter Try.func37, Try.ntmps37
  go_wp2_with fail
  (refine (classify_is l _ _ _ kNatural kWater _ HR.out rfl).mono ?_; rintro e w1 ⟨rfl, hb1⟩)
  cases h0 : isT l kNatural kWater
  rotate_left
  · go_wp2
    go_ret
    exact ⟨ret_int (by rw [themeZ]; simp [h0]), (by repeat (first | exact Below.refl _ _ | apply below_alloc | apply below_drewN | apply below_drew | (refine below_set2 ?_ ?_; (first | (simp; done) | (simp; omega))) | (refine below_step ?_ hb1)))⟩
  go_wp2_with fail
  (refine (classify_has l _ _ _ kBuilding _ (HR.out.below hb1) rfl).mono ?_; rintro e w2 ⟨rfl, hb2⟩)
  cases h1 : hasT l kBuilding
  · go_wp2_with fail
    (refine (classify_has l _ _ _ kLanduse _ ((HR.out.below hb1).below hb2) rfl).mono ?_; rintro e w3 ⟨rfl, hb3⟩)
    cases h3 : hasT l kLanduse
    rotate_left
    · go_wp2
      go_ret
      exact ⟨ret_int (by rw [themeZ]; simp [h0, h1, h3]), (by repeat (first | exact Below.refl _ _ | apply below_alloc | apply below_drewN | apply below_drew | (refine below_set2 ?_ ?_; (first | (simp; done) | (simp; omega))) | (refine below_step ?_ hb3) | (refine below_step ?_ hb2) | (refine below_step ?_ hb1)))⟩
    go_wp2_with fail
    (refine (classify_Class l _ _ _ _ (((HR.out.below hb1).below hb2).below hb3) rfl).mono ?_; rintro e w4 ⟨rfl, hb4⟩)
    by_cases h4 : 0 < classZ l
    · have q4 : decide (0 < classZ l) = true := decide_eq_true h4
      go_wp2
      go_ret
      exact ⟨ret_int (by rw [themeZ]; simp [h0, h1, h3, h4]), (by repeat (first | exact Below.refl _ _ | apply below_alloc | apply below_drewN | apply below_drew | (refine below_set2 ?_ ?_; (first | (simp; done) | (simp; omega))) | (refine below_step ?_ hb4) | (refine below_step ?_ hb3) | (refine below_step ?_ hb2) | (refine below_step ?_ hb1)))⟩
    have q4 : decide (0 < classZ l) = false := decide_eq_false h4
    go_wp2_with fail
    (refine (classify_has l _ _ _ kBoundary _ ((((HR.out.below hb1).below hb2).below hb3).below hb4) rfl).mono ?_; rintro e w5 ⟨rfl, hb5⟩)
    cases h5 : hasT l kBoundary
    rotate_left
    · go_wp2
      go_ret
      exact ⟨ret_int (by rw [themeZ]; simp [h0, h1, h3, h4, h5]), (by repeat (first | exact Below.refl _ _ | apply below_alloc | apply below_drewN | apply below_drew | (refine below_set2 ?_ ?_; (first | (simp; done) | (simp; omega))) | (refine below_step ?_ hb5) | (refine below_step ?_ hb4) | (refine below_step ?_ hb3) | (refine below_step ?_ hb2) | (refine below_step ?_ hb1)))⟩
    go_wp2_with fail
    (refine (classify_has l _ _ _ kPlace _ (((((HR.out.below hb1).below hb2).below hb3).below hb4).below hb5) rfl).mono ?_; rintro e w6 ⟨rfl, hb6⟩)
    cases h6 : hasT l kPlace
    all_goals
      go_wp2
      go_ret
      exact ⟨ret_int (by rw [themeZ]; simp [h0, h1, h3, h4, h5, h6]), (by repeat (first | exact Below.refl _ _ | apply below_alloc | apply below_drewN | apply below_drew | (refine below_set2 ?_ ?_; (first | (simp; done) | (simp; omega))) | (refine below_step ?_ hb6) | (refine below_step ?_ hb5) | (refine below_step ?_ hb4) | (refine below_step ?_ hb3) | (refine below_step ?_ hb2) | (refine below_step ?_ hb1)))⟩
  · go_wp2_with fail
    (refine (classify_is l _ _ _ kBuilding kNo _ ((HR.out.below hb1).below hb2) rfl).mono ?_; rintro e w3 ⟨rfl, hb3⟩)
    cases h2 : isT l kBuilding kNo
    · go_wp2
      go_ret
      exact ⟨ret_int (by rw [themeZ]; simp [h0, h1, h2]), (by repeat (first | exact Below.refl _ _ | apply below_alloc | apply below_drewN | apply below_drew | (refine below_set2 ?_ ?_; (first | (simp; done) | (simp; omega))) | (refine below_step ?_ hb3) | (refine below_step ?_ hb2) | (refine below_step ?_ hb1)))⟩
    go_wp2_with fail
    (refine (classify_has l _ _ _ kLanduse _ (((HR.out.below hb1).below hb2).below hb3) rfl).mono ?_; rintro e w4 ⟨rfl, hb4⟩)
    cases h3 : hasT l kLanduse
    rotate_left
    · go_wp2
      go_ret
      exact ⟨ret_int (by rw [themeZ]; simp [h0, h1, h2, h3]), (by repeat (first | exact Below.refl _ _ | apply below_alloc | apply below_drewN | apply below_drew | (refine below_set2 ?_ ?_; (first | (simp; done) | (simp; omega))) | (refine below_step ?_ hb4) | (refine below_step ?_ hb3) | (refine below_step ?_ hb2) | (refine below_step ?_ hb1)))⟩
    go_wp2_with fail
    (refine (classify_Class l _ _ _ _ ((((HR.out.below hb1).below hb2).below hb3).below hb4) rfl).mono ?_; rintro e w5 ⟨rfl, hb5⟩)
    by_cases h4 : 0 < classZ l
    · have q4 : decide (0 < classZ l) = true := decide_eq_true h4
      go_wp2
      go_ret
      exact ⟨ret_int (by rw [themeZ]; simp [h0, h1, h2, h3, h4]), (by repeat (first | exact Below.refl _ _ | apply below_alloc | apply below_drewN | apply below_drew | (refine below_set2 ?_ ?_; (first | (simp; done) | (simp; omega))) | (refine below_step ?_ hb5) | (refine below_step ?_ hb4) | (refine below_step ?_ hb3) | (refine below_step ?_ hb2) | (refine below_step ?_ hb1)))⟩
    have q4 : decide (0 < classZ l) = false := decide_eq_false h4
    go_wp2_with fail
    (refine (classify_has l _ _ _ kBoundary _ (((((HR.out.below hb1).below hb2).below hb3).below hb4).below hb5) rfl).mono ?_; rintro e w6 ⟨rfl, hb6⟩)
    cases h5 : hasT l kBoundary
    rotate_left
    · go_wp2
      go_ret
      exact ⟨ret_int (by rw [themeZ]; simp [h0, h1, h2, h3, h4, h5]), (by repeat (first | exact Below.refl _ _ | apply below_alloc | apply below_drewN | apply below_drew | (refine below_set2 ?_ ?_; (first | (simp; done) | (simp; omega))) | (refine below_step ?_ hb6) | (refine below_step ?_ hb5) | (refine below_step ?_ hb4) | (refine below_step ?_ hb3) | (refine below_step ?_ hb2) | (refine below_step ?_ hb1)))⟩
    go_wp2_with fail
    (refine (classify_has l _ _ _ kPlace _ ((((((HR.out.below hb1).below hb2).below hb3).below hb4).below hb5).below hb6) rfl).mono ?_; rintro e w7 ⟨rfl, hb7⟩)
    cases h6 : hasT l kPlace
    all_goals
      go_wp2
      go_ret
      exact ⟨ret_int (by rw [themeZ]; simp [h0, h1, h2, h3, h4, h5, h6]), (by repeat (first | exact Below.refl _ _ | apply below_alloc | apply below_drewN | apply below_drew | (refine below_set2 ?_ ?_; (first | (simp; done) | (simp; omega))) | (refine below_step ?_ hb7) | (refine below_step ?_ hb6) | (refine below_step ?_ hb5) | (refine below_step ?_ hb4) | (refine below_step ?_ hb3) | (refine below_step ?_ hb2) | (refine below_step ?_ hb1)))⟩

set_option maxHeartbeats 1000000 in
theorem ref18_Theme {ok : Nat → Prop} (l : List Tag) (A : Option Addr) (n c : Nat) (w : World) (hr : Row Ty.tag ok w A l) (hn : n = l.length) :
    Calls Try.prog 38 #[.slice A n c] w fun e w' => e = .returned (.int .i64 (themeZ l)) ∧ Below w.heap.size w w' := by
  subst hn
  have HR := Lib.hid hr
  have HZ : Hid (themeZ l = themeZ l) := rfl
  clear hr
  go_enter Try.func38, Try.ntmps38
  go_wp2_with fail
  (refine (ref18_is l _ _ _ kNatural kWater _ HR.out rfl).mono ?_; rintro e w1 ⟨rfl, hb1⟩)
  cases h0 : isT l kNatural kWater
  rotate_left
  · go_wp2
    go_ret
    exact ⟨ret_int (by rw [themeZ]; simp [h0]), (by repeat (first | exact Below.refl _ _ | apply below_alloc | apply below_drewN | apply below_drew | (refine below_set2 ?_ ?_; (first | (simp; done) | (simp; omega))) | (refine below_step ?_ hb1)))⟩
  go_wp2_with fail
  (refine (ref18_has l _ _ _ kBuilding _ (HR.out.below hb1) rfl).mono ?_; rintro e w2 ⟨rfl, hb2⟩)
  cases h1 : hasT l kBuilding
  · go_wp2_with fail
    (refine (ref18_has l _ _ _ kLanduse _ ((HR.out.below hb1).below hb2) rfl).mono ?_; rintro e w3 ⟨rfl, hb3⟩)
    cases h3 : hasT l kLanduse
    rotate_left
    · go_wp2
      go_ret
      exact ⟨ret_int (by rw [themeZ]; simp [h0, h1, h3]), (by repeat (first | exact Below.refl _ _ | apply below_alloc | apply below_drewN | apply below_drew | (refine below_set2 ?_ ?_; (first | (simp; done) | (simp; omega))) | (refine below_step ?_ hb3) | (refine below_step ?_ hb2) | (refine below_step ?_ hb1)))⟩
    go_wp2_with fail
    (refine (ref18_Class l _ _ _ _ (((HR.out.below hb1).below hb2).below hb3) rfl).mono ?_; rintro e w4 ⟨rfl, hb4⟩)
    by_cases h4 : 0 < classZ l
    · have q4 : decide (0 < classZ l) = true := decide_eq_true h4
      go_wp2
      go_ret
      exact ⟨ret_int (by rw [themeZ]; simp [h0, h1, h3, h4]), (by repeat (first | exact Below.refl _ _ | apply below_alloc | apply below_drewN | apply below_drew | (refine below_set2 ?_ ?_; (first | (simp; done) | (simp; omega))) | (refine below_step ?_ hb4) | (refine below_step ?_ hb3) | (refine below_step ?_ hb2) | (refine below_step ?_ hb1)))⟩
    have q4 : decide (0 < classZ l) = false := decide_eq_false h4
    go_wp2_with fail
    (refine (ref18_has l _ _ _ kBoundary _ ((((HR.out.below hb1).below hb2).below hb3).below hb4) rfl).mono ?_; rintro e w5 ⟨rfl, hb5⟩)
    cases h5 : hasT l kBoundary
    rotate_left
    · go_wp2
      go_ret
      exact ⟨ret_int (by rw [themeZ]; simp [h0, h1, h3, h4, h5]), (by repeat (first | exact Below.refl _ _ | apply below_alloc | apply below_drewN | apply below_drew | (refine below_set2 ?_ ?_; (first | (simp; done) | (simp; omega))) | (refine below_step ?_ hb5) | (refine below_step ?_ hb4) | (refine below_step ?_ hb3) | (refine below_step ?_ hb2) | (refine below_step ?_ hb1)))⟩
    go_wp2_with fail
    (refine (ref18_has l _ _ _ kPlace _ (((((HR.out.below hb1).below hb2).below hb3).below hb4).below hb5) rfl).mono ?_; rintro e w6 ⟨rfl, hb6⟩)
    cases h6 : hasT l kPlace
    all_goals
      go_wp2
      go_ret
      exact ⟨ret_int (by rw [themeZ]; simp [h0, h1, h3, h4, h5, h6]), (by repeat (first | exact Below.refl _ _ | apply below_alloc | apply below_drewN | apply below_drew | (refine below_set2 ?_ ?_; (first | (simp; done) | (simp; omega))) | (refine below_step ?_ hb6) | (refine below_step ?_ hb5) | (refine below_step ?_ hb4) | (refine below_step ?_ hb3) | (refine below_step ?_ hb2) | (refine below_step ?_ hb1)))⟩
  · go_wp2_with fail
    (refine (ref18_is l _ _ _ kBuilding kNo _ ((HR.out.below hb1).below hb2) rfl).mono ?_; rintro e w3 ⟨rfl, hb3⟩)
    cases h2 : isT l kBuilding kNo
    · go_wp2
      go_ret
      exact ⟨ret_int (by rw [themeZ]; simp [h0, h1, h2]), (by repeat (first | exact Below.refl _ _ | apply below_alloc | apply below_drewN | apply below_drew | (refine below_set2 ?_ ?_; (first | (simp; done) | (simp; omega))) | (refine below_step ?_ hb3) | (refine below_step ?_ hb2) | (refine below_step ?_ hb1)))⟩
    go_wp2_with fail
    (refine (ref18_has l _ _ _ kLanduse _ (((HR.out.below hb1).below hb2).below hb3) rfl).mono ?_; rintro e w4 ⟨rfl, hb4⟩)
    cases h3 : hasT l kLanduse
    rotate_left
    · go_wp2
      go_ret
      exact ⟨ret_int (by rw [themeZ]; simp [h0, h1, h2, h3]), (by repeat (first | exact Below.refl _ _ | apply below_alloc | apply below_drewN | apply below_drew | (refine below_set2 ?_ ?_; (first | (simp; done) | (simp; omega))) | (refine below_step ?_ hb4) | (refine below_step ?_ hb3) | (refine below_step ?_ hb2) | (refine below_step ?_ hb1)))⟩
    go_wp2_with fail
    (refine (ref18_Class l _ _ _ _ ((((HR.out.below hb1).below hb2).below hb3).below hb4) rfl).mono ?_; rintro e w5 ⟨rfl, hb5⟩)
    by_cases h4 : 0 < classZ l
    · have q4 : decide (0 < classZ l) = true := decide_eq_true h4
      go_wp2
      go_ret
      exact ⟨ret_int (by rw [themeZ]; simp [h0, h1, h2, h3, h4]), (by repeat (first | exact Below.refl _ _ | apply below_alloc | apply below_drewN | apply below_drew | (refine below_set2 ?_ ?_; (first | (simp; done) | (simp; omega))) | (refine below_step ?_ hb5) | (refine below_step ?_ hb4) | (refine below_step ?_ hb3) | (refine below_step ?_ hb2) | (refine below_step ?_ hb1)))⟩
    have q4 : decide (0 < classZ l) = false := decide_eq_false h4
    go_wp2_with fail
    (refine (ref18_has l _ _ _ kBoundary _ (((((HR.out.below hb1).below hb2).below hb3).below hb4).below hb5) rfl).mono ?_; rintro e w6 ⟨rfl, hb6⟩)
    cases h5 : hasT l kBoundary
    rotate_left
    · go_wp2
      go_ret
      exact ⟨ret_int (by rw [themeZ]; simp [h0, h1, h2, h3, h4, h5]), (by repeat (first | exact Below.refl _ _ | apply below_alloc | apply below_drewN | apply below_drew | (refine below_set2 ?_ ?_; (first | (simp; done) | (simp; omega))) | (refine below_step ?_ hb6) | (refine below_step ?_ hb5) | (refine below_step ?_ hb4) | (refine below_step ?_ hb3) | (refine below_step ?_ hb2) | (refine below_step ?_ hb1)))⟩
    go_wp2_with fail
    (refine (ref18_has l _ _ _ kPlace _ ((((((HR.out.below hb1).below hb2).below hb3).below hb4).below hb5).below hb6) rfl).mono ?_; rintro e w7 ⟨rfl, hb7⟩)
    cases h6 : hasT l kPlace
    all_goals
      go_wp2
      go_ret
      exact ⟨ret_int (by rw [themeZ]; simp [h0, h1, h2, h3, h4, h5, h6]), (by repeat (first | exact Below.refl _ _ | apply below_alloc | apply below_drewN | apply below_drew | (refine below_set2 ?_ ?_; (first | (simp; done) | (simp; omega))) | (refine below_step ?_ hb7) | (refine below_step ?_ hb6) | (refine below_step ?_ hb5) | (refine below_step ?_ hb4) | (refine below_step ?_ hb3) | (refine below_step ?_ hb2) | (refine below_step ?_ hb1)))⟩
end Go.Proofs.Ytniceoinipffmaa
