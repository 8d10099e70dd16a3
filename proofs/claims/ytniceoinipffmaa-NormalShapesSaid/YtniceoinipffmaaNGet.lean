/- Contracts of tags.Get and below, of mapmakerref06.Get, and of the questions that classify and its reference ask of tags. -/
import Derived.Test.YtniceoinipffmaaNTags
namespace Go.Proofs.Ytniceoinipffmaa
open Go.RowKit Go.Proofs.YtniceoinipffmaaW.PrintLast
set_option linter.unusedVariables false
set_option linter.unusedSimpArgs false

/-- The place of the first element that a test accepts, or -1. -/
def idxP {α : Type} (xs : List α) (p : α → Bool) : Int := if xs.findIdx p < xs.length then (xs.findIdx p : Int) else -1
theorem idxP_hit {α : Type} {xs : List α} {p : α → Bool} {k : Nat} (d : α) (hk : k < xs.length) (h0 : ∀ j, j < k → p (xs.getD j d) = false) (h1 : p (xs.getD k d) = true) : idxP xs p = (k : Int) := by
  have e : xs.findIdx p = k := by
    rw [List.findIdx_eq hk]
    refine ⟨by simpa [hk] using h1, fun j hj => ?_⟩
    have := h0 j hj
    simpa [show j < xs.length by omega] using this
  rw [idxP, e, if_pos hk]
theorem idxP_none {α : Type} {xs : List α} {p : α → Bool} (d : α) (h0 : ∀ j, j < xs.length → p (xs.getD j d) = false) : idxP xs p = -1 := by
  have e : xs.findIdx p = xs.length := by
    rw [List.findIdx_eq_length]
    intro x hx
    obtain ⟨j, hj, rfl⟩ := List.mem_iff_getElem.1 hx
    simpa [hj] using h0 j hj
  rw [idxP, e, if_neg (Nat.lt_irrefl _)]
theorem all_succ {p : Nat → Bool} {k : Nat} (h : ∀ j, j < k → p j = false) (hk : p k = false) : ∀ j, j < k + 1 → p j = false := fun j hj => by
  by_cases e : j = k
  · rw [e]; exact hk
  · exact h j (by omega)
/-- A function value that answers p at every tag of a list, in every later world, and leaves old memory alone. -/
def PredT (K : Nat) (cap : Array Value) (w : World) (xs : List Tag) (p : Tag → Bool) : Prop :=
  ∀ W : World, Below w.heap.size w W → ∀ k, k < xs.length → Calls Try.prog K (#[.agg #[.string (tgD xs k).1, .string (tgD xs k).2]] ++ cap) W fun e w' => e = .returned (.bool (p (tgD xs k))) ∧ Below W.heap.size W w'
def EntersP (K : Nat) : Prop := ∀ (args : Array Value) (w : World), (callFunc K args).run Try.prog w = .ok (.enter K args) w
theorem enters_num {K : Nat} {fn : Func} {c : Code} (hf : Try.prog.funcs[K]? = some fn) (hname : (fn.name == "runtime.NumGoroutine") = false) (hb : fn.body = some c) : EntersP K := by
  intro args w
  have h1 : fn.name ≠ "runtime.NumGoroutine" := by simpa using hname
  simp [callFunc, hf, h1, hb]

theorem IndexFunc_tag {ok : Nat → Prop} (xs : List Tag) (A : Option Addr) (n c : Nat) (w : World) (K : Nat) (cap : Array Value) (p : Tag → Bool) (hr : Row Ty.tag ok w A xs) (hn : n = xs.length) (hp : PredT K cap w xs p) (hK : EntersP K) :
    Calls Try.prog 103 #[.slice A n c, .func (.func K) #[] cap] w fun e w' => e = .returned (.int .i64 (idxP xs p)) ∧ Below w.heap.size w w' := by
  subst hn
  have hm := hr.len
  have HP := Lib.hid hp
  clear hp
  unfold EntersP at hK
  go_enter Try.func103, Try.ntmps103
  go_wp2
  go_loopw [8] (fun i wr => ∃ k : Nat, k ≤ xs.length ∧ i = .int .i64 k ∧ Below w.heap.size w wr ∧ Hid (∀ j, j < k → p (tgD xs j) = false)) (fun i _ => xs.length - (intOf i).toNat)
  case atStart => exact ⟨0, Nat.zero_le _, rfl, Below.refl _ _, fun j hj => absurd hj (Nat.not_lt_zero _)⟩
  case round =>
    obtain ⟨k, hk, rfl, hb, hall⟩ := hrel
    by_cases hlt : k < xs.length
    · obtain ⟨ad, rfl, hc1, hc2⟩ := (hr.below hb).tag_at k hlt
      have hz := hb.size
      cases hv : p (tgD xs k)
      · have HV := Lib.hid hv
        go_wp2_with fail
        (refine (HP.out _ hb k hlt).mono ?_; rintro e w1 ⟨rfl, hb1⟩)
        go_wp2
        go_roundw
        case rel => exact ⟨k + 1, by omega, by go_num, (by repeat (first | exact Below.refl _ _ | apply below_alloc | apply below_drewN | apply below_drew | (refine below_set2 ?_ ?_; (first | (simp; done) | (simp; omega))) | (refine below_step ?_ hb1) | (refine below_step ?_ hb))), all_succ hall.out HV.out⟩
        case measure => simp [intOf]; omega
      · have HV := Lib.hid hv
        go_wp2_with fail
        (refine (HP.out _ hb k hlt).mono ?_; rintro e w1 ⟨rfl, hb1⟩)
        go_wp2
        go_ret
        exact ⟨ret_int (idxP_hit (ByteArray.empty, ByteArray.empty) hlt hall.out HV.out).symm, (by repeat (first | exact Below.refl _ _ | apply below_alloc | apply below_drewN | apply below_drew | (refine below_set2 ?_ ?_; (first | (simp; done) | (simp; omega))) | (refine below_step ?_ hb1) | (refine below_step ?_ hb)))⟩
    · obtain rfl : k = xs.length := by omega
      go_wp2
      go_ret
      exact ⟨ret_int (idxP_none (ByteArray.empty, ByteArray.empty) hall.out).symm, hb⟩

def keyP (key : ByteArray) (t : Tag) : Bool := t.1.toList == key.toList
theorem tags_find1 (k v key : ByteArray) (g : Nat) (w : World) (hg : OneC w g 9 (.string key)) :
    Calls Try.prog 104 #[.agg #[.string k, .string v], .pointer (some ⟨g, 0, none⟩)] w fun e w' => e = .returned (.bool (keyP key (k, v))) ∧ Below w.heap.size w w' := by
  have hc := hg.cell
  have hlt := hg.lt
  go_enter Try.func104, Try.ntmps104
  go_wp2
  go_ret
  exact ⟨rfl, (by repeat (first | exact Below.refl _ _ | apply below_alloc | apply below_drewN | apply below_drew | (refine below_set2 ?_ ?_; (first | (simp; done) | (simp; omega)))))⟩
theorem tags_find {ok : Nat → Prop} (xs : List Tag) (A : Option Addr) (n c : Nat) (key : ByteArray) (w : World) (hr : Row Ty.tag ok w A xs) (hn : n = xs.length) :
    Calls Try.prog 97 #[.slice A n c, .string key] w fun e w' => e = .returned (.int .i64 (idxP xs (keyP key))) ∧ Below w.heap.size w w' := by
  have HR := Lib.hid hr
  have HN := Lib.hid hn
  have hcf : ∀ g, g = w.heap.size → Calls Try.prog 103 #[.slice A n c, .func (.func 104) #[] #[.pointer (some ⟨g, 0, none⟩)]] (w.alloc (.cells #[.string key] 9)) fun e w' => e = .returned (.int .i64 (idxP xs (keyP key))) ∧ Below w.heap.size w w' := by
    intro g hg
    subst hg
    refine (IndexFunc_tag xs A n c _ _ _ (keyP key) (HR.out.alloc _) HN.out ?_ (enters_num Try.func104 (by kernel_rfl) rfl)).mono ?_
    · intro W hW k hk
      exact tags_find1 _ _ key _ W ((OneC.new _ _ _).below hW)
    · rintro e w1 ⟨rfl, hb1⟩
      exact ⟨rfl, (by repeat (first | exact Below.refl _ _ | apply below_alloc | apply below_drewN | apply below_drew | (refine below_set2 ?_ ?_; (first | (simp; done) | (simp; omega))) | (refine below_step ?_ hb1)))⟩
  have HCF := Lib.hid hcf
  clear hr hn hcf
  go_enter Try.func97, Try.ntmps97
  go_wp2_with fail
  (refine (HCF.out _ rfl).mono ?_; rintro e w1 ⟨rfl, hb1⟩)
  go_wp2
  go_ret
  exact ⟨rfl, hb1⟩

/-- The value of the first tag with a key. -/
def getT (l : List Tag) (key : ByteArray) : Option ByteArray := (l.find? (keyP key)).map Prod.snd
theorem getT_hit {l : List Tag} {key : ByteArray} {k : Nat} (hk : k < l.length) (h0 : ∀ j, j < k → keyP key (tgD l j) = false) (h1 : keyP key (tgD l k) = true) : getT l key = some (tgD l k).2 := by
  have e : l.find? (keyP key) = some l[k] := by
    rw [List.find?_eq_some_iff_getElem]
    refine ⟨by simpa [tgD, hk] using h1, k, hk, rfl, fun j hj => ?_⟩
    have := h0 j hj
    simpa [tgD, show j < l.length by omega] using this
  rw [getT, e]; simp [tgD, hk]
theorem getT_none {l : List Tag} {key : ByteArray} (h0 : ∀ j, j < l.length → keyP key (tgD l j) = false) : getT l key = none := by
  have e : l.find? (keyP key) = none := by
    rw [List.find?_eq_none]
    intro x hx
    obtain ⟨j, hj, rfl⟩ := List.mem_iff_getElem.1 hx
    have := h0 j hj
    simpa [tgD, hj] using this
  rw [getT, e]; rfl
def valT (o : Option ByteArray) : ByteArray := o.getD ByteArray.empty
theorem getT_idx {l : List Tag} {key : ByteArray} : (idxP l (keyP key) = -1 ∧ getT l key = none) ∨ ∃ k : Nat, idxP l (keyP key) = (k : Int) ∧ k < l.length ∧ getT l key = some (tgD l k).2 := by
  by_cases h : l.findIdx (keyP key) < l.length
  · right
    refine ⟨l.findIdx (keyP key), by rw [idxP, if_pos h], h, getT_hit h (fun j hj => ?_) ?_⟩
    · have := List.not_of_lt_findIdx hj
      simpa [tgD, show j < l.length by omega] using this
    · have := List.findIdx_getElem (w := h)
      simpa [tgD, h] using this
  · left
    refine ⟨by rw [idxP, if_neg h], getT_none (fun j hj => ?_)⟩
    have hj' : j < l.findIdx (keyP key) := by omega
    have := List.not_of_lt_findIdx hj'
    simpa [tgD, hj] using this
theorem tags_Get {ok : Nat → Prop} (l : List Tag) (A : Option Addr) (n c : Nat) (key : ByteArray) (w : World) (hr : Row Ty.tag ok w A l) (hn : n = l.length) :
    Calls Try.prog 79 #[.slice A n c, .string key] w fun e w' => e = .returned (.tuple #[.string (valT (getT l key)), .bool (getT l key).isSome]) ∧ Below w.heap.size w w' := by
  subst hn
  have hl := hr.len
  have HR := Lib.hid hr
  clear hr
  rcases getT_idx (l := l) (key := key) with ⟨h1, h2⟩ | ⟨k, h1, hk, h2⟩
  · have H2 := Lib.hid h2
    have HF : Hid (∀ w, Below w.heap.size w w → True) := fun _ _ => trivial
    have HC := Lib.hid (tags_find l A l.length c key w HR.out rfl)
    rw [h1] at HC
    clear h1 h2
    go_enter Try.func79, Try.ntmps79
    go_wp2_with fail
    (refine (HC.out).mono ?_; rintro e w1 ⟨rfl, hb1⟩)
    go_wp2
    go_ret2
    exact ⟨by rw [H2.out]; rfl, hb1⟩
  · have H2 := Lib.hid h2
    have HC := Lib.hid (tags_find l A l.length c key w HR.out rfl)
    rw [h1] at HC
    clear h1 h2
    obtain ⟨ad, rfl, _, hc2⟩ := HR.out.tag_at k hk
    go_enter Try.func79, Try.ntmps79
    go_wp2_with fail
    (refine (HC.out).mono ?_; rintro e w1 ⟨rfl, hb1⟩)
    have hd2 := cell_below hb1 hc2
    have q0 : decide ((k : Int) < 0) = false := decide_eq_false (by omega)
    go_wp2
    go_ret2
    exact ⟨by rw [H2.out]; rfl, hb1⟩
theorem ref06_Get {ok : Nat → Prop} (l : List Tag) (A : Option Addr) (n c : Nat) (key : ByteArray) (w : World) (hr : Row Ty.tag ok w A l) (hn : n = l.length) :
    Calls Try.prog 80 #[.slice A n c, .string key] w fun e w' => e = .returned (.tuple #[.string (valT (getT l key)), .bool (getT l key).isSome]) ∧ Below w.heap.size w w' := by
  subst hn
  have hl := hr.len
  have HR := Lib.hid hr
  clear hr
  go_enter Try.func80, Try.ntmps80
  go_wp2
  go_loopw [6] (fun i wr => ∃ k : Nat, k ≤ l.length ∧ i = .int .i64 k ∧ Below w.heap.size w wr ∧ Hid (∀ j, j < k → keyP key (tgD l j) = false)) (fun i _ => l.length - (intOf i).toNat)
  case atStart => exact ⟨0, Nat.zero_le _, rfl, Below.refl _ _, fun j hj => absurd hj (Nat.not_lt_zero _)⟩
  case round =>
    obtain ⟨k, hk, rfl, hb, HS⟩ := hrel
    by_cases hlt : k < l.length
    · obtain ⟨ad, rfl, hc1, hc2⟩ := (HR.out.below hb).tag_at k hlt
      cases hv : keyP key (tgD l k)
      · have HV := Lib.hid hv
        have qv : ((tgD l k).1.toList == key.toList) = false := hv
        clear hv
        go_wp2
        go_roundw
        case rel => exact ⟨k + 1, by omega, by go_num, (by repeat (first | exact Below.refl _ _ | apply below_alloc | apply below_drewN | apply below_drew | (refine below_set2 ?_ ?_; (first | (simp; done) | (simp; omega))) | (refine below_step ?_ hb))), all_succ HS.out HV.out⟩
        case measure => simp [intOf]; omega
      · have HV := Lib.hid (getT_hit hlt HS.out hv)
        have qv : ((tgD l k).1.toList == key.toList) = true := hv
        clear hv
        go_wp2
        go_ret2
        exact ⟨by rw [HV.out]; rfl, (by repeat (first | exact Below.refl _ _ | apply below_alloc | apply below_drewN | apply below_drew | (refine below_set2 ?_ ?_; (first | (simp; done) | (simp; omega))) | (refine below_step ?_ hb)))⟩
    · obtain rfl : k = l.length := by omega
      have HV := Lib.hid (getT_none HS.out)
      go_wp2
      go_ret2
      exact ⟨by rw [HV.out]; rfl, hb⟩
def isT (l : List Tag) (key val : ByteArray) : Bool := match getT l key with | none => false | some v => v.toList == val.toList
def hasT (l : List Tag) (key : ByteArray) : Bool := (getT l key).isSome
theorem classify_is {ok : Nat → Prop} (l : List Tag) (A : Option Addr) (n c : Nat) (key val : ByteArray) (w : World) (hr : Row Ty.tag ok w A l) (hn : n = l.length) :
    Calls Try.prog 56 #[.slice A n c, .string key, .string val] w fun e w' => e = .returned (.bool (isT l key val)) ∧ Below w.heap.size w w' := by
  subst hn
  have HC := Lib.hid (tags_Get l A l.length c key w hr rfl)
  cases hg : getT l key with
  | none =>
    rw [hg] at HC
    have HG := Lib.hid hg
    clear hg hr
    go_enter Try.func56, Try.ntmps56
    go_wp2_with fail
    (refine (HC.out).mono ?_; rintro e w1 ⟨rfl, hb1⟩)
    go_wp2
    go_ret
    exact ⟨ret_bool (by rw [isT, HG.out]), hb1⟩
  | some v =>
    rw [hg] at HC
    have HG := Lib.hid hg
    clear hg hr
    go_enter Try.func56, Try.ntmps56
    go_wp2_with fail
    (refine (HC.out).mono ?_; rintro e w1 ⟨rfl, hb1⟩)
    go_wp2
    go_ret
    exact ⟨ret_bool (by rw [isT, HG.out]; rfl), hb1⟩
theorem ref18_is {ok : Nat → Prop} (l : List Tag) (A : Option Addr) (n c : Nat) (key val : ByteArray) (w : World) (hr : Row Ty.tag ok w A l) (hn : n = l.length) :
    Calls Try.prog 59 #[.slice A n c, .string key, .string val] w fun e w' => e = .returned (.bool (isT l key val)) ∧ Below w.heap.size w w' := by
  subst hn
  have HC := Lib.hid (ref06_Get l A l.length c key w hr rfl)
  cases hg : getT l key with
  | none =>
    rw [hg] at HC
    have HG := Lib.hid hg
    clear hg hr
    go_enter Try.func59, Try.ntmps59
    go_wp2_with fail
    (refine (HC.out).mono ?_; rintro e w1 ⟨rfl, hb1⟩)
    go_wp2
    go_ret
    exact ⟨ret_bool (by rw [isT, HG.out]), hb1⟩
  | some v =>
    rw [hg] at HC
    have HG := Lib.hid hg
    clear hg hr
    go_enter Try.func59, Try.ntmps59
    go_wp2_with fail
    (refine (HC.out).mono ?_; rintro e w1 ⟨rfl, hb1⟩)
    go_wp2
    go_ret
    exact ⟨ret_bool (by rw [isT, HG.out]; rfl), hb1⟩
theorem classify_has {ok : Nat → Prop} (l : List Tag) (A : Option Addr) (n c : Nat) (key : ByteArray) (w : World) (hr : Row Ty.tag ok w A l) (hn : n = l.length) :
    Calls Try.prog 57 #[.slice A n c, .string key] w fun e w' => e = .returned (.bool (hasT l key)) ∧ Below w.heap.size w w' := by
  subst hn
  have HC := Lib.hid (tags_Get l A l.length c key w hr rfl)
  clear hr
  go_enter Try.func57, Try.ntmps57
  go_wp2_with fail
  (refine (HC.out).mono ?_; rintro e w1 ⟨rfl, hb1⟩)
  go_wp2
  go_ret
  exact ⟨rfl, hb1⟩
theorem ref18_has {ok : Nat → Prop} (l : List Tag) (A : Option Addr) (n c : Nat) (key : ByteArray) (w : World) (hr : Row Ty.tag ok w A l) (hn : n = l.length) :
    Calls Try.prog 60 #[.slice A n c, .string key] w fun e w' => e = .returned (.bool (hasT l key)) ∧ Below w.heap.size w w' := by
  subst hn
  have HC := Lib.hid (ref06_Get l A l.length c key w hr rfl)
  clear hr
  go_enter Try.func60, Try.ntmps60
  go_wp2_with fail
  (refine (HC.out).mono ?_; rintro e w1 ⟨rfl, hb1⟩)
  go_wp2
  go_ret
  exact ⟨rfl, hb1⟩
end Go.Proofs.Ytniceoinipffmaa
