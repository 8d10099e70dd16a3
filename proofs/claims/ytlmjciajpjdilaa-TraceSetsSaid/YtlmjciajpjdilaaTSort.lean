/- Contracts of slices.SortFunc at segments and points, of noding.Sort and noding.Unique. -/
import Derived.Test.YtlmjciajpjdilaaTLay
import Derived.Test.YtlmjciajpjdilaaTBridge
import Derived.Test.YtlmjciajpjdilaaTCanon
import Derived.Test.YtlmjciajpjdilaaTComp
namespace Go.Proofs.Ytlmjciajpjdilaa
open Go.RowKit Go.Proofs.YtlmjciajpjdilaaW.PrintLast
set_option linter.unusedVariables false
set_option linter.unusedSimpArgs false

def EntersT (K : Nat) : Prop := ∀ (args : Array Value) (w : World), (callFunc K args).run Try.prog w = .ok (.enter K args) w
theorem enters_t {K : Nat} {fn : Func} {c : Code} (hf : Try.prog.funcs[K]? = some fn) (hname : (fn.name == "runtime.NumGoroutine") = false) (hb : fn.body = some c) : EntersT K := by
  intro args w
  have h1 : fn.name ≠ "runtime.NumGoroutine" := by simpa using hname
  simp [callFunc, hf, h1, hb]
theorem SortFunc_sg {base : Nat} {M : Nat → Prop} {w : World} {xs : Sgs} (A : Option Addr) (n c : Nat) (hsm : xs.length ≤ 1000000000) (HO : OwnR Ty.sg 27 base M w (.slice A n c) xs) :
    Calls Try.prog 44 #[.slice A n c, .func (.func 45) #[] #[]] w fun e' w' => e' = .returned (.tuple #[]) ∧ OwnR Ty.sg 27 base M w' (.slice A n c) (sortG lessS xs) ∧ KeptS (fun b => (Value.slice A n c).ownBlock = some b) w w' :=
  sortK_own (k := 4) Try.laysSg (fun _ => by kernel_rfl) (fun _ => by kernel_rfl) cmpS totS ltS 45 (enters_t Try.func45 (by kernel_rfl) rfl) (fun x y W => noding_order x y W) rfl hsm HO
theorem SortFunc_pt {base : Nat} {M : Nat → Prop} {w : World} {xs : Pts} (A : Option Addr) (n c : Nat) (hsm : xs.length ≤ 1000000000) (HO : OwnR Ty.pt 25 base M w (.slice A n c) xs) :
    Calls Try.prog 56 #[.slice A n c, .func (.func 57) #[] #[]] w fun e' w' => e' = .returned (.tuple #[]) ∧ OwnR Ty.pt 25 base M w' (.slice A n c) (sortG lessB xs) ∧ KeptS (fun b => (Value.slice A n c).ownBlock = some b) w w' :=
  sortK_own (k := 2) Try.laysPt (fun _ => by kernel_rfl) (fun _ => by kernel_rfl) cmpP totB ltP 57 (enters_t Try.func57 (by kernel_rfl) rfl) (fun x y W => split_order x y W) rfl hsm HO
theorem noding_Sort {ok : Nat → Prop} (l : Sgs) (A : Option Addr) (n c : Nat) (w : World) (hr : Row Ty.sg ok w A l) (hn : n = l.length) (hlen : l.length ≤ 1000000) :
    Calls Try.prog 30 #[.slice A n c] w fun e w' => ∃ v, e = .returned v ∧ Own1 Ty.sg 27 w.heap.size w' v (sortZ l) ∧ Below w.heap.size w w' := by
  subst hn
  go_enter Try.func30, Try.ntmps30
  go_wp2_with fail
  refine (noding_canon l A _ c w hr rfl hlen).mono ?_
  rintro e w1 ⟨v, rfl, ho, hb⟩
  obtain ⟨A1, c1, rfl, hl1, hr1⟩ := ho.reads
  have HO := Lib.hid ho
  have hcl := canon_le l
  have hw := hb.size
  clear ho hr1
  go_wp2_with fail
  refine (SortFunc_sg A1 _ c1 (by omega) HO.out).mono ?_
  rintro e w2 ⟨rfl, ho2, hk2⟩
  have HO2 := Lib.hid ho2
  have HB2 : Hid (Below w.heap.size w w2) := below_kept hb hk2 (fun b e => (OwnR.lt HO.out b e).1)
  clear ho2 hk2
  go_wp2
  go_ret
  refine ⟨_, rfl, ?_, HB2.out⟩
  have := HO2.out
  rwa [show (canonZ l).length = (sortZ l).length by unfold sortZ; rw [sortG_len]] at this ⊢
theorem noding_Unique {ok : Nat → Prop} (l : Sgs) (A : Option Addr) (n c : Nat) (w : World) (hr : Row Ty.sg ok w A l) (hn : n = l.length) (hlen : l.length ≤ 1000000) :
    Calls Try.prog 14 #[.slice A n c] w fun e w' => ∃ v, e = .returned v ∧ Own1 Ty.sg 27 w.heap.size w' v (uniqZ l) ∧ Below w.heap.size w w' := by
  subst hn
  go_enter Try.func14, Try.ntmps14
  go_wp2_with fail
  refine (noding_Sort l A _ c w hr rfl hlen).mono ?_
  rintro e w1 ⟨v, rfl, ho, hb⟩
  have HO := Lib.hid ho
  have hw := hb.size
  clear ho
  go_wp2_with fail
  refine (Compact_sg (sortZ l) v _ w1 HO.out).mono ?_
  rintro e w2 ⟨v2, rfl, ho2, hk2⟩
  have HO2 := Lib.hid ho2
  have HB2 : Hid (Below w.heap.size w w2) := below_kept hb hk2 (fun b e => (OwnR.lt HO.out b e).1)
  clear ho2 hk2
  go_wp2
  go_ret
  exact ⟨_, rfl, HO2.out, HB2.out⟩
end Go.Proofs.Ytlmjciajpjdilaa
