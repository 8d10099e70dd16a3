/- Words of this session's own: polygons in memory while holes are dealt out to them. No program is in sight. -/
import Derived.Test.YtaphjehkpdjolaaPolyP
namespace Go.Proofs.Ytaphjehkpdjolaa
open Go.RowKit
set_option linter.unusedVariables false
set_option linter.unusedSimpArgs false

/-- A polygon's two cells of which only the outer ring is read. -/
def Ty.half : Ty Pts where
  sz := 2
  pos := by decide
  R := fun ok w x cs => ∃ c A1 n1 c1, cs = [c, .slice A1 n1 c1] ∧ Ty.ring.R ok w x [c]
  len := by rintro ok w x cs ⟨c, A1, n1, c1, rfl, _⟩; rfl
  one := by
    rintro ok w x cs ⟨c, A1, n1, c1, rfl, h1⟩ v hv
    simp only [List.mem_cons, List.not_mem_nil, or_false] at hv
    rcases hv with rfl | rfl
    · exact Ty.ring.one h1 _ (List.mem_cons_self)
    · rfl
  mono := by rintro ok ok' w x cs hok ⟨c, A1, n1, c1, rfl, h1⟩; exact ⟨c, A1, n1, c1, rfl, Ty.ring.mono hok h1⟩
  move := by rintro ok w w' x cs hm ⟨c, A1, n1, c1, rfl, h1⟩; exact ⟨c, A1, n1, c1, rfl, Ty.ring.move hm h1⟩
  bnd := by rintro ok w x cs ⟨c, A1, n1, c1, rfl, h1⟩; exact ⟨c, A1, n1, c1, rfl, Ty.ring.bnd h1⟩
/-- A polygon with no holes yet. -/
def Ty.outer : Ty Pts where
  sz := 2
  pos := by decide
  R := fun ok w x cs => ∃ c, cs = [c, .slice none 0 0] ∧ Ty.ring.R ok w x [c]
  len := by rintro ok w x cs ⟨c, rfl, _⟩; rfl
  one := by
    rintro ok w x cs ⟨c, rfl, h1⟩ v hv
    simp only [List.mem_cons, List.not_mem_nil, or_false] at hv
    rcases hv with rfl | rfl
    · exact Ty.ring.one h1 _ (List.mem_cons_self)
    · rfl
  mono := by rintro ok ok' w x cs hok ⟨c, rfl, h1⟩; exact ⟨c, rfl, Ty.ring.mono hok h1⟩
  move := by rintro ok w w' x cs hm ⟨c, rfl, h1⟩; exact ⟨c, rfl, Ty.ring.move hm h1⟩
  bnd := by rintro ok w x cs ⟨c, rfl, h1⟩; exact ⟨c, rfl, Ty.ring.bnd h1⟩
theorem outerR {ok : Nat → Prop} {w : World} {A : Option Addr} {xs : Pts} {c : Nat} (hl : xs.length ≤ c) (h : Row Ty.pt ok w A xs) : Ty.outer.R ok w xs [.slice A xs.length c, .slice none 0 0] := ⟨_, rfl, ringR hl h⟩
theorem Row.half_at {ok : Nat → Prop} {w : World} {A : Option Addr} {os : Rings} (h : Row Ty.half ok w A os) (k : Nat) (hk : k < os.length) :
    ∃ ad A0 c0 A1 n1 c1, A = some ad ∧ w.cell? (ad.add (k * 2)) = some (.slice A0 (rgD os k).length c0) ∧ (rgD os k).length ≤ c0 ∧ Row Ty.pt ok w A0 (rgD os k) ∧ w.cell? ⟨(ad.add (k * 2)).block, (ad.add (k * 2)).off + 1, none⟩ = some (.slice A1 n1 c1) := by
  obtain ⟨ad, cs, e, _, ⟨c, A1, n1, c1, rfl, ⟨A0, c0, e1, hl, hr⟩⟩, hc⟩ := h.get hk
  injection e1 with e1 _
  subst e1
  have e2 : rgD os k = os[k] := by simp [rgD, hk]
  rw [e2]
  exact ⟨ad, A0, c0, A1, n1, c1, e, hc.first, hl, hr, hc.field 1 (by decide) rfl⟩

/-- The list while holes are dealt out: B is the heap's size at the start of that. Its row and all blocks from B on may turn. -/
def PolyOwn (e : TypeId) (B : Nat) (A : Option Addr) (w : World) (l : List Poly) : Prop :=
  B ≤ w.heap.size ∧ l.length ≤ 9223372036854775807 ∧ (0 < l.length → ∃ g, A = some ⟨g, 0, none⟩ ∧ g < B ∧ (∀ o, w.frozen? ⟨g, o, none⟩ = false) ∧ ∃ hv : Nat → Value,
    (∀ i, i < l.length → ∃ A0 c, w.cell? ⟨g, i * 2, none⟩ = some (.slice A0 (pyD l i).1.length c) ∧ (pyD l i).1.length ≤ c ∧ Row Ty.pt (fun k => k < B ∧ k ≠ g) w A0 (pyD l i).1) ∧
    (∀ i, i < l.length → w.cell? ⟨g, i * 2 + 1, none⟩ = some (hv i) ∧ OwnR Ty.ring e B (fun k => k = g ∨ B ≤ k) w (hv i) (pyD l i).2) ∧
    (∀ i j k, i < l.length → j < l.length → i ≠ j → (hv i).ownBlock = some k → (hv j).ownBlock ≠ some k))

theorem PolyOwn.start {eP e : TypeId} {base : Nat} {M : Nat → Prop} {w : World} {v : Value} {os : Rings} (h : OwnR Ty.outer eP base M w v os) :
    ∃ A c, v = .slice A os.length c ∧ os.length ≤ c ∧ PolyOwn e w.heap.size A w (startP os) ∧ (0 < os.length → ∃ g, A = some ⟨g, 0, none⟩ ∧ base ≤ g ∧ g < w.heap.size ∧ M g) := by
  have hl := h.len
  obtain ⟨A, c, e1, hlc, _, hA⟩ := h.reads
  refine ⟨A, c, e1, hlc, ⟨Nat.le_refl _, by rw [startP_len]; exact hl, fun hn => ?_⟩, fun hn => ?_⟩
  · rw [startP_len] at hn
    obtain ⟨g, rfl, hg1, hg2, hg3, hg4⟩ := hA hn
    subst e1
    obtain ⟨h0, inner, ho, hr⟩ := h
    refine ⟨g, rfl, hg2, hg4, fun _ => .slice none 0 0, fun i hi => ?_, fun i hi => ?_, fun i j k hi hj hne hk => by simp [Value.ownBlock] at hk⟩
    · rw [startP_len] at hi
      rw [startP_at hi]
      obtain ⟨cs, ⟨c1, rfl, hc1⟩, hk⟩ := hr.get i os[i] (by simp [hi])
      obtain ⟨A0, c0, e2, hl0, hr0⟩ := Ty.ring.bnd hc1
      injection e2 with e2 _
      subst e2
      have e3 : rgD os i = os[i] := by simp [rgD, hi]
      rw [e3]
      refine ⟨A0, c0, ?_, hl0, hr0.mono (fun k hk => ⟨hk.2, fun e => hk.1 (e ▸ hg3)⟩)⟩
      have := ho.cells (g := g) rfl (i * 2) _ (by have := hk 0 _ rfl; rwa [show Ty.outer.sz = 2 from rfl, Nat.add_zero] at this)
      rwa [add_at, Nat.zero_add] at this
    · rw [startP_len] at hi
      rw [startP_at hi]
      obtain ⟨cs, ⟨c1, rfl, hc1⟩, hk⟩ := hr.get i os[i] (by simp [hi])
      refine ⟨?_, OwnR.nil _ _ _ _ _⟩
      have := ho.cells (g := g) rfl (i * 2 + 1) _ (hk 1 _ rfl)
      rwa [add_at, Nat.zero_add] at this
  · obtain ⟨g, e2, hg1, hg2, hg3, hg4⟩ := hA hn
    exact ⟨g, e2, hg1, hg2, hg3⟩

section
variable {e : TypeId} {B : Nat} {A : Option Addr} {w w' : World} {l : List Poly}
theorem PolyOwn.below (h : PolyOwn e B A w l) (hb : Below w.heap.size w w') : PolyOwn e B A w' l := by
  obtain ⟨h1, h2, h3⟩ := h
  refine ⟨Nat.le_trans h1 hb.size, h2, fun hn => ?_⟩
  obtain ⟨g, rfl, hg, hf, hv, ho, hh, hd⟩ := h3 hn
  refine ⟨g, rfl, hg, fun o => (hb.frozen (p := ⟨g, o, none⟩) (by show g < _; omega)).trans (hf o), hv, fun i hi => ?_, fun i hi => ?_, hd⟩
  · obtain ⟨A0, c, hc, hl, hr⟩ := ho i hi
    exact ⟨A0, c, cell_below hb hc, hl, hr.below hb⟩
  · obtain ⟨hc, hr⟩ := hh i hi
    exact ⟨cell_below hb hc, hr.below hb⟩
theorem PolyOwn.half (h : PolyOwn e B A w l) : Row Ty.half (fun k => k < B) w A (l.map Prod.fst) := by
  obtain ⟨h1, h2, h3⟩ := h
  refine ⟨by rw [List.length_map]; exact h2, fun hn => ?_⟩
  rw [List.length_map] at hn
  obtain ⟨g, rfl, hg, hf, hv, ho, hh, hd⟩ := h3 hn
  refine ⟨_, rfl, hg, fun i x hx => ?_⟩
  have hi : i < l.length := by have := (List.getElem?_eq_some_iff.1 hx).1; simpa using this
  have ex : x = (pyD l i).1 := by rw [List.getElem?_map] at hx; simp [pyD, hi] at hx ⊢; exact hx.symm
  subst ex
  obtain ⟨A0, c, hc, hl, hr⟩ := ho i hi
  obtain ⟨hc1, hr1⟩ := hh i hi
  obtain ⟨A1, c1, e1, _⟩ := hr1.reads
  rw [e1] at hc1
  refine ⟨[.slice A0 (pyD l i).1.length c, .slice A1 (pyD l i).2.length c1], ⟨_, _, _, _, rfl, ⟨A0, c, rfl, hl, hr.mono (fun k hk => hk.1)⟩⟩, fun j u hu => ?_⟩
  rw [add_at, Nat.zero_add]
  rcases j with _ | _ | j
  · injection hu with hu; subst hu; exact hc
  · injection hu with hu; subst hu; exact hc1
  · simp at hu
theorem PolyOwn.full (h : PolyOwn e B A w l) : Row Ty.poly (fun _ => True) w A l := by
  obtain ⟨h1, h2, h3⟩ := h
  refine ⟨h2, fun hn => ?_⟩
  obtain ⟨g, rfl, hg, hf, hv, ho, hh, hd⟩ := h3 hn
  refine ⟨_, rfl, trivial, fun i x hx => ?_⟩
  have hi : i < l.length := (List.getElem?_eq_some_iff.1 hx).1
  have ex : x = pyD l i := by simp [pyD, hx]
  subst ex
  obtain ⟨A0, c, hc, hl, hr⟩ := ho i hi
  obtain ⟨hc1, hr1⟩ := hh i hi
  obtain ⟨A1, c1, e1, hl1, hr1', _⟩ := hr1.reads
  refine ⟨[.slice A0 (pyD l i).1.length c] ++ [hv i], ⟨_, _, rfl, ⟨A0, c, rfl, hl, hr.mono (fun k hk => trivial)⟩, ⟨A1, c1, by rw [e1], hl1, hr1'.mono (fun k hk => trivial)⟩⟩, fun j u hu => ?_⟩
  rw [add_at, Nat.zero_add]
  rcases j with _ | _ | j
  · injection hu with hu; subst hu; exact hc
  · injection hu with hu; subst hu; exact hc1
  · simp at hu
/-- A hole is given to polygon i. -/
theorem PolyOwn.hole (h : PolyOwn e B A w l) {i : Nat} (hi : i < l.length) :
    ∃ g v, A = some ⟨g, 0, none⟩ ∧ g < B ∧ w.frozen? ⟨g, i * 2 + 1, none⟩ = false ∧ w.cell? ⟨g, i * 2 + 1, none⟩ = some v ∧ OwnR Ty.ring e B (fun k => k = g ∨ B ≤ k) w v (pyD l i).2 ∧
      ∀ (v1 : Value) (w1 : World) (r : Pts), OwnR Ty.ring e B (fun k => (k = g ∨ B ≤ k) ∨ v1.ownBlock = some k) w1 v1 ((pyD l i).2 ++ [r]) → w.grownBy w1 v.ownBlock → (v1.ownBlock = v.ownBlock ∨ ∃ b, v1.ownBlock = some b ∧ w.heap.size ≤ b) →
        w1.cell? ⟨g, i * 2 + 1, none⟩ = some v ∧ w1.frozen? ⟨g, i * 2 + 1, none⟩ = false ∧ v1.oneCell' = true ∧ PolyOwn e B A (w1.setCell ⟨g, i * 2 + 1, none⟩ v1) (addHole l i r) := by
  obtain ⟨h1, h2, h3⟩ := h
  obtain ⟨g, rfl, hg, hf, hv, ho, hh, hd⟩ := h3 (by omega)
  refine ⟨g, hv i, rfl, hg, hf _, (hh i hi).1, (hh i hi).2, fun v1 w1 r hown hgr hat => ?_⟩
  have hvi := OwnR.lt (hh i hi).2
  have hne : ∀ j, j < l.length → ∀ b, (hv j).ownBlock = some b → g ≠ b := fun j hj b e1 => by have := (OwnR.lt (hh j hj).2 b e1).1; omega
  have hblk : w1.heap[g]? = w.heap[g]? := hgr.block g (by omega) (fun e1 => hne i hi g e1.symm rfl)
  have hkg : ∀ o, w1.cell? ⟨g, o, none⟩ = w.cell? ⟨g, o, none⟩ := fun o => cell_heap (a := ⟨g, o, none⟩) hblk
  have hfg : ∀ o, w1.frozen? ⟨g, o, none⟩ = false := fun o => by
    have := hf o
    simp only [World.frozen?, hblk] at this ⊢
    exact this
  have hk1 : KeptS (fun k => k = g ∨ (hv i).ownBlock = some k) w w1 := kept_grown hgr (fun b e1 => .inr e1)
  have hk2 : KeptS (fun k => k = g ∨ (hv i).ownBlock = some k) w (w1.setCell ⟨g, i * 2 + 1, none⟩ v1) := kept_set (a := ⟨g, i * 2 + 1, none⟩) (.inl rfl) hk1
  have hvb : ∀ k, v1.ownBlock = some k → B ≤ k := fun k e1 => by
    rcases hat with h | ⟨b, hb, hle⟩
    · exact (hvi k (h ▸ e1)).1
    · rw [hb] at e1; injection e1 with e1; omega
  have hcur : w1.cell? ⟨g, i * 2 + 1, none⟩ = some (hv i) := (hkg _).trans (hh i hi).1
  have hone : v1.oneCell' = true := by obtain ⟨A1, c1, e1, _⟩ := hown.reads; rw [e1]; rfl
  refine ⟨hcur, hfg _, hone, ?_, by rw [addHole_len]; exact h2, fun _ => ⟨g, rfl, hg, fun o => by rw [World.frozen?_setCell]; exact hfg o, fun j => if j = i then v1 else hv j, fun j hj => ?_, fun j hj => ?_, fun p q k hp hq hpq hk hk' => ?_⟩⟩
  · have := hk2.size; omega
  · rw [addHole_len] at hj
    have e1 : (pyD (addHole l i r) j).1 = (pyD l j).1 := by
      by_cases hji : j = i
      · subst hji; rw [addHole_same hi]
      · rw [addHole_other hji]
    rw [e1]
    obtain ⟨A0, c, hc, hl, hr⟩ := ho j hj
    refine ⟨A0, c, ?_, hl, hr.step (fun k hk hlt => hk2.block k hlt (fun hs => ?_))⟩
    · rw [World.cell?_setCell_other _ _ _ _ (by intro e2; injection e2 with _ e2; omega), hkg]; exact hc
    · rcases hs with hs | hs
      · exact hk.2 hs
      · have := (hvi k hs).1; omega
  · rw [addHole_len] at hj
    by_cases hji : j = i
    · subst hji
      simp only [if_pos]
      rw [addHole_same hi]
      refine ⟨World.cell?_setCell_same _ _ _ hcur, ?_⟩
      have ho1 : OwnR Ty.ring e B (fun k => k = g ∨ B ≤ k) w1 v1 ((pyD l j).2 ++ [r]) := hown.remut (fun k _ hk => .inl hk) (fun k hk => .inr (hvb k hk))
      exact ho1.kept (S := fun k => k = g) (kept_set (a := ⟨g, j * 2 + 1, none⟩) rfl (kept_refl _ _)) (fun b hb => .inl hb) (fun b hb e2 => by have := hvb b hb; omega)
    · simp only [if_neg hji]
      rw [addHole_other hji]
      obtain ⟨hc, hr⟩ := hh j hj
      refine ⟨?_, hr.kept hk2 (fun b hb => ?_) (fun b hb hs => ?_)⟩
      · rw [World.cell?_setCell_other _ _ _ _ (by intro e2; injection e2 with _ e2; omega), hkg]; exact hc
      · rcases hb with hb | hb
        · exact .inl hb
        · exact .inr (hvi b hb).1
      · rcases hs with hs | hs
        · have := (OwnR.lt hr b hb).1; omega
        · exact hd i j b hi hj (Ne.symm hji) hs hb
  · rw [addHole_len] at hp hq
    simp only at hk hk'
    by_cases h1 : p = i
    · have h2 : q ≠ i := fun e2 => hpq (h1.trans e2.symm)
      rw [if_pos h1] at hk
      rw [if_neg h2] at hk'
      rcases hat with hat | ⟨b, hb, hle⟩
      · exact hd i q k hi hq (Ne.symm h2) (hat ▸ hk) hk'
      · rw [hb] at hk; injection hk with hk
        have := (OwnR.lt (hh q hq).2 k hk').2; omega
    · rw [if_neg h1] at hk
      by_cases h2 : q = i
      · rw [if_pos h2] at hk'
        rcases hat with hat | ⟨b, hb, hle⟩
        · exact hd p i k hp hi h1 hk (hat ▸ hk')
        · rw [hb] at hk'; injection hk' with hk'
          have := (OwnR.lt (hh p hp).2 k hk).2; omega
      · rw [if_neg h2] at hk'
        exact hd p q k hp hq hpq hk hk'
end
end Go.Proofs.Ytaphjehkpdjolaa
