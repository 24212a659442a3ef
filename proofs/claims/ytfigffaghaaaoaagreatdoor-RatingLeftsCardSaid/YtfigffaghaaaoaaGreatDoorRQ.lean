/- Slices of rational numbers in memory: worlds that keep all words, rows of numbers that the call owns, slices of numbers that are read, matrices. large.ParseAll, matrix.Values. large.Texts, matrix.TextVec, matrix.Text. matrix.Values, lin.Width, matrix.Text; matrices that are read; appending a number. -/
import Derived.Test.YtfigffaghaaaoaaGreatDoorRO
import Derived.Test.YtfigffaghaaaoaaGreatDoorRH
import Derived.Test.YtfigffaghaaaoaaGreatDoorRP
namespace Go.Proofs.YtfigffaghaaaoaaGreatDoor
open Go.RowKit

/-- every word of memory is as it was -/
structure Kw (w w' : World) : Prop where
  size : w.heap.size ≤ w'.heap.size
  word : ∀ p n, w.cell? p = some (U n) → w'.cell? p = some (U n)
theorem Kw.refl (w : World) : Kw w w := ⟨Nat.le_refl _, fun _ _ h => h⟩
theorem Kw.trans {a b c : World} (h : Kw a b) (k : Kw b c) : Kw a c := ⟨Nat.le_trans h.size k.size, fun p n e => k.word p n (h.word p n e)⟩
theorem kw_below {w w' : World} (hb : Below w.heap.size w w') : Kw w w' := ⟨hb.size, fun p _n e => (hb.cell (World.block_lt_of_cell? w p e)).trans e⟩
theorem kw_set {w : World} {p : Addr} {old : Value} (hp : w.cell? p = some old) (hk : noWord old) (u : Value) : Kw w (w.setCell p u) := by
  refine ⟨by simp [World.setCell], fun q n e => ?_⟩
  rw [World.cell?_setCell_other _ _ _ _ ?_]
  · exact e
  · rintro rfl
    rw [e] at hp
    exact hk n (Option.some.inj hp)
theorem Big.kw {w w' : World} {v : Value} {z : Int} (h : Big w v z) (k : Kw w w') : Big w' v z := by
  obtain ⟨A, c, ws, h1, h2, h3⟩ := h
  refine ⟨A, c, ws, h1, ⟨h2.1, fun hn => ?_⟩, h3⟩
  obtain ⟨b, off, e, hb, hc⟩ := h2.2 hn
  refine ⟨b, off, e, by have := k.size; omega, fun j u hu => ?_⟩
  have hu2 := hc j u hu
  rw [List.getElem?_map] at hu
  cases hx : ws[j]? with
  | none => rw [hx] at hu; cases hu
  | some y =>
    rw [hx] at hu
    have hy := Option.some.inj hu
    subst hy
    exact k.word _ _ hu2
theorem Rt.kw {w w' : World} {v : Value} {q : Rat} (h : Rt w v q) (k : Kw w w') : Rt w' v q := by
  obtain ⟨a, b, c, d, e, h1, h2⟩ := h
  exact ⟨a, b, c, d, e, h1.kw k, h2.kw k⟩
/-- the cells of a row of numbers -/
def RtL (w : World) : List Value → List Rat → Prop
  | xs, [] => xs = []
  | xs, q :: qs => ∃ x0 x1 x2 x3 ys, xs = x0 :: x1 :: x2 :: x3 :: ys ∧ Rt w (.agg #[x0, x1, x2, x3]) q ∧ RtL w ys qs
theorem RtL.cons {w : World} {xs : List Value} {q : Rat} {qs : List Rat} (h : RtL w xs (q :: qs)) : ∃ x0 x1 x2 x3 ys, xs = x0 :: x1 :: x2 :: x3 :: ys ∧ Rt w (.agg #[x0, x1, x2, x3]) q ∧ RtL w ys qs := h
theorem RtL.mk {w : World} {x0 x1 x2 x3 : Value} {ys : List Value} {q : Rat} {qs : List Rat} (h : Rt w (.agg #[x0, x1, x2, x3]) q) (k : RtL w ys qs) : RtL w (x0 :: x1 :: x2 :: x3 :: ys) (q :: qs) := ⟨_, _, _, _, _, rfl, h, k⟩
theorem RtL.nil_iff {w : World} {xs : List Value} (h : RtL w xs []) : xs = [] := h
theorem RtL.kw {w w' : World} (k : Kw w w') : ∀ {qs : List Rat} {xs : List Value}, RtL w xs qs → RtL w' xs qs
  | [], _, h => h
  | q :: qs, xs, h => by
    obtain ⟨x0, x1, x2, x3, ys, rfl, h1, h2⟩ := h.cons
    exact .mk (h1.kw k) (RtL.kw k h2)
theorem RtL.len {w : World} : ∀ {qs : List Rat} {xs : List Value}, RtL w xs qs → xs.length = qs.length * 4
  | [], xs, h => by rw [h.nil_iff]; rfl
  | q :: qs, xs, h => by
    obtain ⟨x0, x1, x2, x3, ys, rfl, h1, h2⟩ := h.cons
    simp only [List.length_cons, h2.len]; omega
theorem RtL.append {w : World} : ∀ {qs : List Rat} {xs : List Value} {rs : List Rat} {ys : List Value}, RtL w xs qs → RtL w ys rs → RtL w (xs ++ ys) (qs ++ rs)
  | [], xs, rs, ys, h, k => by rw [h.nil_iff]; exact k
  | q :: qs, xs, rs, ys, h, k => by
    obtain ⟨x0, x1, x2, x3, zs, rfl, h1, h2⟩ := h.cons
    exact .mk h1 (RtL.append h2 k)
theorem RtL.one {w : World} {x0 x1 x2 x3 : Value} {q : Rat} (h : Rt w (.agg #[x0, x1, x2, x3]) q) : RtL w [x0, x1, x2, x3] [q] := .mk h rfl
theorem RtL.at_ {w : World} : ∀ {qs : List Rat} {xs : List Value} (k : Nat) (q : Rat), RtL w xs qs → qs[k]? = some q →
    ∃ x0 x1 x2 x3, xs[k * 4]? = some x0 ∧ xs[k * 4 + 1]? = some x1 ∧ xs[k * 4 + 2]? = some x2 ∧ xs[k * 4 + 3]? = some x3 ∧ Rt w (.agg #[x0, x1, x2, x3]) q
  | [], xs, k, q, h, hq => by simp at hq
  | r :: qs, xs, 0, q, h, hq => by
    obtain ⟨x0, x1, x2, x3, ys, rfl, h1, h2⟩ := h.cons
    have hq := Option.some.inj hq
    subst hq
    exact ⟨x0, x1, x2, x3, rfl, rfl, rfl, rfl, h1⟩
  | r :: qs, xs, k + 1, q, h, hq => by
    obtain ⟨x0, x1, x2, x3, ys, rfl, h1, h2⟩ := h.cons
    obtain ⟨y0, y1, y2, y3, e0, e1, e2, e3, hr⟩ := RtL.at_ k q h2 (by simpa using hq)
    have e : (k + 1) * 4 = k * 4 + 4 := by omega
    refine ⟨y0, y1, y2, y3, ?_, ?_, ?_, ?_, hr⟩
    · rw [e]; exact e0
    · rw [e]; exact e1
    · rw [e]; exact e2
    · rw [e]; exact e3
def set4L (xs : List Value) (k : Nat) (u0 u1 u2 u3 : Value) : List Value := (((xs.set (k * 4) u0).set (k * 4 + 1) u1).set (k * 4 + 2) u2).set (k * 4 + 3) u3
theorem RtL.set_ {w : World} {u0 u1 u2 u3 : Value} {r : Rat} (hr : Rt w (.agg #[u0, u1, u2, u3]) r) : ∀ {qs : List Rat} {xs : List Value} (k : Nat), k < qs.length → RtL w xs qs → RtL w (set4L xs k u0 u1 u2 u3) (qs.set k r)
  | [], xs, k, hk, h => by simp at hk
  | q :: qs, xs, 0, hk, h => by
    obtain ⟨x0, x1, x2, x3, ys, rfl, h1, h2⟩ := h.cons
    exact .mk hr h2
  | q :: qs, xs, k + 1, hk, h => by
    obtain ⟨x0, x1, x2, x3, ys, rfl, h1, h2⟩ := h.cons
    have := RtL.set_ hr k (by simpa using hk) h2
    have e : set4L (x0 :: x1 :: x2 :: x3 :: ys) (k + 1) u0 u1 u2 u3 = x0 :: x1 :: x2 :: x3 :: set4L ys k u0 u1 u2 u3 := by
      unfold set4L
      rw [show (k + 1) * 4 = k * 4 + 4 by omega]
      simp only [List.set_cons_succ]
    rw [e]
    exact .mk h1 this
/-- a slice of numbers that is read -/
def RV (w : World) (A : Option Addr) (n : Nat) (qs : List Rat) : Prop := ∃ xs, Reads w w.heap.size 4 A n xs ∧ RtL w xs qs
theorem RV.len {w : World} {A : Option Addr} {n : Nat} {qs : List Rat} (h : RV w A n qs) : qs.length = n := by
  obtain ⟨xs, h1, h2⟩ := h
  have := h1.1
  have := h2.len
  omega
theorem RV.below {w w' : World} {A : Option Addr} {n : Nat} {qs : List Rat} (h : RV w A n qs) (hb : Below w.heap.size w w') : RV w' A n qs := by
  obtain ⟨xs, h1, h2⟩ := h
  exact ⟨xs, (h1.below hb).more hb.size, h2.kw (kw_below hb)⟩
/-- the four cells of number k -/
structure C4 (w : World) (b o : Nat) (x0 x1 x2 x3 : Value) : Prop where
  c0 : w.cell? ⟨b, o, none⟩ = some x0
  c1 : w.cell? ⟨b, o + 1, none⟩ = some x1
  c2 : w.cell? ⟨b, o + 2, none⟩ = some x2
  c3 : w.cell? ⟨b, o + 3, none⟩ = some x3
theorem RV.at_ {w : World} {A : Option Addr} {n : Nat} {qs : List Rat} (h : RV w A n qs) {k : Nat} (hk : k < n) (q : Rat) (hq : qs[k]? = some q) :
    ∃ b off x0 x1 x2 x3, A = some ⟨b, off, none⟩ ∧ b < w.heap.size ∧ C4 w b (off + k * 4) x0 x1 x2 x3 ∧ Rt w (.agg #[x0, x1, x2, x3]) q := by
  obtain ⟨xs, h1, h2⟩ := h
  obtain ⟨b, off, e, hb, hc⟩ := h1.2 (by omega)
  obtain ⟨x0, x1, x2, x3, e0, e1, e2, e3, hr⟩ := h2.at_ k q hq
  exact ⟨b, off, x0, x1, x2, x3, e, hb, ⟨hc _ _ e0, hc _ _ e1, hc _ _ e2, hc _ _ e3⟩, hr⟩
theorem RV.form {w : World} {A : Option Addr} {n : Nat} {qs : List Rat} (h : RV w A n qs) {k : Nat} (hk : k < n) (q : Rat) (hq : qs[k]? = some q) :
    ∃ b off nb B1 l1 c1 B2 l2 c2, A = some ⟨b, off, none⟩ ∧ b < w.heap.size ∧ C4 w b (off + k * 4) (.bool nb) (.slice B1 l1 c1) (.bool false) (.slice B2 l2 c2) ∧ Rt w (.agg #[.bool nb, .slice B1 l1 c1, .bool false, .slice B2 l2 c2]) q := by
  obtain ⟨b, off, x0, x1, x2, x3, e, hb, hC, hr⟩ := h.at_ hk q hq
  obtain ⟨B1, l1, c1, B2, l2, c2, e2, -, -⟩ := hr.form
  injection e2 with e2
  obtain ⟨rfl, rfl, rfl, rfl⟩ : x0 = _ ∧ x1 = _ ∧ x2 = _ ∧ x3 = _ := by simpa using e2
  exact ⟨b, off, _, _, _, _, _, _, _, e, hb, hC, hr⟩
/-- a row of numbers that the call owns; its block holds no words -/
structure RRow (w : World) (base : Nat) (v : Value) (qs : List Rat) : Prop where
  row : ∃ xs, Row w base ratT 4 v qs.length xs ∧ RtL w xs qs
  nw : ∀ g o n, v.ownBlock = some g → w.cell? ⟨g, o, none⟩ ≠ some (U n)
theorem own_lt {w : World} {base : Nat} {e : TypeId} {sz n : Nat} {v : Value} {xs : List Value} (h : Row w base e sz v n xs) {g : Nat} (hg : v.ownBlock = some g) : base ≤ g ∧ g < w.heap.size ∧ ∃ cur, Blk w g e cur := by
  rcases h.2 with ⟨rfl, _⟩ | ⟨g', off, cap, cur, rfl, hb, hh, _⟩
  · cases hg
  · have hg : g' = g := by simpa [Value.ownBlock] using hg
    subst hg
    exact ⟨hb, hh.lt, cur, hh⟩
theorem RRow.nil (w : World) (base : Nat) : RRow w base (.slice none 0 0) [] := ⟨⟨[], Row.nil _ _ _ _, rfl⟩, fun g o n h => by cases h⟩
theorem RRow.call {w w' : World} {base : Nat} {v : Value} {qs : List Rat} (h : RRow w base v qs) (hb : Below w.heap.size w w') : RRow w' base v qs := by
  obtain ⟨⟨xs, h1, h2⟩, h3⟩ := h
  refine ⟨⟨xs, h1.call hb, h2.kw (kw_below hb)⟩, fun g o n hg => ?_⟩
  rw [hb.cell (p := ⟨g, o, none⟩) (own_lt h1 hg).2.1]
  exact h3 g o n hg
theorem RRow.less {w : World} {base base' : Nat} {v : Value} {qs : List Rat} (h : RRow w base v qs) (hb : base' ≤ base) : RRow w base' v qs := by
  obtain ⟨⟨xs, h1, h2⟩, h3⟩ := h
  exact ⟨⟨xs, h1.less hb, h2⟩, h3⟩
/-- all blocks but some other one are as they were -/
theorem RRow.keep {w w' : World} {base : Nat} {v : Value} {qs : List Rat} (h : RRow w base v qs) (k : Kw w w') (hk : ∀ g, v.ownBlock = some g → w'.heap[g]? = w.heap[g]?) : RRow w' base v qs := by
  obtain ⟨⟨xs, h1, h2⟩, h3⟩ := h
  refine ⟨⟨xs, ⟨h1.1, h1.2.imp id ?_⟩, h2.kw k⟩, fun g o n hg => ?_⟩
  · rintro ⟨g, off, cap, cur, hv, hb, hh, r⟩
    exact ⟨g, off, cap, cur, hv, hb, (hk g (by rw [hv]; rfl)).trans hh, r⟩
  · rw [World.cell?_of_block (a := ⟨g, o, none⟩) (hk g hg)]
    exact h3 g o n hg
theorem RRow.val {w : World} {base : Nat} {v : Value} {qs : List Rat} (h : RRow w base v qs) : ∃ A c, v = .slice A qs.length c := by
  obtain ⟨⟨xs, h1, h2⟩, _⟩ := h
  exact h1.val
theorem RRow.rv {w : World} {base : Nat} {A : Option Addr} {n c : Nat} {qs : List Rat} (h : RRow w base (.slice A n c) qs) : RV w A n qs := by
  obtain ⟨⟨xs, h1, h2⟩, _⟩ := h
  have hn : n = qs.length := by
    obtain ⟨A', c', e⟩ := h1.val
    injection e
  subst hn
  exact ⟨xs, h1.reads, h2⟩
theorem RRow.lt {w : World} {base : Nat} {v : Value} {qs : List Rat} (h : RRow w base v qs) {g : Nat} (hg : v.ownBlock = some g) : base ≤ g ∧ g < w.heap.size := by
  obtain ⟨⟨xs, h1, _⟩, _⟩ := h
  obtain ⟨h1, h2, _⟩ := own_lt h1 hg
  exact ⟨h1, h2⟩
theorem RRow.blk {w : World} {base : Nat} {v : Value} {qs : List Rat} (h : RRow w base v qs) {g : Nat} (hg : v.ownBlock = some g) : ∃ cur, Blk w g ratT cur := by
  obtain ⟨⟨xs, h1, _⟩, _⟩ := h
  exact (own_lt h1 hg).2.2
theorem RtL.noWord {w : World} : ∀ {qs : List Rat} {xs : List Value}, RtL w xs qs → ∀ u ∈ xs, Proofs.YtfigffaghaaaoaaGreatDoor.noWord u ∧ u.oneCell' = true
  | [], xs, h, u, hu => by rw [h.nil_iff] at hu; cases hu
  | q :: qs, xs, h, u, hu => by
    obtain ⟨x0, x1, x2, x3, ys, rfl, h1, h2⟩ := h.cons
    obtain ⟨A, n, c, B, m, d, e, -, -⟩ := h1.form
    injection e with e
    obtain ⟨rfl, rfl, rfl, rfl⟩ : x0 = _ ∧ x1 = _ ∧ x2 = _ ∧ x3 = _ := by simpa using e
    simp only [List.mem_cons] at hu
    rcases hu with rfl | rfl | rfl | rfl | hu
    · exact ⟨noWord_bool _, rfl⟩
    · exact ⟨noWord_slice _ _ _, rfl⟩
    · exact ⟨noWord_bool _, rfl⟩
    · exact ⟨noWord_slice _ _ _, rfl⟩
    · exact RtL.noWord h2 u hu
abbrev zRat : Array Value := #[.bool false, .slice none 0 0, .bool false, .slice none 0 0]
theorem blk_noWord {w : World} {g : Nat} {t : TypeId} {cs : Array Value} (h : Blk w g t cs) (hn : ∀ u ∈ cs.toList, noWord u) (o : Nat) (n : Int) : w.cell? ⟨g, o, none⟩ ≠ some (U n) := by
  intro e
  rw [h.cell] at e
  have hm : U n ∈ cs := Array.mem_of_getElem? e
  exact hn _ (Array.mem_toList_iff.2 hm) n rfl
theorem noWord_of {w : World} {g : Nat} {t : TypeId} {cs : Array Value} (h : Blk w g t cs) (hn : ∀ o n, w.cell? ⟨g, o, none⟩ ≠ some (U n)) : ∀ u ∈ cs.toList, noWord u := by
  intro u hu x e
  obtain ⟨i, hi⟩ := List.mem_iff_getElem?.1 hu
  refine hn i x ?_
  rw [h.cell, e, ← Array.getElem?_toList]
  exact hi
/-! ### cells that are written -/
def put4 (w : World) (g o : Nat) (u0 u1 u2 u3 : Value) : World := (((w.setCell ⟨g, o, none⟩ u0).setCell ⟨g, o + 1, none⟩ u1).setCell ⟨g, o + 2, none⟩ u2).setCell ⟨g, o + 3, none⟩ u3
theorem put4_eq (w : World) (g o : Nat) (u0 u1 u2 u3 : Value) : (((w.setCell ⟨g, o, none⟩ u0).setCell ⟨g, o + 1, none⟩ u1).setCell ⟨g, o + 2, none⟩ u2).setCell ⟨g, o + 3, none⟩ u3 = put4 w g o u0 u1 u2 u3 := rfl
theorem put4_other (w : World) {g k : Nat} (o : Nat) (u0 u1 u2 u3 : Value) (h : k ≠ g) : (put4 w g o u0 u1 u2 u3).heap[k]? = w.heap[k]? := by
  unfold put4
  rw [Below.heap_setCell _ _ _ _ h, Below.heap_setCell _ _ _ _ h, Below.heap_setCell _ _ _ _ h, Below.heap_setCell _ _ _ _ h]
theorem kw_nw {w : World} {g : Nat} {t : TypeId} {cs : Array Value} (h : Blk w g t cs) (hn : ∀ u ∈ cs.toList, noWord u) (o : Nat) (u : Value) : Kw w (w.setCell ⟨g, o, none⟩ u) := by
  refine ⟨by simp [World.setCell], fun p n e => ?_⟩
  rw [World.cell?_setCell_other _ _ _ _ ?_]
  · exact e
  · rintro rfl
    exact blk_noWord h hn o n e
theorem all_set {cs : Array Value} (hn : ∀ u ∈ cs.toList, noWord u) (o : Nat) {x : Value} (hx : noWord x) : ∀ u ∈ (cs.setIfInBounds o x).toList, noWord u := by
  intro u hu
  rw [Array.toList_setIfInBounds] at hu
  rcases List.mem_or_eq_of_mem_set hu with h | h
  · exact hn u h
  · rw [h]; exact hx
theorem blk_put4 {w : World} {g : Nat} {t : TypeId} {xs : List Value} (h : Blk w g t xs.toArray) (k : Nat) (u0 u1 u2 u3 : Value) : Blk (put4 w g (k * 4) u0 u1 u2 u3) g t (set4L xs k u0 u1 u2 u3).toArray := by
  have h4 := (((h.set_ (k * 4) u0).set_ (k * 4 + 1) u1).set_ (k * 4 + 2) u2).set_ (k * 4 + 3) u3
  unfold put4 set4L
  simpa using h4
theorem kw_put4 {w : World} {g : Nat} {t : TypeId} {cs : Array Value} (h : Blk w g t cs) (hn : ∀ u ∈ cs.toList, noWord u) (o : Nat) {u0 u1 u2 u3 : Value} (h0 : noWord u0) (h1 : noWord u1) (h2 : noWord u2) : Kw w (put4 w g o u0 u1 u2 u3) := by
  have k0 := h.set_ o u0
  have n0 := all_set hn o h0
  have k1 := k0.set_ (o + 1) u1
  have n1 := all_set n0 (o + 1) h1
  have k2 := k1.set_ (o + 2) u2
  have n2 := all_set n1 (o + 2) h2
  exact (((kw_nw h hn o u0).trans (kw_nw k0 n0 (o + 1) u1)).trans (kw_nw k1 n1 (o + 2) u2)).trans (kw_nw k2 n2 (o + 3) u3)
theorem put4_blk {w : World} {g : Nat} {t : TypeId} {cs : Array Value} (h : Blk w g t cs) (hn : ∀ u ∈ cs.toList, noWord u) (o : Nat) {u0 u1 u2 u3 : Value} (h0 : noWord u0) (h1 : noWord u1) (h2 : noWord u2) (h3 : noWord u3) :
    ∃ cs', Blk (put4 w g o u0 u1 u2 u3) g t cs' ∧ ∀ u ∈ cs'.toList, noWord u :=
  ⟨_, (((h.set_ o u0).set_ (o + 1) u1).set_ (o + 2) u2).set_ (o + 3) u3, all_set (all_set (all_set (all_set hn o h0) _ h1) _ h2) _ h3⟩
theorem Rt.noW {w : World} {x0 x1 x2 x3 : Value} {q : Rat} (h : Rt w (.agg #[x0, x1, x2, x3]) q) : noWord x0 ∧ noWord x1 ∧ noWord x2 ∧ noWord x3 := by
  have h1 := (RtL.one h).noWord
  exact ⟨(h1 x0 (by simp)).1, (h1 x1 (by simp)).1, (h1 x2 (by simp)).1, (h1 x3 (by simp)).1⟩
theorem set4L_eq {xs : List Value} {k : Nat} (h : k * 4 + 4 ≤ xs.length) (u0 u1 u2 u3 : Value) : set4L xs k u0 u1 u2 u3 = xs.take (k * 4) ++ [u0, u1, u2, u3] ++ xs.drop (k * 4 + 4) := by
  obtain ⟨o0, h0⟩ : ∃ o, xs[k * 4]? = some o := ⟨_, List.getElem?_eq_getElem (by omega)⟩
  have hd : xs.drop (k * 4) = xs[k * 4]'(by omega) :: xs[k * 4 + 1]'(by omega) :: xs[k * 4 + 2]'(by omega) :: xs[k * 4 + 3]'(by omega) :: xs.drop (k * 4 + 4) := by
    rw [List.drop_eq_getElem_cons (by omega), List.drop_eq_getElem_cons (i := k * 4 + 1) (by omega), List.drop_eq_getElem_cons (i := k * 4 + 1 + 1) (by omega), List.drop_eq_getElem_cons (i := k * 4 + 1 + 1 + 1) (by omega)]
  have hl : (xs.take (k * 4)).length = k * 4 := by rw [List.length_take]; omega
  have e : xs = xs.take (k * 4) ++ (xs[k * 4]'(by omega) :: xs[k * 4 + 1]'(by omega) :: xs[k * 4 + 2]'(by omega) :: xs[k * 4 + 3]'(by omega) :: xs.drop (k * 4 + 4)) := by rw [← hd, List.take_append_drop]
  generalize xs.take (k * 4) = a at *
  generalize xs.drop (k * 4 + 4) = b at *
  generalize xs[k * 4]'(by omega) = c0 at *
  generalize xs[k * 4 + 1]'(by omega) = c1 at *
  generalize xs[k * 4 + 2]'(by omega) = c2 at *
  generalize xs[k * 4 + 3]'(by omega) = c3 at *
  subst e
  unfold set4L
  rw [← hl]
  simp
/-- a block that the call made, of which the first numbers are laid -/
structure Part (w : World) (g n : Nat) (qs : List Rat) (wr : World) : Prop where
  blk : ∃ xs : List Value, Blk wr g ratT xs.toArray ∧ xs.length = n * 4 ∧ (∀ u ∈ xs, noWord u) ∧ RtL wr (xs.take (qs.length * 4)) qs
  hn : qs.length ≤ n
  below : Below w.heap.size w wr
theorem Part.call {w : World} {g n : Nat} {qs : List Rat} {wr w' : World} (h : Part w g n qs wr) (hb : Below wr.heap.size wr w') : Part w g n qs w' := by
  obtain ⟨⟨xs, h1, h2, h3, h4⟩, hn, hbl⟩ := h
  exact ⟨⟨xs, h1.below hb h1.lt, h2, h3, h4.kw (kw_below hb)⟩, hn, hbl.trans (hb.mono hbl.size)⟩
theorem Part.cells {w : World} {g n : Nat} {qs : List Rat} {wr : World} (h : Part w g n qs wr) {k : Nat} (hk : k < n) : ∃ o0 o1 o2 o3, C4 wr g (k * 4) o0 o1 o2 o3 := by
  obtain ⟨⟨xs, h1, h2, h3, h4⟩, hn, hbl⟩ := h
  have e : ∀ j (hj : j < 4), wr.cell? ⟨g, k * 4 + j, none⟩ = some (xs[k * 4 + j]'(by omega)) := fun j hj => by
    rw [h1.cell]
    simp
  exact ⟨_, _, _, _, ⟨e 0 (by omega), e 1 (by omega), e 2 (by omega), e 3 (by omega)⟩⟩
theorem Part.frozen {w : World} {g n : Nat} {qs : List Rat} {wr : World} (h : Part w g n qs wr) (o : Nat) : wr.frozen? ⟨g, o, none⟩ = false := by
  obtain ⟨⟨xs, h1, _⟩, _, _⟩ := h
  exact h1.frozen o
theorem Part.put {w : World} {g n : Nat} {qs : List Rat} {wr : World} (h : Part w g n qs wr) (hlt : qs.length < n) (hg : w.heap.size ≤ g) {u0 u1 u2 u3 : Value} {r : Rat} (hr : Rt wr (.agg #[u0, u1, u2, u3]) r) :
    Part w g n (qs ++ [r]) (put4 wr g (qs.length * 4) u0 u1 u2 u3) := by
  obtain ⟨⟨xs, h1, h2, h3, h4⟩, hn, hbl⟩ := h
  obtain ⟨n0, n1, n2, n3⟩ := hr.noW
  have hk : Kw wr (put4 wr g (qs.length * 4) u0 u1 u2 u3) := kw_put4 h1 (by simpa using h3) _ n0 n1 n2
  have he := set4L_eq (xs := xs) (k := qs.length) (by omega) u0 u1 u2 u3
  have ht : (xs.take (qs.length * 4)).length = qs.length * 4 := by rw [List.length_take]; omega
  refine ⟨⟨set4L xs qs.length u0 u1 u2 u3, blk_put4 h1 _ _ _ _ _, ?_, fun u hu => ?_, ?_⟩, by simp; omega, ?_⟩
  · unfold set4L; simpa using h2
  · rw [he, List.mem_append, List.mem_append] at hu
    rcases hu with (hu | hu) | hu
    · exact h3 u (List.mem_of_mem_take hu)
    · simp only [List.mem_cons, List.not_mem_nil, or_false] at hu
      rcases hu with rfl | rfl | rfl | rfl <;> assumption
    · exact h3 u (List.mem_of_mem_drop hu)
  · rw [he, List.take_append_of_le_length (by simp; omega), List.take_of_length_le (by simp; omega)]
    exact (h4.kw hk).append (RtL.one (hr.kw hk))
  · exact (((hbl.setCell (p := ⟨g, _, none⟩) hg u0).setCell (p := ⟨g, _, none⟩) hg u1).setCell (p := ⟨g, _, none⟩) hg u2).setCell (p := ⟨g, _, none⟩) hg u3
theorem Part.row {w : World} {g n : Nat} {qs : List Rat} {wr : World} (h : Part w g n qs wr) (he : qs.length = n) (hg : w.heap.size ≤ g) (hm : n ≤ maxLen) : RRow wr w.heap.size (.slice (some ⟨g, 0, none⟩) n n) qs := by
  obtain ⟨⟨xs, h1, h2, h3, h4⟩, hn, hbl⟩ := h
  rw [List.take_of_length_le (by omega)] at h4
  refine ⟨⟨xs, ⟨by omega, .inr ⟨g, 0, n, _, by rw [he], hg, h1, by omega, hm, by simp; omega, ?_⟩⟩, h4⟩, fun g' o x hg' => ?_⟩
  · simp only [List.drop_zero]
    rw [List.take_of_length_le (by omega)]
  · have hg' : g = g' := by simpa [Value.ownBlock] using hg'
    subst hg'
    exact blk_noWord h1 (by simpa using h3) o x
/-! ### matrices that the call owns -/
abbrev rowT : TypeId := 59
section
variable {w w' : World} {base base' : Nat} {v : Value} {vs : List Value} {m : List (List Rat)}
end
theorem own_ne {w : World} {base sz n : Nat} {e : TypeId} {v : Value} {xs : List Value} (h : Row w base e sz v n xs) {b : Nat} {t : TypeId} {cs : Array Value} (hB : Blk w b t cs) (he : e ≠ t) : ∀ g, v.ownBlock = some g → g ≠ b := by
  intro g hg e'
  subst e'
  obtain ⟨_, _, cur, hC⟩ := own_lt h hg
  unfold Blk at hC hB
  rw [hC] at hB
  injection hB with hB
  injection hB with _ ht
  exact he ht
theorem Row.keepO {w w' : World} {base sz n : Nat} {e : TypeId} {v : Value} {xs : List Value} (h : Row w base e sz v n xs) (hk : ∀ g, v.ownBlock = some g → w'.heap[g]? = w.heap[g]?) : Row w' base e sz v n xs := by
  refine ⟨h.1, h.2.imp id ?_⟩
  rintro ⟨g, off, cap, cur, hv, hb, hh, r⟩
  exact ⟨g, off, cap, cur, hv, hb, (hk g (by rw [hv]; rfl)).trans hh, r⟩
end Go.Proofs.YtfigffaghaaaoaaGreatDoor
namespace Go.Proofs.YtfigffaghaaaoaaGreatDoor
open Go.RowKit

theorem info_rat : (Tryz.prog.info? ratT).map (fun i => (i.zero, i.size, i.bytes)) = some (some (.agg zRat), 4, 64) := by kernel_rfl
theorem made_noWord (n : Nat) : ∀ u ∈ (madeCells zRat n).toList, noWord u := by
  intro u hu
  unfold madeCells at hu
  rw [Array.toList_map, List.mem_map] at hu
  obtain ⟨i, _, rfl⟩ := hu
  have h4 : i % 4 < 4 := Nat.mod_lt _ (by decide)
  show noWord (zRat[i % 4]!)
  generalize i % 4 = j at h4
  match j, h4 with
  | 0, _ => exact noWord_bool _
  | 1, _ => exact noWord_slice _ _ _
  | 2, _ => exact noWord_bool _
  | 3, _ => exact noWord_slice _ _ _
theorem make_rat (n : Nat) (hn : n ≤ 1099511627776) (W : World) :
    (Instr.makeSlice rowT (.int .i64 (n : Int)) (.int .i64 (n : Int))).run Tryz.prog W = .ok (.slice (some ⟨W.heap.size, 0, none⟩) n n) (W.alloc (.cells (madeCells zRat (n * 4)) ratT)) := by
  obtain ⟨i, hi, hz0, hz1, hz2⟩ := info_parts info_rat
  have := run_make (P := Tryz.prog) W rowT ratT i _ Tryz.underlying59 hi hz0 .i64 .i64 n n (by omega) (by omega) (by rw [hz2]; omega) (by omega)
  rw [this, Int.toNat_natCast, hz1]
  rfl
theorem Part.start (w : World) (n : Nat) : Part w w.heap.size n [] (w.alloc (.cells (madeCells zRat (n * 4)) ratT)) :=
  ⟨⟨(madeCells zRat (n * 4)).toList, by rw [Array.toArray_toList]; exact Blk.new _ _ _, by simp [size_madeCells], made_noWord _, rfl⟩, Nat.zero_le _, (Below.refl _ _).alloc (Nat.le_refl _) _⟩
/-- a call that returns a slice of numbers of its own -/
def RetV (w : World) (qs : List Rat) (e : Ending) (w' : World) : Prop := ∃ v, e = .returned v ∧ RRow w' w.heap.size v qs ∧ Below w.heap.size w w'
def Val1 (l : List ByteArray) : Prop := ∀ s ∈ l, rchk (SL s) = 0
end Go.Proofs.YtfigffaghaaaoaaGreatDoor
namespace Go.Proofs.YtfigffaghaaaoaaGreatDoor
open Go.RowKit

abbrev strT : TypeId := 53
theorem info_str : (Tryz.prog.info? strT).map (fun i => (i.zero, i.size, i.bytes)) = some (some (.string ⟨#[]⟩), 1, 16) := by kernel_rfl
theorem made_str (n : Nat) : madeCells (Value.string ⟨#[]⟩).cells (n * 1) = Array.replicate n (Value.string ⟨#[]⟩) := by
  apply Array.ext
  · simp [size_madeCells]
  · intro i h1 h2
    simp [madeCells, Value.cells, Nat.mod_one]
end Go.Proofs.YtfigffaghaaaoaaGreatDoor
namespace Go.Proofs.YtfigffaghaaaoaaGreatDoor
open Go.RowKit

/-! ### lists that are laid from the left -/
/-! ### matrices that are read -/
end Go.Proofs.YtfigffaghaaaoaaGreatDoor
