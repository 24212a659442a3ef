/- The names that netmodel.Check has seen: a map of bools that the call makes. -/
import Derived.Test.YtglbelmljdgaoaaGreatDoorBranch
import Derived.Maps.Own
import Derived.Maps.OwnOps
import Derived.Maps.Views
namespace Go.Proofs.YtglbelmljdgaoaaGreatDoor
open Go.RowKit Go.Maps

theorem keyedS : Keyed Tryz.prog 9 := string_keyed Tryz.underlying9
theorem zero4 (w : World) : (zeroValue 4).run Tryz.prog w = .ok (.bool false) w := by kernel_rfl

def SeenMap (w : World) (b : Nat) (ss : List ByteArray) : Prop :=
  ∃ D : DataW Unit, w.ownsMap Tryz.prog 9 (plainElem Tryz.prog 4) b ss.length D ∧ IsMap D ∧ ∀ s : ByteArray, D.atKey (.string s.data.toList) (.lit (.bool false)) = .lit (.bool (Lib.containsS ss s))

theorem containsS_cons (x : ByteArray) (l : List ByteArray) (s : ByteArray) : Lib.containsS (x :: l) s = (decide (s = x) || Lib.containsS l s) := by
  rw [Bool.eq_iff_iff, Lib.containsS_iff, Bool.or_eq_true, Lib.containsS_iff, decide_eq_true_eq, List.mem_cons]

theorem SeenMap.made (w : World) : SeenMap (w.alloc (.map #[] 0)) w.heap.size [] := ⟨.map [], World.ownsMap_made w _ _ _, ⟨_, rfl⟩, fun s => by simp [DataW.atKey, Lib.containsS, Lib.idxOfS, Lib.idxFromS]⟩
theorem plainBool_inv' {P : Program} {e : TypeId} (he : P.underlying e = some .bool) {v : Value} {z : DataW Unit × List MemPlace} (h : plainElem P e v = some z) : ∃ x, v = .bool x ∧ z = (.lit (.bool x), []) := by
  unfold plainElem at h
  rw [he] at h
  cases v <;> simp at h
  subst h
  exact ⟨_, rfl, rfl⟩
theorem SeenMap.lookup {w : World} {b : Nat} {ss : List ByteArray} (h : SeenMap w b ss) (s : ByteArray) (hs : s.size ≤ maxLen) :
    (Instr.lookup 69 (.map (some b)) (.string s) false).run Tryz.prog w = .ok (.bool (Lib.containsS ss s)) w := by
  obtain ⟨D, h1, h2, h3⟩ := h
  obtain ⟨v, ps, hrun, hv⟩ := h1.lookup keyedS Tryz.underlying69 (zero4 w) (plainElem_bool Tryz.underlying4 false) (WideMaps.keyOf_string_mk Tryz.underlying9 hs)
  obtain ⟨x, rfl, hx⟩ := plainBool_inv' Tryz.underlying4 hv
  rw [h3 s] at hx
  simp at hx
  rw [hrun, hx.1]
theorem bytes_inj {a b : ByteArray} (h : a.data.toList = b.data.toList) : a = b := ByteArray.ext (Array.toList_inj.mp h)
theorem SeenMap.update {w : World} {b : Nat} {ss : List ByteArray} (h : SeenMap w b ss) (s : ByteArray) (hs : s.size ≤ maxLen) (hn : ss.length < 1000000) :
    ∃ w', (Instr.mapUpdate 69 (.map (some b)) (.string s) (.bool true)).run Tryz.prog w = .ok () w' ∧ SeenMap w' b (s :: ss) ∧ w.grownBy w' (some b) := by
  obtain ⟨D, h1, h2, h3⟩ := h
  obtain ⟨w', hrun, g1, g2⟩ := h1.update keyedS Tryz.underlying69 (by unfold maxLen; omega) (WideMaps.keyOf_string_mk Tryz.underlying9 hs) (plainElem_bool Tryz.underlying4 true)
  refine ⟨w', hrun, ⟨_, g1, h2.put _ _, fun x => ?_⟩, g2⟩
  rw [containsS_cons]
  by_cases e : x = s
  · subst e
    rw [atKey_put_same (k := .string x.data.toList) h2 (by simp [WideAt.IsKeyLit])]
    simp
  · rw [atKey_put_other (fun h => e (bytes_inj (by injection h))), h3 x]
    simp [e]
theorem SeenMap.ext {w w' : World} {b : Nat} {ss : List ByteArray} (h : SeenMap w b ss) (hb : Below w.heap.size w w') : SeenMap w' b ss := by
  obtain ⟨D, h1, h2⟩ := h
  refine ⟨D, ?_, h2⟩
  obtain ⟨es, clock, e1, e2⟩ := h1
  exact ⟨es, clock, (hb.block b (Array.getElem?_eq_some_iff.1 e1).1).trans e1, e2⟩
/-- a block that has cells is not the map's -/
theorem SeenMap.ne {w : World} {b : Nat} {ss : List ByteArray} (h : SeenMap w b ss) {g o : Nat} {v : Value} (hc : w.cell? ⟨g, o, none⟩ = some v) : g ≠ b := by
  rintro rfl
  obtain ⟨D, ⟨es, clock, e1, _⟩, _⟩ := h
  simp [World.cell?, e1] at hc
theorem SeenMap.reads {w w' : World} {b : Nat} {ss : List ByteArray} (h : SeenMap w b ss) (hg : w.grownBy w' (some b)) {sz n : Nat} {A : Option Addr} {xs : List Value} (hr : Reads w w.heap.size sz A n xs) : Reads w' w'.heap.size sz A n xs := by
  refine ⟨hr.1, fun hn => ?_⟩
  obtain ⟨g, off, e, hb, hc⟩ := hr.2 hn
  refine ⟨g, off, e, Nat.lt_of_lt_of_le hb hg.size, fun j u hu => ?_⟩
  have h1 := hc j u hu
  exact hg.cell h1 (fun e => h.ne h1 (by injection e))
theorem SeenMap.lt {w : World} {b : Nat} {ss : List ByteArray} (h : SeenMap w b ss) : b < w.heap.size := by
  obtain ⟨D, h1, _⟩ := h
  exact h1.lt
end Go.Proofs.YtglbelmljdgaoaaGreatDoor
