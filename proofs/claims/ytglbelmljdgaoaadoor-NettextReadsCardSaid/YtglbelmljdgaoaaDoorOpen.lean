/- The arguments of the graph laws, opened: an int, a slice of pairs. -/
import Derived.Test.YtglbelmljdgaoaaDoorTree
import Derived.ProofKit
import Derived.OpenShut
import Derived.Deep.Slices
import Derived.ChangeOld
namespace Go.Proofs.YtglbelmljdgaoaaDoor
open Go.ChangeShapes Go.WideShapes Go.ChangeAt Go.RowKit Go.Deep

theorem own : ownKnob Tryd.prog.godebug = none := by kernel_rfl
theorem laidOut : laidOutB Tryd.prog = true := by kernel_rfl
theorem cells3 : Tryd.prog.cellsOf 3 = 1 := by kernel_rfl
theorem cells32 : Tryd.prog.cellsOf 105 = 2 := by kernel_rfl

theorem add0 (a : Addr) : a.add 0 = a := by simp [Addr.add]
set_option maxRecDepth 100000 in
theorem open_pair {H : Type} {enc : TypeId × Value → H} {W : World} {a : Addr} {n : Nat} {y : DataW H × List MemPlace} {cs : List Value} (h1 : W.cells? 0 a 2 = some cs)
    (h2 : DataW.trod enc Tryd.prog W 0 (fun _ => true) true n 105 cs = some y) : ∃ x : Int × Int, W.cell? a = some (I x.1) ∧ W.cell? (a.add 1) = some (I x.2) := by
  obtain ⟨_, hl, hc⟩ := World.cells?_some h1
  obtain ⟨xs, m, _, _, _, hxl, hx⟩ := DataW.trod_array Tryd.underlying105 h2
  have e0 := hx 0 (by omega)
  have e1 := hx 1 (by omega)
  have c0 := hc 0 (by omega)
  have c1 := hc 1 (by omega)
  clear hx hc h1 h2
  rw [cells3] at e0 e1
  obtain ⟨u0, u1, rfl⟩ : ∃ u0 u1, cs = [u0, u1] := by
    match cs, hl with
    | [u0, u1], _ => exact ⟨u0, u1, rfl⟩
  obtain ⟨y0, y1, rfl⟩ : ∃ y0 y1, xs = [y0, y1] := by
    match xs, hxl with
    | [y0, y1], _ => exact ⟨y0, y1, rfl⟩
  · 
    simp at e0 e1 c0 c1
    obtain ⟨z0, i0, _, _⟩ := DataW.trod_int Tryd.underlying3 e0
    obtain ⟨z1, i1, _, _⟩ := DataW.trod_int Tryd.underlying3 e1
    simp at i0 i1
    subst i0 i1
    refine ⟨(z0, z1), ?_, c1⟩
    rw [← add0 a]; exact c0

theorem open_edges {H : Type} {enc : TypeId × Value → H} {W : World} {A : Option Addr} {len cap : Nat} {d : DataW H} {p : List MemPlace} (h : DataW.Trod enc Tryd.prog W 0 (fun _ => true) true 104 (.slice A len cap) d p) :
    ∃ l : List (Int × Int), l.length = len ∧ Reads W W.heap.size 2 A l.length (cells2 l) ∧ l.length ≤ 9223372036854775807 ∧ l.length ≤ cap := by
  obtain ⟨fuel, hf⟩ := h
  rcases open_slice Tryd.underlying104 hf with ⟨hcs, _⟩ | ⟨a, len', cap', m, n, D, Pl, hcs, _, hl, hm, hmm, _, hi⟩
  · simp [Value.cells] at hcs
    obtain ⟨rfl, rfl, rfl⟩ := hcs
    exact ⟨[], rfl, Reads.nil, by simp, by simp⟩
  · simp [Value.cells] at hcs
    obtain ⟨rfl, rfl, rfl⟩ := hcs
    simp at hmm
    subst hmm
    rw [cells32] at hi
    have each : ∀ i, i < m → ∃ x : Int × Int, W.cell? (a.add (i * 2)) = some (I x.1) ∧ W.cell? ((a.add (i * 2)).add 1) = some (I x.2) := by
      intro i him
      obtain ⟨cs', g1, g2⟩ := hi i him
      exact open_pair g1 g2
    obtain ⟨f, hf⟩ := choose_lt each
    refine ⟨(List.range len).map f, by simp, ?_, by unfold maxLen at hm; simp only [List.length_map, List.length_range]; omega, by simpa using hl⟩
    refine ⟨cells2_len _, fun h0 => ?_⟩
    obtain ⟨b, off, spot⟩ := a
    have hc0 := (hf 0 (by simp only [List.length_map, List.length_range] at h0; omega)).1
    have hspot : spot = none := by simpa [Addr.add] using World.cell?_spot hc0
    subst hspot
    refine ⟨b, off, rfl, by have := World.block_lt_of_cell? _ _ hc0; rwa [Addr.add_lit] at this, fun j u hu => ?_⟩
    have hj : j < len * 2 := by
      have := (List.getElem?_eq_some_iff.1 hu).1
      rw [cells2_len] at this
      simpa using this
    have hk : j / 2 < len := by omega
    have hx := cells2_at ((List.range len).map f) (j / 2) (f (j / 2)) (by simp [hk])
    have hcell := hf (j / 2) (by omega)
    rw [add_add, Addr.add_lit, Addr.add_lit] at hcell
    rcases Nat.mod_two_eq_zero_or_one j with h2 | h2
    · have e : j / 2 * 2 = j := by omega
      rw [e] at hx hcell
      rw [hx.1] at hu
      injection hu with hu
      rw [← hu]; exact hcell.1
    · have e : j / 2 * 2 + 1 = j := by omega
      rw [e] at hx hcell
      rw [hx.2] at hu
      injection hu with hu
      rw [← hu]; exact hcell.2
theorem bounds64 {x : Int} (h : (Lit.int .i64 x).wf = true) : -9223372036854775808 ≤ x ∧ x ≤ 9223372036854775807 := bounds_i64 h
end Go.Proofs.YtglbelmljdgaoaaDoor
