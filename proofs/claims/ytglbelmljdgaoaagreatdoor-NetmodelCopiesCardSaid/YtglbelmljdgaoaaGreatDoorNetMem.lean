/- Networks in memory. -/
import Derived.Test.YtglbelmljdgaoaaGreatDoorDevice
namespace Go.Proofs.YtglbelmljdgaoaaGreatDoor
open Go.RowKit

/-- the cells of a list of structs -/
def cellsBy {α : Type} (f : α → List Value) (l : List α) : List Value := l.flatMap f
theorem cellsBy_len {α : Type} {f : α → List Value} {sz : Nat} (hf : ∀ x, (f x).length = sz) (l : List α) : (cellsBy f l).length = l.length * sz := by
  induction l with
  | nil => simp [cellsBy]
  | cons x l ih =>
    simp only [cellsBy, List.flatMap_cons, List.length_append, List.length_cons, hf] at ih ⊢
    rw [ih, Nat.add_mul]; omega
theorem cellsBy_at {α : Type} {f : α → List Value} {sz : Nat} (hf : ∀ x, (f x).length = sz) (l : List α) (k : Nat) (x : α) (h : l[k]? = some x) (j : Nat) (hj : j < sz) : (cellsBy f l)[k * sz + j]? = (f x)[j]? := by
  induction l generalizing k with
  | nil => simp at h
  | cons y l ih =>
    cases k with
    | zero =>
      simp at h; subst h
      simp only [cellsBy, List.flatMap_cons]
      rw [List.getElem?_append_left (by rw [hf]; omega)]
      congr 1; omega
    | succ k =>
      have := ih k (by simpa using h)
      simp only [cellsBy, List.flatMap_cons] at this ⊢
      rw [List.getElem?_append_right (by rw [hf, Nat.add_mul]; omega), hf, ← this]
      congr 1
      rw [Nat.add_mul]; omega
theorem reads_by {α : Type} {f : α → List Value} {sz : Nat} (hf : ∀ x, (f x).length = sz) (hz : 0 < sz) {w : World} {B : Nat} {A : Option Addr} {l : List α} {n : Nat} (h : Reads w B sz A n (cellsBy f l)) {k : Nat} (hk : k < l.length) :
    ∃ b off, A = some ⟨b, off, none⟩ ∧ b < B ∧ ∀ j u, (f l[k])[j]? = some u → w.cell? ⟨b, off + (k * sz + j), none⟩ = some u := by
  have hl : l.length * sz = n * sz := by rw [← cellsBy_len hf l, h.1]
  have hn : 0 < n := by
    rcases Nat.eq_zero_or_pos n with h0 | h0
    · subst h0
      have : 0 < l.length * sz := Nat.mul_pos (by omega) hz
      omega
    · exact h0
  obtain ⟨b, off, e, hb, hc⟩ := h.2 hn
  refine ⟨b, off, e, hb, fun j u hu => hc _ u ?_⟩
  have hj : j < sz := by have := (List.getElem?_eq_some_iff.1 hu).1; rw [hf] at this; exact this
  rw [cellsBy_at hf l k l[k] (by simp [hk]) j hj]
  exact hu

def SwitchD.cells (s : SwitchD) : List Value := [.string s.name, .string s.a, .string s.b, .bool s.breaker, .bool s.opn]
def BranchD.cells (b : BranchD) : List Value := [.string b.name, .string b.src, .string b.dst, I b.x, I b.tap, I b.shift, I b.limit, I b.short, I b.hold]
def GenD.cells (g : GenD) : List Value := [.string g.name, .string g.node, I g.least, I g.most, I g.ramp]
def LoadD.cells (l : LoadD) : List Value := [.string l.name, .string l.node, I l.demand]
def StoreD.cells (s : StoreD) : List Value := [.string s.name, .string s.node, I s.charge, I s.discharge, I s.capacity]

/-- where the six slices of a network lie -/
structure NetV where
  na : Option Addr
  nc : Nat
  sa : Option Addr
  sc : Nat
  ba : Option Addr
  bc : Nat
  ga : Option Addr
  gc : Nat
  la : Option Addr
  lc : Nat
  ta : Option Addr
  tc : Nat
def NetV.parts (v : NetV) (n : NetD) : Array Value := #[.slice v.na n.nodes.length v.nc, .slice v.sa n.switches.length v.sc, .slice v.ba n.branches.length v.bc, .slice v.ga n.gens.length v.gc, .slice v.la n.loads.length v.lc, .slice v.ta n.stores.length v.tc]
def NetV.val (v : NetV) (n : NetD) : Value := .agg (v.parts n)
/-- the strings of a network have a size -/
structure NetOk (n : NetD) : Prop where
  nodes : ∀ s ∈ n.nodes, s.size ≤ 9223372036854775807
  switches : ∀ s ∈ n.switches, s.name.size ≤ 9223372036854775807 ∧ s.a.size ≤ 9223372036854775807 ∧ s.b.size ≤ 9223372036854775807
  branches : ∀ s ∈ n.branches, s.name.size ≤ 9223372036854775807 ∧ s.src.size ≤ 9223372036854775807 ∧ s.dst.size ≤ 9223372036854775807
  gens : ∀ s ∈ n.gens, s.name.size ≤ 9223372036854775807 ∧ s.node.size ≤ 9223372036854775807
  loads : ∀ s ∈ n.loads, s.name.size ≤ 9223372036854775807 ∧ s.node.size ≤ 9223372036854775807
  stores : ∀ s ∈ n.stores, s.name.size ≤ 9223372036854775807 ∧ s.node.size ≤ 9223372036854775807
/-- a network that is read -/
structure NetIn (w : World) (n : NetD) (v : NetV) : Prop where
  nodes : Reads w w.heap.size 1 v.na n.nodes.length (n.nodes.map S)
  switches : Reads w w.heap.size 5 v.sa n.switches.length (cellsBy SwitchD.cells n.switches)
  branches : Reads w w.heap.size 9 v.ba n.branches.length (cellsBy BranchD.cells n.branches)
  gens : Reads w w.heap.size 5 v.ga n.gens.length (cellsBy GenD.cells n.gens)
  loads : Reads w w.heap.size 3 v.la n.loads.length (cellsBy LoadD.cells n.loads)
  stores : Reads w w.heap.size 5 v.ta n.stores.length (cellsBy StoreD.cells n.stores)
theorem NetIn.below {w w' : World} {n : NetD} {v : NetV} (h : NetIn w n v) (hb : Below w.heap.size w w') : NetIn w' n v :=
  ⟨(h.nodes.below hb).more hb.size, (h.switches.below hb).more hb.size, (h.branches.below hb).more hb.size, (h.gens.below hb).more hb.size, (h.loads.below hb).more hb.size, (h.stores.below hb).more hb.size⟩
theorem NetIn.seen {w w' : World} {n : NetD} {v : NetV} {b : Nat} {ss : List ByteArray} (h : NetIn w n v) (hs : SeenMap w b ss) (hg : w.grownBy w' (some b)) : NetIn w' n v :=
  ⟨hs.reads hg h.nodes, hs.reads hg h.switches, hs.reads hg h.branches, hs.reads hg h.gens, hs.reads hg h.loads, hs.reads hg h.stores⟩
end Go.Proofs.YtglbelmljdgaoaaGreatDoor
