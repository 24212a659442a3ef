/- The follower's Set. -/
import Derived.Test.YtglbelmljdgaoaaGreatDoorFoll
import Derived.Test.YtglbelmljdgaoaaGreatDoorFact
import Derived.Deep.DeepCutAuto
import Derived.Deep.QuietTactic
import Derived.BigQuiet
namespace Go.Proofs.YtglbelmljdgaoaaGreatDoor
open Go.RowKit

theorem modify_map {β : Type} (f : SwitchD → β) (o : Bool) (hf : ∀ s, f (setOpn o s) = f s) : ∀ (l : List SwitchD) (i : Nat), (l.modify i (setOpn o)).map f = l.map f
  | [], i => by simp
  | x :: l, 0 => by simp [hf]
  | x :: l, i + 1 => by simp [List.modify_succ_cons, modify_map f o hf l i]
theorem items_set (n : NetD) (i : Nat) (o : Bool) : (setSw n i o).items = n.items := by
  simp only [NetD.items, setSw]
  rw [modify_map (fun s : SwitchD => (s.name, [s.a, s.b], true)) o (fun s => rfl)]
theorem checkN_set (n : NetD) (i : Nat) (o : Bool) : checkN (setSw n i o) = checkN n := by
  rw [checkN, checkN, items_set]
  simp [setSw]

theorem isl_le {n : NetD} (h : VNet n) : (islandsL n).length ≤ 24 := by
  have hm := many_range (l := busesL n) (N := 24) (by omega) (by
    intro x hx
    obtain ⟨i, hi, rfl⟩ := List.getElem_of_mem hx
    have hl := buses_len h
    have := bus_range h i (by omega) (by omega)
    have hn := h.hn
    simp only [at_, Int.toNat_natCast, List.getD_eq_getElem?_getD, List.getElem?_eq_getElem hi, Option.getD_some] at this
    omega)
  rw [islandsL, guardE]
  split
  · simp only [parts_len]; omega
  · simp
theorem bus_le {n : NetD} (h : VNet n) : (busesL n).length ≤ 24 := by rw [buses_len h]; exact h.hn
theorem Reads.drewN {w : World} {B sz n : Nat} {A : Option Addr} {xs : List Value} (h : Reads w B sz A n xs) (q : Nat) : Reads (w.drewN q) B sz A n xs := h.keep fun _ _ => rfl

theorem Row.ne_blk {w : World} {base : Nat} {e t : TypeId} {sz n g : Nat} {v : Value} {xs : List Value} {cs : Array Value} (h : Row w base e sz v n xs) (hB : Blk w g t cs) (hne : e ≠ t) : ∀ b, v.ownBlock = some b → b ≠ g := by
  intro b hb he
  rcases h.2 with ⟨hv, _⟩ | ⟨b', off', cap', cur', hv, _, hh', _⟩
  · rw [hv] at hb; simp [Value.ownBlock] at hb
  · rw [hv] at hb
    simp [Value.ownBlock] at hb
    subst hb he
    unfold Blk at hB hh'
    rw [hB] at hh'
    injection hh' with hh'
    injection hh' with _ hh'
    exact hne hh'.symm
theorem Reads.set_slice {w : World} {B sz n : Nat} {A : Option Addr} {xs : List Value} (h : Reads w B sz A n xs) (hk : ∀ u ∈ xs, notSlice u) {p : Addr} {a : Option Addr} {m c : Nat} (hp : w.cell? p = some (.slice a m c)) (u : Value) : Reads (w.setCell p u) B sz A n xs := by
  refine ⟨h.1, fun hn => ?_⟩
  obtain ⟨b, off, e, hb, hc⟩ := h.2 hn
  refine ⟨b, off, e, hb, fun j x hx => ?_⟩
  have h1 := hc j x hx
  rw [World.cell?_setCell_other _ _ _ _ ?_]
  · exact h1
  · rintro rfl
    rw [h1] at hp
    injection hp with hp
    exact hk x (List.mem_of_getElem? hx) a m c hp
theorem NetIn.set_slice {w : World} {n : NetD} {v : NetV} (h : NetIn w n v) {p : Addr} {a : Option Addr} {m c : Nat} (hp : w.cell? p = some (.slice a m c)) (u : Value) : NetIn (w.setCell p u) n v := by
  have hz : (w.setCell p u).heap.size = w.heap.size := by simp [World.setCell]
  exact ⟨by rw [hz]; exact h.nodes.set_slice (nsS _) hp _, by rw [hz]; exact h.switches.set_slice (nsSwitch _) hp _, by rw [hz]; exact h.branches.set_slice (nsBranch _) hp _, by rw [hz]; exact h.gens.set_slice (nsGen _) hp _, by rw [hz]; exact h.loads.set_slice (nsLoad _) hp _, by rw [hz]; exact h.stores.set_slice (nsStore _) hp _⟩
/-- what the follower's Set changes: the cell q (a bool), its own block g, and blocks of its own -/
def FsCh (w : World) (g : Nat) (A : Option Addr) (w' : World) : Prop :=
  w.heap.size ≤ w'.heap.size ∧ ∃ q y, w.cell? q = some (.bool y) ∧ (∀ b off, A = some ⟨b, off, none⟩ → q.block = b) ∧ (∀ p : Addr, p.block < w.heap.size → p.block ≠ g → p ≠ q → w'.cell? p = w.cell? p) ∧ ∀ k, k < w.heap.size → k ≠ g → k ≠ q.block → w'.heap[k]? = w.heap[k]?
theorem FsCh.one {w w1 : World} {g : Nat} {A : Option Addr} {q : Addr} {y : Bool} (u : Value) (hb : Below w.heap.size w w1) (hq : w.cell? q = some (.bool y)) (hA : ∀ b off, A = some ⟨b, off, none⟩ → q.block = b) : FsCh w g A (w1.setCell q u) := by
  refine ⟨by simpa [World.setCell] using hb.size, q, y, hq, hA, fun p hp _ hn => ?_, fun k hk _ hn => (Below.heap_setCell _ q _ _ hn).trans (hb.block k hk)⟩
  rw [World.cell?_setCell_other _ _ _ _ (by first | exact hn | exact Ne.symm hn)]
  exact hb.cell hp
theorem FsCh.call {w w1 w2 : World} {g : Nat} {A : Option Addr} (h : FsCh w g A w1) (hb : Below w1.heap.size w1 w2) : FsCh w g A w2 := by
  obtain ⟨hs, q, y, hq, hA, hc, hh⟩ := h
  exact ⟨Nat.le_trans hs hb.size, q, y, hq, hA, fun p hp hg hn => (hb.cell (Nat.lt_of_lt_of_le hp hs)).trans (hc p hp hg hn), fun k hk hg hn => (hb.block k (Nat.lt_of_lt_of_le hk hs)).trans (hh k hk hg hn)⟩
theorem FsCh.own {w w1 : World} {g : Nat} {A : Option Addr} (h : FsCh w g A w1) (o : Nat) (u : Value) : FsCh w g A (w1.setCell ⟨g, o, none⟩ u) := by
  obtain ⟨hs, q, y, hq, hA, hc, hh⟩ := h
  refine ⟨by simpa [World.setCell] using hs, q, y, hq, hA, fun p hp hg hn => ?_, fun k hk hg hn => (Below.heap_setCell _ ⟨g, o, none⟩ _ _ hg).trans (hh k hk hg hn)⟩
  have hp' : p ≠ ⟨g, o, none⟩ := by rintro rfl; exact hg rfl
  rw [World.cell?_setCell_other _ _ _ _ (by first | exact hp' | exact Ne.symm hp')]
  exact hc p hp hg hn
theorem FsCh.drewN {w w1 : World} {g : Nat} {A : Option Addr} (h : FsCh w g A w1) (k : Nat) : FsCh w g A (w1.drewN k) := h
/-- what lies apart from the cell and the block is kept -/
theorem Reads.fsch {w w' : World} {g sz n : Nat} {A B : Option Addr} {xs : List Value} {ds : Array Value} {T : TypeId} (h : Reads w w.heap.size sz B n xs) (hc : FsCh w g A w') (hg : Blk w g T ds) (hd : ∀ (i : Nat) u, ds[i]? = some u → ∃ a n c, u = .slice a n c) (hk : ∀ u ∈ xs, notSlice u)
    (hb : (∀ u ∈ xs, notBool u) ∨ (∀ b off c off', B = some ⟨b, off, none⟩ → A = some ⟨c, off', none⟩ → b ≠ c) ∧ ∃ c off', A = some ⟨c, off', none⟩) : Reads w' w'.heap.size sz B n xs := by
  obtain ⟨hs, q, y, hq, hA, hcc, _⟩ := hc
  refine ⟨h.1, fun hn => ?_⟩
  obtain ⟨b, off, e, hlt, hr⟩ := h.2 hn
  refine ⟨b, off, e, Nat.lt_of_lt_of_le hlt hs, fun j x hx => ?_⟩
  have h1 := hr j x hx
  rw [hcc ⟨b, off + j, none⟩ hlt ?_ ?_]
  · exact h1
  · rintro rfl
    rw [hg.cell] at h1
    obtain ⟨a, m, c, rfl⟩ := hd _ _ h1
    exact hk _ (List.mem_of_getElem? hx) a m c rfl
  · rintro rfl
    rcases hb with hb | ⟨hb, c, off', hc⟩
    · rw [h1] at hq
      injection hq with hq
      exact hb x (List.mem_of_getElem? hx) y hq
    · exact hb b off c off' e hc (hA c off' hc)
end Go.Proofs.YtglbelmljdgaoaaGreatDoor
