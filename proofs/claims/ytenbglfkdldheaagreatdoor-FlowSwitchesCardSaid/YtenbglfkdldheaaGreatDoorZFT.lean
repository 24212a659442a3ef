/- slices.Clone at ints; rows of ints, number by number. -/
import Derived.Test.YtenbglfkdldheaaGreatDoorZFO
namespace Go.Proofs.YtenbglfkdldheaaGreatDoor
open Go.RowKit
theorem cloneI_any (l : List Int) (n : Nat) (A : Option Addr) (c : Nat) (w : World) (h : Reads w w.heap.size 1 A n (l.map I)) (h0 : 0 < n) (hn : n ≤ 1000) : Calls Tryz.prog 39 #[.slice A n c] w fun e w' => ∃ b o k, e = .returned (.slice (some ⟨b, o, none⟩) n k) ∧ Row w' w.heap.size 3 1 (.slice (some ⟨b, o, none⟩) n k) n (l.map I) ∧ Below w.heap.size w w' := by
 have hl : l.length = n := by have := h.1; simpa using this
 obtain ⟨b, off, rfl, _, hc⟩ := h.2 (by omega)
 refine (Tryz.slices_Clone_int b off n c l w (by omega) (by omega) fun j hj => ?_).mono fun e w' hh => ?_
 ·refine hc j _ ?_
  rw [List.getElem?_map, gE hj, gD, gE hj]
  rfl
 ·obtain ⟨v', he, ho, hne, hb⟩ := hh
  have hr := Row.of_own ho
  rw [List.take_of_length_le (by omega)] at hr
  rcases hr.2 with ⟨hv, _⟩ | ⟨g, o, cap, cur, hv, _⟩
  ·exact absurd hv hne
  ·subst hv
   exact ⟨g, o, cap, he, hr, hb⟩
theorem reads_getI {w : World} {B n : Nat} {A : Option Addr} {l : List Int} (h : Reads w B 1 A n (l.map I)) {k : Nat} (hk : k < n) : ∃ b o, A = some ⟨b, o, none⟩ ∧ w.cell? ⟨b, o + k, none⟩ = some (I (l.getD k 0)) := by
 obtain ⟨b, o, u, e, _, hu, hc⟩ := h.at1 hk
 refine ⟨b, o, e, ?_⟩
 rw [hc, ← hu, List.getElem?_map, gD]
 cases e2 : l[k]? with
 | none => rw [List.getElem?_map, e2] at hu; cases hu
 | some z => rfl
theorem row_setI {w : World} {base g off cap k : Nat} {l : List Int} {n : Nat} {z : Int} (h : Row w base 3 1 (.slice (some ⟨g, off, none⟩) n cap) n (l.map I)) (hk : k < n) : Row (w.setCell ⟨g, off + k, none⟩ (I z)) base 3 1 (.slice (some ⟨g, off, none⟩) n cap) n ((l.set k z).map I) := by
 have h1 := Row.set_at h (j := k) (by omega) (I z)
 rw [List.map_set]
 exact h1
end Go.Proofs.YtenbglfkdldheaaGreatDoor
