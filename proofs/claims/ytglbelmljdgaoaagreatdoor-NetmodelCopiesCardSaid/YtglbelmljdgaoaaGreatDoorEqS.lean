/- slices.Equal at strings. -/
import Derived.Test.YtglbelmljdgaoaaGreatDoorFact
import Derived.Test.YtglbelmljdgaoaaGreatDoorNetMem
namespace Go.Proofs.YtglbelmljdgaoaaGreatDoor
open Go.RowKit

theorem equalS_any (xs ys : List ByteArray) (n m : Nat) (A B : Option Addr) (c d : Nat) (w : World) (K L : Nat) (hx : Reads w K 1 A n (xs.map S)) (hy : Reads w L 1 B m (ys.map S)) (hn : n ≤ 1000000) (hm : m ≤ 1000000) :
    Calls Tryz.prog 17 #[.slice A n c, .slice B m d] w fun e w' => e = .returned (.bool (decide (xs = ys))) ∧ ∃ q, w' = w.drewN q := by
  have hxl : xs.length = n := by have := hx.1; simpa using this
  have hyl : ys.length = m := by have := hy.1; simpa using this
  subst hxl hyl
  by_cases hl : xs.length = ys.length
  · by_cases h0 : xs.length = 0
    · have e1 : xs = [] := List.eq_nil_of_length_eq_zero h0
      have e2 : ys = [] := List.eq_nil_of_length_eq_zero (by omega)
      subst e1 e2
      exact (Tryz.slices_Equal_string_empty A B c 0 d w (by omega)).mono fun e w' ⟨h1, h2⟩ => ⟨by rw [h1]; simp, 0, by rw [h2]; rfl⟩
    · obtain ⟨b1, o1, rfl, _, hc1⟩ := hx.2 (by omega)
      obtain ⟨b2, o2, rfl, _, hc2⟩ := hy.2 (by omega)
      refine (Tryz.slices_Equal_string b1 o1 xs.length c b2 o2 ys.length d xs ys w (Nat.le_refl _) (Nat.le_refl _) (by omega) (by omega) (fun j hj => hc1 j _ (by simp [hj])) (fun j hj => hc2 j _ (by simp [hj]))).mono fun e w' ⟨h1, h2⟩ => ⟨?_, h2⟩
      rw [h1, List.take_of_length_le (Nat.le_refl _), List.take_of_length_le (Nat.le_refl _)]
  · exact (Tryz.slices_Equal_string_lens A B xs.length c ys.length d w hl).mono fun e w' ⟨h1, h2⟩ => ⟨by rw [h1]; congr 2; symm; simp; intro h; exact hl (by rw [h]), 0, by rw [h2]; rfl⟩
end Go.Proofs.YtglbelmljdgaoaaGreatDoor
