/- matrix.Mul. -/
import Derived.Test.YtenbglfkdldheaaGreatDoorZT
import Derived.Test.YtenbglfkdldheaaGreatDoorZS
namespace Go.Proofs.YtenbglfkdldheaaGreatDoor
open Go.RowKit
theorem fitR_add {N M : Nat} {x y : Rat} (hx : FitR N x) (hy : FitR M y) : FitR (N + M + 1) (x + y) := by
 have h := divInt_add x y
 have h1 := divInt_le (x.num * (y.den : Int) + y.num * (x.den : Int)) ((x.den : Int) * (y.den : Int))
 rw [h] at h1
 have f1 := (hx.1.mul hy.2).add (show Fits (N + M) (y.num * (x.den : Int)) by rw [Nat.add_comm]; exact hy.1.mul hx.2)
 have f2 := (hx.2.mul hy.2).mono (show N + M ≤ N + M + 1 by omega)
 unfold FitR Fits at *
 have hd : (1 : Int) ≤ ((x.den : Int) * (y.den : Int)).natAbs := by
  have := mul_ne (den_ne x) (den_ne y)
  omega
 exact ⟨by omega, by omega⟩
theorem fitR_zero : FitR 1 0 := ⟨fits_zero 1, by unfold Fits; decide⟩
theorem fitR_sum {N : Nat} {f : Nat → Rat} : ∀ (n : Nat), (∀ i, i < n → FitR N (f i)) → FitR (n * (N + 1) + 1) (sm n f)
 | 0, _ => fitR_zero.mono (by omega)
 | n + 1, h => by
  rw [sm]
  exact (fitR_add (fitR_sum n fun i hi => h i (by omega)) (h n (by omega))).mono (by rw [Nat.succ_mul]; omega)
def Fit1 (l : List Rat) : Prop := ∀ q ∈ l, FitR 210 q
def Fit2 (m : List (List Rat)) : Prop := ∀ r ∈ m, Fit1 r
theorem Fit1.at_ {l : List Rat} (h : Fit1 l) (i : Nat) : FitR 210 (l.getD i 0) := by
 rw [gD]
 cases e : l[i]? with
 | none => exact fitR_zero.mono (by decide)
 | some q => exact h q (List.mem_of_getElem? e)
theorem Fit2.at_ {m : List (List Rat)} (h : Fit2 m) (i : Nat) : Fit1 (m.getD i []) := by
 rw [gD]
 cases e : m[i]? with
 | none => intro q hq; cases hq
 | some q => exact h q (List.mem_of_getElem? e)
theorem fit_vals1 {l : List (List UInt8)} (h : ∀ s ∈ l, rchk s = 0) : Fit1 (valsV l) := by
 intro q hq
 obtain ⟨s, hs, rfl⟩ := List.mem_map.1 hq
 exact val_fit (rchk_val s (h s hs))
theorem fit_vals2 {m : MT} {n k : Nat} (h : VM m n k) : Fit2 (valsM m) := by
 intro r hr
 obtain ⟨l, hl, rfl⟩ := List.mem_map.1 hr
 exact fit_vals1 (h.ok l hl)
theorem val2_of {m : List (List ByteArray)} {n k : Nat} (h : VM (tx2 m) n k) : Val2 m := by
 intro l hl
 have hm : tx1 l ∈ tx2 m := List.mem_map.2 ⟨l, hl, rfl⟩
 refine ⟨fun s hs => h.ok _ hm _ (List.mem_map.2 ⟨s, hs, rfl⟩), ?_⟩
 have h1 := h.rect.row _ hm
 rw [tx1, List.length_map] at h1
 rcases h.hk with h2 | h2
 ·omega
 ·have := h.rect.len
  rw [h2] at this
  rw [List.eq_nil_of_length_eq_zero this] at hm
  cases hm
theorem firstE2 (a b : Int) : firstE [a, b] = if a ≠ 0 then a else b := by
 simp only [firstE]
 split
 ·rfl
 ·split
  ·rfl
  ·rename_i h; exact (Decidable.not_not.1 h).symm
theorem reads_e2 (w : World) (t : TypeId) (a b : Int) : Reads (w.alloc (.cells #[I a, I b] t)) (w.alloc (.cells #[I a, I b] t)).heap.size 1 (some ⟨w.heap.size, 0, none⟩) 2 ([a, b].map I) := by
 have := reads_lits w t ([a, b].map I)
 rw [World.size_alloc]
 exact this
abbrev errT : TypeId := 34
theorem err2_first (a b : Int) (r : MT × Int) (h : firstE [a, b] ≠ 0) : err2 a b r = ([], firstE [a, b]) := by
 rw [firstE2] at h ⊢
 unfold err2
 by_cases ha : a ≠ 0
 ·rw [if_pos ha, if_pos ha]
 ·rw [if_neg ha] at h ⊢
  rw [if_neg ha, if_pos h]
theorem first_zero {a b : Int} (h : firstE [a, b] = 0) : a = 0 ∧ b = 0 := by
 rw [firstE2] at h
 split at h
 ·rename_i h1; exact absurd h h1
 ·rename_i h1; exact ⟨Decidable.not_not.1 h1, h⟩
end Go.Proofs.YtenbglfkdldheaaGreatDoor
