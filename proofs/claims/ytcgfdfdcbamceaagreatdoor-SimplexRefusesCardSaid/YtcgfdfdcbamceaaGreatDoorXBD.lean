/- matrix.transposed. The laws of package matrix that the keep's MatrixRing, MatrixTurns and MatrixUnits ask for, on the plain functions. No program here. matrix.Mul. -/
import Derived.Test.YtcgfdfdcbamceaaGreatDoorXAZ
import Derived.Test.YtcgfdfdcbamceaaGreatDoorXAQ
import Derived.Test.YtcgfdfdcbamceaaGreatDoorXBA
import Derived.Test.YtcgfdfdcbamceaaGreatDoorXBC
namespace Go.Proofs.YtcgfdfdcbamceaaGreatDoor
open Go.RowKit
end Go.Proofs.YtcgfdfdcbamceaaGreatDoor
namespace Go.Proofs.YtcgfdfdcbamceaaGreatDoor
open Go.Lib
end Go.Proofs.YtcgfdfdcbamceaaGreatDoor
namespace Go.Proofs.YtcgfdfdcbamceaaGreatDoor
open Go.RowKit
theorem fitR_add {N M : Nat} {x y : Rat} (hx : FitR N x) (hy : FitR M y) : FitR (N + M + 1) (x + y) := by
 have h := divInt_add x y
 have h1 := divInt_le (x.num * (y.den : Int) + y.num * (x.den : Int)) ((x.den : Int) * (y.den : Int))
 rw [h] at h1
 have f1 := (hx.1.mul hy.2).add (show Fits (N + M) (y.num * (x.den : Int)) by rw [Nat.add_comm]; exact hy.1.mul hx.2)
 have f2 := (hx.2.mul hy.2).mono (show N + M ≤ N + M + 1 by omega)
 unfold FitR Fits at *
 have hd : (1 : Int) ≤ ((x.den : Int) * (y.den : Int)).natAbs := by
  have := mul_ne (den_ne x) (den_ne y)
  omega
 exact ⟨by omega, by omega⟩
theorem fitR_zero : FitR 1 0 := ⟨fits_zero 1, by unfold Fits; decide⟩
theorem fitR_sum {N : Nat} {f : Nat → Rat} : ∀ (n : Nat), (∀ i, i < n → FitR N (f i)) → FitR (n * (N + 1) + 1) (sm n f)
 | 0, _ => fitR_zero.mono (by omega)
 | n + 1, h => by
  rw [sm]
  exact (fitR_add (fitR_sum n fun i hi => h i (by omega)) (h n (by omega))).mono (by rw [Nat.succ_mul]; omega)
theorem dotFit_gen {N M K : Nat} {a b : List Rat} (hl : a.length ≤ K) (hM : K * (N + N + 1) + 1 ≤ M) (hN : N ≤ M) (ha : ∀ i, i < a.length → FitR N (a.getD i 0)) (hb : ∀ i, i < a.length → FitR N (b.getD i 0)) : DotFit M a b :=
 ⟨fun i hi => (ha i hi).mono hN, fun i hi => (hb i hi).mono hN, fun k hk => (fitR_sum k fun i hi => fitR_mul (ha i (by omega)) (hb i (by omega))).mono
  (Nat.le_trans (Nat.add_le_add_right (Nat.mul_le_mul_right _ (Nat.le_trans hk hl)) 1) hM)⟩
end Go.Proofs.YtcgfdfdcbamceaaGreatDoor
