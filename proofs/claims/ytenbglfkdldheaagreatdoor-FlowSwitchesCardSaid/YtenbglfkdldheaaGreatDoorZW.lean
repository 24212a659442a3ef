/- slices.Repeat at vectors of texts, of one element. matrix.Dot, matrix.Apply. -/
import Derived.Laws.CopyOwn
import Derived.Deep.RegionLaw
import Derived.Test.YtenbglfkdldheaaGreatDoorZU
namespace Go.Proofs.YtenbglfkdldheaaGreatDoor
open Go.RowKit
theorem mul_one_any (x n : Int) (w : World) (hx : x = 1) (h0 : 0 ≤ n) (h1 : n ≤ 1099511627776) :
  Calls Tryz.prog 164 #[.int .u64 x, .int .u64 n] w fun e w' => e = .returned (.tuple #[.int .u64 0, .int .u64 n]) ∧ w = w' := by
 subst hx
 obtain ⟨k, rfl⟩ := Int.eq_ofNat_of_zero_le h0
 refine (Tryz.bits_Mul 1 k (by omega) (by omega) w).mono fun e w' ⟨he, hw⟩ => ⟨?_, hw.symm⟩
 rw [he]
 have e1 : 1 * k / 18446744073709551616 = 0 := by rw [Nat.div_eq_of_lt]; omega
 have e2 : 1 * k % 18446744073709551616 = k := by rw [Nat.mod_eq_of_lt] <;> omega
 rw [e1, e2]
 rfl
def SV (w : World) (A : Option Addr) (n : Nat) (l : List ByteArray) : Prop := Reads w w.heap.size 1 A n (l.map Sv)
theorem SV.below {w w' : World} {A : Option Addr} {n : Nat} {l : List ByteArray} (h : SV w A n l) (hb : Below w.heap.size w w') : SV w' A n l := (Reads.below h hb).more hb.size
theorem SV.len {w : World} {A : Option Addr} {n : Nat} {l : List ByteArray} (h : SV w A n l) : l.length = n := by have := h.1; simpa using this
end Go.Proofs.YtenbglfkdldheaaGreatDoor
