/- Package nat in plain Lean: the laws of division and of powers. No program here. -/
import Derived.Test.YtpbdlmjfjkfphaaGreatDoorNatP
namespace Go.Proofs.YtpbdlmjfjkfphaaGreatDoor
open Go.Lib

theorem natDiv_dec {a b : List UInt8} (ha : Num a) (hb : Num b) (h : num b ≠ 0) : natDiv a b = ((decDigits (num a / num b), decDigits (num a % num b)), 0) := by
  rw [natDiv, if_pos ((natTwo_ok a b).2 ⟨ha, hb⟩), if_neg h]
theorem dec_zero : decDigits 0 = [48] := by decide +kernel
/-- NatEuclid -/
theorem euclid_law (a b : List UInt8) : ((natDiv a b).2 ≠ 0 → (natDiv a b).1 = ([], [])) ∧ ((natDiv a b).2 = 0 →
    (natMul (natDiv a b).1.1 b).2 = 0 ∧ (natAdd (natMul (natDiv a b).1.1 b).1 (natDiv a b).1.2).2 = 0 ∧ (natCmp (natDiv a b).1.2 b).2 = 0 ∧ (natAdd (natMul (natDiv a b).1.1 b).1 (natDiv a b).1.2).1 = a ∧ (natCmp (natDiv a b).1.2 b).1 = -1 ∧
      (natGcd a b).2 = 0 ∧ (natDiv a (natGcd a b).1).2 = 0 ∧ (natDiv b (natGcd a b).1).2 = 0 ∧ (natDiv a (natGcd a b).1).1.2 = [48] ∧ (natDiv b (natGcd a b).1).1.2 = [48]) := by
  by_cases h : natTwo a b = 0
  · by_cases h0 : num b = 0
    · have e : natDiv a b = (([], []), 10) := by rw [natDiv, if_pos h, if_pos h0]
      rw [e]
      exact ⟨fun _ => rfl, fun k => by cases k⟩
    · obtain ⟨ha, hb⟩ := (natTwo_ok a b).1 h
      have e := natDiv_dec ha hb h0
      refine ⟨fun k => absurd (by rw [e]) k, fun _ => ?_⟩
      have h1 := Nat.div_add_mod (num a) (num b)
      have h2 := Nat.mod_lt (num a) (Nat.pos_of_ne_zero h0)
      rw [Nat.mul_comm] at h1
      have f1 := fitN_mono ha.fit (Nat.div_le_self (num a) (num b))
      have f2 := fitN_mono hb.fit (Nat.le_of_lt h2)
      have f3 : fitN (num a / num b * num b) = true := fitN_mono ha.fit (by omega)
      have fg : fitN (Nat.gcd (num a) (num b)) = true := fitN_mono hb.fit (Nat.gcd_le_right _ (Nat.pos_of_ne_zero h0))
      have g0 : Nat.gcd (num a) (num b) ≠ 0 := fun k => h0 (Nat.eq_zero_of_gcd_eq_zero_right k)
      have eg : natGcd a b = (decDigits (Nat.gcd (num a) (num b)), 0) := by rw [natGcd, natOp_ok ha hb, natTx_ok fg]
      rw [e, eg]
      simp only []
      rw [natMul_dec (num_of_fit f1) hb (by rw [num_dec]; exact f3), num_dec]
      simp only []
      rw [natAdd_dec (num_of_fit f3) (num_of_fit f2) (by rw [num_dec, num_dec, h1]; exact ha.fit), natCmp_dec (num_of_fit f2) hb, num_dec, num_dec, h1,
        natDiv_dec ha (num_of_fit fg) (by rw [num_dec]; exact g0), natDiv_dec hb (num_of_fit fg) (by rw [num_dec]; exact g0), num_dec]
      refine ⟨by trivial, by trivial, by trivial, dec_num ha.toCanon, Int.sign_eq_neg_one_of_neg (by omega), by trivial, by trivial, by trivial, ?_, ?_⟩
      · rw [Nat.mod_eq_zero_of_dvd (Nat.gcd_dvd_left _ _)]; exact dec_zero
      · rw [Nat.mod_eq_zero_of_dvd (Nat.gcd_dvd_right _ _)]; exact dec_zero
  · have e : natDiv a b = (([], []), natTwo a b) := by rw [natDiv, if_neg h]
    rw [e]
    exact ⟨fun _ => rfl, fun k => absurd k h⟩
/-- NatPowersAdd -/
theorem powers_law (a : List UInt8) (n m : Int) (hn : 0 ≤ n ∧ n < 60) (hm : 0 ≤ m ∧ m < 60) :
    (¬ ((natPow a n).2 = 0 ∧ (natPow a m).2 = 0) → (natPow a (n + m)).2 ≠ 0 ∨ a = [48] ∨ a = [49]) ∧
    ((natPow a n).2 = 0 ∧ (natPow a m).2 = 0 → (natPow a (n + m)).2 = (natMul (natPow a n).1 (natPow a m).1).2 ∧ (natMul (natPow a n).1 (natPow a m).1).1 = (natPow a (n + m)).1) := by
  by_cases h : chk a = 0
  · have ha := (chk_ok a).1 h
    have e : ∀ k : Int, 0 ≤ k → k < 120 → natPow a k = natTx (num a ^ k.toNat) := fun k h0 h1 => by rw [natPow, if_pos h, if_neg (by omega)]
    rw [e n (by omega) (by omega), e m (by omega) (by omega), e (n + m) (by omega) (by omega), show (n + m).toNat = n.toNat + m.toNat by omega]
    generalize n.toNat = i
    generalize m.toNat = j
    rw [natTx_iff, natTx_iff]
    constructor
    · intro hf
      by_cases h0 : num a = 0
      · right; left
        rw [← dec_num ha.toCanon, h0, dec_zero]
      · left
        intro k
        rw [natTx_iff] at k
        refine hf ⟨fitN_mono k (Nat.pow_le_pow_right (Nat.pos_of_ne_zero h0) (by omega)), fitN_mono k (Nat.pow_le_pow_right (Nat.pos_of_ne_zero h0) (by omega))⟩
    · rintro ⟨f1, f2⟩
      rw [natTx_ok f1, natTx_ok f2, natMul, natOp_ok (num_of_fit f1) (num_of_fit f2), num_dec, num_dec, ← Nat.pow_add]
      exact ⟨rfl, rfl⟩
  · have e : ∀ k : Int, natPow a k = ([], chk a) := fun k => by rw [natPow, if_neg h]
    rw [e, e, e]
    exact ⟨fun _ => .inl h, fun k => absurd k.1 h⟩
end Go.Proofs.YtpbdlmjfjkfphaaGreatDoor
