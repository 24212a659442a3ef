/- Package nat in plain Lean, and its laws. No program here. -/
import Derived.Test.YtpbdlmjfjkfphaaGreatDoorNum
namespace Go.Proofs.YtpbdlmjfjkfphaaGreatDoor
open Go.Lib

/-- has a number at most 2000 digits? -/
def fitN (n : Nat) : Bool := decide ((decDigits n).length ≤ 2000)
theorem fitN_iff (n : Nat) : fitN n = true ↔ n < 10 ^ 2000 := by unfold fitN; rw [decide_eq_true_iff, dec_len_lt _ _ (by omega)]
theorem fitN_mono {n m : Nat} (h : fitN m = true) (hl : n ≤ m) : fitN n = true := (fitN_iff n).2 (Nat.lt_of_le_of_lt hl ((fitN_iff m).1 h))
theorem fit_pow {n j : Nat} (h : n < 10 ^ j) (h1 : 1 ≤ j) (hj : j ≤ 2000) : fitN n = true := decide_eq_true (Nat.le_trans ((dec_len_lt n j h1).2 h) hj)
/-- what text answers -/
def natTx (n : Nat) : List UInt8 × Int := if fitN n = true then (decDigits n, 0) else ([], 2)
def natTwo (a b : List UInt8) : Int := if chk a = 0 then chk b else chk a
def natOp (a b : List UInt8) (r : List UInt8 × Int) : List UInt8 × Int := if natTwo a b = 0 then r else ([], natTwo a b)
def natAdd (a b : List UInt8) : List UInt8 × Int := natOp a b (natTx (num a + num b))
def natSub (a b : List UInt8) : List UInt8 × Int := natOp a b (if num a < num b then ([], 4) else natTx (num a - num b))
def natMul (a b : List UInt8) : List UInt8 × Int := natOp a b (natTx (num a * num b))
def natDiv (a b : List UInt8) : (List UInt8 × List UInt8) × Int :=
  if natTwo a b = 0 then (if num b = 0 then (([], []), 10) else ((decDigits (num a / num b), decDigits (num a % num b)), 0)) else (([], []), natTwo a b)
def natGcd (a b : List UInt8) : List UInt8 × Int := natOp a b (natTx (Nat.gcd (num a) (num b)))
def natCmp (a b : List UInt8) : Int × Int := if natTwo a b = 0 then (((num a : Int) - (num b : Int)).sign, 0) else (0, natTwo a b)
def natPow (a : List UInt8) (n : Int) : List UInt8 × Int :=
  if chk a = 0 then (if n < 0 ∨ 10000 < n then ([], 4) else natTx (num a ^ n.toNat)) else ([], chk a)
/-- the greatest k up to a bound whose square is at most n -/
def isq (n : Nat) : Nat → Nat
  | 0 => 0
  | k + 1 => if (k + 1) * (k + 1) ≤ n then k + 1 else isq n k
def natRoot (a : List UInt8) : List UInt8 × Int := if chk a = 0 then natTx (isq (num a) (num a)) else ([], chk a)
theorem isq_le (n : Nat) : ∀ k, isq n k * isq n k ≤ n
  | 0 => Nat.zero_le _
  | k + 1 => by
    rw [isq]
    split
    · assumption
    · exact isq_le n k
theorem isq_lt (n : Nat) : ∀ k, n < (k + 1) * (k + 1) → n < (isq n k + 1) * (isq n k + 1)
  | 0, h => h
  | k + 1, h => by
    rw [isq]
    split
    · exact h
    · exact isq_lt n k (by omega)
theorem isq_spec (n : Nat) : isq n n * isq n n ≤ n ∧ n < (isq n n + 1) * (isq n n + 1) := ⟨isq_le n n, isq_lt n n (by have : (n + 1) * 1 ≤ (n + 1) * (n + 1) := Nat.mul_le_mul_left _ (by omega); omega)⟩
theorem isq_uniq {n s : Nat} (h1 : s * s ≤ n) (h2 : n < (s + 1) * (s + 1)) : s = isq n n := by
  obtain ⟨k1, k2⟩ := isq_spec n
  rcases Nat.lt_trichotomy s (isq n n) with h | h | h
  · have := Nat.mul_le_mul (show s + 1 ≤ isq n n from h) (show s + 1 ≤ isq n n from h); omega
  · exact h
  · have := Nat.mul_le_mul (show isq n n + 1 ≤ s from h) (show isq n n + 1 ≤ s from h); omega
theorem natTwo_ok (a b : List UInt8) : natTwo a b = 0 ↔ Num a ∧ Num b := by
  unfold natTwo
  split
  · rename_i h
    rw [chk_ok] at h
    rw [chk_ok]
    exact ⟨fun k => ⟨h, k⟩, fun k => k.2⟩
  · rename_i h
    exact ⟨fun e => absurd e h, fun k => absurd ((chk_ok a).2 k.1) h⟩
theorem natTx_ok {n : Nat} (h : fitN n = true) : natTx n = (decDigits n, 0) := by rw [natTx, if_pos h]
theorem natTx_iff (n : Nat) : (natTx n).2 = 0 ↔ fitN n = true := by
  unfold natTx
  split
  · rename_i h; exact ⟨fun _ => h, fun _ => rfl⟩
  · rename_i h; exact ⟨fun e => (by cases e), fun k => absurd k h⟩
theorem Num.fit {a : List UInt8} (h : Num a) : fitN (num a) = true := by
  unfold fitN; rw [decide_eq_true_iff, dec_num h.toCanon]; exact h.len
theorem num_of_fit {n : Nat} (h : fitN n = true) : Num (decDigits n) := ⟨canon_dec n, by simpa [fitN] using h⟩
theorem Num.lt {a : List UInt8} (h : Num a) {k : Nat} (hk : a.length ≤ k) : num a < 10 ^ k := Nat.lt_of_lt_of_le (num_lt a h.digs) (Nat.pow_le_pow_right (by decide) hk)
theorem natOp_ok {a b : List UInt8} (ha : Num a) (hb : Num b) (r : List UInt8 × Int) : natOp a b r = r := by rw [natOp, if_pos ((natTwo_ok a b).2 ⟨ha, hb⟩)]
theorem natAdd_dec {a b : List UInt8} (ha : Num a) (hb : Num b) (h : fitN (num a + num b) = true) : natAdd a b = (decDigits (num a + num b), 0) := by rw [natAdd, natOp_ok ha hb, natTx_ok h]
theorem natMul_dec {a b : List UInt8} (ha : Num a) (hb : Num b) (h : fitN (num a * num b) = true) : natMul a b = (decDigits (num a * num b), 0) := by rw [natMul, natOp_ok ha hb, natTx_ok h]
theorem natSub_dec {a b : List UInt8} (ha : Num a) (hb : Num b) (h : num b ≤ num a) : natSub a b = (decDigits (num a - num b), 0) := by
  rw [natSub, natOp_ok ha hb, if_neg (by omega), natTx_ok (fitN_mono ha.fit (by omega))]
theorem natCmp_dec {a b : List UInt8} (ha : Num a) (hb : Num b) : natCmp a b = (((num a : Int) - (num b : Int)).sign, 0) := by rw [natCmp, if_pos ((natTwo_ok a b).2 ⟨ha, hb⟩)]
/-- NatRing -/
theorem ring_law {a b c : List UInt8} (ha : Num a) (hb : Num b) (hc : Num c) (la : a.length ≤ 300) (lb : b.length ≤ 300) (lc : c.length ≤ 300) :
    (natAdd b c).2 = 0 ∧ (natMul a (natAdd b c).1).2 = 0 ∧ (natMul a b).2 = 0 ∧ (natMul a c).2 = 0 ∧ (natAdd (natMul a b).1 (natMul a c).1).2 = 0 ∧ (natSub (natAdd b c).1 c).2 = 0 ∧ (natMul a (natAdd b c).1).1 = (natAdd (natMul a b).1 (natMul a c).1).1 ∧ (natSub (natAdd b c).1 c).1 = b := by
  obtain ⟨k, hk⟩ : ∃ k, k = 300 := ⟨_, rfl⟩
  have h1 := ha.lt (k := k) (by omega)
  have h2 := hb.lt (k := k) (by omega)
  have h3 := hc.lt (k := k) (by omega)
  have key : ∀ x y : Nat, x < 10 ^ k → y < 10 ^ k → x * y < 10 ^ (k + k) := fun x y hx hy => by
    have := Nat.mul_lt_mul'' hx hy
    rwa [← Nat.pow_add] at this
  have e10 : (10 : Nat) ^ (k + 1) = 10 ^ k * 10 := Nat.pow_succ ..
  have e11 : (10 : Nat) ^ (k + k + 1) = 10 ^ (k + k) * 10 := Nat.pow_succ ..
  have f1 : fitN (num b + num c) = true := fit_pow (j := k + 1) (by omega) (by omega) (by omega)
  have f2 : fitN (num a * num b) = true := fit_pow (j := k + k) (key _ _ h1 h2) (by omega) (by omega)
  have f3 : fitN (num a * num c) = true := fit_pow (j := k + k) (key _ _ h1 h3) (by omega) (by omega)
  have f4 : fitN (num a * (num b + num c)) = true := fit_pow (j := k + k + 1) (by rw [Nat.mul_add]; have := key _ _ h1 h2; have := key _ _ h1 h3; omega) (by omega) (by omega)
  have f5 : fitN (num a * num b + num a * num c) = true := by rw [← Nat.mul_add]; exact f4
  rw [natAdd_dec hb hc f1]
  rw [natMul_dec ha (num_of_fit f1) (by rw [num_dec]; exact f4), natMul_dec ha hb f2, natMul_dec ha hc f3, natAdd_dec (num_of_fit f2) (num_of_fit f3) (by rw [num_dec, num_dec]; exact f5), natSub_dec (num_of_fit f1) hc (by rw [num_dec]; omega)]
  simp only [num_dec]
  refine ⟨trivial, trivial, trivial, trivial, trivial, trivial, by rw [Nat.mul_add], ?_⟩
  rw [Nat.add_sub_cancel, dec_num hb.toCanon]
/-- NatOrders -/
theorem order_law (a b : List UInt8) : ((natCmp a b).2 ≠ 0 → (natCmp a b).1 = 0) ∧ ((natCmp a b).2 = 0 →
    (natCmp b a).2 = 0 ∧ (natCmp b a).1 = -(natCmp a b).1 ∧ -1 ≤ (natCmp a b).1 ∧ (natCmp a b).1 ≤ 1 ∧ ((natCmp a b).1 = 0 ↔ a = b) ∧
      ((natCmp a b).1 < 0 → (natSub a b).2 = 4) ∧ (0 ≤ (natCmp a b).1 → (natSub a b).2 = 0 ∧ ((natSub a b).1 = [48] ↔ (natCmp a b).1 = 0))) := by
  by_cases h : natTwo a b = 0
  · refine ⟨fun k => by rw [natCmp, if_pos h] at k; exact absurd rfl k, fun _ => ?_⟩
    obtain ⟨ha, hb⟩ := (natTwo_ok a b).1 h
    have e0 : ∀ n : Nat, decDigits n = [48] ↔ n = 0 := fun n => by
      constructor
      · intro e; have := num_dec n; rw [e] at this; simp [num, numA] at this; exact this.symm
      · rintro rfl; decide +kernel
    rw [natCmp_dec ha hb, natCmp_dec hb ha]
    have hs : natSub a b = if num a < num b then ([], 4) else (decDigits (num a - num b), 0) := by
      by_cases hl : num a < num b
      · rw [natSub, natOp_ok ha hb, if_pos hl, if_pos hl]
      · rw [if_neg hl, natSub_dec ha hb (by omega)]
    rw [hs]
    have hab : a = b ↔ num a = num b := ⟨fun e => by rw [e], num_inj ha.toCanon hb.toCanon⟩
    rw [hab]
    rcases Nat.lt_trichotomy (num a) (num b) with hl | hl | hl
    · have e1 : ((num a : Int) - (num b : Int)).sign = -1 := Int.sign_eq_neg_one_of_neg (by omega)
      have e2 : ((num b : Int) - (num a : Int)).sign = 1 := Int.sign_eq_one_of_pos (by omega)
      simp only [e1, e2, if_pos hl]
      refine ⟨trivial, by decide, by decide, by decide, ⟨fun h => by omega, fun h => by omega⟩, fun _ => trivial, fun h => by omega⟩
    · have e1 : ((num b : Int) - (num b : Int)).sign = 0 := by simp
      simp only [hl, e1, Nat.lt_irrefl, if_false, Nat.sub_self]
      refine ⟨trivial, by decide, by decide, by decide, by simp, fun h => by omega, fun _ => ⟨trivial, fun _ => trivial, fun _ => (e0 0).2 rfl⟩⟩
    · have e1 : ((num a : Int) - (num b : Int)).sign = 1 := Int.sign_eq_one_of_pos (by omega)
      have e2 : ((num b : Int) - (num a : Int)).sign = -1 := Int.sign_eq_neg_one_of_neg (by omega)
      simp only [e1, e2, if_neg (show ¬ num a < num b by omega)]
      refine ⟨trivial, by decide, by decide, by decide, ⟨fun h => by omega, fun h => by omega⟩, fun h => by omega, fun _ => ⟨trivial, fun h => ?_, fun h => by omega⟩⟩
      have := (e0 _).1 h
      omega
  · refine ⟨fun _ => by rw [natCmp, if_neg h], fun k => ?_⟩
    rw [natCmp, if_neg h] at k
    exact absurd k h
/-- NatRoots -/
theorem root_law (a : List UInt8) : ((natRoot a).2 ≠ 0 → (natRoot a).1 = [] ∧ (natRoot a).2 = chk a) ∧ ((natRoot a).2 = 0 →
    (natMul (natRoot a).1 (natRoot a).1).2 = 0 ∧ (natAdd (natRoot a).1 [49]).2 = 0 ∧ (natCmp (natMul (natRoot a).1 (natRoot a).1).1 a).2 = 0 ∧ (natCmp (natMul (natRoot a).1 (natRoot a).1).1 a).1 ≤ 0 ∧
      ((natMul (natAdd (natRoot a).1 [49]).1 (natAdd (natRoot a).1 [49]).1).2 = 2 ∨ (natMul (natAdd (natRoot a).1 [49]).1 (natAdd (natRoot a).1 [49]).1).2 = 0 ∧
        (natCmp (natMul (natAdd (natRoot a).1 [49]).1 (natAdd (natRoot a).1 [49]).1).1 a).2 = 0 ∧ 0 < (natCmp (natMul (natAdd (natRoot a).1 [49]).1 (natAdd (natRoot a).1 [49]).1).1 a).1)) := by
  by_cases h : chk a = 0
  · have ha := (chk_ok a).1 h
    obtain ⟨k1, k2⟩ := isq_spec (num a)
    generalize hs : isq (num a) (num a) = s at *
    have hsa : s ≤ num a := by
      rcases Nat.eq_zero_or_pos s with h0 | h0
      · omega
      · have := Nat.mul_le_mul_left s h0; omega
    have fs := fitN_mono ha.fit hsa
    have fss := fitN_mono ha.fit k1
    have f1 : fitN (s + 1) = true := by
      by_cases h2 : s + 1 ≤ num a
      · exact fitN_mono ha.fit h2
      · have h3 : s * s ≤ s := by omega
        have h4 : s ≤ 1 := by
          rcases Nat.lt_or_ge 1 s with h5 | h5
          · have := Nat.mul_le_mul_left s (show 2 ≤ s from h5); omega
          · exact h5
        exact fitN_mono (m := 2) (by decide +kernel) (by omega)
    have one : Num [49] := (chk_ok _).1 (by decide +kernel)
    have n1 : num [49] = 1 := by decide
    have e1 : natRoot a = (decDigits s, 0) := by rw [natRoot, if_pos h, hs, natTx_ok fs]
    have e2 : natMul (decDigits s) (decDigits s) = (decDigits (s * s), 0) := by rw [natMul_dec (num_of_fit fs) (num_of_fit fs) (by rw [num_dec]; exact fss), num_dec]
    have e3 : natAdd (decDigits s) [49] = (decDigits (s + 1), 0) := by rw [natAdd_dec (num_of_fit fs) one (by rw [num_dec, n1]; exact f1), num_dec, n1]
    refine ⟨fun k => absurd (by rw [e1]) k, fun _ => ?_⟩
    rw [e1]
    simp only [e2, e3]
    have e4 : natCmp (decDigits (s * s)) a = (((s * s : Nat) - (num a : Int)).sign, 0) := by rw [natCmp_dec (num_of_fit fss) ha, num_dec]
    refine ⟨trivial, trivial, by rw [e4], ?_, ?_⟩
    · rw [e4]
      exact Int.sign_nonpos_iff.2 (by omega)
    · by_cases f2 : fitN ((s + 1) * (s + 1)) = true
      · right
        have e5 : natMul (decDigits (s + 1)) (decDigits (s + 1)) = (decDigits ((s + 1) * (s + 1)), 0) := by rw [natMul_dec (num_of_fit f1) (num_of_fit f1) (by rw [num_dec]; exact f2), num_dec]
        have e6 : natCmp (decDigits ((s + 1) * (s + 1))) a = ((((s + 1) * (s + 1) : Nat) - (num a : Int)).sign, 0) := by rw [natCmp_dec (num_of_fit f2) ha, num_dec]
        rw [e5]
        simp only [e6]
        refine ⟨trivial, trivial, ?_⟩
        rw [Int.sign_eq_one_of_pos (by omega)]
        decide
      · left
        rw [natMul, natOp_ok (num_of_fit f1) (num_of_fit f1), num_dec, natTx, if_neg f2]
  · refine ⟨fun _ => by rw [natRoot, if_neg h]; exact ⟨rfl, rfl⟩, fun k => ?_⟩
    rw [natRoot, if_neg h] at k
    exact absurd k h
end Go.Proofs.YtpbdlmjfjkfphaaGreatDoor
