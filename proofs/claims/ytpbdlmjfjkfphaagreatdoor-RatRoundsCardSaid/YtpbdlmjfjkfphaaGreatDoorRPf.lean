/- Package rat in plain Lean. No program here. -/
import Derived.Test.YtpbdlmjfjkfphaaGreatDoorRPl
namespace Go.Proofs.YtpbdlmjfjkfphaaGreatDoor
open Go.Lib

def ratTx (q : Rat) : List UInt8 × Int := if fitQ q = true then (qText q, 0) else ([], 2)
def rAll : List (List UInt8) → Int
  | [] => 0
  | a :: l => if rchk a = 0 then rAll l else rchk a
def rOp (a b : List UInt8) (r : List UInt8 × Int) : List UInt8 × Int := if rAll [a, b] = 0 then r else ([], rAll [a, b])
def ratAdd (a b : List UInt8) : List UInt8 × Int := rOp a b (ratTx (rval a + rval b))
def ratSub (a b : List UInt8) : List UInt8 × Int := rOp a b (ratTx (rval a - rval b))
def ratMul (a b : List UInt8) : List UInt8 × Int := rOp a b (ratTx (rval a * rval b))
def ratDiv (a b : List UInt8) : List UInt8 × Int := rOp a b (if b = [48] then ([], 10) else ratTx (rval a / rval b))
def ratNeg (a : List UInt8) : List UInt8 × Int := rOp a [48] (ratTx (-rval a))
def cmpQ (x y : Rat) : Int := (x.num * (y.den : Int) - y.num * (x.den : Int)).sign
def ratCmp (a b : List UInt8) : Int × Int := if rAll [a, b] = 0 then (cmpQ (rval a) (rval b), 0) else (0, rAll [a, b])
def ratInt (a : List UInt8) (z : Int) : List UInt8 × Int := if rchk a = 0 then ratTx (z : Rat) else ([], rchk a)
/-- the nearest integer, of two the even one -/
def roundQ (x : Rat) : Int := if (2 * x.num + x.den) % (2 * x.den) = 0 ∧ (2 * x.num + x.den) / (2 * x.den) % 2 = 1 then (2 * x.num + x.den) / (2 * x.den) - 1 else (2 * x.num + x.den) / (2 * x.den)
theorem cmpQ_lt (x y : Rat) : cmpQ x y = -1 ↔ x < y := by
  rw [cmpQ, Int.sign_eq_neg_one_iff_neg, Rat.lt_iff]; omega
theorem cmpQ_eq (x y : Rat) : cmpQ x y = 0 ↔ x = y := by
  rw [cmpQ, Int.sign_eq_zero_iff_zero, Rat.eq_iff_mul_eq_mul]; omega
theorem cmpQ_gt (x y : Rat) : cmpQ x y = 1 ↔ y < x := by
  rw [cmpQ, Int.sign_eq_one_iff_pos, Rat.lt_iff]; omega
theorem cmpQ_cases (x y : Rat) : cmpQ x y = -1 ∨ cmpQ x y = 0 ∨ cmpQ x y = 1 := by
  rcases Int.sign_trichotomy (x.num * (y.den : Int) - y.num * (x.den : Int)) with h | h | h
  · exact .inr (.inr h)
  · exact .inr (.inl h)
  · exact .inl h
theorem rAll_two {a b : List UInt8} (ha : rchk a = 0) (hb : rchk b = 0) : rAll [a, b] = 0 := by simp [rAll, ha, hb]
theorem rAll_ok {a b : List UInt8} (h : rAll [a, b] = 0) : rchk a = 0 ∧ rchk b = 0 := by
  simp only [rAll] at h
  split at h
  · rename_i h1
    split at h
    · rename_i h2; exact ⟨h1, h2⟩
    · rename_i h2; exact absurd h h2
  · rename_i h1; exact absurd h h1
theorem rchk_48 : rchk [48] = 0 := by decide +kernel
theorem rval_48 : rval [48] = 0 := by decide +kernel
theorem rchk_49 : rchk [49] = 0 := by decide +kernel
theorem rval_49 : rval [49] = 1 := by decide +kernel
theorem rval_50 : rval [50] = 2 := by decide +kernel
theorem rchk_50 : rchk [50] = 0 := by decide +kernel
theorem rOp_ok {a b : List UInt8} (ha : rchk a = 0) (hb : rchk b = 0) (r : List UInt8 × Int) : rOp a b r = r := by rw [rOp, if_pos (rAll_two ha hb)]
theorem ratTx_ok {q : Rat} (h : fitQ q = true) : ratTx q = (qText q, 0) := by rw [ratTx, if_pos h]
/-- numerator and denominator have at most k digits -/
def SzQ (q : Rat) (k : Nat) : Prop := q.num.natAbs < 10 ^ k ∧ q.den < 10 ^ k
theorem SzQ.fit {q : Rat} {k : Nat} (h : SzQ q k) (h1 : 1 ≤ k) (h2 : k ≤ 2000) : fitQ q = true := by rw [fitQ, fit_pow h.1 h1 h2, fit_pow h.2 h1 h2]; rfl
theorem SzQ.mono {q : Rat} {k j : Nat} (h : SzQ q k) (hk : k ≤ j) : SzQ q j := ⟨Nat.lt_of_lt_of_le h.1 (Nat.pow_le_pow_right (by decide) hk), Nat.lt_of_lt_of_le h.2 (Nat.pow_le_pow_right (by decide) hk)⟩
theorem divInt_le (n d : Int) : (Rat.divInt n d).num.natAbs ≤ n.natAbs ∧ (Rat.divInt n d).den ≤ max 1 d.natAbs := by
  rw [Rat.num_divInt, Rat.den_divInt]
  constructor
  · refine Nat.le_trans (Int.natAbs_ediv_le_natAbs _ _) ?_
    rw [Int.natAbs_mul]
    have : d.sign.natAbs ≤ 1 := by rcases Int.sign_trichotomy d with h | h | h <;> rw [h] <;> decide
    calc d.sign.natAbs * n.natAbs ≤ 1 * n.natAbs := Nat.mul_le_mul_right _ this
      _ = n.natAbs := Nat.one_mul _
  · split
    · exact Nat.le_max_left _ _
    · exact Nat.le_trans (Nat.div_le_self _ _) (Nat.le_max_right _ _)
theorem pow_mul_lt {a b i j : Nat} (ha : a < 10 ^ i) (hb : b < 10 ^ j) : a * b < 10 ^ (i + j) := by rw [Nat.pow_add]; exact Nat.mul_lt_mul'' ha hb
theorem SzQ.of_divInt {n d : Int} {k : Nat} (hn : n.natAbs < 10 ^ k) (hd : d.natAbs < 10 ^ k) (h1 : 1 ≤ k) : SzQ (Rat.divInt n d) k := by
  obtain ⟨h2, h3⟩ := divInt_le n d
  have h4 : 10 ^ 1 ≤ 10 ^ k := Nat.pow_le_pow_right (by decide) h1
  refine ⟨by omega, ?_⟩
  have : max 1 d.natAbs < 10 ^ k := Nat.max_lt.2 ⟨by omega, hd⟩
  omega
theorem divInt_add (x y : Rat) : Rat.divInt (x.num * (y.den : Int) + y.num * (x.den : Int)) ((x.den : Int) * (y.den : Int)) = x + y := by
  rw [Rat.add_def', ← Rat.divInt_ofNat, Int.natCast_mul]
theorem divInt_mul (x y : Rat) : Rat.divInt (x.num * y.num) ((x.den : Int) * (y.den : Int)) = x * y := by
  rw [Rat.mul_def', ← Rat.divInt_ofNat, Int.natCast_mul]
theorem divInt_div (x y : Rat) : Rat.divInt (x.num * (y.den : Int)) ((x.den : Int) * y.num) = x / y := by
  rw [Rat.div_def, Rat.inv_def, ← Rat.divInt_mul_divInt, Rat.num_divInt_den]
theorem SzQ.add {x y : Rat} {i j : Nat} (hx : SzQ x i) (hy : SzQ y j) : SzQ (x + y) (i + j + 1) := by
  rw [← divInt_add]
  have h1 := pow_mul_lt hx.1 hy.2
  have h2 := pow_mul_lt hy.1 hx.2
  have h3 := pow_mul_lt hx.2 hy.2
  rw [Nat.add_comm j i] at h2
  have e : 10 ^ (i + j + 1) = 10 ^ (i + j) * 10 := Nat.pow_succ ..
  refine SzQ.of_divInt ?_ ?_ (by omega)
  · have := Int.natAbs_add_le (x.num * (y.den : Int)) (y.num * (x.den : Int))
    rw [Int.natAbs_mul, Int.natAbs_mul, Int.natAbs_natCast, Int.natAbs_natCast] at this
    omega
  · rw [Int.natAbs_mul, Int.natAbs_natCast, Int.natAbs_natCast]; omega
theorem SzQ.neg {x : Rat} {i : Nat} (hx : SzQ x i) : SzQ (-x) i := ⟨by rw [Rat.neg_num, Int.natAbs_neg]; exact hx.1, hx.2⟩
theorem SzQ.sub {x y : Rat} {i j : Nat} (hx : SzQ x i) (hy : SzQ y j) : SzQ (x - y) (i + j + 1) := by rw [Rat.sub_eq_add_neg]; exact hx.add hy.neg
theorem SzQ.mul {x y : Rat} {i j : Nat} (hx : SzQ x i) (hy : SzQ y j) (h1 : 1 ≤ i + j) : SzQ (x * y) (i + j) := by
  rw [← divInt_mul]
  refine SzQ.of_divInt ?_ ?_ h1
  · rw [Int.natAbs_mul]; exact pow_mul_lt hx.1 hy.1
  · rw [Int.natAbs_mul, Int.natAbs_natCast, Int.natAbs_natCast]; exact pow_mul_lt hx.2 hy.2
theorem SzQ.div {x y : Rat} {i j : Nat} (hx : SzQ x i) (hy : SzQ y j) (h1 : 1 ≤ i + j) : SzQ (x / y) (i + j) := by
  rw [← divInt_div]
  refine SzQ.of_divInt ?_ ?_ h1
  · rw [Int.natAbs_mul, Int.natAbs_natCast]; exact pow_mul_lt hx.1 hy.2
  · rw [Int.natAbs_mul, Int.natAbs_natCast]; exact pow_mul_lt hx.2 hy.1
theorem rval_sz {a : List UInt8} (h : rchk a = 0) : SzQ (rval a) a.length ∧ 1 ≤ a.length := by
  have hv := rchk_val a h
  have ht := cutA_le (trimM a)
  have hd := cutD_le (trimM a)
  have hm := trimM_le a
  have hne : 1 ≤ (cutA (trimM a)).length := by
    cases hc : cutA (trimM a) with
    | nil => exact absurd hc hv.na.ne
    | cons => simp
  refine ⟨⟨?_, ?_⟩, by omega⟩
  · rw [hv.num, sgn_natAbs]
    exact Nat.lt_of_lt_of_le (num_lt _ hv.na.digs) (Nat.pow_le_pow_right (by decide) (by omega))
  · by_cases k : cutI (trimM a) = true
    · have h1 := hv.den
      rw [if_pos k] at h1
      have h2 := num_lt _ (hv.nd k).digs
      have h3 := Nat.pow_le_pow_right (show 0 < 10 by decide) (show (cutD (trimM a)).length ≤ a.length by omega)
      omega
    · have h1 := hv.den
      rw [if_neg k] at h1
      have h3 := Nat.pow_le_pow_right (show 0 < 10 by decide) (show 1 ≤ a.length by omega)
      omega
end Go.Proofs.YtpbdlmjfjkfphaaGreatDoor
