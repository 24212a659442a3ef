/- The laws of package rat that the keep's RatField and RatOrder ask for, as their walks use them; the sizes of the texts; the table of powers of ten, out of the row's list. -/
import Derived.Test.YtpbdlmjfjkfphaaGreatDoorRPf
import Derived.Test.YtpbdlmjfjkfphaaGreatDoorRFact
import Derived.Test.YtpbdlmjfjkfphaaGreatDoorRows
import Derived.Test.YtpbdlmjfjkfphaaGreatDoorFmt
import Derived.Lib.LaidTab
import Derived.Stop.LaidErr
import Derived.LaidMore
namespace Go.Proofs.YtpbdlmjfjkfphaaGreatDoor
open Go.Lib

theorem SzQ.back {q : Rat} {k : Nat} (h : SzQ q k) (h1 : 1 ≤ k) (h2 : k ≤ 2000) : rchk (qText q) = 0 ∧ rval (qText q) = q := qText_ok q (h.fit h1 h2)
theorem rAdd_ok {a b : List UInt8} (ha : rchk a = 0) (hb : rchk b = 0) (hf : fitQ (rval a + rval b) = true) : ratAdd a b = (qText (rval a + rval b), 0) := by rw [ratAdd, rOp_ok ha hb, ratTx_ok hf]
theorem rSub_ok {a b : List UInt8} (ha : rchk a = 0) (hb : rchk b = 0) (hf : fitQ (rval a - rval b) = true) : ratSub a b = (qText (rval a - rval b), 0) := by rw [ratSub, rOp_ok ha hb, ratTx_ok hf]
theorem rMul_ok {a b : List UInt8} (ha : rchk a = 0) (hb : rchk b = 0) (hf : fitQ (rval a * rval b) = true) : ratMul a b = (qText (rval a * rval b), 0) := by rw [ratMul, rOp_ok ha hb, ratTx_ok hf]
theorem rCmp_ok {a b : List UInt8} (ha : rchk a = 0) (hb : rchk b = 0) : ratCmp a b = (cmpQ (rval a) (rval b), 0) := by rw [ratCmp, if_pos (rAll_two ha hb)]
theorem rval_ne {b : List UInt8} (hb : rchk b = 0) (h : b ≠ [48]) : rval b ≠ 0 := fun e => h (by
  have := (rchk_val b hb).text
  rw [e] at this
  rw [← this]
  decide +kernel)
theorem rval_inj {a b : List UInt8} (ha : rchk a = 0) (hb : rchk b = 0) (h : rval a = rval b) : a = b := by
  rw [← (rchk_val a ha).text, h, (rchk_val b hb).text]
theorem mul_back (x y : Rat) (h : y ≠ 0) : x * y / y = x := by
  rw [Rat.div_def, Rat.mul_assoc, Rat.mul_inv_cancel y h, Rat.mul_one]
theorem add_back (y z : Rat) : y + z - z = y := by grind
theorem field_law {a b c : List UInt8} (ha : rchk a = 0) (hb : rchk b = 0) (hc : rchk c = 0) (hl : a.length + b.length + c.length ≤ 400) :
    ratAdd b c = (qText (rval b + rval c), 0) ∧ ratMul a (qText (rval b + rval c)) = (qText (rval a * (rval b + rval c)), 0) ∧ ratMul a b = (qText (rval a * rval b), 0) ∧ ratMul a c = (qText (rval a * rval c), 0) ∧
    ratAdd (qText (rval a * rval b)) (qText (rval a * rval c)) = (qText (rval a * (rval b + rval c)), 0) ∧ ratSub (qText (rval b + rval c)) c = (b, 0) ∧
    (b = [48] → ratDiv (qText (rval a * rval b)) b = ([], 10)) ∧ (b ≠ [48] → ratDiv (qText (rval a * rval b)) b = (a, 0)) ∧
    (SzQ (rval b + rval c) 401 ∧ SzQ (rval a * rval b) 401 ∧ SzQ (rval a * rval c) 401) := by
  obtain ⟨sa, la⟩ := rval_sz ha
  obtain ⟨sb, lb⟩ := rval_sz hb
  obtain ⟨sc, lc⟩ := rval_sz hc
  have zs := (sb.add sc).mono (show _ ≤ 401 by omega)
  have zm := (sa.mul sb (by omega)).mono (show _ ≤ 401 by omega)
  have zn := (sa.mul sc (by omega)).mono (show _ ≤ 401 by omega)
  have zx := (sa.mul (sb.add sc) (by omega)).mono (show _ ≤ 2000 by omega)
  obtain ⟨k1, r1⟩ := zs.back (by omega) (by omega)
  obtain ⟨k2, r2⟩ := zm.back (by omega) (by omega)
  obtain ⟨k3, r3⟩ := zn.back (by omega) (by omega)
  have fx := zx.fit (by omega) (by omega)
  refine ⟨rAdd_ok hb hc (zs.fit (by omega) (by omega)), ?_, rMul_ok ha hb (zm.fit (by omega) (by omega)), rMul_ok ha hc (zn.fit (by omega) (by omega)), ?_, ?_, ?_, ?_, zs, zm, zn⟩
  · rw [rMul_ok ha k1 (by rw [r1]; exact fx), r1]
  · rw [rAdd_ok k2 k3 (by rw [r2, r3, ← Rat.mul_add]; exact fx), r2, r3, ← Rat.mul_add]
  · rw [rSub_ok k1 hc (by rw [r1, add_back]; exact (rchk_val b hb).fit), r1, add_back, (rchk_val b hb).text]
  · intro h
    rw [ratDiv, rOp_ok k2 hb, if_pos h]
  · intro h
    rw [ratDiv, rOp_ok k2 hb, if_neg h, r2, mul_back _ _ (rval_ne hb h), ratTx_ok (rchk_val a ha).fit, (rchk_val a ha).text]
theorem sub_zero_lt (x y : Rat) : x - y < 0 ↔ x < y := by grind
theorem sub_zero_gt (x y : Rat) : 0 < x - y ↔ y < x := by grind
theorem sub_zero_eq (x y : Rat) : x - y = 0 ↔ x = y := by grind
theorem cmpQ_sub (x y : Rat) : cmpQ (x - y) 0 = cmpQ x y := by
  rcases cmpQ_cases x y with h | h | h
  · rw [h]; exact (cmpQ_lt _ _).2 ((sub_zero_lt x y).2 ((cmpQ_lt _ _).1 h))
  · rw [h]; exact (cmpQ_eq _ _).2 ((sub_zero_eq x y).2 ((cmpQ_eq _ _).1 h))
  · rw [h]; exact (cmpQ_gt _ _).2 ((sub_zero_gt x y).2 ((cmpQ_gt _ _).1 h))
theorem cmpQ_add (x y z : Rat) : cmpQ (x + z) (y + z) = cmpQ x y := by
  rw [← cmpQ_sub (x + z), ← cmpQ_sub x]
  congr 1
  grind
theorem cmpQ_swap (x y : Rat) : cmpQ (-(x - y)) 0 = -cmpQ x y := by
  rw [show -(x - y) = y - x by grind, cmpQ_sub]
  rcases cmpQ_cases x y with h | h | h
  · rw [h]; exact (cmpQ_gt _ _).2 ((cmpQ_lt _ _).1 h)
  · rw [h]; exact (cmpQ_eq _ _).2 ((cmpQ_eq _ _).1 h).symm
  · rw [h]; exact (cmpQ_lt _ _).2 ((cmpQ_gt _ _).1 h)
theorem rorder_law {a b c : List UInt8} (ha : rchk a = 0) (hb : rchk b = 0) (hc : rchk c = 0) (hl : a.length + b.length + c.length ≤ 400) :
    ∃ k : Int, ratCmp a b = (k, 0) ∧ ratSub a b = (qText (rval a - rval b), 0) ∧ ratCmp (qText (rval a - rval b)) [48] = (k, 0) ∧ ratAdd a c = (qText (rval a + rval c), 0) ∧ ratAdd b c = (qText (rval b + rval c), 0) ∧
    ratCmp (qText (rval a + rval c)) (qText (rval b + rval c)) = (k, 0) ∧ ratNeg (qText (rval a - rval b)) = (qText (-(rval a - rval b)), 0) ∧ ratCmp (qText (-(rval a - rval b))) [48] = (-k, 0) ∧
    (k = 0 ↔ a = b) ∧ (k = -1 ∨ k = 0 ∨ k = 1) ∧
    (SzQ (rval a - rval b) 401 ∧ SzQ (rval a + rval c) 401 ∧ SzQ (rval b + rval c) 401 ∧ SzQ (-(rval a - rval b)) 401) := by
  obtain ⟨sa, la⟩ := rval_sz ha
  obtain ⟨sb, lb⟩ := rval_sz hb
  obtain ⟨sc, lc⟩ := rval_sz hc
  have zd := (sa.sub sb).mono (show _ ≤ 401 by omega)
  have zx := (sa.add sc).mono (show _ ≤ 401 by omega)
  have zy := (sb.add sc).mono (show _ ≤ 401 by omega)
  have zn := zd.neg
  obtain ⟨k1, r1⟩ := zd.back (by omega) (by omega)
  obtain ⟨k2, r2⟩ := zx.back (by omega) (by omega)
  obtain ⟨k3, r3⟩ := zy.back (by omega) (by omega)
  obtain ⟨k4, r4⟩ := zn.back (by omega) (by omega)
  refine ⟨cmpQ (rval a) (rval b), rCmp_ok ha hb, rSub_ok ha hb (zd.fit (by omega) (by omega)), ?_, rAdd_ok ha hc (zx.fit (by omega) (by omega)), rAdd_ok hb hc (zy.fit (by omega) (by omega)), ?_, ?_, ?_, ?_, cmpQ_cases _ _, zd, zx, zy, zn⟩
  · rw [rCmp_ok k1 rchk_48, r1, rval_48, cmpQ_sub]
  · rw [rCmp_ok k2 k3, r2, r3, cmpQ_add]
  · rw [ratNeg, rOp_ok k1 rchk_48, r1, ratTx_ok (zn.fit (by omega) (by omega))]
  · rw [rCmp_ok k4 rchk_48, r4, rval_48, cmpQ_swap]
  · rw [cmpQ_eq]; exact ⟨rval_inj ha hb, fun h => by rw [h]⟩
end Go.Proofs.YtpbdlmjfjkfphaaGreatDoor
namespace Go.Proofs.YtpbdlmjfjkfphaaGreatDoor
open Go.Lib

theorem itoa_len (z : Int) : (itoa z).length ≤ (decDigits z.natAbs).length + 1 := by
  unfold itoa
  split
  · rw [List.length_cons]; exact Nat.le_refl _
  · rw [show z.toNat = z.natAbs by omega]; exact Nat.le_succ _
theorem qText_len {q : Rat} (h : fitQ q = true) : (qText q).length ≤ 4002 := by
  rw [fitQ, Bool.and_eq_true, fitN, fitN, decide_eq_true_iff, decide_eq_true_iff] at h
  have := itoa_len q.num
  unfold qText
  split
  · omega
  · rw [List.length_append, List.length_cons]; omega
theorem rchk_len {a : List UInt8} (h : rchk a = 0) : a.length ≤ 4002 := by
  have hv := rchk_val a h
  rw [← hv.text]
  exact qText_len hv.fit
theorem sz_rt {l : List UInt8} (h : l.length ≤ 4002) : (⟨l.toArray⟩ : ByteArray).size ≤ 9223372036854775807 := by
  have : (⟨l.toArray⟩ : ByteArray).size = l.length := by simp [ByteArray.size]
  omega
theorem beq_rl (l : List UInt8) (s : ByteArray) : (l == s.toList) = decide (l = SL s) := by
  have h0 : ((⟨l.toArray⟩ : ByteArray).toList == s.toList) = decide (l = SL s) := by
    by_cases h : l = SL s
    · rw [decide_eq_true h, h]
      exact (Lib.bytes_beq_iff _ _).2 rfl
    · rw [decide_eq_false h]
      exact (Lib.bytes_beq_false_iff _ _).2 fun k => h (by have := congrArg SL k; exact this)
  have e : (⟨l.toArray⟩ : ByteArray).toList = l := by simp
  rwa [e] at h0
theorem beq_rl_self (s : ByteArray) : (SL s == s.toList) = true := by rw [beq_rl, decide_eq_true rfl]
theorem rall_three {a b c : List UInt8} (h : rAll [a, b, c] = 0) : rchk a = 0 ∧ rchk b = 0 ∧ rchk c = 0 := by
  simp only [rAll] at h
  refine ⟨?_, ?_, ?_⟩
  · by_cases k : rchk a = 0
    · exact k
    · rw [if_neg k] at h; exact h
  · by_cases k : rchk a = 0
    · rw [if_pos k] at h
      by_cases k2 : rchk b = 0
      · exact k2
      · rw [if_neg k2] at h; exact h
    · rw [if_neg k] at h; exact absurd h k
  · by_cases k : rchk a = 0
    · rw [if_pos k] at h
      by_cases k2 : rchk b = 0
      · rw [if_pos k2] at h
        by_cases k3 : rchk c = 0
        · exact k3
        · rw [if_neg k3] at h; exact h
      · rw [if_neg k2] at h; exact absurd h k2
    · rw [if_neg k] at h; exact absurd h k
theorem field_use {a b c : List UInt8} (ha : rchk a = 0) (hb : rchk b = 0) (hc : rchk c = 0) (hl : a.length + b.length + c.length ≤ 400) :
    ∃ s x y z : List UInt8, ratAdd b c = (s, 0) ∧ ratMul a s = (x, 0) ∧ ratMul a b = (y, 0) ∧ ratMul a c = (z, 0) ∧ ratAdd y z = (x, 0) ∧ ratSub s c = (b, 0) ∧
      (b = [48] → ratDiv y b = ([], 10)) ∧ (b ≠ [48] → ratDiv y b = (a, 0)) ∧ s.length ≤ 4002 ∧ y.length ≤ 4002 ∧ z.length ≤ 4002 := by
  obtain ⟨h1, h2, h3, h4, h5, h6, h7, h8, s1, s2, s3⟩ := field_law ha hb hc hl
  exact ⟨_, _, _, _, h1, h2, h3, h4, h5, h6, h7, h8, qText_len (s1.fit (by omega) (by omega)), qText_len (s2.fit (by omega) (by omega)), qText_len (s3.fit (by omega) (by omega))⟩
theorem rorder_use {a b c : List UInt8} (ha : rchk a = 0) (hb : rchk b = 0) (hc : rchk c = 0) (hl : a.length + b.length + c.length ≤ 400) :
    ∃ (k : Int) (d x y n : List UInt8), ratCmp a b = (k, 0) ∧ ratSub a b = (d, 0) ∧ ratCmp d [48] = (k, 0) ∧ ratAdd a c = (x, 0) ∧ ratAdd b c = (y, 0) ∧ ratCmp x y = (k, 0) ∧ ratNeg d = (n, 0) ∧ ratCmp n [48] = (-k, 0) ∧
      (k = 0 ↔ a = b) ∧ (k = -1 ∨ k = 0 ∨ k = 1) ∧ d.length ≤ 4002 ∧ x.length ≤ 4002 ∧ y.length ≤ 4002 ∧ n.length ≤ 4002 := by
  obtain ⟨k, h1, h2, h3, h4, h5, h6, h7, h8, h9, h10, s1, s2, s3, s4⟩ := rorder_law ha hb hc hl
  exact ⟨k, _, _, _, _, h1, h2, h3, h4, h5, h6, h7, h8, h9, h10, qText_len (s1.fit (by omega) (by omega)), qText_len (s2.fit (by omega) (by omega)), qText_len (s3.fit (by omega) (by omega)), qText_len (s4.fit (by omega) (by omega))⟩
end Go.Proofs.YtpbdlmjfjkfphaaGreatDoor
namespace Go.Proofs.YtpbdlmjfjkfphaaGreatDoor
open Go.RowKit

theorem size_of_wf {s : ByteArray} (h : s.size ≤ maxLen) : s.size ≤ 9223372036854775807 := by unfold maxLen at h; omega
theorem own : ownKnob Tryz.prog.godebug = none := by kernel_rfl
theorem gPow : (Tryz.prog.globalNamed "internal/strconv.uint64pow10").isSome = true := by kernel_rfl
theorem pow_data {H : Type} : (Rows.laid_internal_strconv_uint64pow10 : DataW H) = Lib.tabData .u64 Lib.pow10Tab := rfl
theorem tab_of_laid {W : World} (h : laidMetH Tryz.prog Rows.ratFieldRow.laid W) : Tab W := by
  rw [MakeChecks.laidMetH_plain _ _ _ (by kernel_rfl)] at h
  have h2 := (show laidMet Tryz.prog [("math/bits.deBruijn32tab", Rows.laid_math_bits_deBruijn32tab), ("math/bits.deBruijn64tab", Rows.laid_math_bits_deBruijn64tab), ("internal/strconv.uint64pow10", Lib.tabData .u64 Lib.pow10Tab), ("strconv.ErrRange", Rows.laid_strconv_ErrRange), ("strconv.ErrSyntax", Rows.laid_strconv_ErrSyntax)] W from h).tail.tail
  obtain ⟨g, hg⟩ := Option.isSome_iff_exists.1 gPow
  exact Lib.tabIs_of_head hg (by obtain rfl : g = (Tryz.prog.globalNamed "internal/strconv.uint64pow10").get gPow := by simp [hg]
                                 kernel_rfl) Tryz.underlying142 Tryz.underlying85 (by kernel_rfl) (by kernel_rfl) h2
theorem reads_rt3 (w : World) (t : TypeId) (s u v : ByteArray) : Reads (w.alloc (.cells #[.string s, .string u, .string v] t)) (w.alloc (.cells #[.string s, .string u, .string v] t)).heap.size 1 (some ⟨w.heap.size, 0, none⟩) 3 ([s, u, v].map Sv) := by
  have := reads_lits w t ([s, u, v].map Sv)
  rw [World.size_alloc]
  exact this
theorem mem3 {s t u x : ByteArray} {K : Nat} (hs : s.size ≤ K) (ht : t.size ≤ K) (hu : u.size ≤ K) (h : x ∈ [s, t, u]) : x.size ≤ K := by
  rcases List.mem_cons.1 h with rfl | h
  · exact hs
  · exact mem2 ht hu h
end Go.Proofs.YtpbdlmjfjkfphaaGreatDoor
