/- Lengths of the texts that package nat answers. -/
import Derived.Test.YtpbdlmjfjkfphaaDoorNFact
namespace Go.Proofs.YtpbdlmjfjkfphaaDoor
open Go.RowKit

theorem natTx_len (n : Nat) : (natTx n).1.length ≤ 2000 := by
  unfold natTx
  split
  · rename_i h; simpa [fitN] using h
  · exact Nat.zero_le _
theorem natOp_len {a b : List UInt8} {r : List UInt8 × Int} (h : r.1.length ≤ 2000) : (natOp a b r).1.length ≤ 2000 := by
  unfold natOp
  split
  · exact h
  · exact Nat.zero_le _
theorem sz_mk {l : List UInt8} (h : l.length ≤ 2000) : (⟨l.toArray⟩ : ByteArray).size ≤ 9223372036854775807 := by
  have : (⟨l.toArray⟩ : ByteArray).size = l.length := by simp [ByteArray.size]
  omega
theorem natAdd_len (a b : List UInt8) : (natAdd a b).1.length ≤ 2000 := natOp_len (natTx_len _)
theorem natMul_len (a b : List UInt8) : (natMul a b).1.length ≤ 2000 := natOp_len (natTx_len _)
theorem natGcd_len (a b : List UInt8) : (natGcd a b).1.length ≤ 2000 := natOp_len (natTx_len _)
theorem natSub_len (a b : List UInt8) : (natSub a b).1.length ≤ 2000 := natOp_len (by split; exact Nat.zero_le _; exact natTx_len _)
theorem natPow_len (a : List UInt8) (n : Int) : (natPow a n).1.length ≤ 2000 := by
  unfold natPow
  split
  · split
    · exact Nat.zero_le _
    · exact natTx_len _
  · exact Nat.zero_le _
theorem natRoot_len (a : List UInt8) : (natRoot a).1.length ≤ 2000 := by
  unfold natRoot
  split
  · exact natTx_len _
  · exact Nat.zero_le _
theorem natDiv_len (a b : List UInt8) : (natDiv a b).1.1.length ≤ 2000 ∧ (natDiv a b).1.2.length ≤ 2000 := by
  unfold natDiv
  split
  · rename_i h
    obtain ⟨ha, hb⟩ := (natTwo_ok a b).1 h
    split
    · exact ⟨Nat.zero_le _, Nat.zero_le _⟩
    · rename_i h0
      have f1 := fitN_mono ha.fit (Nat.div_le_self (num a) (num b))
      have f2 := fitN_mono hb.fit (Nat.le_of_lt (Nat.mod_lt (num a) (Nat.pos_of_ne_zero h0)))
      exact ⟨by simpa [fitN] using f1, by simpa [fitN] using f2⟩
  · exact ⟨Nat.zero_le _, Nat.zero_le _⟩
/-- two texts are held against each other -/
theorem beq_mk (l m : List UInt8) : ((⟨l.toArray⟩ : ByteArray).toList == (⟨m.toArray⟩ : ByteArray).toList) = decide (l = m) := by
  by_cases h : l = m
  · rw [decide_eq_true h, h]
    exact (Lib.bytes_beq_iff _ _).2 rfl
  · rw [decide_eq_false h]
    exact (Lib.bytes_beq_false_iff _ _).2 fun k => h (by have := congrArg SL k; exact this)
theorem beq_mk_sl (l : List UInt8) (s : ByteArray) : ((⟨l.toArray⟩ : ByteArray).toList == s.toList) = decide (l = SL s) := by
  have := beq_mk l (SL s)
  exact this
theorem toList_mk (l : List UInt8) : (⟨l.toArray⟩ : ByteArray).toList = l := by simp
theorem beq_sl (l : List UInt8) (s : ByteArray) : (l == s.toList) = decide (l = SL s) := by
  have := beq_mk_sl l s
  rwa [toList_mk] at this
theorem beq_sl_self (s : ByteArray) : (SL s == s.toList) = true := by rw [beq_sl, decide_eq_true rfl]
end Go.Proofs.YtpbdlmjfjkfphaaDoor
