/- large.shifted. -/
import Derived.Test.YtpbdlmjfjkfphaaGreatDoorDivS
namespace Go.Proofs.YtpbdlmjfjkfphaaGreatDoor
open Go.RowKit

structure ShI (w : World) (g : Nat) (a : List Int) (s : Nat) (i : Nat) (c : Int) (o : List Int) (wr : World) : Prop where
  wrd : Wrd w g (a.length + 1) o wr
  hi : i ≤ a.length
  hc : 0 ≤ c ∧ c < 2 ^ s
  sum : val (o.take i) + P32 i * c = val (a.take i) * 2 ^ s
theorem or_lo {c x : Int} {s : Nat} (hs : s ≤ 31) (hc : 0 ≤ c ∧ c < 2 ^ s) (hx : 0 ≤ x ∧ x < 4294967296) : bits BinOp.or IntKind.u64 c (IntKind.u64.wrap (x * 2 ^ s)) = c + x * 2 ^ s ∧ 0 ≤ c + x * 2 ^ s ∧ c + x * 2 ^ s < 4294967296 * 2 ^ s ∧ (2 : Int) ^ s ≤ 2147483648 := by
  have hp : (2 : Int) ^ s = ((2 ^ s : Nat) : Int) := by simp
  have h1 : (2 : Nat) ^ s ≤ 2 ^ 31 := Nat.pow_le_pow_right (by decide) hs
  have h0 : 0 < (2 : Nat) ^ s := Nat.two_pow_pos s
  rw [hp] at hc ⊢
  have h2 : x * ((2 ^ s : Nat) : Int) ≤ 4294967295 * ((2 ^ s : Nat) : Int) := Int.mul_le_mul_of_nonneg_right (by omega) (by omega)
  have h3 : 0 ≤ x * ((2 ^ s : Nat) : Int) := Int.mul_nonneg hx.1 (by omega)
  have hdvd : (x * ((2 ^ s : Nat) : Int)).toNat % 2 ^ s = 0 := by
    obtain ⟨n, rfl⟩ := Int.eq_ofNat_of_zero_le hx.1
    rw [← Int.natCast_mul, Int.toNat_natCast]
    exact Nat.mul_mod_left n _
  generalize hq : (2 : Nat) ^ s = q at *
  refine ⟨?_, by omega, by omega, by omega⟩
  rw [IntKind.wrap_u64, Int.emod_eq_of_lt h3 (by omega), u64_or _ _ (by omega) (by omega) (by omega) (by omega), Nat.or_comm, nat_join s _ _ (by rw [hq]; exact hdvd) (by rw [hq]; omega)]
  omega
theorem ShI.step {w : World} {g : Nat} {a : List Int} {s i : Nat} {c : Int} {o : List Int} {wr : World} (h : ShI w g a s i c o wr) (oa : Ok a) (hs : s ≤ 31) (hlt : i < a.length) (hg : w.heap.size ≤ g) {t : Int} (ht : t = c + a.getD i 0 * 2 ^ s) :
    ShI w g a s (i + 1) (t / 4294967296) (o.set i (t % 4294967296)) (wr.setCell ⟨g, i, none⟩ (U (t % 4294967296))) := by
  obtain ⟨_, h1, h2, _⟩ := or_lo hs h.hc (oa.at_ i)
  rw [← ht] at h1 h2
  refine ⟨h.wrd.set i (by omega) hg, by omega, by omega, ?_⟩
  have hl := h.wrd.len
  rw [val_set_take o i _ (by omega), val_take_succ, P32_succ, Int.add_mul]
  have h4 := h.sum
  have h5 := mul_split (P32 i) t
  have e : P32 i * t = P32 i * c + P32 i * a.getD i 0 * 2 ^ s := by rw [ht, Int.mul_add, Int.mul_assoc]
  omega
set_option maxRecDepth 100000 in
set_option maxHeartbeats 1000000 in
theorem shifted_any (a : List Int) (A : Option Addr) (ca : Nat) (s : Nat) (w : World) (hA : Reads w w.heap.size 1 A a.length (a.map U)) (oa : Ok a) (hl : a.length ≤ 1000000) (hs : s ≤ 31) :
    Calls Tryz.prog 82 #[.slice A a.length ca, I s] w fun e w' => ∃ o, e = .returned (.slice (some ⟨w.heap.size, 0, none⟩) (a.length + 1) (a.length + 1)) ∧ Wrd w w.heap.size (a.length + 1) o w' ∧ val o = val a * 2 ^ s := by
  have hmk := make_u32 (a.length + 1) (by omega)
  have e1 : ((a.length + 1 : Nat) : Int) = (a.length : Int) + 1 := by omega
  rw [e1] at hmk
  clear e1
  have HW := Lib.hid (Wrd.start w (a.length + 1))
  go_enter Tryz.func82, Tryz.ntmps82
  go_wp2
  go_loopg [6, 15] (a.length - 0) (fun r cv iv wr => ∃ (i : Nat) (c : Int) (o : List Int), r = a.length - i ∧ cv = .int .u64 c ∧ iv = I i ∧ ShI w w.heap.size a s i c o wr)
  case atStart => exact ⟨0, 0, _, rfl, rfl, rfl, HW.out, by omega, ⟨by omega, by have := Nat.two_pow_pos s; exact_mod_cast this⟩, by simp [val]⟩
  case round =>
    clear HW hmk
    obtain ⟨i, c, o, rfl, rfl, rfl, hI⟩ := hrel
    obtain ⟨hc0, hc1⟩ := hI.hc
    have hi := hI.hi
    by_cases hlt : i < a.length
    · obtain ⟨ba, offa, hAe, hba, hca⟩ := (hA.below hI.wrd.below).word hlt
      subst hAe
      have hx := oa.at_ i
      obtain ⟨x, hxe⟩ : ∃ x, a.getD i 0 = x := ⟨_, rfl⟩
      rw [hxe] at hca hx
      have HXE := Lib.hid hxe
      clear hxe
      obtain ⟨hx0, hx1⟩ := hx
      have hf : wr.frozen? ⟨w.heap.size, i, none⟩ = false := hI.wrd.blk.frozen _
      have hco := hI.wrd.cell (i := i) (by omega)
      have hlo := hI.wrd.blk.lt
      obtain ⟨hor, ht0, ht1, hp⟩ := or_lo hs ⟨hc0, hc1⟩ ⟨hx0, hx1⟩
      have hN := hI.step oa hs hlt (Nat.le_refl _) (t := c + x * 2 ^ s) (by rw [HXE.out])
      have HN := Lib.hid hN
      have ht2 : c + x * 2 ^ s < 18446744073709551616 := by omega
      clear hN hI hc1 ht1 hp
      go_wp2
      go_roundg (a.length - (i + 1))
      case measure => omega
      case rel => exact ⟨i + 1, _, _, rfl, rfl, by go_num, HN.out⟩
    · obtain rfl : i = a.length := by omega
      have hp : (2 : Int) ^ s ≤ 2147483648 := (or_lo (x := 0) hs ⟨hc0, hc1⟩ (by omega)).2.2.2
      have hcb : c < 4294967296 := by omega
      have hf : wr.frozen? ⟨w.heap.size, a.length, none⟩ = false := hI.wrd.blk.frozen _
      have hco := hI.wrd.cell (i := a.length) (by omega)
      have hlo := hI.wrd.blk.lt
      have hF := hI.wrd.set a.length (x := c) (by omega) (Nat.le_refl _)
      have hV : val (o.set a.length c) = val a * 2 ^ s := by
        have h1 := val_set_take o a.length c (by rw [hI.wrd.len]; omega)
        rw [List.take_of_length_le (by rw [List.length_set, hI.wrd.len]; omega)] at h1
        rw [h1, hI.sum, List.take_of_length_le (Nat.le_refl _)]
      have HF := Lib.hid hF
      have HV := Lib.hid hV
      clear hF hV hI hc1 hp
      go_wp2
      go_ret
      exact ⟨_, rfl, HF.out, HV.out⟩
end Go.Proofs.YtpbdlmjfjkfphaaGreatDoor
