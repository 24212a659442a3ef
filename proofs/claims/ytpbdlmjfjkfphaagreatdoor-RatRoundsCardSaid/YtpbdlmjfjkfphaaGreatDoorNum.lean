/- Decimal numbers: the number of a canonical row of digits, and back; what Check answers. Plain facts. -/
import Derived.Test.YtpbdlmjfjkfphaaGreatDoorRead
namespace Go.Proofs.YtpbdlmjfjkfphaaGreatDoor
open Go.Lib

theorem digs_append {l m : List UInt8} (h : Digs l) (k : Digs m) : Digs (l ++ m) := fun c hc => (List.mem_append.1 hc).elim (h c) (k c)
theorem digit_nat {d : Nat} (h : d < 10) : (UInt8.ofNat (48 + d)).toNat = 48 + d := by rw [UInt8.toNat_ofNat']; omega
theorem digs_one {d : Nat} (h : d < 10) : Digs [UInt8.ofNat (48 + d)] := fun c hc => by
  rw [List.mem_singleton.1 hc, digit_nat h]; omega
theorem num_one (c : UInt8) : num [c] = c.toNat - 48 := by simp [num, numA]
theorem digs_dec (n : Nat) : Digs (decDigits n) := by
  induction n using Nat.strongRecOn with
  | ind n ih =>
    by_cases h : n < 10
    · rw [decDigits, dif_pos h]; exact digs_one h
    · rw [dec_ge (by omega)]; exact digs_append (ih _ (by omega)) (digs_one (by omega))
theorem num_dec (n : Nat) : num (decDigits n) = n := by
  induction n using Nat.strongRecOn with
  | ind n ih =>
    by_cases h : n < 10
    · rw [decDigits, dif_pos h, num_one, digit_nat h]; omega
    · rw [dec_ge (by omega), num_append, ih _ (by omega), num_one, digit_nat (by omega)]
      simp only [List.length_cons, List.length_nil]
      omega
/-- a canonical row of digits -/
structure Canon (l : List UInt8) : Prop where
  digs : Digs l
  ne : l ≠ []
  head : 1 < l.length → l.head? ≠ some 48
theorem dec_head (n : Nat) (h : 1 < (decDigits n).length) : (decDigits n).head? ≠ some 48 := by
  induction n using Nat.strongRecOn with
  | ind n ih =>
    by_cases h1 : n < 10
    · rw [decDigits, dif_pos h1] at h; simp at h
    · rw [dec_ge (by omega), List.head?_append]
      by_cases h2 : n / 10 < 10
      · rw [decDigits, dif_pos h2]
        simp only [List.head?_cons, Option.some_or]
        intro e
        have e := congrArg UInt8.toNat (Option.some.inj e)
        rw [digit_nat h2] at e
        simp at e
        omega
      · have hl : 1 < (decDigits (n / 10)).length := by
          rw [dec_ge (by omega), List.length_append]
          have := dec_len_pos (n / 10 / 10)
          simp
          omega
        have := ih (n / 10) (by omega) hl
        cases hd : (decDigits (n / 10)).head? with
        | none => rw [List.head?_eq_none_iff] at hd; rw [hd] at hl; simp at hl
        | some c => rw [hd] at this; simpa using this
theorem canon_dec (n : Nat) : Canon (decDigits n) := ⟨digs_dec n, fun e => by have := dec_len_pos n; rw [e] at this; simp at this, dec_head n⟩
theorem num_pos : ∀ {l : List UInt8}, Digs l → l ≠ [] → l.head? ≠ some 48 → 1 ≤ num l
  | c :: l, hd, _, hh => by
    have h1 := hd c List.mem_cons_self
    have h2 : c.toNat ≠ 48 := fun e => hh (by rw [List.head?_cons, show c = 48 from UInt8.toNat_inj.1 e])
    have h3 := num_append [c] l
    rw [List.singleton_append, num_one] at h3
    have h4 : 1 * 10 ^ l.length ≤ (c.toNat - 48) * 10 ^ l.length := Nat.mul_le_mul_right _ (by omega)
    have h5 : 1 ≤ 10 ^ l.length := Nat.pow_pos (by decide)
    omega
theorem dec_num_aux : ∀ (n : Nat) (l : List UInt8), l.length = n → Canon l → decDigits (num l) = l
  | 0, l, hn, h => absurd (List.eq_nil_of_length_eq_zero hn) h.ne
  | n + 1, l, hn, h => by
    have hne := h.ne
    have hl := List.dropLast_concat_getLast hne
    generalize hm : l.dropLast = m at hl
    generalize l.getLast hne = c at hl
    subst hl
    have hc := h.digs c (by simp)
    by_cases hm0 : m = []
    · subst hm0
      rw [List.nil_append, num_one, decDigits, dif_pos (by omega)]
      congr 1
      exact UInt8.toNat_inj.1 (by rw [digit_nat (by omega)]; omega)
    · have hml : 1 ≤ m.length := by cases m with | nil => exact absurd rfl hm0 | cons => simp
      have hh : m.head? ≠ some 48 := by
        have := h.head (by simp; omega)
        cases m with
        | nil => exact absurd rfl hm0
        | cons a m => simpa using this
      have hdm : Digs m := fun x hx => h.digs x (List.mem_append_left _ hx)
      have ih := dec_num_aux n m (by simp at hn; omega) ⟨hdm, hm0, fun _ => hh⟩
      have h1 := num_pos hdm hm0 hh
      have e : num (m ++ [c]) = num m * 10 + (c.toNat - 48) := by rw [num_append, num_one]; simp
      rw [e, dec_ge (by omega), show (num m * 10 + (c.toNat - 48)) / 10 = num m by omega, show (num m * 10 + (c.toNat - 48)) % 10 = c.toNat - 48 by omega, ih]
      congr 2
      exact UInt8.toNat_inj.1 (by rw [digit_nat (by omega)]; omega)
theorem dec_num {l : List UInt8} (h : Canon l) : decDigits (num l) = l := dec_num_aux _ l rfl h
theorem num_inj {l m : List UInt8} (hl : Canon l) (hm : Canon m) (h : num l = num m) : l = m := by rw [← dec_num hl, ← dec_num hm, h]
/-- is every byte a digit? -/
def digsB (l : List UInt8) : Bool := l.all fun c => decide (48 ≤ c.toNat) && decide (c.toNat ≤ 57)
theorem digsB_iff (l : List UInt8) : digsB l = true ↔ Digs l := by simp [digsB, Digs, List.all_eq_true]
/-- nat.Check -/
def chk (l : List UInt8) : Int := if digsB l = false then 5 else if l = [] ∨ (1 < l.length ∧ l.head? = some 48) then 5 else if 2000 < l.length then 2 else 0
/-- a valid number -/
structure Num (l : List UInt8) : Prop extends Canon l where
  len : l.length ≤ 2000
theorem chk_ok (l : List UInt8) : chk l = 0 ↔ Num l := by
  unfold chk
  split
  · rename_i h
    exact ⟨fun e => (by cases e), fun k => by rw [(digsB_iff l).2 k.digs] at h; cases h⟩
  · rename_i h
    split
    · rename_i h1
      refine ⟨fun e => (by cases e), fun k => ?_⟩
      rcases h1 with h1 | ⟨h1, h2⟩
      · exact absurd h1 k.ne
      · exact absurd h2 (k.head h1)
    · rename_i h1
      split
      · exact ⟨fun e => (by cases e), fun k => absurd k.len (by omega)⟩
      · refine ⟨fun _ => ⟨⟨(digsB_iff l).1 (by simpa using h), fun e => h1 (.inl e), fun a b => h1 (.inr ⟨a, b⟩)⟩, by omega⟩, fun _ => rfl⟩
theorem chk_cases (l : List UInt8) : chk l = 0 ∨ chk l = 2 ∨ chk l = 5 := by unfold chk; split <;> (try split) <;> (try split) <;> simp
theorem itoa_nat (n : Nat) : itoa (n : Int) = decDigits n := by simp [itoa]
end Go.Proofs.YtpbdlmjfjkfphaaGreatDoor
