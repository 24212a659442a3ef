/- Numerals in parts of nine digits: plain facts. No program here. -/
import Derived.Lib.ItoaNum
import Derived.WalkKit
namespace Go.Proofs.YtpbdlmjfjkfphaaGreatDoor
open Go.Lib

def padN : Nat → Nat → List UInt8
  | 0, _ => []
  | n + 1, b => padN n (b / 10) ++ [UInt8.ofNat (48 + b % 10)]
theorem dec_ge {u : Nat} (h : 10 ≤ u) : decDigits u = decDigits (u / 10) ++ [UInt8.ofNat (48 + u % 10)] := by rw [decDigits, dif_neg (by omega)]
theorem dec_join (a : Nat) (ha : 1 ≤ a) : ∀ (n b : Nat), b < 10 ^ n → decDigits (a * 10 ^ n + b) = decDigits a ++ padN n b
  | 0, b, h => by
    have : b = 0 := by simpa using h
    subst this
    simp [padN]
  | n + 1, b, h => by
    have hp : 0 < 10 ^ n := Nat.pow_pos (by decide)
    have e : 10 ^ (n + 1) = 10 * 10 ^ n := by rw [Nat.pow_succ, Nat.mul_comm]
    have h1 : a * 10 ^ (n + 1) = 10 * (a * 10 ^ n) := by rw [e, Nat.mul_left_comm]
    have h2 : 10 ^ n ≤ a * 10 ^ n := Nat.le_mul_of_pos_left _ ha
    rw [h1, dec_ge (by omega), show (10 * (a * 10 ^ n) + b) / 10 = a * 10 ^ n + b / 10 by omega, show (10 * (a * 10 ^ n) + b) % 10 = b % 10 by omega, dec_join a ha n (b / 10) (by omega), padN, List.append_assoc]
theorem padN_zero : ∀ n, padN n 0 = List.replicate n 48
  | 0 => rfl
  | n + 1 => by rw [padN, padN_zero n, List.replicate_succ']; rfl
theorem dec_len_pos (u : Nat) : 1 ≤ (decDigits u).length := by
  rw [decDigits]
  split <;> simp
theorem dec_len_le : ∀ (n b : Nat), b < 10 ^ n → 1 ≤ n → (decDigits b).length ≤ n
  | 0, _, _, h => by omega
  | n + 1, b, h, _ => by
    by_cases hb : b < 10
    · rw [decDigits, dif_pos hb]; simp
    · have hn : 1 ≤ n := by
        rcases Nat.eq_zero_or_pos n with h0 | h0
        · subst h0; simp at h; omega
        · exact h0
      have e : 10 ^ (n + 1) = 10 * 10 ^ n := by rw [Nat.pow_succ, Nat.mul_comm]
      rw [dec_ge (by omega), List.length_append]
      have := dec_len_le n (b / 10) (by omega) hn
      simp
      omega
theorem padN_eq : ∀ (n b : Nat), b < 10 ^ n → 1 ≤ n → padN n b = List.replicate (n - (decDigits b).length) 48 ++ decDigits b
  | 0, _, _, h => by omega
  | n + 1, b, h, _ => by
    by_cases hb : b < 10
    · have e : decDigits b = [UInt8.ofNat (48 + b)] := by rw [decDigits, dif_pos hb]
      rw [padN, show b / 10 = 0 by omega, padN_zero, e, show b % 10 = b by omega]
      simp
    · have hn : 1 ≤ n := by
        rcases Nat.eq_zero_or_pos n with h0 | h0
        · subst h0; simp at h; omega
        · exact h0
      have e : 10 ^ (n + 1) = 10 * 10 ^ n := by rw [Nat.pow_succ, Nat.mul_comm]
      rw [padN, padN_eq n (b / 10) (by omega) hn, dec_ge (show 10 ≤ b by omega), List.append_assoc]
      congr 2
      simp
/-- the number of parts, the lowest first -/
def valB : List Int → Int
  | [] => 0
  | p :: r => p + 1000000000 * valB r
def OkB (l : List Int) : Prop := ∀ x ∈ l, 0 ≤ x ∧ x < 1000000000
theorem OkB.nil : OkB [] := fun _ h => by simp at h
theorem OkB.snoc {l : List Int} (h : OkB l) {x : Int} (hx : 0 ≤ x ∧ x < 1000000000) : OkB (l ++ [x]) := fun y hy => by
  rcases List.mem_append.1 hy with h1 | h1
  · exact h y h1
  · simp at h1; subst h1; exact hx
theorem OkB.at_ {l : List Int} (h : OkB l) (i : Nat) : 0 ≤ l.getD i 0 ∧ l.getD i 0 < 1000000000 := by
  rw [List.getD_eq_getElem?_getD]
  by_cases hi : i < l.length
  · rw [List.getElem?_eq_getElem hi]; exact h _ (List.getElem_mem hi)
  · rw [List.getElem?_eq_none (by omega)]; exact ⟨by decide, by decide⟩
theorem valB_nonneg : ∀ {l : List Int}, OkB l → 0 ≤ valB l
  | [], _ => Int.le_refl _
  | x :: l, h => by
    have h1 := valB_nonneg (l := l) fun y hy => h y (List.mem_cons_of_mem _ hy)
    have h2 := h x List.mem_cons_self
    rw [valB]; omega
theorem valB_snoc : ∀ (l : List Int) (x : Int), valB (l ++ [x]) = valB l + 1000000000 ^ l.length * x
  | [], x => by simp [valB]
  | y :: l, x => by
    rw [List.cons_append, valB, valB, valB_snoc l x, List.length_cons, Int.pow_succ]
    grind
def txt : List Int → List UInt8
  | [] => []
  | [p] => decDigits p.toNat
  | p :: q :: r => txt (q :: r) ++ (List.replicate (9 - (decDigits p.toNat).length) 48 ++ decDigits p.toNat)
theorem txt_pos : ∀ {l : List Int}, OkB l → (hne : l ≠ []) → l.getLast hne ≠ 0 → 1 ≤ valB l
  | [x], h, _, hl => by
    have := h x List.mem_cons_self
    simp at hl
    simp [valB]
    omega
  | x :: y :: r, h, _, hl => by
    have h1 := txt_pos (l := y :: r) (fun z hz => h z (List.mem_cons_of_mem _ hz)) (by simp) (by simpa using hl)
    have h2 := h x List.mem_cons_self
    rw [valB]
    omega
theorem txt_eq : ∀ {l : List Int}, OkB l → (hne : l ≠ []) → l.getLast hne ≠ 0 → txt l = decDigits (valB l).toNat
  | [x], _, _, _ => by simp [txt, valB]
  | x :: y :: r, h, _, hl => by
    have hr : OkB (y :: r) := fun z hz => h z (List.mem_cons_of_mem _ hz)
    have h1 := txt_pos hr (by simp) (by simpa using hl)
    have h2 := h x List.mem_cons_self
    have ih := txt_eq hr (by simp) (by simpa using hl)
    have e : (valB (x :: y :: r)).toNat = (valB (y :: r)).toNat * 10 ^ 9 + x.toNat := by rw [valB]; omega
    rw [e, dec_join _ (by omega) 9 _ (by omega), txt, ih, padN_eq 9 _ (by omega) (by omega)]
/-- one part more, from the top -/
theorem txt_drop {l : List Int} {i : Nat} (h : i + 1 < l.length) : txt (l.drop i) = txt (l.drop (i + 1)) ++ (List.replicate (9 - (decDigits (l.getD i 0).toNat).length) 48 ++ decDigits (l.getD i 0).toNat) := by
  have e1 : l.drop i = l.getD i 0 :: l.drop (i + 1) := by rw [List.drop_eq_getElem_cons (by omega), List.getD_eq_getElem?_getD, List.getElem?_eq_getElem (by omega)]; rfl
  have e2 : l.drop (i + 1) = l.getD (i + 1) 0 :: l.drop (i + 2) := by rw [List.drop_eq_getElem_cons h, List.getD_eq_getElem?_getD, List.getElem?_eq_getElem h]; rfl
  rw [e1, e2, txt]
theorem txt_last {l : List Int} {i : Nat} (h : i + 1 = l.length) : txt (l.drop i) = decDigits (l.getD i 0).toNat := by
  have e1 : l.drop i = l.getD i 0 :: l.drop (i + 1) := by rw [List.drop_eq_getElem_cons (by omega), List.getD_eq_getElem?_getD, List.getElem?_eq_getElem (by omega)]; rfl
  rw [e1, List.drop_of_length_le (by omega), txt]
theorem dec_len_lt (u n : Nat) (hn : 1 ≤ n) : (decDigits u).length ≤ n ↔ u < 10 ^ n := by
  refine ⟨fun h => ?_, fun h => dec_len_le n u h hn⟩
  have h1 := lt_pow_nDigits u
  rw [decDigits_length] at h
  exact Nat.lt_of_lt_of_le h1 (Nat.pow_le_pow_right (by decide) h)
end Go.Proofs.YtpbdlmjfjkfphaaGreatDoor
