/- Numbers in 32-bit words, the lowest one first: plain facts. No program here. -/
import Derived.WalkKit
namespace Go.Proofs.YtpbdlmjfjkfphaaGreatDoor

/-- 2 to the power 32 i -/
def P32 (i : Nat) : Int := 4294967296 ^ i
theorem P32_zero : P32 0 = 1 := rfl
theorem P32_succ (i : Nat) : P32 (i + 1) = 4294967296 * P32 i := by unfold P32; rw [Int.pow_succ, Int.mul_comm]
theorem P32_pos (i : Nat) : 0 < P32 i := by
  induction i with
  | zero => decide
  | succ i ih => rw [P32_succ]; omega
theorem P32_add (i j : Nat) : P32 (i + j) = P32 i * P32 j := by unfold P32; exact Int.pow_add _ _ _
theorem P32_mono {i j : Nat} (h : i ≤ j) : P32 i ≤ P32 j := by
  obtain ⟨k, rfl⟩ := Nat.le.dest h
  clear h
  induction k with
  | zero => exact Int.le_refl _
  | succ k ih => rw [show i + (k + 1) = (i + k) + 1 from rfl, P32_succ]; have := P32_pos (i + k); omega
/-- the number of words -/
def val : List Int → Int
  | [] => 0
  | x :: xs => x + 4294967296 * val xs
def Ok (l : List Int) : Prop := ∀ x ∈ l, 0 ≤ x ∧ x < 4294967296
theorem Ok.nil : Ok [] := fun x h => by simp at h
theorem Ok.tail {x : Int} {l : List Int} (h : Ok (x :: l)) : Ok l := fun y hy => h y (List.mem_cons_of_mem _ hy)
theorem Ok.head {x : Int} {l : List Int} (h : Ok (x :: l)) : 0 ≤ x ∧ x < 4294967296 := h x List.mem_cons_self
theorem Ok.take {l : List Int} (h : Ok l) (k : Nat) : Ok (l.take k) := fun x hx => h x (List.mem_of_mem_take hx)
theorem Ok.drop {l : List Int} (h : Ok l) (k : Nat) : Ok (l.drop k) := fun x hx => h x (List.mem_of_mem_drop hx)
theorem Ok.at_ {l : List Int} (h : Ok l) (i : Nat) : 0 ≤ l.getD i 0 ∧ l.getD i 0 < 4294967296 := by
  rw [List.getD_eq_getElem?_getD]
  by_cases hi : i < l.length
  · rw [List.getElem?_eq_getElem hi]; exact h _ (List.getElem_mem hi)
  · rw [List.getElem?_eq_none (by omega)]; exact ⟨by decide, by decide⟩
theorem Ok.set {l : List Int} (h : Ok l) (i : Nat) {x : Int} (hx : 0 ≤ x ∧ x < 4294967296) : Ok (l.set i x) := by
  intro y hy
  rcases List.mem_or_eq_of_mem_set hy with h1 | h1
  · exact h y h1
  · rw [h1]; exact hx
theorem Ok.append {l m : List Int} (h : Ok l) (k : Ok m) : Ok (l ++ m) := fun x hx => by
  rcases List.mem_append.1 hx with h1 | h1
  · exact h x h1
  · exact k x h1
theorem Ok.replicate (n : Nat) : Ok (List.replicate n 0) := fun x hx => by rw [(List.mem_replicate.1 hx).2]; decide
theorem val_append (l m : List Int) : val (l ++ m) = val l + P32 l.length * val m := by
  induction l with
  | nil => simp [val, P32_zero]
  | cons x l ih =>
    simp only [List.cons_append, val, List.length_cons, ih, P32_succ]
    rw [Int.mul_add, Int.mul_assoc]
    omega
theorem val_nonneg {l : List Int} (h : Ok l) : 0 ≤ val l := by
  induction l with
  | nil => exact Int.le_refl _
  | cons x l ih => have := ih h.tail; have := h.head; simp only [val]; omega
theorem val_lt {l : List Int} (h : Ok l) : val l < P32 l.length := by
  induction l with
  | nil => decide
  | cons x l ih => have := ih h.tail; have := h.head; simp only [val, List.length_cons, P32_succ]; omega
theorem val_replicate (n : Nat) : val (List.replicate n 0) = 0 := by
  induction n with
  | zero => rfl
  | succ n ih => simp [List.replicate_succ, val, ih]
theorem take_succ_getD (l : List Int) (i : Nat) (h : i < l.length) : l.take (i + 1) = l.take i ++ [l.getD i 0] := by
  rw [List.take_succ_eq_append_getElem h, List.getD_eq_getElem?_getD, List.getElem?_eq_getElem h]; rfl
theorem val_take_succ (l : List Int) (i : Nat) : val (l.take (i + 1)) = val (l.take i) + P32 i * l.getD i 0 := by
  by_cases h : i < l.length
  · rw [take_succ_getD l i h, val_append, List.length_take, Nat.min_eq_left (by omega)]
    simp [val]
  · rw [List.take_of_length_le (by omega), List.take_of_length_le (by omega), List.getD_eq_getElem?_getD, List.getElem?_eq_none (by omega)]
    simp
theorem val_take_drop (l : List Int) (i : Nat) : val l = val (l.take i) + P32 i * val (l.drop i) := by
  by_cases h : i ≤ l.length
  · have := val_append (l.take i) (l.drop i)
    rw [List.take_append_drop, List.length_take, Nat.min_eq_left h] at this
    exact this
  · rw [List.take_of_length_le (by omega), List.drop_of_length_le (by omega)]; simp [val]
theorem val_set_take (l : List Int) (i : Nat) (x : Int) (h : i < l.length) : val ((l.set i x).take (i + 1)) = val (l.take i) + P32 i * x := by
  rw [val_take_succ, List.take_set_of_le (Nat.le_refl i)]
  simp [h]
theorem getD_set_ne (l : List Int) {i j : Nat} (x : Int) (h : i ≠ j) : (l.set i x).getD j 0 = l.getD j 0 := by
  simp [List.getD_eq_getElem?_getD, List.getElem?_set_ne h]
theorem getD_set_eq (l : List Int) {i : Nat} (x : Int) (h : i < l.length) : (l.set i x).getD i 0 = x := by
  simp [List.getD_eq_getElem?_getD, h]
/-- a number and its carry -/
theorem mul_split (p c : Int) : p * (c % 4294967296) + (4294967296 * p) * (c / 4294967296) = p * c := by
  have h := Int.emod_add_mul_ediv c 4294967296
  have : p * c = p * (c % 4294967296 + 4294967296 * (c / 4294967296)) := by rw [h]
  rw [this, Int.mul_add, Int.mul_comm 4294967296 p, Int.mul_assoc]

/-! ### words without zeros at the end -/
def Nm (l : List Int) : Prop := ∀ h : l ≠ [], l.getLast h ≠ 0
/-- how many words are left behind norm -/
def cutLen (l : List Int) : Nat → Nat
  | 0 => 0
  | k + 1 => if l.getD k 0 = 0 then cutLen l k else k + 1
theorem cutLen_le (l : List Int) : ∀ k, cutLen l k ≤ k
  | 0 => Nat.le_refl _
  | k + 1 => by
    rw [cutLen]
    split
    · have := cutLen_le l k; omega
    · omega
theorem val_cut (l : List Int) : ∀ k, val (l.take (cutLen l k)) = val (l.take k)
  | 0 => by simp [cutLen]
  | k + 1 => by
    rw [cutLen]
    split
    · rename_i h
      rw [val_cut l k, val_take_succ, h]; simp
    · rfl
theorem nm_cut (l : List Int) : ∀ k, k ≤ l.length → Nm (l.take (cutLen l k))
  | 0, _ => by simp [cutLen, Nm]
  | k + 1, hk => by
    rw [cutLen]
    split
    · exact nm_cut l k (by omega)
    · rename_i h
      intro hne
      rw [List.getLast_eq_getElem]
      have hl : (l.take (k + 1)).length = k + 1 := by rw [List.length_take]; omega
      have : (l.take (k + 1))[(l.take (k + 1)).length - 1]'(by omega) = l.getD k 0 := by
        simp only [List.getElem_take, hl]
        rw [List.getD_eq_getElem?_getD, List.getElem?_eq_getElem (by omega)]
        simp
      rw [this]; exact h
/-- a number without zeros at the end has a least size -/
theorem nm_low {l : List Int} (h : Ok l) (hn : Nm l) (k : Nat) (hk : l.length = k + 1) : P32 k ≤ val l := by
  have hne : l ≠ [] := by intro e; rw [e] at hk; simp at hk
  have h1 := val_take_succ l k
  rw [List.take_of_length_le (by omega)] at h1
  have h2 := val_nonneg (h.take k)
  have h3 := h.at_ k
  have h4 : l.getD k 0 ≠ 0 := by
    have := hn hne
    rw [List.getLast_eq_getElem] at this
    rw [List.getD_eq_getElem?_getD, List.getElem?_eq_getElem (by omega)]
    simp only [hk] at this
    simpa using this
  have h5 := P32_pos k
  have h6 : P32 k * 1 ≤ P32 k * l.getD k 0 := Int.mul_le_mul_of_nonneg_left (by omega) (by omega)
  omega
theorem nm_len {l : List Int} (h : Ok l) (hn : Nm l) {k : Nat} (hv : val l < P32 k) : l.length ≤ k := by
  rcases Nat.lt_or_ge k l.length with h1 | h1
  · have h2 := nm_low h hn (l.length - 1) (by omega)
    have h3 := P32_mono (i := k) (j := l.length - 1) (by omega)
    omega
  · exact h1
theorem nm_zero {l : List Int} (h : Ok l) (hn : Nm l) : l = [] ↔ val l = 0 := by
  constructor
  · rintro rfl; rfl
  · intro e
    have := nm_len h hn (k := 0) (by rw [e]; decide)
    exact List.eq_nil_of_length_eq_zero (by omega)
/-- words without zeros at the end are told by their number -/
theorem val_inj : ∀ {l m : List Int}, Ok l → Ok m → l.length = m.length → val l = val m → l = m
  | [], [], _, _, _, _ => rfl
  | [], _ :: _, _, _, h, _ => by simp at h
  | _ :: _, [], _, _, h, _ => by simp at h
  | x :: l, y :: m, hl, hm, h, e => by
    have h1 := hl.head
    have h2 := hm.head
    simp only [val] at e
    have hxy : x = y := by omega
    have hv : val l = val m := by omega
    rw [hxy, val_inj hl.tail hm.tail (by simpa using h) hv]
theorem nm_inj {l m : List Int} (hl : Ok l) (hm : Ok m) (nl : Nm l) (nm : Nm m) (e : val l = val m) : l = m := by
  have h1 := nm_len hl nl (k := m.length) (by rw [e]; exact val_lt hm)
  have h2 := nm_len hm nm (k := l.length) (by rw [← e]; exact val_lt hl)
  exact val_inj hl hm (by omega) e
end Go.Proofs.YtpbdlmjfjkfphaaGreatDoor
