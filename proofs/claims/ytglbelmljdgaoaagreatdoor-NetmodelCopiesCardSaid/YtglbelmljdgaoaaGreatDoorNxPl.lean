/- Texts of networks: plain functions: lines, numbers, splitting. No program here. -/
import Derived.Test.YtglbelmljdgaoaaGreatDoorNetLaw
import Derived.Lib.Split
import Derived.Lib.Join
import Derived.Lib.AtoiAll
import Derived.Lib.ItoaNum
namespace Go.Proofs.YtglbelmljdgaoaaGreatDoor

abbrev bs (s : ByteArray) : List UInt8 := s.data.toList
def ba (l : List UInt8) : ByteArray := ⟨l.toArray⟩
theorem bs_ba (l : List UInt8) : bs (ba l) = l := rfl
theorem ba_bs (s : ByteArray) : ba (bs s) = s := Lib.mk_data s
theorem bs_inj {a b : ByteArray} (h : bs a = bs b) : a = b := by rw [← ba_bs a, ← ba_bs b, h]
theorem bs_size (s : ByteArray) : s.size = (bs s).length := Lib.size_eq s
/-! ### cutting at one byte -/
def cut1 (c : UInt8) : List UInt8 → List (List UInt8)
  | [] => [[]]
  | x :: r => if x = c then [] :: cut1 c r else match cut1 c r with
    | [] => [[x]]
    | h :: t => (x :: h) :: t
theorem cut1_ne (c : UInt8) (l : List UInt8) : cut1 c l ≠ [] := by
  cases l with
  | nil => simp [cut1]
  | cons x r =>
    rw [cut1]
    split
    · simp
    · split <;> simp
theorem cut1_free {c : UInt8} : ∀ {w : List UInt8}, c ∉ w → cut1 c w = [w]
  | [], _ => rfl
  | x :: r, h => by
    rw [cut1, if_neg (fun e => h (by rw [e]; exact List.mem_cons_self)), cut1_free (fun k => h (List.mem_cons_of_mem _ k))]
theorem cut1_app {c : UInt8} (r : List UInt8) : ∀ {w : List UInt8}, c ∉ w → cut1 c (w ++ c :: r) = w :: cut1 c r
  | [], _ => by rw [List.nil_append, cut1, if_pos rfl]
  | x :: w, h => by
    rw [List.cons_append, cut1, if_neg (fun e => h (by rw [e]; exact List.mem_cons_self)), cut1_app r (fun k => h (List.mem_cons_of_mem _ k))]
theorem join_cons2 (x y : List UInt8) (r : List (List UInt8)) (c : UInt8) : Lib.join (x :: y :: r) [c] = x ++ c :: Lib.join (y :: r) [c] := by
  rw [Lib.join_cons, Lib.join_cons]
  simp [Lib.joinTail]
theorem cut1_join {c : UInt8} : ∀ {ws : List (List UInt8)}, ws ≠ [] → (∀ w ∈ ws, c ∉ w) → cut1 c (Lib.join ws [c]) = ws
  | [], h, _ => absurd rfl h
  | [x], _, h => by rw [Lib.join_one, cut1_free (h x (by simp))]
  | x :: y :: r, _, h => by
    rw [join_cons2, cut1_app _ (h x (by simp)), cut1_join (by simp) fun w hw => h w (List.mem_cons_of_mem _ hw)]
theorem join_cut1 (c : UInt8) : ∀ l : List UInt8, Lib.join (cut1 c l) [c] = l
  | [] => rfl
  | x :: r => by
    have ih := join_cut1 c r
    have hne := cut1_ne c r
    rw [cut1]
    split
    · rename_i e
      subst e
      cases hc : cut1 x r with
      | nil => exact absurd hc hne
      | cons h t => rw [join_cons2, ← hc, ih, List.nil_append]
    · cases hc : cut1 c r with
      | nil => exact absurd hc hne
      | cons h t =>
        simp only
        rw [hc] at ih
        cases t with
        | nil => rw [Lib.join_one] at ih ⊢; rw [ih]
        | cons y t => rw [join_cons2] at ih ⊢; rw [← ih]; rfl
theorem free_cut1 (c : UInt8) : ∀ (l : List UInt8), ∀ w ∈ cut1 c l, c ∉ w
  | [], w, h => by
    simp [cut1] at h
    subst h
    simp
  | x :: r, w, h => by
    have ih := free_cut1 c r
    rw [cut1] at h
    split at h
    · rcases List.mem_cons.1 h with rfl | h
      · simp
      · exact ih w h
    · rename_i hx
      split at h
      · rw [List.mem_singleton.1 h]
        simp [Ne.symm hx]
      · rename_i a t e
        rcases List.mem_cons.1 h with rfl | h
        · intro k
          rcases List.mem_cons.1 k with k | k
          · exact hx k.symm
          · exact ih a (by rw [e]; exact List.mem_cons_self) k
        · exact ih w (by rw [e]; exact List.mem_cons_of_mem _ h)
theorem index1 (c x : UInt8) (l : List UInt8) : Lib.index (x :: l) [c] = if x = c then 0 else if Lib.index l [c] = -1 then -1 else Lib.index l [c] + 1 := by
  rw [Lib.index]
  by_cases h : x = c
  · subst h
    rw [if_pos (by simp), if_pos rfl]
  · rw [if_neg (by simp [Ne.symm h]), if_neg h]
    by_cases k : Lib.index l [c] = -1
    · rw [if_pos (by simp [k]), if_pos k]
    · rw [if_neg (by simp [k]), if_neg k]
theorem splitK_cut (c : UInt8) : ∀ l : List UInt8, Lib.splitK [c] 0 (Lib.count l [c]) l = cut1 c l
  | [] => by
    rw [Lib.count_miss (by simp [Lib.index])]
    rfl
  | x :: l => by
    have ih := splitK_cut c l
    have hi := index1 c x l
    by_cases h : x = c
    · subst h
      rw [if_pos rfl] at hi
      rw [Lib.count_hit (i := 0) (by simp) hi, Nat.add_comm, Lib.splitK, if_neg (by rw [hi]; decide), hi, cut1, if_pos rfl]
      simp only [Int.toNat_zero, Nat.zero_add, List.take_zero, List.length_singleton, List.drop_succ_cons, List.drop_zero]
      rw [ih]
    · rw [if_neg h] at hi
      rw [cut1, if_neg h]
      by_cases k : Lib.index l [c] = -1
      · rw [if_pos k] at hi
        rw [Lib.count_miss k] at ih
        rw [Lib.count_miss hi, ← ih]
        rfl
      · rw [if_neg k] at hi
        obtain ⟨i, hi0⟩ : ∃ i : Nat, Lib.index l [c] = i := ⟨(Lib.index l [c]).toNat, by have := Lib.index_ge l [c]; omega⟩
        rw [Lib.count_hit (i := i) (by simp) hi0, Nat.add_comm, Lib.splitK, if_neg (by rw [hi0]; simp)] at ih
        have hi2 : Lib.index (x :: l) [c] = ((i + 1 : Nat) : Int) := by rw [hi, hi0]; rfl
        rw [Lib.count_hit (i := i + 1) (by simp) hi2, Nat.add_comm, Lib.splitK, if_neg (by rw [hi2]; simp; omega), ← ih]
        rw [hi2, hi0]
        simp only [Int.toNat_natCast, Nat.add_zero, List.length_singleton, List.take_succ_cons, List.drop_succ_cons]
def cutB (c : UInt8) (s : ByteArray) : List ByteArray := (cut1 c (bs s)).map ba
theorem splitB_cut (c : UInt8) (s : ByteArray) : Lib.splitB ⟨#[c]⟩ 0 (Lib.countB s ⟨#[c]⟩) s = cutB c s := by
  have h := Lib.splitB_data ⟨#[c]⟩ 0 (Lib.countB s ⟨#[c]⟩) s
  have h2 : Lib.splitK [c] 0 (Lib.countB s ⟨#[c]⟩) s.data.toList = cut1 c (bs s) := splitK_cut c (bs s)
  rw [h2] at h
  rw [cutB, ← h, List.map_map]
  conv => lhs; rw [← List.map_id (Lib.splitB ⟨#[c]⟩ 0 (Lib.countB s ⟨#[c]⟩) s)]
  exact List.map_congr_left fun x _ => (ba_bs x).symm
/-! ### numbers -/
theorem parse_app : ∀ {l : List UInt8} {acc v : Nat} (r : List UInt8), Lib.parseUint10 acc l = .ok v → Lib.parseUint10 acc (l ++ r) = Lib.parseUint10 v r
  | [], acc, v, r, h => by
    rw [Lib.parseUint10] at h
    injection h with h
    rw [List.nil_append, h]
  | c :: l, acc, v, r, h => by
    rw [List.cons_append]
    rw [Lib.parseUint10] at h ⊢
    split at h
    · rename_i h1
      rw [if_pos h1]
      split at h
      · cases h
      · rename_i h2
        rw [if_neg h2]
        split at h
        · cases h
        · rename_i h3
          rw [if_neg h3]
          exact parse_app r h
    · cases h
theorem ndigit_nat {d : Nat} (h : d < 10) : (UInt8.ofNat (48 + d)).toNat = 48 + d := by
  rw [UInt8.toNat_ofNat']
  omega
theorem parse_dec (u : Nat) (h : u < 9223372036854775808) : Lib.parseUint10 0 (Lib.decDigits u) = .ok u := by
  induction u using Nat.strongRecOn with
  | _ u ih =>
    by_cases h10 : u < 10
    · rw [Lib.decDigits, dif_pos h10, Lib.parseUint10, ndigit_nat h10, if_pos (by omega), if_neg (by decide), if_neg (by omega), Lib.parseUint10]
      congr 1
      omega
    · rw [Lib.decDigits, dif_neg h10, parse_app _ (ih (u / 10) (by omega) (by omega)), Lib.parseUint10, ndigit_nat (Nat.mod_lt _ (by decide)), if_pos (by omega), if_neg (by omega), if_neg (by omega), Lib.parseUint10]
      congr 1
      omega
theorem ndec_head (u : Nat) : ∃ d r, Lib.decDigits u = UInt8.ofNat (48 + d) :: r ∧ d < 10 := by
  induction u using Nat.strongRecOn with
  | _ u ih =>
    by_cases h10 : u < 10
    · exact ⟨u, [], by rw [Lib.decDigits, dif_pos h10], h10⟩
    · obtain ⟨d, r, e, hd⟩ := ih (u / 10) (by omega)
      exact ⟨d, r ++ [UInt8.ofNat (48 + u % 10)], by rw [Lib.decDigits, dif_neg h10, e]; rfl, hd⟩
theorem atoi_itoa (n : Int) (h0 : -9223372036854775808 < n) (h1 : n < 9223372036854775808) : Lib.atoiAll (Lib.itoa n) = .ok n := by
  by_cases hn : n < 0
  · obtain ⟨d, r, e, hd⟩ := ndec_head n.natAbs
    have hp := parse_dec n.natAbs (by omega)
    rw [Lib.itoa, if_pos hn, Lib.atoiAll]
    have h45 : (45 : UInt8).toNat = 45 := rfl
    simp only [h45]
    rw [if_pos (.inr trivial), Lib.parseMag, if_neg (by rw [e]; simp), hp]
    simp only
    rw [if_neg (by simp), if_neg (by omega)]
    simp only [if_true]
    congr 1
    omega
  · obtain ⟨d, r, e, hd⟩ := ndec_head n.toNat
    have hp := parse_dec n.toNat (by omega)
    rw [Lib.itoa, if_neg hn, e]
    rw [e] at hp
    rw [Lib.atoiAll]
    simp only [ndigit_nat hd]
    rw [if_neg (by omega), Lib.parseMag, if_neg (by simp), hp]
    simp only
    rw [if_neg (by omega), if_neg (by omega), if_neg (by omega)]
    congr 1
    omega
/-- a word that is a number -/
def numW (s : ByteArray) : Option Int := match Lib.atoiAll (bs s) with
  | .ok v => if Lib.itoa v = bs s then some v else none
  | _ => none
theorem numW_itoa (n : Int) (h0 : -9223372036854775808 < n) (h1 : n < 9223372036854775808) : numW (ba (Lib.itoa n)) = some n := by
  rw [numW, bs_ba, atoi_itoa n h0 h1]
  exact if_pos rfl
theorem numW_some {s : ByteArray} {n : Int} (h : numW s = some n) : bs s = Lib.itoa n := by
  unfold numW at h
  split at h
  · split at h
    · rename_i e
      injection h with h
      rw [← h, e]
    · cases h
  · cases h
theorem dec_free (c : UInt8) (hc : c.toNat < 48 ∨ 57 < c.toNat) (u : Nat) : c ∉ Lib.decDigits u := by
  rw [Lib.decDigits_eq]
  intro h
  obtain ⟨t, _, rfl⟩ := List.mem_map.1 h
  unfold Lib.dg at hc
  rw [ndigit_nat (Nat.mod_lt _ (by decide))] at hc
  have := Nat.mod_lt (u / 10 ^ (Lib.nDigits u - 1 - t)) (show 10 > 0 by decide)
  omega
theorem itoa_free (c : UInt8) (hc : c.toNat < 45 ∨ 57 < c.toNat) (n : Int) : c ∉ Lib.itoa n := by
  rw [Lib.itoa]
  split
  · intro h
    rcases List.mem_cons.1 h with rfl | h
    · have : (45 : UInt8).toNat = 45 := rfl
      omega
    · exact dec_free c (by omega) _ h
  · exact dec_free c (by omega) _
end Go.Proofs.YtglbelmljdgaoaaGreatDoor
