/- Decimal numbers: the number of a canonical row of digits, and back; what Check answers. Plain facts. Package nat in plain Lean, and its laws. No program here. Package nat in plain Lean: the laws of division and of powers. No program here. Rational numbers as texts: what rat.Check answers, the number of a text, and back. Plain facts. -/
import Derived.Test.YtcgfdfdcbamceaaGreatDoorXAO
import Derived.Lib.IndexLaws
namespace Go.Proofs.YtcgfdfdcbamceaaGreatDoor
open Go.Lib
theorem digs_append {l m : List UInt8} (h : Digs l) (k : Digs m) : Digs (l ++ m) := fun c hc => (List.mem_append.1 hc).elim (h c) (k c)
theorem digit_nat {d : Nat} (h : d < 10) : (UInt8.ofNat (48 + d)).toNat = 48 + d := by rw [UInt8.toNat_ofNat']; omega
theorem digs_one {d : Nat} (h : d < 10) : Digs [UInt8.ofNat (48 + d)] := fun c hc => by
 rw [List.mem_singleton.1 hc, digit_nat h]; omega
theorem num_one (c : UInt8) : num [c] = c.toNat - 48 := by simp [num, numA]
theorem digs_dec (n : Nat) : Digs (decDigits n) := by
 induction n using Nat.strongRecOn with
 | ind n ih =>
  by_cases h : n < 10
  ·rw [decDigits, dif_pos h]; exact digs_one h
  ·rw [dec_ge (by omega)]; exact digs_append (ih _ (by omega)) (digs_one (by omega))
theorem num_dec (n : Nat) : num (decDigits n) = n := by
 induction n using Nat.strongRecOn with
 | ind n ih =>
  by_cases h : n < 10
  ·rw [decDigits, dif_pos h, num_one, digit_nat h]; omega
  ·rw [dec_ge (by omega), num_append, ih _ (by omega), num_one, digit_nat (by omega)]
   simp only [List.length_cons, List.length_nil]
   omega
structure Canon (l : List UInt8) : Prop where
 digs : Digs l
 ne : l ≠ []
 head : 1 < l.length → l.head? ≠ some 48
theorem dec_head (n : Nat) (h : 1 < (decDigits n).length) : (decDigits n).head? ≠ some 48 := by
 induction n using Nat.strongRecOn with
 | ind n ih =>
  by_cases h1 : n < 10
  ·rw [decDigits, dif_pos h1] at h; simp at h
  ·rw [dec_ge (by omega), List.head?_append]
   by_cases h2 : n / 10 < 10
   ·rw [decDigits, dif_pos h2]
    simp only [List.head?_cons, Option.some_or]
    intro e
    have e := congrArg UInt8.toNat (Option.some.inj e)
    rw [digit_nat h2] at e
    simp at e
    omega
   ·have hl : 1 < (decDigits (n / 10)).length := by
     rw [dec_ge (by omega), List.length_append]
     have := dec_len_pos (n / 10 / 10)
     simp
     omega
    have := ih (n / 10) (by omega) hl
    cases hd : (decDigits (n / 10)).head? with
    | none => rw [List.head?_eq_none_iff] at hd; rw [hd] at hl; simp at hl
    | some c => rw [hd] at this; simpa using this
theorem canon_dec (n : Nat) : Canon (decDigits n) := ⟨digs_dec n, fun e => by have := dec_len_pos n; rw [e] at this; simp at this, dec_head n⟩
theorem num_pos : ∀ {l : List UInt8}, Digs l → l ≠ [] → l.head? ≠ some 48 → 1 ≤ num l
 | c :: l, hd, _, hh => by
  have h1 := hd c List.mem_cons_self
  have h2 : c.toNat ≠ 48 := fun e => hh (by rw [List.head?_cons, show c = 48 from UInt8.toNat_inj.1 e])
  have h3 := num_append [c] l
  rw [List.singleton_append, num_one] at h3
  have h4 : 1 * 10 ^ l.length ≤ (c.toNat - 48) * 10 ^ l.length := Nat.mul_le_mul_right _ (by omega)
  have h5 : 1 ≤ 10 ^ l.length := Nat.pow_pos (by decide)
  omega
theorem dec_num_aux : ∀ (n : Nat) (l : List UInt8), l.length = n → Canon l → decDigits (num l) = l
 | 0, l, hn, h => absurd (List.eq_nil_of_length_eq_zero hn) h.ne
 | n + 1, l, hn, h => by
  have hne := h.ne
  have hl := List.dropLast_concat_getLast hne
  generalize hm : l.dropLast = m at hl
  generalize l.getLast hne = c at hl
  subst hl
  have hc := h.digs c (by simp)
  by_cases hm0 : m = []
  ·subst hm0
   rw [List.nil_append, num_one, decDigits, dif_pos (by omega)]
   congr 1
   exact UInt8.toNat_inj.1 (by rw [digit_nat (by omega)]; omega)
  ·have hml : 1 ≤ m.length := by cases m with | nil => exact absurd rfl hm0 | cons => simp
   have hh : m.head? ≠ some 48 := by
    have := h.head (by simp; omega)
    cases m with
    | nil => exact absurd rfl hm0
    | cons a m => simpa using this
   have hdm : Digs m := fun x hx => h.digs x (List.mem_append_left _ hx)
   have ih := dec_num_aux n m (by simp at hn; omega) ⟨hdm, hm0, fun _ => hh⟩
   have h1 := num_pos hdm hm0 hh
   have e : num (m ++ [c]) = num m * 10 + (c.toNat - 48) := by rw [num_append, num_one]; simp
   rw [e, dec_ge (by omega), show (num m * 10 + (c.toNat - 48)) / 10 = num m by omega, show (num m * 10 + (c.toNat - 48)) % 10 = c.toNat - 48 by omega, ih]
   congr 2
   exact UInt8.toNat_inj.1 (by rw [digit_nat (by omega)]; omega)
theorem dec_num {l : List UInt8} (h : Canon l) : decDigits (num l) = l := dec_num_aux _ l rfl h
def digsB (l : List UInt8) : Bool := l.all fun c => decide (48 ≤ c.toNat) && decide (c.toNat ≤ 57)
theorem digsB_iff (l : List UInt8) : digsB l = true ↔ Digs l := by simp [digsB, Digs, List.all_eq_true]
def chk (l : List UInt8) : Int := if digsB l = false then 5 else if l = [] ∨ (1 < l.length ∧ l.head? = some 48) then 5 else if 2000 < l.length then 2 else 0
structure Num (l : List UInt8) : Prop extends Canon l where
 len : l.length ≤ 2000
theorem chk_ok (l : List UInt8) : chk l = 0 ↔ Num l := by
 unfold chk
 split
 ·rename_i h
  exact ⟨fun e => (by cases e), fun k => by rw [(digsB_iff l).2 k.digs] at h; cases h⟩
 ·rename_i h
  split
  ·rename_i h1
   refine ⟨fun e => (by cases e), fun k => ?_⟩
   rcases h1 with h1 | ⟨h1, h2⟩
   ·exact absurd h1 k.ne
   ·exact absurd h2 (k.head h1)
  ·rename_i h1
   split
   ·exact ⟨fun e => (by cases e), fun k => absurd k.len (by omega)⟩
   ·refine ⟨fun _ => ⟨⟨(digsB_iff l).1 (by simpa using h), fun e => h1 (.inl e), fun a b => h1 (.inr ⟨a, b⟩)⟩, by omega⟩, fun _ => rfl⟩
theorem itoa_nat (n : Nat) : itoa (n : Int) = decDigits n := by simp [itoa]
def fitN (n : Nat) : Bool := decide ((decDigits n).length ≤ 2000)
theorem fitN_iff (n : Nat) : fitN n = true ↔ n < 10 ^ 2000 := by unfold fitN; rw [decide_eq_true_iff, dec_len_lt _ _ (by omega)]
theorem fitN_mono {n m : Nat} (h : fitN m = true) (hl : n ≤ m) : fitN n = true := (fitN_iff n).2 (Nat.lt_of_le_of_lt hl ((fitN_iff m).1 h))
theorem fit_pow {n j : Nat} (h : n < 10 ^ j) (h1 : 1 ≤ j) (hj : j ≤ 2000) : fitN n = true := decide_eq_true (Nat.le_trans ((dec_len_lt n j h1).2 h) hj)
def natTx (n : Nat) : List UInt8 × Int := if fitN n = true then (decDigits n, 0) else ([], 2)
def natTwo (a b : List UInt8) : Int := if chk a = 0 then chk b else chk a
def natOp (a b : List UInt8) (r : List UInt8 × Int) : List UInt8 × Int := if natTwo a b = 0 then r else ([], natTwo a b)
def natGcd (a b : List UInt8) : List UInt8 × Int := natOp a b (natTx (Nat.gcd (num a) (num b)))
theorem natTwo_ok (a b : List UInt8) : natTwo a b = 0 ↔ Num a ∧ Num b := by
 unfold natTwo
 split
 ·rename_i h
  rw [chk_ok] at h
  rw [chk_ok]
  exact ⟨fun k => ⟨h, k⟩, fun k => k.2⟩
 ·rename_i h
  exact ⟨fun e => absurd e h, fun k => absurd ((chk_ok a).2 k.1) h⟩
theorem natTx_ok {n : Nat} (h : fitN n = true) : natTx n = (decDigits n, 0) := by rw [natTx, if_pos h]
theorem Num.fit {a : List UInt8} (h : Num a) : fitN (num a) = true := by
 unfold fitN; rw [decide_eq_true_iff, dec_num h.toCanon]; exact h.len
theorem num_of_fit {n : Nat} (h : fitN n = true) : Num (decDigits n) := ⟨canon_dec n, by simpa [fitN] using h⟩
theorem natOp_ok {a b : List UInt8} (ha : Num a) (hb : Num b) (r : List UInt8 × Int) : natOp a b r = r := by rw [natOp, if_pos ((natTwo_ok a b).2 ⟨ha, hb⟩)]
theorem dec_zero : decDigits 0 = [48] := by decide +kernel
def cutA : List UInt8 → List UInt8
 | [] => []
 | c :: l => if c = 47 then [] else c :: cutA l
def cutD : List UInt8 → List UInt8
 | [] => []
 | c :: l => if c = 47 then l else cutD l
def cutI : List UInt8 → Bool
 | [] => false
 | c :: l => if c = 47 then true else cutI l
theorem cutA_cons {c : UInt8} (h : c ≠ 47) (l : List UInt8) : cutA (c :: l) = c :: cutA l ∧ cutD (c :: l) = cutD l ∧ cutI (c :: l) = cutI l := by
 simp only [cutA, cutD, cutI, if_neg h, and_self]
theorem cut_47 (l : List UInt8) : cutA (47 :: l) = [] ∧ cutD (47 :: l) = l ∧ cutI (47 :: l) = true := by
 simp only [cutA, cutD, cutI, if_true, and_self]
theorem cut_some : ∀ (l : List UInt8) (k : Nat), indexByte l 47 = k → cutA l = l.take k ∧ cutD l = l.drop (k + 1) ∧ cutI l = true ∧ k < l.length
 | [], k, h => by simp [indexByte] at h
 | c :: l, k, h => by
  by_cases hc : c = 47
  ·subst hc
   have : k = 0 := by simp [indexByte] at h; omega
   subst this
   simp [cut_47]
  ·obtain ⟨j, rfl⟩ : ∃ j, k = j + 1 := by
    have h2 := indexByte_some h
    cases k with
    | zero => have := h2.1; simp at this; exact absurd this hc
    | succ j => exact ⟨j, rfl⟩
   have hj : indexByte l 47 = j := by
    have h3 := indexByte_ge l 47
    rw [indexByte, if_neg (by simpa using hc)] at h
    split at h <;> omega
   obtain ⟨h1, h2, h3, h4⟩ := cut_some l j hj
   obtain ⟨k1, k2, k3⟩ := cutA_cons hc l
   refine ⟨by rw [k1, h1]; rfl, by rw [k2, h2]; rfl, by rw [k3, h3], by simp; omega⟩
theorem cut_free : ∀ {l : List UInt8}, (∀ c ∈ l, c ≠ 47) → cutA l = l ∧ cutD l = [] ∧ cutI l = false
 | [], _ => ⟨rfl, rfl, rfl⟩
 | c :: l, h => by
  obtain ⟨k1, k2, k3⟩ := cutA_cons (h c List.mem_cons_self) l
  obtain ⟨h1, h2, h3⟩ := cut_free (l := l) fun x hx => h x (List.mem_cons_of_mem _ hx)
  exact ⟨by rw [k1, h1], by rw [k2, h2], by rw [k3, h3]⟩
theorem cut_none (l : List UInt8) (h : indexByte l 47 = -1) : cutA l = l ∧ cutD l = [] ∧ cutI l = false :=
 cut_free fun c hc e => by
  subst e
  obtain ⟨k, hk, he⟩ := List.mem_iff_getElem.1 hc
  exact indexByte_none h k (by rw [List.getElem?_eq_getElem hk, he])
theorem cut_join : ∀ {a : List UInt8} (d : List UInt8), (∀ c ∈ a, c ≠ 47) → cutA (a ++ 47 :: d) = a ∧ cutD (a ++ 47 :: d) = d ∧ cutI (a ++ 47 :: d) = true
 | [], d, _ => cut_47 d
 | c :: a, d, h => by
  obtain ⟨k1, k2, k3⟩ := cutA_cons (h c List.mem_cons_self) (a ++ 47 :: d)
  obtain ⟨h1, h2, h3⟩ := cut_join (a := a) d fun x hx => h x (List.mem_cons_of_mem _ hx)
  exact ⟨by rw [List.cons_append, k1, h1], by rw [List.cons_append, k2, h2], by rw [List.cons_append, k3, h3]⟩
theorem cut_back : ∀ (l : List UInt8), cutI l = true → l = cutA l ++ 47 :: cutD l
 | [], h => by simp [cutI] at h
 | c :: l, h => by
  by_cases hc : c = 47
  ·subst hc
   rw [(cut_47 l).1, (cut_47 l).2.1]; rfl
  ·obtain ⟨k1, k2, k3⟩ := cutA_cons hc l
   rw [k3] at h
   rw [k1, k2, List.cons_append, ← cut_back l h]
theorem cut_not : ∀ (l : List UInt8), cutI l = false → cutA l = l
 | [], _ => rfl
 | c :: l, h => by
  by_cases hc : c = 47
  ·subst hc; rw [(cut_47 l).2.2] at h; cases h
  ·obtain ⟨k1, _, k3⟩ := cutA_cons hc l
   rw [k3] at h
   rw [k1, cut_not l h]
theorem cutA_le : ∀ l : List UInt8, (cutA l).length ≤ l.length
 | [] => Nat.le_refl _
 | c :: l => by rw [cutA]; split; exact Nat.zero_le _; simp; exact cutA_le l
theorem cutD_le : ∀ l : List UInt8, (cutD l).length ≤ l.length
 | [] => Nat.le_refl _
 | c :: l => by rw [cutD]; split; simp; exact Nat.le_trans (cutD_le l) (by simp)
theorem dig_no47 {l : List UInt8} (h : Digs l) : ∀ c ∈ l, c ≠ 47 := fun c hc e => by have := h c hc; rw [e] at this; exact absurd this.1 (by decide)
def negM (l : List UInt8) : Bool := hasPrefix l [45]
def trimM (l : List UInt8) : List UInt8 := trimPrefix l [45]
theorem neg_cons (l : List UInt8) : negM (45 :: l) = true ∧ trimM (45 :: l) = l := by
 simp [negM, trimM, trimPrefix, hasPrefix, List.isPrefixOf]
theorem neg_not {l : List UInt8} (h : l.head? ≠ some 45) : negM l = false ∧ trimM l = l := by
 have : negM l = false := by
  cases l with
  | nil => rfl
  | cons c l =>
   have hc : c ≠ 45 := fun e => h (by rw [e]; rfl)
   simp [negM, hasPrefix, List.isPrefixOf, beq_eq_false_iff_ne.2 (Ne.symm hc)]
 refine ⟨this, ?_⟩
 unfold trimM trimPrefix
 unfold negM at this
 rw [this]
 rfl
theorem neg_form (l : List UInt8) : l = (if negM l = true then 45 :: trimM l else trimM l) := by
 by_cases h : l.head? = some 45
 ·cases l with
  | nil => simp at h
  | cons c l =>
   obtain rfl : c = 45 := by simpa using h
   rw [(neg_cons l).1, (neg_cons l).2, if_pos rfl]
 ·rw [(neg_not h).1, (neg_not h).2, if_neg (by simp)]
theorem trimM_le (l : List UInt8) : (trimM l).length ≤ l.length := by
 have := congrArg List.length (neg_form l)
 split at this
 ·rw [List.length_cons] at this; omega
 ·omega
def chkD (l : List UInt8) : Int := if cutI l = true then chk (cutD l) else 0
def rchk (l : List UInt8) : Int :=
 if chk (cutA (trimM l)) = 5 ∨ chkD (trimM l) = 5 ∨ (cutA (trimM l) = [48] ∧ (trimM l).length < l.length) then 5
 else if chk (cutA (trimM l)) ≠ 0 ∨ chkD (trimM l) ≠ 0 then 2
 else if cutI (trimM l) = true ∧ (cutD (trimM l) = [48] ∨ cutD (trimM l) = [49] ∨ (natGcd (cutA (trimM l)) (cutD (trimM l))).1 ≠ [49]) then 3 else 0
def rval (l : List UInt8) : Rat := Rat.divInt (sgn (negM l) (num (cutA (trimM l)) : Int)) (if cutI (trimM l) = true then (num (cutD (trimM l)) : Int) else 1)
def qText (q : Rat) : List UInt8 := if q.den = 1 then itoa q.num else itoa q.num ++ 47 :: decDigits q.den
def fitQ (q : Rat) : Bool := fitN q.num.natAbs && fitN q.den
theorem one_dec {n : Nat} (h : decDigits n = [49]) : n = 1 := by have := num_dec n; rw [h] at this; exact this.symm
theorem zero_dec {n : Nat} (h : decDigits n = [48]) : n = 0 := by have := num_dec n; rw [h] at this; exact this.symm
theorem itoa_sgn (m : Bool) (n : Nat) (h : m = true → n ≠ 0) : itoa (sgn m (n : Int)) = if m = true then 45 :: decDigits n else decDigits n := by
 cases m with
 | false => rw [if_neg (by simp)]; exact itoa_nat n
 | true =>
  have := h rfl
  rw [if_pos rfl, itoa, sgn, if_pos rfl, if_pos (by omega), Int.natAbs_neg, Int.natAbs_natCast]
structure RVal (l : List UInt8) : Prop where
 na : Num (cutA (trimM l))
 nd : cutI (trimM l) = true → Num (cutD (trimM l))
 num : (rval l).num = sgn (negM l) (Proofs.YtcgfdfdcbamceaaGreatDoor.num (cutA (trimM l)) : Int)
 den : ((rval l).den : Int) = if cutI (trimM l) = true then (Proofs.YtcgfdfdcbamceaaGreatDoor.num (cutD (trimM l)) : Int) else 1
 text : qText (rval l) = l
 fit : fitQ (rval l) = true
theorem rat_of {n d : Int} (hd : 0 < d) (hg : Int.gcd d n = 1) : (Rat.divInt n d).num = n ∧ ((Rat.divInt n d).den : Int) = d := by
 rw [Rat.num_divInt, Rat.den_divInt, hg, Int.sign_eq_one_of_pos hd, if_neg (by omega)]
 refine ⟨by simp, by simp; omega⟩
theorem sgn_natAbs (m : Bool) (n : Nat) : (sgn m (n : Int)).natAbs = n := by cases m <;> simp [sgn]
theorem rchk_val (l : List UInt8) (h : rchk l = 0) : RVal l := by
 unfold rchk at h
 split at h
 ·cases h
 ·rename_i h1
  split at h
  ·cases h
  ·rename_i h2
   split at h
   ·cases h
   ·rename_i h3
    have ha : chk (cutA (trimM l)) = 0 := Decidable.not_not.1 fun k => h2 (.inl k)
    have na := (chk_ok _).1 ha
    have hm : negM l = true → Proofs.YtcgfdfdcbamceaaGreatDoor.num (cutA (trimM l)) ≠ 0 := fun k e => h1 (.inr (.inr ⟨by rw [← dec_num na.toCanon, e]; exact dec_zero, by
     have := neg_form l
     rw [if_pos k] at this
     have := congrArg List.length this
     rw [List.length_cons] at this
     omega⟩))
    by_cases hi : cutI (trimM l) = true
    ·have hb : chk (cutD (trimM l)) = 0 := Decidable.not_not.1 fun k => h2 (.inr (by rw [chkD, if_pos hi]; exact k))
     have nd := (chk_ok _).1 hb
     have hd0 : Proofs.YtcgfdfdcbamceaaGreatDoor.num (cutD (trimM l)) ≠ 0 := fun e => h3 ⟨hi, .inl (by rw [← dec_num nd.toCanon, e]; exact dec_zero)⟩
     have hd1 : Proofs.YtcgfdfdcbamceaaGreatDoor.num (cutD (trimM l)) ≠ 1 := fun e => h3 ⟨hi, .inr (.inl (by rw [← dec_num nd.toCanon, e]; decide +kernel))⟩
     have hg : Nat.gcd (Proofs.YtcgfdfdcbamceaaGreatDoor.num (cutA (trimM l))) (Proofs.YtcgfdfdcbamceaaGreatDoor.num (cutD (trimM l))) = 1 := by
      have : (natGcd (cutA (trimM l)) (cutD (trimM l))).1 = [49] := Decidable.not_not.1 fun k => h3 ⟨hi, .inr (.inr k)⟩
      rw [natGcd, natOp_ok na nd, natTx_ok (fitN_mono nd.fit (Nat.gcd_le_right _ (Nat.pos_of_ne_zero hd0)))] at this
      exact one_dec this
     have hr := rat_of (n := sgn (negM l) (Proofs.YtcgfdfdcbamceaaGreatDoor.num (cutA (trimM l)) : Int)) (d := (Proofs.YtcgfdfdcbamceaaGreatDoor.num (cutD (trimM l)) : Int)) (by omega) (by rw [Int.gcd, sgn_natAbs, Int.natAbs_natCast, Nat.gcd_comm]; exact hg)
     have e : rval l = Rat.divInt (sgn (negM l) (Proofs.YtcgfdfdcbamceaaGreatDoor.num (cutA (trimM l)) : Int)) (Proofs.YtcgfdfdcbamceaaGreatDoor.num (cutD (trimM l)) : Int) := by rw [rval, if_pos hi]
     rw [← e] at hr
     have hden : (rval l).den = Proofs.YtcgfdfdcbamceaaGreatDoor.num (cutD (trimM l)) := by have := hr.2; omega
     refine ⟨na, fun _ => nd, hr.1, by rw [if_pos hi]; exact hr.2, ?_, ?_⟩
     ·rw [qText, if_neg (by omega), hr.1, itoa_sgn _ _ hm, hden, dec_num na.toCanon, dec_num nd.toCanon]
      have hc := cut_back _ hi
      have hf := neg_form l
      by_cases k : negM l = true
      ·rw [if_pos k] at hf ⊢
       rw [List.cons_append, ← hc, ← hf]
      ·rw [if_neg k] at hf ⊢
       rw [← hc, ← hf]
     ·rw [fitQ, hr.1, sgn_natAbs, hden, na.fit, nd.fit]; rfl
    ·have e : rval l = Rat.divInt (sgn (negM l) (Proofs.YtcgfdfdcbamceaaGreatDoor.num (cutA (trimM l)) : Int)) 1 := by rw [rval, if_neg hi]
     have hr := rat_of (n := sgn (negM l) (Proofs.YtcgfdfdcbamceaaGreatDoor.num (cutA (trimM l)) : Int)) (d := 1) (by omega) (by simp)
     rw [← e] at hr
     have hden : (rval l).den = 1 := by have := hr.2; omega
     refine ⟨na, fun k => absurd k hi, hr.1, by rw [if_neg hi]; exact hr.2, ?_, ?_⟩
     ·rw [qText, if_pos hden, hr.1, itoa_sgn _ _ hm, dec_num na.toCanon, cut_not _ (by simpa using hi)]
      exact (neg_form l).symm
     ·rw [fitQ, hr.1, sgn_natAbs, hden, na.fit]; decide +kernel
theorem qText_parts (q : Rat) : negM (qText q) = decide (q.num < 0) ∧ cutA (trimM (qText q)) = decDigits q.num.natAbs ∧ cutI (trimM (qText q)) = decide (q.den ≠ 1) ∧ (q.den ≠ 1 → cutD (trimM (qText q)) = decDigits q.den) := by
 have hh : (decDigits q.num.natAbs).head? ≠ some 45 := fun e => by
  have hd := digs_dec q.num.natAbs
  cases hl : decDigits q.num.natAbs with
  | nil => rw [hl] at e; cases e
  | cons c r =>
   rw [hl] at e hd
   have := hd c List.mem_cons_self
   rw [show c = 45 by simpa using e] at this
   exact absurd this.1 (by decide)
 have ht : ∀ r : List UInt8, negM (itoa q.num ++ r) = decide (q.num < 0) ∧ trimM (itoa q.num ++ r) = decDigits q.num.natAbs ++ r := fun r => by
  by_cases hn : q.num < 0
  ·rw [itoa, if_pos hn, List.cons_append, decide_eq_true hn]
   exact neg_cons _
  ·rw [itoa, if_neg hn, decide_eq_false hn, show q.num.toNat = q.num.natAbs by omega]
   refine neg_not ?_
   rw [List.head?_append]
   cases hl : (decDigits q.num.natAbs).head? with
   | none => rw [List.head?_eq_none_iff] at hl; have := dec_len_pos q.num.natAbs; rw [hl] at this; simp at this
   | some c => rw [hl] at hh; simpa using hh
 have h47 := dig_no47 (digs_dec q.num.natAbs)
 by_cases h1 : q.den = 1
 ·have := ht []
  rw [List.append_nil, List.append_nil] at this
  rw [qText, if_pos h1, this.1, this.2, (cut_free h47).1, (cut_free h47).2.2]
  exact ⟨rfl, rfl, by simp [h1], fun k => absurd h1 k⟩
 ·have := ht (47 :: decDigits q.den)
  rw [qText, if_neg h1, this.1, this.2, (cut_join _ h47).1, (cut_join _ h47).2.1, (cut_join _ h47).2.2]
  exact ⟨rfl, rfl, by simp [h1], fun _ => rfl⟩
theorem qText_ok (q : Rat) (h : fitQ q = true) : rchk (qText q) = 0 ∧ rval (qText q) = q := by
 rw [fitQ, Bool.and_eq_true] at h
 obtain ⟨f1, f2⟩ := h
 obtain ⟨e1, e2, e3, e4⟩ := qText_parts q
 have na := num_of_fit f1
 have nd := num_of_fit f2
 have hd0 := q.den_nz
 have hlt : negM (qText q) = false → (trimM (qText q)).length = (qText q).length := fun k => by
  have := neg_form (qText q)
  rw [if_neg (by rw [k]; simp)] at this
  exact (congrArg List.length this).symm
 have hneg : ¬ (decDigits q.num.natAbs = [48] ∧ (trimM (qText q)).length < (qText q).length) := fun ⟨k1, k2⟩ => by
  have h0 := zero_dec k1
  have := hlt (by rw [e1, decide_eq_false]; omega)
  omega
 constructor
 ·have hc : chkD (trimM (qText q)) = 0 := by
   unfold chkD
   split
   ·rename_i k
    rw [e3, decide_eq_true_eq] at k
    rw [e4 k]
    exact (chk_ok _).2 nd
   ·rfl
  unfold rchk
  rw [hc, e2, e3, (chk_ok _).2 na]
  by_cases h1 : q.den = 1
  ·rw [if_neg, if_neg, if_neg]
   ·rw [decide_eq_true_eq]; exact fun k => k.1 h1
   ·simp
   ·rintro (k | k | k)
    ·cases k
    ·cases k
    ·exact hneg k
  ·rw [e4 h1, if_neg, if_neg, if_neg]
   ·rintro ⟨-, k | k | k⟩
    ·exact hd0 (zero_dec k)
    ·exact h1 (one_dec k)
    ·refine k ?_
     rw [natGcd, natOp_ok na nd, num_dec, num_dec, q.reduced, natTx_ok (by decide +kernel)]
     decide +kernel
   ·simp
   ·rintro (k | k | k)
    ·cases k
    ·cases k
    ·exact hneg k
 ·unfold rval
  rw [e1, e2, e3, num_dec]
  have hs : sgn (decide (q.num < 0)) (q.num.natAbs : Int) = q.num := by
   by_cases hn : q.num < 0
   ·rw [decide_eq_true hn]; simp only [sgn, if_true]; omega
   ·rw [decide_eq_false hn]; simp [sgn]; omega
  rw [hs]
  by_cases h1 : q.den = 1
  ·rw [decide_eq_false (by simp [h1]), if_neg (by simp)]
   have := Rat.num_divInt_den q
   rw [h1] at this
   exact this
  ·rw [decide_eq_true (by simp [h1]), if_pos rfl, e4 h1, num_dec]
   exact Rat.num_divInt_den q
end Go.Proofs.YtcgfdfdcbamceaaGreatDoor
