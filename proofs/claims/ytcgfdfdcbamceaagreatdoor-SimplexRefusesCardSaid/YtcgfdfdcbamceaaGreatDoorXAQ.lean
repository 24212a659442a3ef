/- Package rat in plain Lean. No program here. Integers of at most so many digits; solutions of systems of whole numbers are quotients of determinants. Plain facts. No program here. Package matrix in plain Lean: matrices of texts and of rational numbers, and the laws of the ring. No program here. -/
import Derived.Test.YtcgfdfdcbamceaaGreatDoorXAP
import Derived.Test.YtcgfdfdcbamceaaGreatDoorXAA
namespace Go.Proofs.YtcgfdfdcbamceaaGreatDoor
open Go.Lib
def rAll : List (List UInt8) → Int
 | [] => 0
 | a :: l => if rchk a = 0 then rAll l else rchk a
def cmpQ (x y : Rat) : Int := (x.num * (y.den : Int) - y.num * (x.den : Int)).sign
theorem cmpQ_lt (x y : Rat) : cmpQ x y = -1 ↔ x < y := by
 rw [cmpQ, Int.sign_eq_neg_one_iff_neg, Rat.lt_iff]; omega
theorem cmpQ_eq (x y : Rat) : cmpQ x y = 0 ↔ x = y := by
 rw [cmpQ, Int.sign_eq_zero_iff_zero, Rat.eq_iff_mul_eq_mul]; omega
theorem cmpQ_gt (x y : Rat) : cmpQ x y = 1 ↔ y < x := by
 rw [cmpQ, Int.sign_eq_one_iff_pos, Rat.lt_iff]; omega
theorem cmpQ_cases (x y : Rat) : cmpQ x y = -1 ∨ cmpQ x y = 0 ∨ cmpQ x y = 1 := by
 rcases Int.sign_trichotomy (x.num * (y.den : Int) - y.num * (x.den : Int)) with h | h | h
 ·exact .inr (.inr h)
 ·exact .inr (.inl h)
 ·exact .inl h
def SzQ (q : Rat) (k : Nat) : Prop := q.num.natAbs < 10 ^ k ∧ q.den < 10 ^ k
theorem SzQ.fit {q : Rat} {k : Nat} (h : SzQ q k) (h1 : 1 ≤ k) (h2 : k ≤ 2000) : fitQ q = true := by rw [fitQ, fit_pow h.1 h1 h2, fit_pow h.2 h1 h2]; rfl
theorem SzQ.mono {q : Rat} {k j : Nat} (h : SzQ q k) (hk : k ≤ j) : SzQ q j := ⟨Nat.lt_of_lt_of_le h.1 (Nat.pow_le_pow_right (by decide) hk), Nat.lt_of_lt_of_le h.2 (Nat.pow_le_pow_right (by decide) hk)⟩
theorem divInt_le (n d : Int) : (Rat.divInt n d).num.natAbs ≤ n.natAbs ∧ (Rat.divInt n d).den ≤ max 1 d.natAbs := by
 rw [Rat.num_divInt, Rat.den_divInt]
 constructor
 ·refine Nat.le_trans (Int.natAbs_ediv_le_natAbs _ _) ?_
  rw [Int.natAbs_mul]
  have : d.sign.natAbs ≤ 1 := by rcases Int.sign_trichotomy d with h | h | h <;> rw [h] <;> decide
  calc d.sign.natAbs * n.natAbs ≤ 1 * n.natAbs := Nat.mul_le_mul_right _ this
   _ = n.natAbs := Nat.one_mul _
 ·split
  ·exact Nat.le_max_left _ _
  ·exact Nat.le_trans (Nat.div_le_self _ _) (Nat.le_max_right _ _)
theorem divInt_add (x y : Rat) : Rat.divInt (x.num * (y.den : Int) + y.num * (x.den : Int)) ((x.den : Int) * (y.den : Int)) = x + y := by
 rw [Rat.add_def', ← Rat.divInt_ofNat, Int.natCast_mul]
theorem divInt_mul (x y : Rat) : Rat.divInt (x.num * y.num) ((x.den : Int) * (y.den : Int)) = x * y := by
 rw [Rat.mul_def', ← Rat.divInt_ofNat, Int.natCast_mul]
theorem divInt_div (x y : Rat) : Rat.divInt (x.num * (y.den : Int)) ((x.den : Int) * y.num) = x / y := by
 rw [Rat.div_def, Rat.inv_def, ← Rat.divInt_mul_divInt, Rat.num_divInt_den]
theorem SzQ.neg {x : Rat} {i : Nat} (hx : SzQ x i) : SzQ (-x) i := ⟨by rw [Rat.neg_num, Int.natAbs_neg]; exact hx.1, hx.2⟩
theorem rval_sz {a : List UInt8} (h : rchk a = 0) : SzQ (rval a) a.length ∧ 1 ≤ a.length := by
 have hv := rchk_val a h
 have ht := cutA_le (trimM a)
 have hd := cutD_le (trimM a)
 have hm := trimM_le a
 have hne : 1 ≤ (cutA (trimM a)).length := by
  cases hc : cutA (trimM a) with
  | nil => exact absurd hc hv.na.ne
  | cons => simp
 refine ⟨⟨?_, ?_⟩, by omega⟩
 ·rw [hv.num, sgn_natAbs]
  exact Nat.lt_of_lt_of_le (num_lt _ hv.na.digs) (Nat.pow_le_pow_right (by decide) (by omega))
 ·by_cases k : cutI (trimM a) = true
  ·have h1 := hv.den
   rw [if_pos k] at h1
   have h2 := num_lt _ (hv.nd k).digs
   have h3 := Nat.pow_le_pow_right (show 0 < 10 by decide) (show (cutD (trimM a)).length ≤ a.length by omega)
   omega
  ·have h1 := hv.den
   rw [if_neg k] at h1
   have h3 := Nat.pow_le_pow_right (show 0 < 10 by decide) (show 1 ≤ a.length by omega)
   omega
end Go.Proofs.YtcgfdfdcbamceaaGreatDoor
namespace Go.Proofs.YtcgfdfdcbamceaaGreatDoor
def IB (B : Nat) (x : Rat) : Prop := ∃ z : Int, x = (z : Rat) ∧ z.natAbs ≤ B
theorem IB.mono {B C : Nat} {x : Rat} (h : IB B x) (hm : B ≤ C) : IB C x := by
 obtain ⟨z, e, hz⟩ := h
 exact ⟨z, e, Nat.le_trans hz hm⟩
theorem IB.zero (B : Nat) : IB B 0 := ⟨0, rfl, Nat.zero_le _⟩
theorem IB.mul {B C : Nat} {x y : Rat} (hx : IB B x) (hy : IB C y) : IB (B * C) (x * y) := by
 obtain ⟨a, rfl, ha⟩ := hx
 obtain ⟨b, rfl, hb⟩ := hy
 exact ⟨a * b, by rw [Rat.intCast_mul], by rw [Int.natAbs_mul]; exact Nat.mul_le_mul ha hb⟩
theorem IB.add {B C : Nat} {x y : Rat} (hx : IB B x) (hy : IB C y) : IB (B + C) (x + y) := by
 obtain ⟨a, rfl, ha⟩ := hx
 obtain ⟨b, rfl, hb⟩ := hy
 exact ⟨a + b, by rw [Rat.intCast_add], Nat.le_trans (Int.natAbs_add_le a b) (Nat.add_le_add ha hb)⟩
theorem IB.neg {B : Nat} {x : Rat} (hx : IB B x) : IB B (-x) := by
 obtain ⟨a, rfl, ha⟩ := hx
 exact ⟨-a, by rw [Rat.intCast_neg], by rw [Int.natAbs_neg]; exact ha⟩
theorem IB.sum {B : Nat} {f : Nat → Rat} : ∀ (n : Nat), (∀ i, i < n → IB B (f i)) → IB (n * B) (sm n f)
 | 0, _ => IB.zero _
 | n + 1, h => by
  rw [sm, Nat.add_mul, Nat.one_mul]
  exact (IB.sum n fun i hi => h i (by omega)).add (h n (by omega))
theorem IB.sg_mul {B : Nat} {x : Rat} (i : Nat) (h : IB B x) : IB B (sg i * x) := by
 unfold sg
 split
 ·rw [Rat.one_mul]; exact h
 ·rw [show (-1 : Rat) * x = -x by grind]; exact h.neg
theorem IB.det {B : Nat} : ∀ (n : Nat) (A : Nat → Nat → Rat), (∀ i j, i < n → j < n → IB B (A i j)) → IB ((n * B) ^ n) (det n A) := by
 intro n
 induction n with
 | zero => intro A _; exact ⟨1, rfl, by simp⟩
 | succ n ih =>
  intro A h
  rw [Proofs.YtcgfdfdcbamceaaGreatDoor.det]
  have hs := IB.sum (B := B * (n * B) ^ n) (f := fun i => sg i * A i 0 * Proofs.YtcgfdfdcbamceaaGreatDoor.det n (fun r c => A (sk i r) (c + 1))) (n + 1) fun i hi =>
   ((h i 0 hi (by omega)).sg_mul i).mul (ih (fun r c => A (sk i r) (c + 1)) fun a b ha hb => h _ _ (by unfold sk; split <;> omega) (by omega))
  refine hs.mono ?_
  rw [Nat.pow_succ, ← Nat.mul_assoc, Nat.mul_comm (((n + 1) * B) ^ n)]
  exact Nat.mul_le_mul_left _ (Nat.pow_le_pow_left (Nat.mul_le_mul_right _ (Nat.le_succ n)) n)
theorem szQ_quot {A B k : Nat} {x a b : Rat} (ha : IB A a) (hb : IB B b) (h0 : b ≠ 0) (h : x * b = a) (hA : A < 10 ^ k) (hB : B < 10 ^ k) : SzQ x k := by
 obtain ⟨p, rfl, hp⟩ := ha
 obtain ⟨q, rfl, hq⟩ := hb
 have e : x = Rat.divInt p q := by
  rw [Rat.divInt_eq_div, ← h, Rat.div_def, Rat.mul_assoc, Rat.mul_inv_cancel _ h0, Rat.mul_one]
 have hle := divInt_le p q
 rw [← e] at hle
 have hq0 : q ≠ 0 := fun e => h0 (by rw [e]; rfl)
 have h2 := hle.2
 have h3 : max 1 q.natAbs = q.natAbs := by omega
 rw [h3] at h2
 exact ⟨Nat.lt_of_le_of_lt (Nat.le_trans hle.1 hp) hA, Nat.lt_of_le_of_lt (Nat.le_trans h2 hq) hB⟩
theorem det_comb {n : Nat} (A : Nat → Nat → Rat) {j : Nat} (hj : j < n) (x : Nat → Rat) : ∀ m, m ≤ n → det n (upd A j fun c => sm m fun i => x i * A i c) = (if j < m then x j else 0) * det n A
 | 0, _ => by
  rw [if_neg (by omega), Rat.zero_mul]
  exact det_zero_row hj fun c => by rw [upd_same]; rfl
 | m + 1, hm => by
  have ih := det_comb A hj x m (by omega)
  have e : (fun c => sm (m + 1) fun i => x i * A i c) = fun c => 1 * (sm m fun i => x i * A i c) + x m * A m c := by
   funext c
   rw [sm]
   grind
  rw [e, det_lin 1 (x m) (fun c => sm m fun i => x i * A i c) (A m) n A j hj, ih]
  by_cases h : j = m
  ·subst h
   rw [upd_self, if_neg (by omega), if_pos (by omega)]
   grind
  ·have e2 : det n (upd A j (A m)) = 0 := det_same (i := j) (k := m) hj (by omega) h fun c => by rw [upd_same, upd_ne _ _ (fun k => h k.symm)]
   rw [e2]
   by_cases h2 : j < m
   ·rw [if_pos h2, if_pos (by omega)]; grind
   ·rw [if_neg h2, if_neg (by omega)]; grind
theorem cramer_IB {n B C : Nat} {A : Nat → Nat → Rat} {x b : Nat → Rat} (hA : ∀ i j, i < n → j < n → IB B (A i j)) (hb : ∀ i, i < n → IB C (b i)) (hBC : B ≤ C) (hs : ∀ c, c < n → (sm n fun i => x i * A i c) = b c) {j : Nat} (hj : j < n) :
  IB ((n * C) ^ n) (x j * det n A) := by
 have h := det_comb A hj x n (Nat.le_refl n)
 rw [if_pos hj] at h
 rw [← h]
 refine IB.det n _ fun i c hi hc => ?_
 by_cases e : i = j
 ·subst e
  rw [upd_same, hs c hc]
  exact hb c hc
 ·rw [upd_ne _ _ e]
  exact (hA i c hi hc).mono hBC
theorem mul_ne0 {a b : Rat} (ha : a ≠ 0) (hb : b ≠ 0) : a * b ≠ 0 := fun e => by
 rcases Rat.mul_eq_zero.1 e with h | h
 ·exact ha h
 ·exact hb h
theorem pw_le {n k : Nat} (hn : n ≤ 8) : (n * 10 ^ k) ^ n ≤ 10 ^ ((k + 1) * 8) := by
 refine Nat.le_trans (Nat.pow_le_pow_left (m := 10 ^ (k + 1)) ?_ n) ?_
 ·rw [Nat.pow_succ, Nat.mul_comm (10 ^ k)]
  exact Nat.mul_le_mul_right _ (by omega)
 ·rw [Nat.pow_mul]
  exact Nat.pow_le_pow_right (Nat.pow_pos (by decide)) hn
theorem IB.ten {k l : Nat} {x : Rat} (h : IB (10 ^ k) x) (hk : k ≤ l) : IB (10 ^ l) x := h.mono (Nat.pow_le_pow_right (by decide) hk)
def Ten (k : Nat) (x : Rat) : Prop := IB (10 ^ k) x
theorem Ten.ten {k l : Nat} {x : Rat} (h : Ten k x) (hk : k ≤ l) : Ten l x := IB.ten h hk
theorem ten_pow {n k : Nat} {x : Rat} (h : IB ((n * 10 ^ k) ^ n) x) (hn : n ≤ 8) : Ten ((k + 1) * 8) x := h.mono (pw_le hn)
theorem ib_ten {k l : Nat} {x y : Rat} (h : Ten k x) (h2 : Ten l y) : Ten (k + l) (x * y) := by
 unfold Ten at *
 rw [Nat.pow_add]
 exact h.mul h2
theorem ib_two {k : Nat} {x y : Rat} (h : Ten k x) (h2 : Ten k y) : Ten (k + 1) (x + y) := by
 refine (IB.add h h2).mono ?_
 rw [Nat.pow_succ]
 generalize 10 ^ k = z
 omega
def Ov (k : Nat) (e f : Rat) : Prop := Ten k (f * e)
theorem Ov.sz {k : Nat} {e f : Rat} (h : Ov k e f) (he : Ten k e) (h0 : e ≠ 0) : SzQ f (k + 1) := by
 have : 10 ^ k < 10 ^ (k + 1) := Nat.pow_lt_pow_right (by decide) (by omega)
 exact szQ_quot (A := 10 ^ k) (B := 10 ^ k) h he h0 rfl this this
theorem num_den (x : Rat) : x * ((x.den : Nat) : Rat) = (x.num : Rat) := by
 have h1 := Rat.num_divInt_den x
 rw [Rat.divInt_eq_div] at h1
 have hd : (((x.den : Nat) : Int) : Rat) ≠ 0 := by
  have := x.den_pos
  intro e0
  have : (x.den : Int) = 0 := by exact_mod_cast e0
  omega
 show x * (((x.den : Nat) : Int) : Rat) = (x.num : Rat)
 rw [Rat.div_def] at h1
 grind
end Go.Proofs.YtcgfdfdcbamceaaGreatDoor
namespace Go.Proofs.YtcgfdfdcbamceaaGreatDoor
open Go.Lib
abbrev MT := List (List (List UInt8))
abbrev MQ := List (List Rat)
def chkV (l : List (List UInt8)) : Int := if 40 < l.length then 2 else rAll l
def chkR (n : Nat) : MT → Int
 | [] => 0
 | r :: m => if r.length ≠ n then 3 else if chkV r ≠ 0 then chkV r else chkR n m
def wd : MT → Nat
 | [] => 0
 | r :: _ => r.length
def chkM (m : MT) : Int := if 40 < m.length then 2 else chkR (wd m) m
def valsV (l : List (List UInt8)) : List Rat := l.map rval
def valsM (m : MT) : MQ := m.map valsV
def dotQ (a b : List Rat) : Rat := sm a.length fun i => a.getD i 0 * b.getD i 0
theorem itoaLen (z : Int) : (itoa z).length ≤ (decDigits z.natAbs).length + 1 := by
 unfold itoa
 split
 ·rw [List.length_cons]; exact Nat.le_refl _
 ·rw [show z.toNat = z.natAbs by omega]; exact Nat.le_succ _
theorem qTextLen {q : Rat} (h : fitQ q = true) : (qText q).length ≤ 4002 := by
 rw [fitQ, Bool.and_eq_true, fitN, fitN, decide_eq_true_iff, decide_eq_true_iff] at h
 have := itoaLen q.num
 unfold qText
 split
 ·omega
 ·rw [List.length_append, List.length_cons]; omega
structure Rect {α : Type} (m : List (List α)) (n k : Nat) : Prop where
 len : m.length = n
 row : ∀ r ∈ m, r.length = k
def at2 (m : MQ) (i j : Nat) : Rat := (m.getD i []).getD j 0
theorem Rect.rowlen {α : Type} {m : List (List α)} {n k : Nat} (h : Rect m n k) {i : Nat} (hi : i < n) : (m.getD i []).length = k := by
 have hl : i < m.length := by rw [h.len]; exact hi
 rw [List.getD_eq_getElem?_getD, List.getElem?_eq_getElem hl]
 exact h.row _ (List.getElem_mem hl)
theorem getD_range_map {α : Type} (k : Nat) (f : Nat → α) {j : Nat} (hj : j < k) (d : α) : ((List.range k).map f).getD j d = f j := by
 rw [List.getD_eq_getElem?_getD, List.getElem?_map, List.getElem?_range hj]; rfl
theorem chkV_ok {l : List (List UInt8)} (h : chkV l = 0) : l.length ≤ 40 ∧ ∀ s ∈ l, rchk s = 0 := by
 unfold chkV at h
 split at h
 ·cases h
 ·refine ⟨by omega, ?_⟩
  rename_i hl
  clear hl
  induction l with
  | nil => intro s hs; cases hs
  | cons x l ih =>
   simp only [rAll] at h
   intro s hs
   split at h
   ·rename_i h0
    rcases List.mem_cons.1 hs with rfl | hs
    ·exact h0
    ·exact ih h s hs
   ·rename_i h0; exact absurd h h0
theorem rAll_all {l : List (List UInt8)} (h : ∀ s ∈ l, rchk s = 0) : rAll l = 0 := by
 induction l with
 | nil => rfl
 | cons x l ih => rw [rAll, if_pos (h x List.mem_cons_self), ih fun s hs => h s (List.mem_cons_of_mem _ hs)]
theorem chkV_all {l : List (List UInt8)} (hl : l.length ≤ 40) (h : ∀ s ∈ l, rchk s = 0) : chkV l = 0 := by rw [chkV, if_neg (by omega), rAll_all h]
structure VM (m : MT) (n k : Nat) : Prop where
 rect : Rect m n k
 hn : n ≤ 40
 hk : k ≤ 40 ∨ n = 0
 ok : ∀ r ∈ m, ∀ s ∈ r, rchk s = 0
theorem chkR_ok {n : Nat} : ∀ {m : MT}, chkR n m = 0 → ∀ r ∈ m, r.length = n ∧ r.length ≤ 40 ∧ ∀ s ∈ r, rchk s = 0
 | [], _, r, hr => by cases hr
 | x :: m, h, r, hr => by
  rw [chkR] at h
  split at h
  ·cases h
  ·split at h
   ·rename_i h1; exact absurd h h1
   ·rename_i h0 h1
    rcases List.mem_cons.1 hr with rfl | hr
    ·obtain ⟨k1, k2⟩ := chkV_ok (Decidable.not_not.1 h1)
     exact ⟨Decidable.not_not.1 h0, k1, k2⟩
    ·exact chkR_ok h r hr
theorem chkM_ok {m : MT} (h : chkM m = 0) : VM m m.length (wd m) := by
 unfold chkM at h
 split at h
 ·cases h
 ·rename_i hl
  have hr := chkR_ok h
  refine ⟨⟨rfl, fun r k => (hr r k).1⟩, by omega, ?_, fun r k => (hr r k).2.2⟩
  cases m with
  | nil => exact .inr rfl
  | cons x m => exact .inl (hr x List.mem_cons_self).2.1
def SzM (m : MQ) (k : Nat) : Prop := ∀ r ∈ m, ∀ x ∈ r, SzQ x k
def smallB (n : Nat) (m : MT) : Bool := decide (m.length ≤ n) && m.all fun r => decide (r.length ≤ n) && r.all fun s => decide (s.length ≤ 12)
theorem small_sz {n : Nat} {m : MT} (h : smallB n m = true) (ok : ∀ r ∈ m, ∀ s ∈ r, rchk s = 0) : SzM (valsM m) 12 := by
 unfold smallB at h
 rw [Bool.and_eq_true, List.all_eq_true] at h
 intro r hr x hx
 obtain ⟨l, hl, rfl⟩ := List.mem_map.1 hr
 obtain ⟨s, hs, rfl⟩ := List.mem_map.1 hx
 have h1 := h.2 l hl
 rw [Bool.and_eq_true, List.all_eq_true] at h1
 exact (rval_sz (ok l hl s hs)).1.mono (of_decide_eq_true (h1.2 s hs))
end Go.Proofs.YtcgfdfdcbamceaaGreatDoor
