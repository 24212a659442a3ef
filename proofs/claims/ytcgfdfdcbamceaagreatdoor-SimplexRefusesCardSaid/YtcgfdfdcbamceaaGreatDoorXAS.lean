/- All numbers of an elimination are of at most 700000 words. No program here. Determinants of products, rank and transposed matrices, kernels: plain facts from eliminations. No program here. Linear programs in plain Lean: the entries of all tables are quotients of determinants: their sizes. No program here. -/
import Derived.Test.YtcgfdfdcbamceaaGreatDoorXAR
import Derived.Test.YtcgfdfdcbamceaaGreatDoorXAD
import Derived.Test.YtcgfdfdcbamceaaGreatDoorXAQ
namespace Go.Proofs.YtcgfdfdcbamceaaGreatDoor
structure Whole (n Z : Nat) (M : Nat → Nat → Rat) (D : Nat → Rat) : Prop where
 ne : ∀ i, i < n → D i ≠ 0
 fit : ∀ i, i < n → IF Z (D i)
 mul : ∀ i j, i < n → IF Z (D i * M i j)
section
variable {n w : Nat} {M A : Nat → Nat → Rat} {k : Nat} {pv : List Nat} {π : Nat → Nat} {δ ε : Rat}
theorem RI.piv_ge (h : RI n M A k pv π δ ε) : ∀ t, t < pv.length → t ≤ pv.getD t 0
 | 0, _ => Nat.zero_le _
 | t + 1, ht => by
  have h1 := h.piv_ge t (by omega)
  have h2 := h.inc t (t + 1) (by omega) ht
  omega
theorem RI.piv_id (h : RI n M A w pv π δ ε) (hl : pv.length = w) : ∀ t, t < w → pv.getD t 0 = t := by
 have key : ∀ d t, t + d + 1 = w → pv.getD t 0 = t := by
  intro d
  induction d with
  | zero =>
   intro t ht
   have h1 := h.piv_ge t (by omega)
   have h2 := h.lt t (by omega)
   omega
  | succ d ih =>
   intro t ht
   have h1 := h.piv_ge t (by omega)
   have h2 := ih (t + 1) (by omega)
   have h3 := h.inc t (t + 1) (by omega) (by omega)
   omega
 intro t ht
 exact key (w - t - 1) t (by omega)
end
def toM (n w : Nat) (X : Nat → Nat → Rat) : MQ := (List.range n).map fun i => (List.range w).map fun j => X i j
theorem rect_toM (n w : Nat) (X : Nat → Nat → Rat) : Rect (toM n w X) n w := ⟨by simp [toM], fun r hr => by
 unfold toM at hr
 obtain ⟨i, _, rfl⟩ := List.mem_map.1 hr
 simp⟩
theorem at2_toM {n w i j : Nat} (X : Nat → Nat → Rat) (hi : i < n) (hj : j < w) : at2 (toM n w X) i j = X i j := by
 unfold at2 toM
 rw [getD_range_map n _ hi, getD_range_map w _ hj]
theorem at2_ge {m : MQ} {n w i j : Nat} (h : Rect m n w) (hi : i < n) (hj : w ≤ j) : at2 m i j = 0 := getD_ge _ _ _ (by rw [rect_len h hi]; exact hj)
theorem Red.zero_row {m : MQ} {n w : Nat} {s : MQ × List Nat} (h : Red m n w w s) {i : Nat} (h1 : s.2.length ≤ i) (hi : i < n) (j : Nat) : at2 s.1 i j = 0 := by
 obtain ⟨π, δ, ε, hI⟩ := h.inv
 by_cases hj : j < w
 ·exact hI.low i j h1 hi hj
 ·exact at2_ge h.rect hi (by omega)
theorem alt_unique {n : Nat} {F : (Nat → Nat → Rat) → Rat} (hF : Alt n F) {m : MQ} (hm : Rect m n n) : F (at2 m) = det n (at2 m) * F (fun i j => if i = j then 1 else 0) := by
 have hR := red_inv hm n
 obtain ⟨π, δ, ε, hI⟩ := hR.inv
 have key : ∀ G, Alt n G → ε * G (at2 m) = δ * G (at2 (redQ m n).1) := fun G hG => by
  have h1 := hI.minor n G id hI.few hG (fun _ _ => rfl) (fun i hi => hi) (fun i j _ _ e => e)
  have h2 := hI.sign G (at2 m) hG
  simp only [id] at h1
  rw [← h2, h1]
 have k1 := key F hF
 have k2 := key (det n) (det_alt n)
 have hf := hI.few
 rcases Nat.lt_or_ge (redQ m n).2.length n with hl | hl
 ·rw [hF.zero_row hl fun j => hR.zero_row (Nat.le_refl _) hl j, Rat.mul_zero] at k1
  rw [(det_alt n).zero_row hl fun j => hR.zero_row (Nat.le_refl _) hl j, Rat.mul_zero] at k2
  rcases Rat.mul_eq_zero.1 k1 with h | h
  ·exact absurd h hI.ene
  ·rcases Rat.mul_eq_zero.1 k2 with h' | h'
   ·exact absurd h' hI.ene
   ·rw [h, h']; grind
 ·have hl : (redQ m n).2.length = n := by omega
  have hid : ∀ i, i < n → at2 (redQ m n).1 i = fun j => if i = j then 1 else 0 := fun i hi => by
   funext j
   by_cases hj : j < n
   ·have := hI.unit j i (by omega) hi
    rw [hI.piv_id hl j hj] at this
    exact this
   ·rw [at2_ge hR.rect hi (by omega), if_neg (by omega)]
  rw [hF.congr _ (fun i j => if i = j then 1 else 0) hid] at k1
  rw [(det_alt n).congr _ (fun i j => if i = j then 1 else 0) hid, det_id, Rat.mul_one] at k2
  rw [← k2] at k1
  have e : ε * (F (at2 m) - det n (at2 m) * F (fun i j => if i = j then 1 else 0)) = 0 := by
   have : ε * F (at2 m) = ε * (det n (at2 m) * F (fun i j => if i = j then 1 else 0)) := by rw [k1]; grind
   rw [Rat.sub_eq_add_neg, Rat.mul_add, this]; grind
  rcases Rat.mul_eq_zero.1 e with h | h
  ·exact absurd h hI.ene
  ·grind
theorem det_mul (n : Nat) (X Y : Nat → Nat → Rat) : det n (fun i j => sm n fun t => X i t * Y t j) = det n X * det n Y := by
 have h := alt_unique (prod_alt n n Y) (rect_toM n n X)
 have e1 : det n (fun i j => sm n fun t => at2 (toM n n X) i t * Y t j) = det n (fun i j => sm n fun t => X i t * Y t j) :=
  det_congr n fun i j hi _ => sm_congr _ fun t ht => by rw [at2_toM X hi ht]
 have e2 : det n (at2 (toM n n X)) = det n X := det_congr n fun i j hi hj => at2_toM X hi hj
 have e3 : det n (fun i j => sm n fun t => (if i = t then (1 : Rat) else 0) * Y t j) = det n Y := det_congr n fun i j hi _ => by
  rw [sm_one i n hi fun t _ ht => by rw [if_neg (Ne.symm ht)]; grind, if_pos rfl]; grind
 simp only at h
 rw [e1, e2, e3] at h
 exact h
theorem ten_sum {k : Nat} {f : Nat → Rat} {n : Nat} (h : ∀ i, i < n → Ten k (f i)) (hn : n ≤ 10) : Ten (k + 1) (sm n f) := by
 refine (IB.sum n h).mono ?_
 rw [Nat.pow_succ, Nat.mul_comm]
 exact Nat.mul_le_mul_left _ hn
structure ScT (m W : Nat) (T0 : Nat → Nat → Rat) (D : Nat → Rat) (A : Nat) : Prop where
 ne : ∀ j, j ≤ m → D j ≠ 0
 dt : ∀ j, j ≤ m → Ten A (D j)
 el : ∀ j, j ≤ m → ∀ k, k ≤ W → Ten A (D j * T0 j k)
section
variable {m W K A : Nat} {T0 : Nat → Nat → Rat} {t : TabQ} {D : Nat → Rat}
def basM (T0 : Nat → Nat → Rat) (D : Nat → Rat) (bs : Nat → Nat) : Nat → Nat → Rat := fun l j => D l * T0 l (bs j)
theorem basM_ne (h : InvQ m W K T0 t) (s : ScT m W T0 D A) : det m (basM T0 D (basF t)) ≠ 0 := fun e => by
 obtain ⟨M, hM⟩ := h.comb
 -- M over D is a left inverse
 have hl : ∀ i, i < m → ∀ j, j < m → (sm m fun l => M i l / D l * basM T0 D (basF t) l j) = if i = j then 1 else 0 := fun i hi j hj => by
  have h1 := hM i hi (basF t j) (by have := h.bas.lt j hj; have := h.bas.kw; omega)
  rw [h.bas.unit j hj i (by omega)] at h1
  rw [h1]
  refine sm_congr m fun l hl => ?_
  have := s.ne l (by omega)
  unfold basM
  grind
 have e2 : det m (fun i j => sm m fun l => M i l / D l * basM T0 D (basF t) l j) = 1 := by
  rw [← det_id m]
  exact det_congr m fun i j hi hj => hl i hi j hj
 rw [det_mul m (fun i l => M i l / D l), e, Rat.mul_zero] at e2
 exact absurd e2 (by decide)
theorem inv_sz (h : InvQ m W K T0 t) (s : ScT m W T0 D A) (hm : m ≤ 7) {i k : Nat} (hi : i ≤ m) (hk : k ≤ W) : SzQ (tabF t i k) ((A + 1) * 8 + A + A + 3) := by
 have hd0 := basM_ne h s
 have hA : ∀ l, l < m → ∀ j, j < m → Ten A (basM T0 D (basF t) l j) := fun l hl j hj => s.el l (by omega) _ (by have := h.bas.lt j hj; have := h.bas.kw; omega)
 have hd : Ten ((A + 1) * 8) (det m (basM T0 D (basF t))) := ten_pow (IB.det m _ fun i j hi hj => hA i hi j hj) (by omega)
 have hDm := s.dt m (Nat.le_refl m)
 have key : Ten ((A + 1) * 8 + A + A + 2) (tabF t i k * (D m * det m (basM T0 D (basF t)))) := by
  rcases Nat.lt_or_eq_of_le hi with hlt | rfl
  ·obtain ⟨M, hM⟩ := h.comb
   have hc : ∀ l, l < m → Ten ((A + 1) * 8) (M i l / D l * det m (basM T0 D (basF t))) := fun l hl =>
    ten_pow (cramer_IB (A := basM T0 D (basF t)) (x := fun l => M i l / D l) (b := fun j => if i = j then 1 else 0) (B := 10 ^ A) (C := 10 ^ A) (fun a b ha hb => hA a ha b hb) (fun j _ => by
     split
     ·exact ⟨1, rfl, Nat.pow_pos (by decide)⟩
     ·exact IB.zero _) (Nat.le_refl _) (fun c hc => by
     have h1 := hM i hlt (basF t c) (by have := h.bas.lt c hc; have := h.bas.kw; omega)
     rw [h.bas.unit c hc i (by omega)] at h1
     rw [h1]
     refine sm_congr m fun l hl => ?_
     have := s.ne l (by omega)
     unfold basM
     grind) hl) (by omega)
   have e : tabF t i k * (D m * det m (basM T0 D (basF t))) = (sm m fun l => M i l / D l * det m (basM T0 D (basF t)) * (D l * T0 l k)) * D m := by
    rw [hM i hlt k hk, show (sm m fun j => M i j * T0 j k) * (D m * det m (basM T0 D (basF t))) = det m (basM T0 D (basF t)) * (sm m fun j => M i j * T0 j k) * D m by grind, ← sm_mul]
    congr 1
    refine sm_congr m fun l hl => ?_
    have := s.ne l (by omega)
    grind
   rw [e]
   exact (ib_ten (ten_sum (fun l hl => ib_ten (hc l hl) (s.el l (by omega) k hk)) (by omega)) hDm).ten (by omega)
  ·obtain ⟨y, hy⟩ := h.tgt
   have hc : ∀ l, l < i → Ten ((A + 1) * 8) (D i * y l / D l * det i (basM T0 D (basF t))) := fun l hl =>
    ten_pow (cramer_IB (A := basM T0 D (basF t)) (x := fun l => D i * y l / D l) (b := fun j => - (D i * T0 i (basF t j))) (B := 10 ^ A) (C := 10 ^ A) (fun a b ha hb => hA a ha b hb) (fun j hj => (s.el i (Nat.le_refl i) _ (by have := h.bas.lt j hj; have := h.bas.kw; omega)).neg) (Nat.le_refl _) (fun c hc => by
     have h1 := hy (basF t c) (by have := h.bas.lt c hc; have := h.bas.kw; omega)
     rw [h.bas.unit c hc i (Nat.le_refl i), if_neg (by omega)] at h1
     have e2 : (sm i fun l => D i * y l / D l * basM T0 D (basF t) l c) = D i * sm i fun j => y j * T0 j (basF t c) := by
      rw [← sm_mul]
      refine sm_congr i fun l hl => ?_
      have := s.ne l (by omega)
      unfold basM
      grind
     rw [e2]
     grind) hl) (by omega)
   have e : tabF t i k * (D i * det i (basM T0 D (basF t))) = D i * T0 i k * det i (basM T0 D (basF t)) + sm i fun l => D i * y l / D l * det i (basM T0 D (basF t)) * (D l * T0 l k) := by
    have e3 : (sm i fun l => D i * y l / D l * det i (basM T0 D (basF t)) * (D l * T0 l k)) = D i * det i (basM T0 D (basF t)) * sm i fun j => y j * T0 j k := by
     rw [← sm_mul]
     refine sm_congr i fun l hl => ?_
     have := s.ne l (by omega)
     grind
    rw [hy k hk, e3]
    grind
   rw [e]
   exact (ib_two ((ib_ten (s.el i (Nat.le_refl i) k hk) hd).ten (by omega)) ((ten_sum (fun l hl => ib_ten (hc l hl) (s.el l (by omega) k hk)) (by omega)).ten (show _ ≤ (A + 1) * 8 + A + 1 by omega))).ten (by omega)
 have he : Ten ((A + 1) * 8 + A + A + 2) (D m * det m (basM T0 D (basF t))) := (ib_ten hDm hd).ten (by omega)
 exact Ov.sz key he (mul_ne0 (s.ne m (Nat.le_refl m)) hd0)
end
theorem dprod_ten {s : Nat} : ∀ (l : List Rat), (∀ x ∈ l, SzQ x s) → dprod l ≤ 10 ^ (s * l.length)
 | [], _ => by simp [dprod]
 | x :: l, h => by
  have ih := dprod_ten l fun y hy => h y (by simp [hy])
  rw [dprod, List.length_cons, Nat.mul_add, Nat.mul_one, Nat.add_comm (s * l.length), Nat.pow_add]
  exact Nat.mul_le_mul (Nat.le_of_lt (h x (by simp)).2) ih
theorem dprod_el {s : Nat} : ∀ (l : List Rat), (∀ x ∈ l, SzQ x s) → ∀ x ∈ l, Ten (s * l.length + s) ((dprod l : Nat) * x)
 | [], _, x, hx => by simp at hx
 | y :: l, h, x, hx => by
  have hl := dprod_ten l fun y hy => h y (by simp [hy])
  have hd : Ten (s * l.length) ((dprod l : Nat) : Rat) := ⟨(dprod l : Nat), by norm_cast, by simpa using hl⟩
  have hlen : s * (y :: l).length + s = s * l.length + s + s := by rw [List.length_cons, Nat.mul_add, Nat.mul_one]
  rw [hlen]
  rcases List.mem_cons.1 hx with rfl | hx
  ·have e : (((dprod (x :: l) : Nat) : Nat) : Rat) * x = ((dprod l : Nat) : Rat) * (x.num : Rat) := by
    rw [dprod, Rat.natCast_mul, ← num_den x]
    grind
   rw [e]
   have hn : Ten s (x.num : Rat) := ⟨x.num, rfl, Nat.le_of_lt (h x (by simp)).1⟩
   exact (ib_ten hd hn).ten (by omega)
  ·have e : (((dprod (y :: l) : Nat) : Nat) : Rat) * x = ((dprod l : Nat) : Rat) * x * ((y.den : Nat) : Rat) := by
    rw [dprod, Rat.natCast_mul]
    grind
   rw [e]
   have hn : Ten s ((y.den : Nat) : Rat) := ⟨(y.den : Nat), by norm_cast, by simpa using Nat.le_of_lt (h y (by simp)).2⟩
   exact (ib_ten (dprod_el l (fun z hz => h z (by simp [hz])) x hx) hn).ten (by omega)
end Go.Proofs.YtcgfdfdcbamceaaGreatDoor
