/- Determinants of matrices of rational numbers, given as functions of row and column: linear and alternating in the rows, triangular matrices. Plain facts. No program here. More on determinants of matrices given as functions: along the first row, the transposed matrix, dependent rows, Cramer's rule; alternating forms. Plain facts. No program here. -/
import Derived.WalkKit
namespace Go.Proofs.YtcgfdfdcbamceaaGreatDoor
def sm : Nat → (Nat → Rat) → Rat
 | 0, _ => 0
 | n + 1, f => sm n f + f n
theorem sm_congr {f g : Nat → Rat} : ∀ (n : Nat), (∀ i, i < n → f i = g i) → sm n f = sm n g
 | 0, _ => rfl
 | n + 1, h => by rw [sm, sm, sm_congr n fun i hi => h i (by omega), h n (by omega)]
theorem sm_zero {f : Nat → Rat} : ∀ (n : Nat), (∀ i, i < n → f i = 0) → sm n f = 0
 | 0, _ => rfl
 | n + 1, h => by rw [sm, sm_zero n fun i hi => h i (by omega), h n (by omega)]; grind
theorem sm_lin (a b : Rat) (f g : Nat → Rat) : ∀ (n : Nat), sm n (fun i => a * f i + b * g i) = a * sm n f + b * sm n g
 | 0 => by simp only [sm]; grind
 | n + 1 => by rw [sm, sm, sm, sm_lin a b f g n]; grind
theorem sm_mul (a : Rat) (f : Nat → Rat) : ∀ (n : Nat), sm n (fun i => a * f i) = a * sm n f
 | 0 => by simp only [sm]; grind
 | n + 1 => by rw [sm, sm, sm_mul a f n]; grind
theorem sm_add (f g : Nat → Rat) : ∀ (n : Nat), sm n (fun i => f i + g i) = sm n f + sm n g
 | 0 => by simp only [sm]; grind
 | n + 1 => by rw [sm, sm, sm, sm_add f g n]; grind
theorem sm_one {f : Nat → Rat} (k : Nat) : ∀ (n : Nat), k < n → (∀ i, i < n → i ≠ k → f i = 0) → sm n f = f k
 | 0, h, _ => absurd h (by omega)
 | n + 1, h, hz => by
  rw [sm]
  by_cases e : n = k
  ·rw [sm_zero n fun i hi => hz i (by omega) (by omega), e]; grind
  ·rw [sm_one k n (by omega) fun i hi hk => hz i (by omega) hk, hz n (by omega) e]; grind
theorem sm_two {f : Nat → Rat} (k l : Nat) (hkl : k < l) : ∀ (n : Nat), l < n → (∀ i, i < n → i ≠ k → i ≠ l → f i = 0) → sm n f = f k + f l
 | 0, h, _ => absurd h (by omega)
 | n + 1, h, hz => by
  rw [sm]
  by_cases e : n = l
  ·rw [sm_one k n (by omega) fun i hi hk => hz i (by omega) hk (by omega), e]
  ·rw [sm_two k l hkl n (by omega) fun i hi hk hl => hz i (by omega) hk hl, hz n (by omega) (by omega) e]; grind
theorem sm_comm (f : Nat → Nat → Rat) (n : Nat) : ∀ (m : Nat), sm m (fun i => sm n (fun j => f i j)) = sm n (fun j => sm m (fun i => f i j))
 | 0 => by rw [sm, sm_zero n]; intro i _; rfl
 | m + 1 => by rw [sm, sm_comm f n m, ← sm_add]; exact sm_congr n fun j _ => rfl
def sk (i r : Nat) : Nat := if r < i then r else r + 1
def sg (i : Nat) : Rat := if i % 2 = 0 then 1 else -1
def det : Nat → (Nat → Nat → Rat) → Rat
 | 0, _ => 1
 | n + 1, A => sm (n + 1) fun i => sg i * A i 0 * det n (fun r c => A (sk i r) (c + 1))
theorem det_congr {A B : Nat → Nat → Rat} : ∀ (n : Nat), (∀ i j, i < n → j < n → A i j = B i j) → det n A = det n B := by
 intro n
 induction n generalizing A B with
 | zero => intro _; rfl
 | succ n ih =>
  intro h
  rw [det, det]
  refine sm_congr _ fun i hi => ?_
  rw [h i 0 hi (by omega), ih fun r c hr hc => h _ _ (by unfold sk; split <;> omega) (by omega)]
def upd (A : Nat → Nat → Rat) (k : Nat) (u : Nat → Rat) : Nat → Nat → Rat := fun r => if r = k then u else A r
theorem upd_same (A : Nat → Nat → Rat) (k : Nat) (u : Nat → Rat) : upd A k u k = u := if_pos rfl
theorem upd_ne (A : Nat → Nat → Rat) {k r : Nat} (u : Nat → Rat) (h : r ≠ k) : upd A k u r = A r := if_neg h
theorem upd_self (A : Nat → Nat → Rat) (k : Nat) : upd A k (A k) = A := by
 funext r
 unfold upd
 split
 ·rename_i h; rw [h]
 ·rfl
theorem upd_comm (A : Nat → Nat → Rat) {k l : Nat} (h : k ≠ l) (u v : Nat → Rat) : upd (upd A k u) l v = upd (upd A l v) k u := by
 funext r
 unfold upd
 split
 ·rename_i h1
  rw [if_neg (by omega)]
 ·rfl
theorem minor_same (A : Nat → Nat → Rat) (k : Nat) (u : Nat → Rat) : (fun r c => upd A k u (sk k r) (c + 1)) = fun r c => A (sk k r) (c + 1) := by
 funext r c
 rw [upd_ne A u (by unfold sk; split <;> omega)]
theorem minor_ne (A : Nat → Nat → Rat) {i k : Nat} (u : Nat → Rat) (h : i ≠ k) :
  (fun r c => upd A k u (sk i r) (c + 1)) = upd (fun r c => A (sk i r) (c + 1)) (if k < i then k else k - 1) (fun c => u (c + 1)) := by
 funext r c
 by_cases e : r = if k < i then k else k - 1
 ·have e2 : sk i r = k := by
   rw [e]; unfold sk
   by_cases hk : k < i
   ·rw [if_pos hk, if_pos hk]
   ·rw [if_neg hk, if_neg (by omega)]; omega
  rw [e2, upd_same, e, upd_same]
 ·have e2 : sk i r ≠ k := by
   intro hc
   apply e
   unfold sk at hc
   split at hc
   ·rw [if_pos (by omega)]; exact hc
   ·rw [if_neg (by omega)]; omega
  rw [upd_ne _ _ e2, upd_ne _ _ e]
theorem det_lin (a b : Rat) (u v : Nat → Rat) : ∀ (n : Nat) (A : Nat → Nat → Rat) (k : Nat), k < n →
  det n (upd A k (fun j => a * u j + b * v j)) = a * det n (upd A k u) + b * det n (upd A k v) := by
 intro n
 induction n generalizing u v with
 | zero => intro A k h; omega
 | succ n ih =>
  intro A k hk
  rw [det, det, det, ← sm_lin]
  refine sm_congr _ fun i hi => ?_
  by_cases e : i = k
  ·subst e
   rw [minor_same, minor_same, minor_same, upd_same, upd_same, upd_same]
   grind
  ·rw [minor_ne _ _ e, minor_ne _ _ e, minor_ne _ _ e, upd_ne _ _ e, upd_ne _ _ e, upd_ne _ _ e]
   rw [ih (fun c => u (c + 1)) (fun c => v (c + 1)) _ _ (by split <;> omega)]
   grind
theorem det_smul (a : Rat) (n : Nat) (A : Nat → Nat → Rat) (k : Nat) (hk : k < n) (u : Nat → Rat) : det n (upd A k (fun j => a * u j)) = a * det n (upd A k u) := by
 have h := det_lin a 0 u u n A k hk
 rw [show (fun j => a * u j + 0 * u j) = fun j => a * u j by funext j; grind] at h
 rw [h]; grind
theorem det_adj : ∀ (n : Nat) (A : Nat → Nat → Rat) (k : Nat), k + 1 < n → (∀ j, A k j = A (k + 1) j) → det n A = 0 := by
 intro n
 induction n with
 | zero => intro A k h; omega
 | succ n ih =>
  intro A k hk h
  rw [det, sm_two k (k + 1) (by omega) (n + 1) hk]
  ·have e : (fun r c => A (sk k r) (c + 1)) = fun r c => A (sk (k + 1) r) (c + 1) := by
    funext r c
    unfold sk
    by_cases h1 : r < k
    ·rw [if_pos h1, if_pos (by omega)]
    ·by_cases h2 : r = k
     ·rw [if_neg h1, if_pos (by omega), h2, h]
     ·rw [if_neg h1, if_neg (by omega)]
   have es : sg (k + 1) = - sg k := by
    unfold sg
    rcases Nat.mod_two_eq_zero_or_one k with h1 | h1
    ·have h2 : ¬ (k + 1) % 2 = 0 := by omega
     rw [if_pos h1, if_neg h2]
    ·have h2 : (k + 1) % 2 = 0 := by omega
     have h3 : ¬ k % 2 = 0 := by omega
     rw [if_neg h3, if_pos h2]; grind
   rw [e, es, h 0]
   grind
  ·intro i hi h1 h2
   rw [ih (fun r c => A (sk i r) (c + 1)) (if k < i then k else k - 1) (by split <;> omega)]
   ·grind
   ·intro j
    unfold sk
    by_cases hk : k < i
    ·rw [if_pos hk, if_pos hk, if_pos (by omega), h]
    ·rw [if_neg hk, if_neg (by omega), if_neg (by omega)]
     rw [show k - 1 + 1 = k by omega, h]
theorem det_swap_adj (n : Nat) (A : Nat → Nat → Rat) (k : Nat) (hk : k + 1 < n) : det n (upd (upd A k (A (k + 1))) (k + 1) (A k)) = - det n A := by
 have hz : ∀ u : Nat → Rat, det n (upd (upd A k u) (k + 1) u) = 0 := fun u => det_adj n _ k hk fun j => by
  rw [upd_same, upd_ne _ _ (by omega), upd_same]
 have h1 := hz (fun j => 1 * A k j + 1 * A (k + 1) j)
 rw [det_lin 1 1 _ _ n _ _ hk, upd_comm A (by omega) _ (A k), upd_comm A (by omega) _ (A (k + 1)), det_lin 1 1 _ _ n _ _ (by omega), det_lin 1 1 _ _ n _ _ (by omega)] at h1
 rw [upd_comm A (by omega) (A k) (A k) |>.symm, upd_comm A (k := k) (by omega) (A (k + 1)) (A (k + 1)) |>.symm, hz, hz] at h1
 have e1 : upd (upd A (k + 1) (A (k + 1))) k (A k) = A := by rw [upd_self, upd_self]
 rw [e1] at h1
 rw [upd_comm A (by omega)]
 grind
theorem det_eq (n : Nat) : ∀ (d : Nat) (A : Nat → Nat → Rat) (i : Nat), i + d + 1 < n → (∀ j, A i j = A (i + d + 1) j) → det n A = 0 := by
 intro d
 induction d with
 | zero => intro A i h he; exact det_adj n A i h he
 | succ d ih =>
  intro A i h he
  have h1 := det_swap_adj n A (i + d + 1) (by omega)
  have h2 : det n (upd (upd A (i + d + 1) (A (i + d + 1 + 1))) (i + d + 1 + 1) (A (i + d + 1))) = 0 := ih _ i (by omega) fun j => by
   rw [upd_ne _ _ (by omega), upd_ne _ _ (by omega), upd_ne _ _ (by omega), upd_same]
   exact he j
  rw [h2] at h1
  grind
theorem det_same {n : Nat} {A : Nat → Nat → Rat} {i k : Nat} (hi : i < n) (hk : k < n) (hne : i ≠ k) (h : ∀ j, A i j = A k j) : det n A = 0 := by
 rcases Nat.lt_or_gt_of_ne hne with h1 | h1
 ·exact det_eq n (k - i - 1) A i (by omega) fun j => by rw [h, show i + (k - i - 1) + 1 = k by omega]
 ·exact det_eq n (i - k - 1) A k (by omega) fun j => by rw [← h, show k + (i - k - 1) + 1 = i by omega]
theorem det_zero_row {n : Nat} {A : Nat → Nat → Rat} {i : Nat} (hi : i < n) (h : ∀ j, A i j = 0) : det n A = 0 := by
 have e := det_smul 0 n A i hi (A i)
 rw [show (fun j => 0 * A i j) = A i by funext j; rw [h]; grind, upd_self] at e
 rw [e]; grind
def pd : Nat → (Nat → Rat) → Rat
 | 0, _ => 1
 | n + 1, f => f 0 * pd n (fun i => f (i + 1))
theorem det_tri : ∀ (n : Nat) (A : Nat → Nat → Rat), (∀ i j, i < n → j < i → A i j = 0) → det n A = pd n fun i => A i i := by
 intro n
 induction n with
 | zero => intro A _; rfl
 | succ n ih =>
  intro A h
  rw [det, sm_one 0 (n + 1) (by omega), pd]
  ·rw [ih (fun r c => A (sk 0 r) (c + 1))]
   ·have e : ∀ r, sk 0 r = r + 1 := fun r => by unfold sk; rw [if_neg (by omega)]
    simp only [e]
    unfold sg
    rw [if_pos rfl]
    grind
   ·intro i j hi hj
    unfold sk
    rw [if_neg (by omega)]
    exact h _ _ (by omega) (by omega)
  ·intro i hi h0
   rw [h i 0 hi (by omega)]
   grind
theorem pd_one {f : Nat → Rat} : ∀ (n : Nat), (∀ i, i < n → f i = 1) → pd n f = 1
 | 0, _ => rfl
 | n + 1, h => by rw [pd, h 0 (by omega), pd_one n fun i hi => h _ (by omega)]; grind
theorem det_id (n : Nat) : det n (fun i j => if i = j then 1 else 0) = 1 := by
 rw [det_tri n _ fun i j _ hj => if_neg (by omega)]
 exact pd_one n fun i _ => if_pos rfl
structure Alt (n : Nat) (F : (Nat → Nat → Rat) → Rat) : Prop where
 lin : ∀ (a b : Rat) (u v : Nat → Rat) (A : Nat → Nat → Rat) (k : Nat), k < n → F (upd A k (fun j => a * u j + b * v j)) = a * F (upd A k u) + b * F (upd A k v)
 same : ∀ (A : Nat → Nat → Rat) (i k : Nat), i < n → k < n → i ≠ k → A i = A k → F A = 0
 congr : ∀ (A B : Nat → Nat → Rat), (∀ i, i < n → A i = B i) → F A = F B
section
variable {n : Nat} {F : (Nat → Nat → Rat) → Rat}
theorem Alt.smul (h : Alt n F) (a : Rat) (A : Nat → Nat → Rat) {k : Nat} (hk : k < n) (u : Nat → Rat) : F (upd A k (fun j => a * u j)) = a * F (upd A k u) := by
 have e := h.lin a 0 u u A k hk
 rw [show (fun j => a * u j + 0 * u j) = fun j => a * u j by funext j; grind] at e
 rw [e]; grind
theorem Alt.zero_row (h : Alt n F) {A : Nat → Nat → Rat} {i : Nat} (hi : i < n) (hz : ∀ j, A i j = 0) : F A = 0 := by
 have e := h.smul 0 A hi (A i)
 rw [show (fun j => 0 * A i j) = A i by funext j; rw [hz]; grind, upd_self] at e
 rw [e]; grind
theorem Alt.addrow (h : Alt n F) (A : Nat → Nat → Rat) {i k : Nat} (hi : i < n) (hk : k < n) (hne : i ≠ k) (a : Rat) : F (upd A i (fun j => A i j + a * A k j)) = F A := by
 have e := h.lin 1 a (A i) (A k) A i hi
 rw [show (fun j => 1 * A i j + a * A k j) = fun j => A i j + a * A k j by funext j; grind] at e
 rw [e, upd_self, h.same (upd A i (A k)) i k hi hk hne (by rw [upd_same, upd_ne _ _ (Ne.symm hne)])]
 grind
theorem Alt.swap (h : Alt n F) (A : Nat → Nat → Rat) {i k : Nat} (hi : i < n) (hk : k < n) (hne : i ≠ k) : F (upd (upd A i (A k)) k (A i)) = - F A := by
 have hz : ∀ u : Nat → Rat, F (upd (upd A i u) k u) = 0 := fun u => h.same _ i k hi hk hne (by
  rw [upd_same, upd_ne _ _ hne, upd_same])
 have h1 := hz (fun j => 1 * A i j + 1 * A k j)
 rw [h.lin 1 1 _ _ _ _ hk, upd_comm A hne _ (A i), upd_comm A hne _ (A k), h.lin 1 1 _ _ _ _ hi, h.lin 1 1 _ _ _ _ hi] at h1
 rw [(upd_comm A hne (A i) (A i)).symm, (upd_comm A hne (A k) (A k)).symm, hz, hz] at h1
 have e1 : upd (upd A k (A k)) i (A i) = A := by rw [upd_self, upd_self]
 rw [e1] at h1
 rw [upd_comm A hne]
 grind
theorem Alt.elim_ (h : Alt n F) (A : Nat → Nat → Rat) (g : Nat → Rat) {r : Nat} (hr : r < n) : ∀ m, m ≤ n → F (fun i j => if i = r ∨ m ≤ i then A i j else A i j - g i * A r j) = F A := by
 intro m
 induction m with
 | zero => intro _; exact h.congr _ _ fun i _ => by funext j; rw [if_pos (.inr (by omega))]
 | succ m ih =>
  intro hm
  rw [← ih (by omega)]
  by_cases e : m = r
  ·refine h.congr _ _ fun i _ => ?_
   funext j
   by_cases hi : i = r
   ·rw [if_pos (.inl hi), if_pos (.inl hi)]
   ·by_cases h2 : m ≤ i
    ·rw [if_pos (.inr (by omega)), if_pos (.inr h2)]
    ·rw [if_neg (by omega), if_neg (by omega)]
  ·rw [← h.addrow (fun i j => if i = r ∨ m ≤ i then A i j else A i j - g i * A r j) (i := m) (k := r) (by omega) hr e (-g m)]
   refine h.congr _ _ fun i _ => ?_
   funext j
   by_cases hi : i = m
   ·subst hi
    rw [upd_same, if_neg (by omega), if_pos (.inr (Nat.le_refl _)), if_pos (.inl rfl)]
    grind
   ·rw [upd_ne _ _ hi]
    by_cases h2 : i = r
    ·rw [if_pos (.inl h2), if_pos (.inl h2)]
    ·by_cases h3 : m ≤ i
     ·rw [if_pos (.inr (by omega)), if_pos (.inr h3)]
     ·rw [if_neg (by omega), if_neg (by omega)]
theorem Alt.elim (h : Alt n F) (A : Nat → Nat → Rat) (g : Nat → Rat) {r : Nat} (hr : r < n) : F (fun i j => if i = r then A r j else A i j - g i * A r j) = F A := by
 rw [← h.elim_ A g hr n (Nat.le_refl _)]
 refine h.congr _ _ fun i hi => ?_
 funext j
 by_cases h2 : i = r
 ·subst h2
  rw [if_pos rfl, if_pos (.inl rfl)]
 ·rw [if_neg h2, if_neg (by omega)]
end
theorem det_alt (n : Nat) : Alt n (det n) where
 lin a b u v A k hk := det_lin a b u v n A k hk
 same A i k hi hk hne he := det_same hi hk hne fun j => by rw [he]
 congr A B h := det_congr n fun i j hi _ => by rw [h i hi]
theorem upd_prod (A B : Nat → Nat → Rat) (l k : Nat) (u : Nat → Rat) : (fun i j => sm l fun t => upd A k u i t * B t j) = upd (fun i j => sm l fun t => A i t * B t j) k (fun j => sm l fun t => u t * B t j) := by
 funext i j
 by_cases h : i = k
 ·rw [h, upd_same, upd_same]
 ·rw [upd_ne _ _ h, upd_ne _ _ h]
theorem prod_alt (n l : Nat) (B : Nat → Nat → Rat) : Alt n (fun X => det n fun i j => sm l fun t => X i t * B t j) where
 lin a b u v A k hk := by
  simp only [upd_prod]
  rw [← det_lin a b _ _ n _ k hk]
  congr 2
  funext j
  rw [← sm_lin]
  exact sm_congr _ fun t _ => by grind
 same A i k hi hk hne he := det_same hi hk hne fun j => by rw [he]
 congr A B h := det_congr n fun i j hi _ => by rw [h i hi]
end Go.Proofs.YtcgfdfdcbamceaaGreatDoor
