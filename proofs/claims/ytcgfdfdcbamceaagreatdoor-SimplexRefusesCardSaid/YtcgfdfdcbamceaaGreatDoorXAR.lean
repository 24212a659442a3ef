/- Elimination in plain Lean: what lin.Reduce computes, and what stays true. No program here. lin.Reduce on lists of rows. No program here. Rational numbers in memory. The sizes of the numbers of an elimination: quotients of minors. No program here. -/
import Derived.Test.YtcgfdfdcbamceaaGreatDoorXAQ
import Derived.Test.YtcgfdfdcbamceaaGreatDoorXAA
import Derived.Test.YtcgfdfdcbamceaaGreatDoorXAN
namespace Go.Proofs.YtcgfdfdcbamceaaGreatDoor
def tau (r p i : Nat) : Nat := if i = r then p else if i = p then r else i
theorem tau_lt {r p i n : Nat} (hr : r < n) (hp : p < n) (hi : i < n) : tau r p i < n := by unfold tau; split <;> (try split) <;> omega
theorem tau_inj {r p i j : Nat} (h : tau r p i = tau r p j) : i = j := by
 unfold tau at h
 split at h <;> split at h <;> (try split at h) <;> (try split at h) <;> omega
theorem tau_tau (r p i : Nat) : tau r p (tau r p i) = i := by
 unfold tau
 by_cases h1 : i = r
 ·rw [if_pos h1]; by_cases h2 : p = r
  ·rw [if_pos h2]; omega
  ·rw [if_neg h2, if_pos rfl]; omega
 ·by_cases h2 : i = p
  ·rw [if_neg h1, if_pos h2, if_pos rfl]; omega
  ·rw [if_neg h1, if_neg h2, if_neg h1, if_neg h2]
theorem tau_small {r p i : Nat} (hp : r ≤ p) (hi : i < r) : tau r p i = i := by unfold tau; rw [if_neg (by omega), if_neg (by omega)]
theorem tau_ge {r p i : Nat} (hp : r ≤ p) (hi : r ≤ i) : r ≤ tau r p i := by unfold tau; split <;> (try split) <;> omega
structure Prm (n : Nat) (π : Nat → Nat) : Prop where
 lt : ∀ i, i < n → π i < n
 inj : ∀ i j, i < n → j < n → π i = π j → i = j
 onto : ∀ k, k < n → ∃ i, i < n ∧ π i = k
structure RI (n : Nat) (M A : Nat → Nat → Rat) (k : Nat) (pv : List Nat) (π : Nat → Nat) (δ ε : Rat) : Prop where
 few : pv.length ≤ n
 lt : ∀ t, t < pv.length → pv.getD t 0 < k
 inc : ∀ t u, t < u → u < pv.length → pv.getD t 0 < pv.getD u 0
 unit : ∀ t i, t < pv.length → i < n → A i (pv.getD t 0) = if i = t then 1 else 0
 left : ∀ t j, t < pv.length → j < pv.getD t 0 → A t j = 0
 low : ∀ i j, pv.length ≤ i → i < n → j < k → A i j = 0
 prm : Prm n π
 back : ∀ i j, i < n → M (π i) j = (sm pv.length fun t => M (π i) (pv.getD t 0) * A t j) + (if i < pv.length then 0 else A i j)
 dne : δ ≠ 0
 minor : ∀ (s : Nat) (F : (Nat → Nat → Rat) → Rat) (f : Nat → Nat), pv.length ≤ s → Alt s F → (∀ i, i < pv.length → f i = i) → (∀ i, i < s → f i < n) → (∀ i j, i < s → j < s → f i = f j → i = j) → F (fun i => M (π (f i))) = δ * F (fun i => A (f i))
 ene : ε ≠ 0
 sign : ∀ (F : (Nat → Nat → Rat) → Rat) (X : Nat → Nat → Rat), Alt n F → F (fun i => X (π i)) = ε * F X
theorem RI.start (n : Nat) (M : Nat → Nat → Rat) : RI n M M 0 [] id 1 1 where
 few := by simp
 lt t h := by simp at h
 inc t u _ h := by simp at h
 unit t i h := by simp at h
 left t j h := by simp at h
 low i j _ _ h := by omega
 prm := ⟨fun i h => h, fun i j _ _ h => h, fun k hk => ⟨k, hk, rfl⟩⟩
 back i j _ := by simp only [List.length_nil, sm, id, Nat.not_lt_zero, if_false]; grind
 dne := by decide
 minor s F f _ _ _ _ _ := by simp only [id]; grind
 ene := by decide
 sign F X _ := by simp only [id]; grind
section
variable {n : Nat} {M A : Nat → Nat → Rat} {k : Nat} {pv : List Nat} {π : Nat → Nat} {δ ε : Rat}
theorem RI.none (h : RI n M A k pv π δ ε) (hz : ∀ i, pv.length ≤ i → i < n → A i k = 0) : RI n M A (k + 1) pv π δ ε :=
 { h with
  lt := fun t ht => Nat.lt_succ_of_lt (h.lt t ht)
  low := fun i j h1 h2 h3 => by
   by_cases e : j = k
   ·rw [e]; exact hz i h1 h2
   ·exact h.low i j h1 h2 (by omega) }
theorem swap_rows (X : Nat → Nat → Rat) {r p : Nat} (h : r ≠ p) : (fun i => X (tau r p i)) = upd (upd X r (X p)) p (X r) := by
 funext i
 unfold tau
 by_cases h1 : i = r
 ·rw [if_pos h1, upd_ne _ _ (by omega), h1, upd_same]
 ·by_cases h2 : i = p
  ·rw [if_neg h1, if_pos h2, h2, upd_same]
  ·rw [if_neg h1, if_neg h2, upd_ne _ _ h2, upd_ne _ _ h1]
theorem RI.swap (h : RI n M A k pv π δ ε) {p : Nat} (hp : pv.length ≤ p) (hn : p < n) : ∃ ε', RI n M (fun i => A (tau pv.length p i)) k pv (fun i => π (tau pv.length p i)) δ ε' := by
 have hr : pv.length < n := by omega
 refine ⟨if pv.length = p then ε else -ε, ?_⟩
 exact {
  few := h.few
  lt := h.lt
  inc := h.inc
  unit := fun t i ht hi => by
   rw [h.unit t _ ht (tau_lt hr hn hi)]
   by_cases e : i = t
   ·rw [if_pos e, if_pos (by rw [e]; exact tau_small hp ht)]
   ·rw [if_neg e, if_neg (fun h2 => e (by
     have h3 : tau pv.length p i = tau pv.length p t := by rw [h2, tau_small hp ht]
     exact tau_inj h3))]
  left := fun t j ht hj => by
   show A (tau pv.length p t) j = 0
   rw [tau_small hp ht]; exact h.left t j ht hj
  low := fun i j h1 h2 h3 => h.low _ j (tau_ge hp h1) (tau_lt hr hn h2) h3
  prm := ⟨fun i hi => h.prm.lt _ (tau_lt hr hn hi), fun i j hi hj e => tau_inj (h.prm.inj _ _ (tau_lt hr hn hi) (tau_lt hr hn hj) e), fun k hk => by
   obtain ⟨i, hi, e⟩ := h.prm.onto k hk
   exact ⟨tau pv.length p i, tau_lt hr hn hi, by show π (tau _ _ (tau _ _ i)) = k; rw [tau_tau]; exact e⟩⟩
  back := fun i j hi => by
   rw [h.back _ j (tau_lt hr hn hi)]
   congr 1
   ·exact sm_congr _ fun t ht => by rw [tau_small hp ht]
   ·by_cases e : i < pv.length
    ·rw [if_pos e, if_pos (by rw [tau_small hp e]; exact e)]
    ·rw [if_neg e, if_neg (by have := tau_ge hp (show pv.length ≤ i by omega); omega)]
  dne := h.dne
  minor := fun s F f hs hF h1 h2 h3 => h.minor s F (fun i => tau pv.length p (f i)) hs hF (fun i hi => by
   show tau _ _ (f i) = i
   rw [h1 i hi, tau_small hp hi]) (fun i hi => tau_lt hr hn (h2 i hi)) (fun i j hi hj e => h3 i j hi hj (tau_inj e))
  ene := by
   split
   ·exact h.ene
   ·exact fun e => h.ene (by grind)
  sign := fun F X hF => by
   by_cases e : pv.length = p
   ·rw [if_pos e, ← h.sign F X hF]
    refine hF.congr _ _ fun i _ => ?_
    rw [show tau pv.length p i = i by unfold tau; split <;> (try split) <;> omega]
   ·rw [if_neg e]
    have h1 := swap_rows (fun i => X (π i)) e
    have h2 := hF.swap (fun i => X (π i)) hr hn e
    rw [← h1, h.sign F X hF] at h2
    rw [h2]
    grind }
def pvt (A : Nat → Nat → Rat) (r k : Nat) : Nat → Nat → Rat := fun i j => if i = r then A r j / A r k else A i j - A i k * (A r j / A r k)
theorem getD_snoc {l : List Nat} {k t : Nat} : (l ++ [k]).getD t 0 = if t < l.length then l.getD t 0 else if t = l.length then k else 0 := by
 rw [List.getD_eq_getElem?_getD, List.getElem?_append]
 by_cases h : t < l.length
 ·rw [if_pos h, if_pos h, List.getD_eq_getElem?_getD]
 ·rw [if_neg h, if_neg h]
  by_cases e : t = l.length
  ·rw [if_pos e, e, Nat.sub_self]; rfl
  ·rw [if_neg e, List.getElem?_eq_none (by simp; omega)]; rfl
theorem getD_snoc_lt {l : List Nat} {k t : Nat} (h : t < l.length) : (l ++ [k]).getD t 0 = l.getD t 0 := by rw [getD_snoc, if_pos h]
theorem getD_snoc_eq {l : List Nat} {k : Nat} : (l ++ [k]).getD l.length 0 = k := by rw [getD_snoc, if_neg (by omega), if_pos rfl]
theorem zero_div_ (d : Rat) : (0 : Rat) / d = 0 := by rw [Rat.div_def]; grind
theorem div_self_ {d : Rat} (h : d ≠ 0) : d / d = 1 := by rw [Rat.div_def]; exact Rat.mul_inv_cancel d h
theorem mul_div_back {d : Rat} (h : d ≠ 0) (x : Rat) : d * (x / d) = x := by
 rw [Rat.div_def, Rat.mul_comm, Rat.mul_assoc, Rat.mul_comm d⁻¹, Rat.mul_inv_cancel d h, Rat.mul_one]
theorem RI.pivot (h : RI n M A k pv π δ ε) (hr : pv.length < n) (hd : A pv.length k ≠ 0) : RI n M (pvt A pv.length k) (k + 1) (pv ++ [k]) π (δ * A pv.length k) ε := by
 have hl : (pv ++ [k]).length = pv.length + 1 := by simp
 have h0 : ∀ j, j < k → A pv.length j = 0 := fun j hj => h.low _ j (Nat.le_refl _) hr hj
 exact {
  few := by rw [hl]; omega
  lt := fun t ht => by
   rw [hl] at ht
   by_cases e : t < pv.length
   ·rw [getD_snoc_lt e]; have := h.lt t e; omega
   ·obtain rfl : t = pv.length := by omega
    rw [getD_snoc_eq]; omega
  inc := fun t u ht hu => by
   rw [hl] at hu
   rw [getD_snoc_lt (show t < pv.length by omega)]
   by_cases e : u < pv.length
   ·rw [getD_snoc_lt e]; exact h.inc t u ht e
   ·obtain rfl : u = pv.length := by omega
    rw [getD_snoc_eq]; exact h.lt t ht
  unit := fun t i ht hi => by
   rw [hl] at ht
   by_cases e : t < pv.length
   ·rw [getD_snoc_lt e]
    have hz : A pv.length (pv.getD t 0) = 0 := by rw [h.unit t _ e hr, if_neg (by omega)]
    unfold pvt
    rw [hz, zero_div_]
    by_cases e2 : i = pv.length
    ·rw [if_pos e2, if_neg (by omega)]
    ·rw [if_neg e2, h.unit t i e hi]; grind
   ·obtain rfl : t = pv.length := by omega
    rw [getD_snoc_eq]
    unfold pvt
    rw [div_self_ hd]
    by_cases e2 : i = pv.length
    ·rw [if_pos e2, if_pos e2]
    ·rw [if_neg e2, if_neg e2]; grind
  left := fun t j ht hj => by
   rw [hl] at ht
   by_cases e : t < pv.length
   ·rw [getD_snoc_lt e] at hj
    have hjk : j < k := by have := h.lt t e; omega
    unfold pvt
    rw [if_neg (by omega), h0 j hjk, h.left t j e hj, zero_div_]; grind
   ·obtain rfl : t = pv.length := by omega
    rw [getD_snoc_eq] at hj
    unfold pvt
    rw [if_pos rfl, h0 j hj, zero_div_]
  low := fun i j h1 h2 h3 => by
   rw [hl] at h1
   unfold pvt
   rw [if_neg (by omega)]
   by_cases e : j = k
   ·rw [e, div_self_ hd]; grind
   ·rw [h0 j (by omega), h.low i j (by omega) h2 (by omega), zero_div_]; grind
  prm := h.prm
  back := fun i j hi => by
   rw [hl, sm, getD_snoc_eq]
   have e1 := h.back i j hi
   have e2 := h.back i k hi
   have e3 : (sm pv.length fun t => M (π i) ((pv ++ [k]).getD t 0) * pvt A pv.length k t j) = 1 * (sm pv.length fun t => M (π i) (pv.getD t 0) * A t j) + (-(A pv.length j / A pv.length k)) * (sm pv.length fun t => M (π i) (pv.getD t 0) * A t k) := by
    rw [← sm_lin]
    refine sm_congr _ fun t ht => ?_
    rw [getD_snoc_lt ht]
    unfold pvt
    rw [if_neg (by omega)]
    grind
   have hq := mul_div_back hd (A pv.length j)
   rw [e3]
   generalize (sm pv.length fun t => M (π i) (pv.getD t 0) * A t j) = s1 at *
   generalize (sm pv.length fun t => M (π i) (pv.getD t 0) * A t k) = s2 at *
   have e4 : pvt A pv.length k pv.length j = A pv.length j / A pv.length k := if_pos rfl
   rw [e4, e1, e2]
   generalize hqq : A pv.length j / A pv.length k = q at *
   rcases Nat.lt_trichotomy i pv.length with hlt | heq | hgt
   ·rw [if_pos hlt, if_pos hlt, if_pos (by omega)]; grind
   ·rw [if_neg (by omega), if_neg (by omega), if_pos (by omega), heq]; grind
   ·rw [if_neg (by omega), if_neg (by omega), if_neg (by omega)]
    have e5 : pvt A pv.length k i j = A i j - A i k * q := by unfold pvt; rw [if_neg (by omega), hqq]
    rw [e5]; grind
  dne := fun e => by
   rcases Rat.mul_eq_zero.1 e with h1 | h1
   ·exact h.dne h1
   ·exact hd h1
  minor := fun s F f hs hF h1 h2 h3 => by
   rw [hl] at hs h1
   rw [h.minor s F f (by omega) hF (fun i hi => h1 i (by omega)) h2 h3]
   have hfr : f pv.length = pv.length := h1 _ (by omega)
   have e1 := hF.smul (1 / A pv.length k) (fun i => A (f i)) (show pv.length < s by omega) (A (f pv.length))
   rw [upd_self (fun i => A (f i))] at e1
   have e2 := hF.elim (upd (fun i => A (f i)) pv.length (fun j => 1 / A pv.length k * A (f pv.length) j)) (fun i => A (f i) k) (show pv.length < s by omega)
   rw [e1] at e2
   have e3 : F (fun i => pvt A pv.length k (f i)) = 1 / A pv.length k * F (fun i => A (f i)) := by
    rw [← e2]
    refine hF.congr _ _ fun i hi => ?_
    funext j
    by_cases e : i = pv.length
    ·rw [if_pos e, e, hfr, upd_same]
     unfold pvt
     rw [if_pos rfl]
     rw [Rat.div_def, Rat.div_def]; grind
    ·rw [if_neg e, upd_same, upd_ne _ _ e, hfr]
     unfold pvt
     rw [if_neg (fun h4 => e (h3 _ _ hi (by omega) (by rw [h4, hfr])))]
     rw [Rat.div_def, Rat.div_def]; grind
   rw [e3]
   have e4 := mul_div_back hd 1
   generalize F (fun i => A (f i)) = x at *
   generalize 1 / A pv.length k = y at *
   grind
  ene := h.ene
  sign := h.sign }
end
def nzAt (k : Nat) : List (List Rat) → Nat → Nat
 | [], p => p
 | r :: l, p => if r.getD k 0 = 0 then nzAt k l (p + 1) else p
def scRow (k : Nat) (d : Rat) (r : List Rat) : List Rat := r.mapIdx fun j x => if k ≤ j then x / d else x
def elRow (k : Nat) (pr r : List Rat) : List Rat := r.mapIdx fun j x => if k ≤ j then x - r.getD k 0 * pr.getD j 0 else x
def swQ (m : MQ) (r p : Nat) : MQ := (m.set r (m.getD p [])).set p (m.getD r [])
def pvRow (m : MQ) (r k : Nat) : List Rat := scRow k (at2 m r k) (m.getD r [])
def pvQ (m : MQ) (r k : Nat) : MQ := m.mapIdx fun i row => if i = r then pvRow m r k else elRow k (pvRow m r k) row
def redS (s : MQ × List Nat) (k : Nat) : MQ × List Nat :=
 if s.1.length ≤ nzAt k (s.1.drop s.2.length) s.2.length then s else
 (pvQ (swQ s.1 s.2.length (nzAt k (s.1.drop s.2.length) s.2.length)) s.2.length k, s.2 ++ [k])
def redQ (m : MQ) : Nat → MQ × List Nat
 | 0 => (m, [])
 | k + 1 => redS (redQ m k) k
theorem nzAt_spec (k : Nat) : ∀ (l : List (List Rat)) (p : Nat), ∃ j, nzAt k l p = p + j ∧ j ≤ l.length ∧ (∀ i, i < j → (l.getD i []).getD k 0 = 0) ∧ (j < l.length → (l.getD j []).getD k 0 ≠ 0)
 | [], p => ⟨0, rfl, by simp, fun i hi => by omega, fun h => by simp at h⟩
 | r :: l, p => by
  rw [nzAt]
  by_cases h : r.getD k 0 = 0
  ·rw [if_pos h]
   obtain ⟨j, h1, h2, h3, h4⟩ := nzAt_spec k l (p + 1)
   refine ⟨j + 1, by rw [h1]; omega, by simp; omega, fun i hi => ?_, fun hj => h4 (by simpa using hj)⟩
   match i with
   | 0 => exact h
   | i + 1 => exact h3 i (by omega)
  ·rw [if_neg h]
   exact ⟨0, rfl, by simp, fun i hi => by omega, fun _ => h⟩
theorem getD_drop_ {α : Type} (l : List α) (r i : Nat) (d : α) : (l.drop r).getD i d = l.getD (r + i) d := by
 rw [List.getD_eq_getElem?_getD, List.getElem?_drop, List.getD_eq_getElem?_getD]
theorem piv_spec (m : MQ) (r k : Nat) (hr : r ≤ m.length) : r ≤ nzAt k (m.drop r) r ∧ nzAt k (m.drop r) r ≤ m.length ∧ (∀ i, r ≤ i → i < nzAt k (m.drop r) r → at2 m i k = 0) ∧ (nzAt k (m.drop r) r < m.length → at2 m (nzAt k (m.drop r) r) k ≠ 0) := by
 obtain ⟨j, h1, h2, h3, h4⟩ := nzAt_spec k (m.drop r) r
 rw [List.length_drop] at h2 h4
 rw [h1]
 refine ⟨by omega, by omega, fun i hi1 hi2 => ?_, fun h => ?_⟩
 ·have := h3 (i - r) (by omega)
  rw [getD_drop_, show r + (i - r) = i by omega] at this
  exact this
 ·have := h4 (by omega)
  rw [getD_drop_] at this
  exact this
theorem getD_mapIdx {α β : Type} (l : List α) (f : Nat → α → β) (i : Nat) (d : α) (e : β) (hi : i < l.length) : (l.mapIdx f).getD i e = f i (l.getD i d) := by
 rw [List.getD_eq_getElem?_getD, List.getElem?_mapIdx, List.getD_eq_getElem?_getD, List.getElem?_eq_getElem hi]
 rfl
theorem getD_mapIdx_ge {α β : Type} (l : List α) (f : Nat → α → β) (i : Nat) (e : β) (hi : l.length ≤ i) : (l.mapIdx f).getD i e = e := by
 rw [List.getD_eq_getElem?_getD, List.getElem?_eq_none (by simpa using hi)]; rfl
theorem getD_ge {α : Type} (l : List α) (i : Nat) (e : α) (hi : l.length ≤ i) : l.getD i e = e := by
 rw [List.getD_eq_getElem?_getD, List.getElem?_eq_none hi]; rfl
theorem scRow_at (k : Nat) (d : Rat) (r : List Rat) (j : Nat) : (scRow k d r).getD j 0 = if k ≤ j then r.getD j 0 / d else r.getD j 0 := by
 unfold scRow
 by_cases h : j < r.length
 ·rw [getD_mapIdx r _ j 0 0 h]
 ·rw [getD_mapIdx_ge _ _ _ _ (by omega), getD_ge r j 0 (by omega), zero_div_]
  split <;> rfl
theorem elRow_at (k : Nat) (pr r : List Rat) (j : Nat) (hl : pr.length = r.length) : (elRow k pr r).getD j 0 = if k ≤ j then r.getD j 0 - r.getD k 0 * pr.getD j 0 else r.getD j 0 := by
 unfold elRow
 by_cases h : j < r.length
 ·rw [getD_mapIdx r _ j 0 0 h]
 ·rw [getD_mapIdx_ge _ _ _ _ (by omega), getD_ge r j 0 (by omega), getD_ge pr j 0 (by omega)]
  split
  ·grind
  ·rfl
theorem rect_len {m : MQ} {n w i : Nat} (h : Rect m n w) (hi : i < n) : (m.getD i []).length = w := h.rowlen hi
theorem rect_swQ {m : MQ} {n w r p : Nat} (h : Rect m n w) (hr : r < n) (hp : p < n) : Rect (swQ m r p) n w := by
 have h1 := rect_len h hr
 have h2 := rect_len h hp
 refine ⟨by unfold swQ; rw [List.length_set, List.length_set]; exact h.1, fun row hrow => ?_⟩
 unfold swQ at hrow
 rcases List.mem_or_eq_of_mem_set hrow with h3 | h3
 ·rcases List.mem_or_eq_of_mem_set h3 with h4 | h4
  ·exact h.2 row h4
  ·rw [h4]; exact h2
 ·rw [h3]; exact h1
theorem swQ_at {m : MQ} {r p i : Nat} (hr : r < m.length) (hp : p < m.length) : (swQ m r p).getD i [] = m.getD (tau r p i) [] := by
 unfold swQ tau
 rw [List.getD_eq_getElem?_getD, List.getElem?_set]
 by_cases h1 : i = p
 ·subst h1
  rw [if_pos rfl, if_pos (by simpa using hp)]
  by_cases h2 : i = r
  ·rw [if_pos h2, h2]; rfl
  ·rw [if_neg h2, if_pos rfl]; rfl
 ·rw [if_neg (Ne.symm h1), List.getElem?_set]
  by_cases h2 : i = r
  ·subst h2
   rw [if_pos rfl, if_pos hr, if_pos rfl]; rfl
  ·rw [if_neg (Ne.symm h2), if_neg h2, if_neg h1, List.getD_eq_getElem?_getD]
theorem rect_pvQ {m : MQ} {n w r k : Nat} (h : Rect m n w) (hr : r < n) : Rect (pvQ m r k) n w := by
 refine ⟨by unfold pvQ; rw [List.length_mapIdx]; exact h.1, fun row hrow => ?_⟩
 unfold pvQ at hrow
 obtain ⟨i, hi, e⟩ := List.mem_mapIdx.1 hrow
 rw [← e]
 have hpl : (pvRow m r k).length = w := by unfold pvRow scRow; rw [List.length_mapIdx]; exact rect_len h hr
 split
 ·exact hpl
 ·unfold elRow
  rw [List.length_mapIdx]
  exact h.2 _ (List.getElem_mem hi)
theorem pvQ_at {m : MQ} {n w r k : Nat} (h : Rect m n w) (hr : r < n) (h0 : ∀ j, j < k → at2 m r j = 0) {i : Nat} (hi : i < n) (j : Nat) : at2 (pvQ m r k) i j = pvt (at2 m) r k i j := by
 have hpr : ∀ j, (pvRow m r k).getD j 0 = at2 m r j / at2 m r k := fun j => by
  unfold pvRow
  rw [scRow_at]
  split
  ·rfl
  ·have := h0 j (by omega)
   rw [this, zero_div_]
   exact this
 have hpl : (pvRow m r k).length = w := by unfold pvRow scRow; rw [List.length_mapIdx]; exact rect_len h hr
 show ((pvQ m r k).getD i []).getD j 0 = _
 unfold pvQ
 rw [getD_mapIdx m _ i [] [] (by rw [h.1]; exact hi)]
 unfold pvt
 by_cases e : i = r
 ·rw [if_pos e, if_pos e, hpr]
 ·rw [if_neg e, if_neg e, elRow_at _ _ _ _ (by rw [hpl, rect_len h hi]), hpr]
  by_cases hk : k ≤ j
  ·rw [if_pos hk]; rfl
  ·rw [if_neg hk, h0 j (by omega), zero_div_]
   show at2 m i j = at2 m i j - at2 m i k * 0
   grind
theorem RI.congr {n : Nat} {M A B : Nat → Nat → Rat} {k : Nat} {pv : List Nat} {π : Nat → Nat} {δ ε : Rat} (h : RI n M A k pv π δ ε) (e : ∀ i, i < n → B i = A i) : RI n M B k pv π δ ε :=
 { h with
  unit := fun t i ht hi => by rw [e i hi]; exact h.unit t i ht hi
  left := fun t j ht hj => by rw [e t (by have := h.few; omega)]; exact h.left t j ht hj
  low := fun i j h1 h2 h3 => by rw [e i h2]; exact h.low i j h1 h2 h3
  back := fun i j hi => by
   rw [h.back i j hi, e i hi]
   congr 1
   exact sm_congr _ fun t ht => by rw [e t (by have := h.few; omega)]
  minor := fun s F f hs hF h1 h2 h3 => by
   rw [h.minor s F f hs hF h1 h2 h3]
   congr 1
   exact hF.congr _ _ fun i hi => (e _ (h2 i hi)).symm }
structure Red (m : MQ) (n w k : Nat) (s : MQ × List Nat) : Prop where
 rect : Rect s.1 n w
 inv : ∃ π δ ε, RI n (at2 m) (at2 s.1) k s.2 π δ ε
theorem Red.step {m : MQ} {n w k : Nat} {s : MQ × List Nat} (h : Red m n w k s) : Red m n w (k + 1) (redS s k) := by
 obtain ⟨π, δ, ε, hI⟩ := h.inv
 have hn := h.rect.1
 have hf := hI.few
 obtain ⟨h1, h2, h3, h4⟩ := piv_spec s.1 s.2.length k (by omega)
 unfold redS
 by_cases hp : s.1.length ≤ nzAt k (s.1.drop s.2.length) s.2.length
 ·rw [if_pos hp]
  exact ⟨h.rect, π, δ, ε, hI.none fun i hi1 hi2 => h3 i hi1 (by omega)⟩
 ·rw [if_neg hp]
  generalize nzAt k (s.1.drop s.2.length) s.2.length = p at *
  have hpn : p < n := by omega
  have hrn : s.2.length < n := by omega
  obtain ⟨ε', hS⟩ := hI.swap h1 hpn
  have hR := rect_swQ h.rect hrn hpn
  have ha : ∀ i, at2 (swQ s.1 s.2.length p) i = fun j => at2 s.1 (tau s.2.length p i) j := fun i => by
   funext j
   unfold at2
   rw [swQ_at (by omega) (by omega)]
  have hS' : RI n (at2 m) (at2 (swQ s.1 s.2.length p)) k s.2 _ δ ε' := hS.congr fun i _ => ha i
  have hd : at2 (swQ s.1 s.2.length p) s.2.length k ≠ 0 := by
   rw [ha]
   show at2 s.1 (tau s.2.length p s.2.length) k ≠ 0
   rw [show tau s.2.length p s.2.length = p by unfold tau; rw [if_pos rfl]]
   exact h4 (by omega)
  have hP := hS'.pivot hrn hd
  refine ⟨rect_pvQ hR hrn, _, _, _, hP.congr fun i hi => ?_⟩
  funext j
  exact pvQ_at hR hrn (fun j hj => hS'.low _ j (Nat.le_refl _) hrn hj) hi j
theorem red_inv {m : MQ} {n w : Nat} (h : Rect m n w) : ∀ k, Red m n w k (redQ m k)
 | 0 => ⟨h, id, 1, 1, RI.start n (at2 m)⟩
 | k + 1 => (red_inv h k).step
end Go.Proofs.YtcgfdfdcbamceaaGreatDoor
namespace Go.Proofs.YtcgfdfdcbamceaaGreatDoor
open Go.RowKit
abbrev ratT : TypeId := 71
structure Vr (w : World) (g : Nat) (x0 x1 x2 x3 : Value) : Prop where
 c0 : w.cell? ⟨g, 0, none⟩ = some x0
 c1 : w.cell? ⟨g, 1, none⟩ = some x1
 c2 : w.cell? ⟨g, 2, none⟩ = some x2
 c3 : w.cell? ⟨g, 3, none⟩ = some x3
 f0 : w.frozen? ⟨g, 0, none⟩ = false
 f1 : w.frozen? ⟨g, 1, none⟩ = false
 f2 : w.frozen? ⟨g, 2, none⟩ = false
 f3 : w.frozen? ⟨g, 3, none⟩ = false
section
variable {w w' : World} {g g' : Nat} {x0 x1 x2 x3 : Value}
theorem Vr.lt (h : Vr w g x0 x1 x2 x3) : g < w.heap.size := World.block_lt_of_cell? w ⟨g, 0, none⟩ h.c0
theorem Vr.below (h : Vr w g x0 x1 x2 x3) (hb : Below w.heap.size w w') : Vr w' g x0 x1 x2 x3 :=
 ⟨(hb.cell (p := ⟨g, 0, none⟩) h.lt).trans h.c0, (hb.cell (p := ⟨g, 1, none⟩) h.lt).trans h.c1, (hb.cell (p := ⟨g, 2, none⟩) h.lt).trans h.c2, (hb.cell (p := ⟨g, 3, none⟩) h.lt).trans h.c3,
  (hb.frozen (p := ⟨g, 0, none⟩) h.lt).trans h.f0, (hb.frozen (p := ⟨g, 1, none⟩) h.lt).trans h.f1, (hb.frozen (p := ⟨g, 2, none⟩) h.lt).trans h.f2, (hb.frozen (p := ⟨g, 3, none⟩) h.lt).trans h.f3⟩
theorem Blk.vr {t : TypeId} (h : Blk w g t #[x0, x1, x2, x3]) : Vr w g x0 x1 x2 x3 := ⟨h.cell 0, h.cell 1, h.cell 2, h.cell 3, h.frozen 0, h.frozen 1, h.frozen 2, h.frozen 3⟩
theorem Vr.alloc (h : Vr w g x0 x1 x2 x3) (o : Obj) : Vr (w.alloc o) g x0 x1 x2 x3 := h.below ((Below.refl _ _).alloc (Nat.le_refl _) _)
theorem Vr.drew (h : Vr w g x0 x1 x2 x3) : Vr w.drew g x0 x1 x2 x3 := ⟨h.c0, h.c1, h.c2, h.c3, h.f0, h.f1, h.f2, h.f3⟩
theorem Vr.off (h : Vr w g x0 x1 x2 x3) {p : Addr} (hne : p.block ≠ g) (u : Value) : Vr (w.setCell p u) g x0 x1 x2 x3 := by
 have hc : ∀ o, (w.setCell p u).cell? ⟨g, o, none⟩ = w.cell? ⟨g, o, none⟩ := fun o => World.cell?_setCell_far _ _ _ _ (by simpa using hne)
 have hf : ∀ o, (w.setCell p u).frozen? ⟨g, o, none⟩ = w.frozen? ⟨g, o, none⟩ := fun o => by simp
 exact ⟨(hc 0).trans h.c0, (hc 1).trans h.c1, (hc 2).trans h.c2, (hc 3).trans h.c3, (hf 0).trans h.f0, (hf 1).trans h.f1, (hf 2).trans h.f2, (hf 3).trans h.f3⟩
end
def set4 (w : World) (g : Nat) (u0 u1 u2 u3 : Value) : World := (((w.setCell ⟨g, 0, none⟩ u0).setCell ⟨g, 1, none⟩ u1).setCell ⟨g, 2, none⟩ u2).setCell ⟨g, 3, none⟩ u3
section
variable {w w' : World} {g g' : Nat} {x0 x1 x2 x3 : Value}
theorem set_c (w : World) (g i j : Nat) (u : Value) (h : i ≠ j) : (w.setCell ⟨g, i, none⟩ u).cell? ⟨g, j, none⟩ = w.cell? ⟨g, j, none⟩ := World.cell?_setCell_other _ _ _ _ (by intro e; injection e with _ e; omega)
theorem Vr.set (h : Vr w g x0 x1 x2 x3) (u0 u1 u2 u3 : Value) : Vr (set4 w g u0 u1 u2 u3) g u0 u1 u2 u3 := by
 have e1 : (w.setCell ⟨g, 0, none⟩ u0).cell? ⟨g, 1, none⟩ = some x1 := (set_c _ _ _ _ _ (by decide)).trans h.c1
 have e2 : ((w.setCell ⟨g, 0, none⟩ u0).setCell ⟨g, 1, none⟩ u1).cell? ⟨g, 2, none⟩ = some x2 := (set_c _ _ _ _ _ (by decide)).trans ((set_c _ _ _ _ _ (by decide)).trans h.c2)
 have e3 : (((w.setCell ⟨g, 0, none⟩ u0).setCell ⟨g, 1, none⟩ u1).setCell ⟨g, 2, none⟩ u2).cell? ⟨g, 3, none⟩ = some x3 := (set_c _ _ _ _ _ (by decide)).trans ((set_c _ _ _ _ _ (by decide)).trans ((set_c _ _ _ _ _ (by decide)).trans h.c3))
 unfold set4
 refine ⟨?_, ?_, ?_, World.cell?_setCell_same _ _ _ e3, by simpa using h.f0, by simpa using h.f1, by simpa using h.f2, by simpa using h.f3⟩
 ·exact (set_c _ _ _ _ _ (by decide)).trans ((set_c _ _ _ _ _ (by decide)).trans ((set_c _ _ _ _ _ (by decide)).trans (World.cell?_setCell_same _ _ _ h.c0)))
 ·exact (set_c _ _ _ _ _ (by decide)).trans ((set_c _ _ _ _ _ (by decide)).trans (World.cell?_setCell_same _ _ _ e1))
 ·exact (set_c _ _ _ _ _ (by decide)).trans (World.cell?_setCell_same _ _ _ e2)
theorem Vr.far (h : Vr w g x0 x1 x2 x3) (hne : g' ≠ g) (u0 u1 u2 u3 : Value) : Vr (set4 w g' u0 u1 u2 u3) g x0 x1 x2 x3 := (((h.off (p := ⟨g', 0, none⟩) hne u0).off (p := ⟨g', 1, none⟩) hne u1).off (p := ⟨g', 2, none⟩) hne u2).off (p := ⟨g', 3, none⟩) hne u3
theorem Vr.far2 (h : Vr w g x0 x1 x2 x3) (hne : g' ≠ g) (u0 u1 : Value) : Vr ((w.setCell ⟨g', 0, none⟩ u0).setCell ⟨g', 1, none⟩ u1) g x0 x1 x2 x3 := (h.off (p := ⟨g', 0, none⟩) hne u0).off (p := ⟨g', 1, none⟩) hne u1
theorem Big.set4 {v : Value} {z : Int} (h : Big w v z) {b b2 : Bool} {A A2 : Option Addr} {n c n2 c2 : Nat} (hv : Vr w g (.bool b) (.slice A n c) (.bool b2) (.slice A2 n2 c2)) (u0 u1 u2 u3 : Value) : Big (set4 w g u0 u1 u2 u3) v z := by
 have e1 : (w.setCell ⟨g, 0, none⟩ u0).cell? ⟨g, 1, none⟩ = some (.slice A n c) := (set_c _ _ _ _ _ (by decide)).trans hv.c1
 have e2 : ((w.setCell ⟨g, 0, none⟩ u0).setCell ⟨g, 1, none⟩ u1).cell? ⟨g, 2, none⟩ = some (.bool b2) := (set_c _ _ _ _ _ (by decide)).trans ((set_c _ _ _ _ _ (by decide)).trans hv.c2)
 have e3 : (((w.setCell ⟨g, 0, none⟩ u0).setCell ⟨g, 1, none⟩ u1).setCell ⟨g, 2, none⟩ u2).cell? ⟨g, 3, none⟩ = some (.slice A2 n2 c2) := (set_c _ _ _ _ _ (by decide)).trans ((set_c _ _ _ _ _ (by decide)).trans ((set_c _ _ _ _ _ (by decide)).trans hv.c3))
 exact (((h.set hv.c0 (noWord_bool _) u0).set e1 (noWord_slice _ _ _) u1).set e2 (noWord_bool _) u2).set e3 (noWord_slice _ _ _) u3
theorem below_set4 (hb : Below w.heap.size w w') (hg : w.heap.size ≤ g) (u0 u1 u2 u3 : Value) : Below w.heap.size w (set4 w' g u0 u1 u2 u3) :=
 (((hb.setCell (p := ⟨g, 0, none⟩) hg u0).setCell (p := ⟨g, 1, none⟩) hg u1).setCell (p := ⟨g, 2, none⟩) hg u2).setCell (p := ⟨g, 3, none⟩) hg u3
end
def Rt (w : World) (v : Value) (q : Rat) : Prop := ∃ x0 x1 x2 x3, v = .agg #[x0, x1, x2, x3] ∧ Big w (.agg #[x0, x1]) q.num ∧ Big w (.agg #[x2, x3]) (q.den : Int)
def Rp (w : World) (v : Value) (n d : Int) : Prop := ∃ x0 x1 x2 x3, v = .agg #[x0, x1, x2, x3] ∧ Big w (.agg #[x0, x1]) n ∧ Big w (.agg #[x2, x3]) d
theorem Rt.pair {w : World} {v : Value} {q : Rat} (h : Rt w v q) : Rp w v q.num (q.den : Int) := h
def RetRt (w : World) (q : Rat) (e : Ending) (w' : World) : Prop := ∃ v, e = .returned v ∧ Rt w' v q ∧ Below w.heap.size w w'
theorem Rt.ext {w w' : World} {v : Value} {q : Rat} (h : Rt w v q) (hb : Below w.heap.size w w') : Rt w' v q := by
 obtain ⟨a, b, c, d, e, h1, h2⟩ := h
 exact ⟨a, b, c, d, e, h1.ext hb, h2.ext hb⟩
theorem Rt.drew {w : World} {v : Value} {q : Rat} (h : Rt w v q) : Rt w.drew v q := h.ext (below_undrew (Below.refl _ _))
theorem den_pos (q : Rat) : (0 : Int) < (q.den : Int) := by have := q.den_pos; omega
theorem agg_two {x0 x1 y0 y1 : Value} (h : Value.agg #[x0, x1] = .agg #[y0, y1]) : x0 = y0 ∧ x1 = y1 := by simpa using h
theorem Rt.form {w : World} {v : Value} {q : Rat} (h : Rt w v q) : ∃ A n c B m d, v = .agg #[.bool (decide (q.num < 0)), .slice A n c, .bool false, .slice B m d] ∧ Big w (.agg #[.bool (decide (q.num < 0)), .slice A n c]) q.num ∧ Big w (.agg #[.bool false, .slice B m d]) (q.den : Int) := by
 obtain ⟨x0, x1, x2, x3, rfl, h1, h2⟩ := h
 obtain ⟨A, n, c, e1⟩ := h1.form
 obtain ⟨B, m, d, e2⟩ := h2.form
 have e : decide ((q.den : Int) < 0) = false := decide_eq_false (by have := den_pos q; omega)
 rw [e] at e2
 obtain ⟨rfl, rfl⟩ := agg_two e1
 obtain ⟨rfl, rfl⟩ := agg_two e2
 exact ⟨A, n, c, B, m, d, rfl, h1, h2⟩
theorem Rp.form {w : World} {v : Value} {n d : Int} (h : Rp w v n d) (hd : 0 < d) : ∃ A l c B m e, v = .agg #[.bool (decide (n < 0)), .slice A l c, .bool false, .slice B m e] ∧ Big w (.agg #[.bool (decide (n < 0)), .slice A l c]) n ∧ Big w (.agg #[.bool false, .slice B m e]) d := by
 obtain ⟨x0, x1, x2, x3, rfl, h1, h2⟩ := h
 obtain ⟨A, l, c, e1⟩ := h1.form
 obtain ⟨B, m, e, e2⟩ := h2.form
 rw [decide_eq_false (show ¬ d < 0 by omega)] at e2
 obtain ⟨rfl, rfl⟩ := agg_two e1
 obtain ⟨rfl, rfl⟩ := agg_two e2
 exact ⟨A, l, c, B, m, e, rfl, h1, h2⟩
theorem Rt.mk {w : World} {x0 x1 x2 x3 : Value} {q : Rat} (h1 : Big w (.agg #[x0, x1]) q.num) (h2 : Big w (.agg #[x2, x3]) (q.den : Int)) : Rt w (.agg #[x0, x1, x2, x3]) q := ⟨_, _, _, _, rfl, h1, h2⟩
theorem Rt.set4 {w : World} {v : Value} {q : Rat} (h : Rt w v q) {g : Nat} {b b2 : Bool} {A A2 : Option Addr} {n c n2 c2 : Nat} (hv : Vr w g (.bool b) (.slice A n c) (.bool b2) (.slice A2 n2 c2)) (u0 u1 u2 u3 : Value) : Rt (set4 w g u0 u1 u2 u3) v q := by
 obtain ⟨a, b, c, d, e, h1, h2⟩ := h
 exact ⟨a, b, c, d, e, h1.set4 hv _ _ _ _, h2.set4 hv _ _ _ _⟩
abbrev z4 : Obj := .cells #[.bool false, .slice none 0 0, .bool false, .slice none 0 0] ratT
theorem boxes1 (w : World) (a0 a1 a2 a3 : Value) : Vr (w.alloc (.cells #[a0, a1, a2, a3] ratT)) w.heap.size a0 a1 a2 a3 ∧ Below w.heap.size w (w.alloc (.cells #[a0, a1, a2, a3] ratT)) := ⟨(Blk.new w ratT _).vr, (Below.refl _ _).alloc (Nat.le_refl _) _⟩
theorem boxes2 (w : World) (a0 a1 a2 a3 b0 b1 b2 b3 : Value) :
  Vr ((w.alloc (.cells #[a0, a1, a2, a3] ratT)).alloc (.cells #[b0, b1, b2, b3] ratT)) w.heap.size a0 a1 a2 a3 ∧ Vr ((w.alloc (.cells #[a0, a1, a2, a3] ratT)).alloc (.cells #[b0, b1, b2, b3] ratT)) (w.heap.size + 1) b0 b1 b2 b3 ∧
   Below w.heap.size w ((w.alloc (.cells #[a0, a1, a2, a3] ratT)).alloc (.cells #[b0, b1, b2, b3] ratT)) := by
 obtain ⟨h1, h2⟩ := boxes1 w a0 a1 a2 a3
 have h3 := (Blk.new (w.alloc (.cells #[a0, a1, a2, a3] ratT)) ratT #[b0, b1, b2, b3]).vr
 rw [World.size_alloc w] at h3
 exact ⟨h1.alloc _, h3, h2.alloc h2.size _⟩
theorem boxes3 (w : World) (a0 a1 a2 a3 b0 b1 b2 b3 : Value) (c0 c1 c2 c3 : Value) :
  Vr (((w.alloc (.cells #[a0, a1, a2, a3] ratT)).alloc (.cells #[b0, b1, b2, b3] ratT)).alloc (.cells #[c0, c1, c2, c3] ratT)) w.heap.size a0 a1 a2 a3 ∧ Vr (((w.alloc (.cells #[a0, a1, a2, a3] ratT)).alloc (.cells #[b0, b1, b2, b3] ratT)).alloc (.cells #[c0, c1, c2, c3] ratT)) (w.heap.size + 1) b0 b1 b2 b3 ∧
   Vr (((w.alloc (.cells #[a0, a1, a2, a3] ratT)).alloc (.cells #[b0, b1, b2, b3] ratT)).alloc (.cells #[c0, c1, c2, c3] ratT)) (w.heap.size + 1 + 1) c0 c1 c2 c3 ∧ Below w.heap.size w (((w.alloc (.cells #[a0, a1, a2, a3] ratT)).alloc (.cells #[b0, b1, b2, b3] ratT)).alloc (.cells #[c0, c1, c2, c3] ratT)) := by
 obtain ⟨h1, h2, h3⟩ := boxes2 w a0 a1 a2 a3 b0 b1 b2 b3
 have h4 := (Blk.new ((w.alloc (.cells #[a0, a1, a2, a3] ratT)).alloc (.cells #[b0, b1, b2, b3] ratT)) ratT #[c0, c1, c2, c3]).vr
 rw [World.size_alloc _, World.size_alloc w] at h4
 exact ⟨h1.alloc _, h2.alloc _, h4, h3.alloc h3.size _⟩
theorem ret_rat_set {w w2 : World} {g : Nat} {x0 x1 x2 x3 : Value} {q : Rat} {b b2 : Bool} {A A2 : Option Addr} {n c n2 c2 : Nat} (hb : Below w.heap.size w w2) (hg : w.heap.size ≤ g) (hv : Vr w2 g (.bool b) (.slice A n c) (.bool b2) (.slice A2 n2 c2)) (h : Rt w2 (.agg #[x0, x1, x2, x3]) q) :
  RetRt w q (.returned (.agg #[x0, x1, x2, x3])) (set4 w2 g x0 x1 x2 x3) := ⟨_, rfl, h.set4 hv _ _ _ _, below_set4 hb hg _ _ _ _⟩
def FitR (N : Nat) (q : Rat) : Prop := Fits N q.num ∧ Fits N (q.den : Int)
theorem FitR.mono {n m : Nat} {q : Rat} (h : FitR n q) (hm : n ≤ m) : FitR m q := ⟨h.1.mono hm, h.2.mono hm⟩
theorem RetRt.of_eq {w : World} {q r : Rat} {e : Ending} {w' : World} (h : RetRt w q e w') (hq : q = r) : RetRt w r e w' := by rw [← hq]; exact h
theorem mul_ne {a b : Int} (ha : a ≠ 0) (hb : b ≠ 0) : a * b ≠ 0 := Int.mul_ne_zero ha hb
theorem den_ne (q : Rat) : (q.den : Int) ≠ 0 := by have := den_pos q; omega
end Go.Proofs.YtcgfdfdcbamceaaGreatDoor
namespace Go.Proofs.YtcgfdfdcbamceaaGreatDoor
def IF (N : Nat) (x : Rat) : Prop := ∃ z : Int, x = (z : Rat) ∧ Fits N z
def dprod : List Rat → Nat
 | [] => 1
 | x :: l => x.den * dprod l
theorem dprod_pos : ∀ (l : List Rat), 0 < dprod l
 | [] => by decide
 | x :: l => Nat.mul_pos x.den_pos (dprod_pos l)
end Go.Proofs.YtcgfdfdcbamceaaGreatDoor
