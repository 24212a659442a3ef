/- Power flows: the sizes of solutions: quotients of determinants of whole numbers. Plain facts. No program here. Power flows: the sizes of angles and flows, and the sum of flows at a bus. Plain facts. No program here. Power flows: a network's angles solve its equations; the sizes of its numbers. Plain facts. Power flows: the sizes of angles and flows of a small network. Plain facts. Power flows: the plain laws of FlowProves, FlowRefuses and FlowSwitches. Power flows: sums of injections and of numbers, number by number; what is linear. Plain facts. -/
import Derived.Test.YtenbglfkdldheaaGreatDoorZFL
namespace Go.Proofs.YtenbglfkdldheaaGreatDoor
def IB (B : Nat) (x : Rat) : Prop := ∃ z : Int, x = (z : Rat) ∧ z.natAbs ≤ B
theorem IB.mono {B C : Nat} {x : Rat} (h : IB B x) (hm : B ≤ C) : IB C x := by
 obtain ⟨z, e, hz⟩ := h
 exact ⟨z, e, Nat.le_trans hz hm⟩
theorem IB.zero (B : Nat) : IB B 0 := ⟨0, rfl, Nat.zero_le _⟩
theorem IB.mul {B C : Nat} {x y : Rat} (hx : IB B x) (hy : IB C y) : IB (B * C) (x * y) := by
 obtain ⟨a, rfl, ha⟩ := hx
 obtain ⟨b, rfl, hb⟩ := hy
 exact ⟨a * b, by rw [Rat.intCast_mul], by rw [Int.natAbs_mul]; exact Nat.mul_le_mul ha hb⟩
theorem IB.add {B C : Nat} {x y : Rat} (hx : IB B x) (hy : IB C y) : IB (B + C) (x + y) := by
 obtain ⟨a, rfl, ha⟩ := hx
 obtain ⟨b, rfl, hb⟩ := hy
 exact ⟨a + b, by rw [Rat.intCast_add], Nat.le_trans (Int.natAbs_add_le a b) (Nat.add_le_add ha hb)⟩
theorem IB.neg {B : Nat} {x : Rat} (hx : IB B x) : IB B (-x) := by
 obtain ⟨a, rfl, ha⟩ := hx
 exact ⟨-a, by rw [Rat.intCast_neg], by rw [Int.natAbs_neg]; exact ha⟩
theorem IB.sub {B C : Nat} {x y : Rat} (hx : IB B x) (hy : IB C y) : IB (B + C) (x - y) := by
 rw [Rat.sub_eq_add_neg]
 exact hx.add hy.neg
theorem IB.sum {B : Nat} {f : Nat → Rat} : ∀ (n : Nat), (∀ i, i < n → IB B (f i)) → IB (n * B) (sm n f)
 | 0, _ => IB.zero _
 | n + 1, h => by
  rw [sm, Nat.add_mul, Nat.one_mul]
  exact (IB.sum n fun i hi => h i (by omega)).add (h n (by omega))
theorem IB.sg_mul {B : Nat} {x : Rat} (i : Nat) (h : IB B x) : IB B (sg i * x) := by
 unfold sg
 split
 ·rw [Rat.one_mul]; exact h
 ·rw [show (-1 : Rat) * x = -x by grind]; exact h.neg
theorem IB.det {B : Nat} : ∀ (n : Nat) (A : Nat → Nat → Rat), (∀ i j, i < n → j < n → IB B (A i j)) → IB ((n * B) ^ n) (det n A) := by
 intro n
 induction n with
 | zero => intro A _; exact ⟨1, rfl, by simp⟩
 | succ n ih =>
  intro A h
  rw [Proofs.YtenbglfkdldheaaGreatDoor.det]
  have hs := IB.sum (B := B * (n * B) ^ n) (f := fun i => sg i * A i 0 * Proofs.YtenbglfkdldheaaGreatDoor.det n (fun r c => A (sk i r) (c + 1))) (n + 1) fun i hi =>
   ((h i 0 hi (by omega)).sg_mul i).mul (ih (fun r c => A (sk i r) (c + 1)) fun a b ha hb => h _ _ (by unfold sk; split <;> omega) (by omega))
  refine hs.mono ?_
  rw [Nat.pow_succ, ← Nat.mul_assoc, Nat.mul_comm (((n + 1) * B) ^ n)]
  exact Nat.mul_le_mul_left _ (Nat.pow_le_pow_left (Nat.mul_le_mul_right _ (Nat.le_succ n)) n)
theorem szQ_quot {A B k : Nat} {x a b : Rat} (ha : IB A a) (hb : IB B b) (h0 : b ≠ 0) (h : x * b = a) (hA : A < 10 ^ k) (hB : B < 10 ^ k) : SzQ x k := by
 obtain ⟨p, rfl, hp⟩ := ha
 obtain ⟨q, rfl, hq⟩ := hb
 have e : x = Rat.divInt p q := by
  rw [Rat.divInt_eq_div, ← h, Rat.div_def, Rat.mul_assoc, Rat.mul_inv_cancel _ h0, Rat.mul_one]
 have hle := divInt_le p q
 rw [← e] at hle
 have hq0 : q ≠ 0 := fun e => h0 (by rw [e]; rfl)
 have h2 := hle.2
 have h3 : max 1 q.natAbs = q.natAbs := by omega
 rw [h3] at h2
 exact ⟨Nat.lt_of_le_of_lt (Nat.le_trans hle.1 hp) hA, Nat.lt_of_le_of_lt (Nat.le_trans h2 hq) hB⟩
theorem det_comb {n : Nat} (A : Nat → Nat → Rat) {j : Nat} (hj : j < n) (x : Nat → Rat) : ∀ m, m ≤ n → det n (upd A j fun c => sm m fun i => x i * A i c) = (if j < m then x j else 0) * det n A
 | 0, _ => by
  rw [if_neg (by omega), Rat.zero_mul]
  exact det_zero_row hj fun c => by rw [upd_same]; rfl
 | m + 1, hm => by
  have ih := det_comb A hj x m (by omega)
  have e : (fun c => sm (m + 1) fun i => x i * A i c) = fun c => 1 * (sm m fun i => x i * A i c) + x m * A m c := by
   funext c
   rw [sm]
   grind
  rw [e, det_lin 1 (x m) (fun c => sm m fun i => x i * A i c) (A m) n A j hj, ih]
  by_cases h : j = m
  ·subst h
   rw [upd_self, if_neg (by omega), if_pos (by omega)]
   grind
  ·have e2 : det n (upd A j (A m)) = 0 := det_same (i := j) (k := m) hj (by omega) h fun c => by rw [upd_same, upd_ne _ _ (fun k => h k.symm)]
   rw [e2]
   by_cases h2 : j < m
   ·rw [if_pos h2, if_pos (by omega)]; grind
   ·rw [if_neg h2, if_neg (by omega)]; grind
theorem cramer_IB {n B C : Nat} {A : Nat → Nat → Rat} {x b : Nat → Rat} (hA : ∀ i j, i < n → j < n → IB B (A i j)) (hb : ∀ i, i < n → IB C (b i)) (hBC : B ≤ C) (hs : ∀ c, c < n → (sm n fun i => x i * A i c) = b c) {j : Nat} (hj : j < n) :
  IB ((n * C) ^ n) (x j * det n A) := by
 have h := det_comb A hj x n (Nat.le_refl n)
 rw [if_pos hj] at h
 rw [← h]
 refine IB.det n _ fun i c hi hc => ?_
 by_cases e : i = j
 ·subst e
  rw [upd_same, hs c hc]
  exact hb c hc
 ·rw [upd_ne _ _ e]
  exact (hA i c hi hc).mono hBC
theorem addE_IB {D b : Rat} {N B : Nat} {A : Nat → Nat → Rat} (h : ∀ a c, IB N (D * A a c)) (hb : IB B (D * b)) (i j a c : Nat) : IB (N + B) (D * addE A i j b a c) := by
 unfold addE
 split
 ·rw [Rat.mul_add]
  exact (h a c).add hb
 ·exact (h a c).mono (by omega)
theorem stampE_IB {D b : Rat} {N B : Nat} {A : Nat → Nat → Rat} (h : ∀ a c, IB N (D * A a c)) (hb : IB B (D * b)) (pl : Nat → Int) (u v a c : Nat) : IB (N + 4 * B) (D * stampE pl A u v b a c) := by
 have hn : IB B (D * -b) := by rw [Rat.mul_neg]; exact hb.neg
 unfold stampE
 split
 ·exact (h a c).mono (by omega)
 ·have h1 : ∀ a c, IB (N + B) (D * (if 0 ≤ pl u then addE A (pl u).toNat (pl u).toNat b else A) a c) := fun a c => by
   split
   ·exact addE_IB h hb _ _ a c
   ·exact (h a c).mono (by omega)
  have h2 : ∀ a c, IB (N + B + B) (D * (if 0 ≤ pl v then addE (if 0 ≤ pl u then addE A (pl u).toNat (pl u).toNat b else A) (pl v).toNat (pl v).toNat b else (if 0 ≤ pl u then addE A (pl u).toNat (pl u).toNat b else A)) a c) := fun a c => by
   split
   ·exact addE_IB h1 hb _ _ a c
   ·exact (h1 a c).mono (by omega)
  simp only
  split
  ·exact (addE_IB (addE_IB h2 hn _ _) hn _ _ a c).mono (by omega)
  ·exact (h2 a c).mono (by omega)
theorem lapE_IB {D : Rat} {B : Nat} (pl : Nat → Int) : ∀ (es : List EdgeQ) (N : Nat) (A : Nat → Nat → Rat), (∀ e ∈ es, IB B (D * e.2.2)) → (∀ a c, IB N (D * A a c)) → ∀ a c, IB (N + es.length * (4 * B)) (D * lapE pl A es a c)
 | [], N, A, _, h, a, c => by
  rw [lapE, List.foldl_nil, List.length_nil, Nat.zero_mul, Nat.add_zero]
  exact h a c
 | e :: es, N, A, hB, h, a, c => by
  have ih := lapE_IB pl es (N + 4 * B) (stampE pl A e.1 e.2.1 e.2.2) (fun f hf => hB f (List.mem_cons_of_mem _ hf)) (fun a c => stampE_IB h (hB e List.mem_cons_self) pl e.1 e.2.1 a c) a c
  rw [lapE] at ih ⊢
  rw [List.foldl_cons, List.length_cons, Nat.add_mul, Nat.one_mul]
  exact ih.mono (by omega)
theorem mul_ne0 {a b : Rat} (ha : a ≠ 0) (hb : b ≠ 0) : a * b ≠ 0 := fun e => by
 rcases Rat.mul_eq_zero.1 e with h | h
 ·exact ha h
 ·exact hb h
def detD (n : Nat) (D : Rat) (M : Nat → Nat → Rat) : Rat := det n fun i j => D * M i j
theorem detD_ne {n : Nat} {M : Nat → Nat → Rat} {D : Rat} (hd : det n M ≠ 0) (hD0 : D ≠ 0) : detD n D M ≠ 0 := by
 rw [detD, det_scale_all M (fun _ => D)]
 exact mul_ne0 (pd_ne n fun _ _ => hD0) hd
theorem detD_IB {n B : Nat} {M : Nat → Nat → Rat} {D : Rat} (hM : ∀ i j, i < n → j < n → IB B (D * M i j)) : IB ((n * B) ^ n) (detD n D M) := IB.det n _ hM
theorem sys_IB {n B C : Nat} {M : Nat → Nat → Rat} {x r : Nat → Rat} {D K : Rat} (hM : ∀ i j, i < n → j < n → IB B (D * M i j)) (hr : ∀ i, i < n → IB C (K * (D * r i))) (hBC : B ≤ C) (hs : ∀ i, i < n → (sm n fun j => M i j * x j) = r i) {j : Nat} (hj : j < n) :
  IB ((n * C) ^ n) (K * x j * detD n D M) := by
 have h := cramer_IB (A := fun a c => D * M c a) (x := fun j => K * x j) (b := fun c => K * (D * r c)) (fun i j hi hj => hM j i hj hi) hr hBC (fun c hc => ?_) hj
 ·rw [detD, ← det_tr n (fun i j => D * M i j)]
  exact h
 ·show (sm n fun i => K * x i * (D * M c i)) = K * (D * r c)
  rw [← hs c hc, ← sm_mul, ← sm_mul]
  exact sm_congr n fun i _ => by grind
theorem pw_le {n k : Nat} (hn : n ≤ 8) : (n * 10 ^ k) ^ n ≤ 10 ^ ((k + 1) * 8) := by
 refine Nat.le_trans (Nat.pow_le_pow_left (m := 10 ^ (k + 1)) ?_ n) ?_
 ·rw [Nat.pow_succ, Nat.mul_comm (10 ^ k)]
  exact Nat.mul_le_mul_right _ (by omega)
 ·rw [Nat.pow_mul]
  exact Nat.pow_le_pow_right (Nat.pow_pos (by decide)) hn
theorem IB.ten {k l : Nat} {x : Rat} (h : IB (10 ^ k) x) (hk : k ≤ l) : IB (10 ^ l) x := h.mono (Nat.pow_le_pow_right (by decide) hk)
def Ten (k : Nat) (x : Rat) : Prop := IB (10 ^ k) x
theorem Ten.ten {k l : Nat} {x : Rat} (h : Ten k x) (hk : k ≤ l) : Ten l x := IB.ten h hk
theorem ten_pow {n k : Nat} {x : Rat} (h : IB ((n * 10 ^ k) ^ n) x) (hn : n ≤ 8) : Ten ((k + 1) * 8) x := h.mono (pw_le hn)
theorem ib_ten {k l : Nat} {x y : Rat} (h : Ten k x) (h2 : Ten l y) : Ten (k + l) (x * y) := by
 unfold Ten at *
 rw [Nat.pow_add]
 exact h.mul h2
theorem ib_two {k : Nat} {x y : Rat} (h : Ten k x) (h2 : Ten k y) : Ten (k + 1) (x + y) := by
 refine (IB.add h h2).mono ?_
 rw [Nat.pow_succ]
 generalize 10 ^ k = z
 omega
theorem ib_off {k : Nat} {x y : Rat} (h : Ten k x) (h2 : Ten k y) : Ten (k + 1) (x - y) := by
 rw [Rat.sub_eq_add_neg]
 exact ib_two h (IB.neg h2)
def Ov (k : Nat) (e f : Rat) : Prop := Ten k (f * e)
theorem Ov.sz {k : Nat} {e f : Rat} (h : Ov k e f) (he : Ten k e) (h0 : e ≠ 0) : SzQ f (k + 1) := by
 have : 10 ^ k < 10 ^ (k + 1) := Nat.pow_lt_pow_right (by decide) (by omega)
 exact szQ_quot (A := 10 ^ k) (B := 10 ^ k) h he h0 rfl this this
theorem Ov.mono {k l : Nat} {e f : Rat} (h : Ov k e f) (hk : k ≤ l) : Ov l e f := IB.mono h (Nat.pow_le_pow_right (by decide) hk)
theorem Ov.add {k : Nat} {e f g : Rat} (h : Ov k e f) (h2 : Ov k e g) : Ov (k + 1) e (f + g) := by
 unfold Ov at *
 rw [Rat.add_mul]
 exact ib_two h h2
theorem idx_free {free : List Int} (hd : free.Nodup) {k : Nat} (hk : k < free.length) {v : Nat} : Lib.idxOf free (v : Int) = k ↔ (v : Int) = free.getD k 0 := by
 constructor
 ·intro e
  have h2 := idxFrom_at (v : Int) free 0 (by have := idxI_rg free (v : Int); unfold Lib.idxOf at this e; omega)
  change free.getD ((Lib.idxOf free (v : Int)).toNat - 0) 0 = (v : Int) at h2
  rw [e] at h2
  rw [← h2]
  congr 1
 ·intro e
  rw [e]
  exact idxI_get hd hk
theorem getD_setQ (l : List Rat) (u i : Nat) (x : Rat) : (l.set u x).getD i 0 = if u = i ∧ i < l.length then x else l.getD i 0 := by
 by_cases e : u = i
 ·subst e
  by_cases h : u < l.length
  ·rw [if_pos ⟨rfl, h⟩, gD, List.getElem?_set_self h]; rfl
  ·rw [if_neg (fun k => h k.2), gD, List.getElem?_eq_none (by rw [List.length_set]; omega), gD, List.getElem?_eq_none (by omega)]
 ·rw [if_neg (fun k => e k.1), gD, List.getElem?_set_ne e, ← gD]
theorem zeros_at (nb i : Nat) : (List.replicate nb (0 : Rat)).getD i 0 = 0 := by
 rw [gD, List.getElem?_replicate]
 split <;> rfl
theorem th_at {nb : Nat} {free : List Int} (hd : free.Nodup) (hr : ∀ f ∈ free, 0 ≤ f ∧ f < nb) (inv : MQ) (x : List Rat) (v : Nat) : ∀ k, k ≤ free.length →
  (thK nb free inv x k).getD v 0 = if 0 ≤ Lib.idxOf free (v : Int) ∧ Lib.idxOf free (v : Int) < k then dotQ (inv.getD (Lib.idxOf free (v : Int)).toNat []) x else 0
 | 0, _ => by
  rw [thK, zeros_at, if_neg (by omega)]
 | k + 1, hk => by
  have ih := th_at hd hr inv x v k (by omega)
  have hf := idx_free hd (k := k) (by omega) (v := v)
  have hm := hr _ (getD_mem (l := free) (k := k) (by omega))
  rw [thK, getD_setQ, thK_len, ih]
  by_cases e : Lib.idxOf free (v : Int) = k
  ·have e2 := hf.1 e
   rw [if_pos ⟨by omega, by omega⟩, if_pos (by omega), e, Int.toNat_natCast]
  ·have e2 : ¬ (v : Int) = free.getD k 0 := fun h => e (hf.2 h)
   rw [if_neg (fun h => e2 (by omega))]
   by_cases h : 0 ≤ Lib.idxOf free (v : Int) ∧ Lib.idxOf free (v : Int) < k
   ·rw [if_pos h, if_pos (by omega)]
   ·rw [if_neg h, if_neg (by omega)]
def plN (n : NetD) : Nat → Int := fun x : Nat => Lib.idxOf (freeL n) x
def esN (n : NetD) : List EdgeQ := esL (frmL n) (toL n) (bLQ n) n.branches.length
def thN (n : NetD) (r : List Rat) : List Rat := thQ (nbN n) (freeL n) (invN n) r
def xN (n : NetD) (r : List Rat) (i : Nat) : Rat := dotQ ((invN n).getD i []) (pickQ (freeL n) r)
theorem free_nodup (n : NetD) : (freeL n).Nodup := freeK_nodup _ _
theorem thN_hat (n : NetD) (r : List Rat) (v : Nat) : (thN n r).getD v 0 = hatE (plN n) (xN n r) v := by
 unfold thN thQ
 rw [th_at (free_nodup n) (fun f hf => free_rg f hf) _ _ v _ lR, hatE]
 have h1 := idxI_rg (freeL n) (v : Int)
 by_cases h : 0 ≤ plN n v
 ·have h2 : 0 ≤ Lib.idxOf (freeL n) (v : Int) := h
  rw [if_pos h, if_pos ⟨h2, by omega⟩]
  rfl
 ·have h2 : ¬ 0 ≤ Lib.idxOf (freeL n) (v : Int) := h
  rw [if_neg h, if_neg (fun k => h2 k.1)]
theorem pl_lt (n : NetD) (v : Nat) : plN n v < nfN n := by
 have := idxI_rg (freeL n) (v : Int)
 show Lib.idxOf (freeL n) (v : Int) < ((freeL n).length : Int)
 omega
theorem fw_lap {n : NetD} (h : VNet n) : at2 (fwM n) = lapE (plN n) (fun _ _ => 0) (esN n) :=
 lapM_at rfl (fun x hx => (frm_rg h x hx).1) (fun x hx => (toL_rg h x hx).1) _ (by simp [frmL]) (by simp [toL])
theorem fw_eq {n : NetD} (h : VNet n) (r : List Rat) {i : Nat} (hi : i < nfN n) : (sm (nfN n) fun j => at2 (fwM n) i j * xN n r j) = (pickQ (freeL n) r).getD i 0 := by
 have hinv := inv_left (fw_rect n) (fun k => fw_det h ((inv_det (fw_rect n)).1 k))
 have hx : ∀ j, j < nfN n → xN n r j = sm (nfN n) fun k => at2 (invN n) j k * (pickQ (freeL n) r).getD k 0 := fun j hj => by
  unfold xN dotQ
  rw [(inv_rect n).rowlen hj]
  rfl
 have e1 : (sm (nfN n) fun j => at2 (fwM n) i j * xN n r j) = sm (nfN n) fun j => sm (nfN n) fun k => at2 (fwM n) i j * at2 (invN n) j k * (pickQ (freeL n) r).getD k 0 :=
  sm_congr _ fun j hj => by
   rw [hx j hj, ← sm_mul]
   exact sm_congr _ fun k _ => by rw [Rat.mul_assoc]
 rw [e1, sm_comm]
 have e2 : (sm (nfN n) fun k => sm (nfN n) fun j => at2 (fwM n) i j * at2 (invN n) j k * (pickQ (freeL n) r).getD k 0) = sm (nfN n) fun k => at2 (idQ (nfN n)) i k * (pickQ (freeL n) r).getD k 0 :=
  sm_congr _ fun k hk => by
   have h2 : at2 (mulQ (fwM n) (invN n) (nfN n)) i k = at2 (idQ (nfN n)) i k := by
    show at2 (mulQ (fwM n) (invQ (fwM n) (freeL n).length) (freeL n).length) i k = _
    rw [hinv]
    rfl
   rw [at2_mul (fw_rect n) hi hk] at h2
   rw [← h2, Rat.mul_comm, ← sm_mul]
   exact sm_congr _ fun j _ => by
    show _ = (pickQ (freeL n) r).getD k 0 * (at2 (fwM n) i j * at2 (invN n) j k)
    rw [Rat.mul_comm]
 rw [e2, sm_one i _ hi fun k hk hne => by rw [at2_id hi hk, if_neg (fun e => hne e.symm), Rat.zero_mul], at2_id hi hi, if_pos rfl, Rat.one_mul]
theorem pickQ_at {free : List Int} {r : List Rat} {i : Nat} (hi : i < free.length) : (pickQ free r).getD i 0 = r.getD (free.getD i 0).toNat 0 := by
 unfold pickQ
 rw [gD, List.getElem?_map, gD (l := free), gE hi]
 rfl
def wideN (n : NetD) : Bool := decide (8 < n.nodes.length) || decide (10 < n.branches.length) || decide (10 < n.switches.length)
theorem wide_len {n : NetD} (h : wideN n = false) : n.nodes.length ≤ 8 ∧ n.branches.length ≤ 10 ∧ n.switches.length ≤ 10 := by
 unfold wideN at h
 simp only [Bool.or_eq_false_iff, decide_eq_false_iff_not] at h
 omega
theorem nb_le8 {n : NetD} (h : VNet n) (h8 : n.nodes.length ≤ 8) : nbN n ≤ 8 := by
 have hm := many_range (l := busesL n) (N := 8) (by omega) (by
  intro x hx
  obtain ⟨i, hi, rfl⟩ := List.getElem_of_mem hx
  have hl := buses_len h
  have := bus_range h i (by omega) (by omega)
  simp only [at_, Int.toNat_natCast, gD, gE hi, Option.getD_some] at this
  omega)
 unfold nbN
 rw [islandsL, guardE]
 split
 ·simp only [parts_len]; omega
 ·simp
theorem nf_le8 {n : NetD} (h : VNet n) (h8 : n.nodes.length ≤ 8) : nfN n ≤ 8 := by
 have := freeK_len (islandsL n) (islandsL n).length
 have := nb_le8 h h8
 unfold nbN at this
 unfold nfN freeL
 omega
theorem bQ_sz {b : BranchD} (h : branchOk b = true) : (bQ b).num.natAbs ≤ 10 ^ 6 ∧ (bQ b).den ≤ 10 ^ 8 := by
 have hp := branch_prod h
 have hd := divInt_le 1000000 (b.x * b.tap)
 unfold bQ
 refine ⟨Nat.le_trans hd.1 (by decide), Nat.le_trans hd.2 ?_⟩
 generalize b.x * b.tap = z at *
 have : (10 : Nat) ^ 8 = 100000000 := by decide
 omega
theorem dprod_le : ∀ (l : List Rat), (∀ x ∈ l, x.den ≤ 10 ^ 8) → dprod l ≤ 10 ^ (8 * l.length)
 | [], _ => by simp [dprod]
 | x :: l, h => by
  have ih := dprod_le l fun y hy => h y (by simp [hy])
  rw [dprod, List.length_cons, Nat.mul_add, Nat.add_comm, Nat.mul_one, Nat.pow_add]
  exact Nat.mul_le_mul (h x (by simp)) ih
theorem num_den (x : Rat) : x * ((x.den : Nat) : Rat) = (x.num : Rat) := by
 have h1 := Rat.num_divInt_den x
 rw [Rat.divInt_eq_div] at h1
 have hd : (((x.den : Nat) : Int) : Rat) ≠ 0 := by
  have := x.den_pos
  intro e0
  have : (x.den : Int) = 0 := by exact_mod_cast e0
  omega
 have h2 := mul_div_back hd (x.num : Rat)
 rw [h1] at h2
 rw [← h2, Rat.mul_comm]
 rfl
theorem dprod_IB : ∀ (l : List Rat), (∀ x ∈ l, x.num.natAbs ≤ 10 ^ 6 ∧ x.den ≤ 10 ^ 8) → ∀ x ∈ l, IB (10 ^ (8 * l.length + 6)) ((dprod l : Rat) * x)
 | [], _, x, hx => by simp at hx
 | y :: l, h, x, hx => by
  have hl := dprod_le l fun y hy => (h y (by simp [hy])).2
  have hlen : 8 * (y :: l).length + 6 = 8 * l.length + 6 + 8 := by rw [List.length_cons, Nat.mul_add, Nat.mul_one]
  have e : ((dprod (y :: l) : Nat) : Rat) = ((y.den : Nat) : Rat) * (dprod l : Rat) := by rw [dprod, Rat.natCast_mul]
  rw [e, hlen]
  rcases List.mem_cons.1 hx with rfl | hx
  ·have h1 : IB (10 ^ 6) (x.num : Rat) := ⟨x.num, rfl, (h x (by simp)).1⟩
   have h2 : IB (10 ^ (8 * l.length)) (dprod l : Rat) := ⟨(dprod l : Int), rfl, by rw [Int.natAbs_natCast]; exact hl⟩
   have h3 := (ib_ten h1 h2).ten (l := 8 * l.length + 6 + 8) (by omega)
   rw [← num_den x] at h3
   rw [show ((x.den : Nat) : Rat) * (dprod l : Rat) * x = x * ((x.den : Nat) : Rat) * (dprod l : Rat) by grind]
   exact h3
  ·have ih := dprod_IB l (fun y hy => h y (by simp [hy])) x hx
   have h1 : IB (10 ^ 8) ((y.den : Nat) : Rat) := ⟨(y.den : Int), rfl, by rw [Int.natAbs_natCast]; exact (h y (by simp)).2⟩
   rw [show ((y.den : Nat) : Rat) * (dprod l : Rat) * x = (dprod l : Rat) * x * ((y.den : Nat) : Rat) by grind]
   exact ib_ten ih h1
def DN (n : NetD) : Rat := ((dprod (bLQ n) : Nat) : Rat)
theorem DN_ne (n : NetD) : DN n ≠ 0 := fun e => by
 have := dprod_pos (bLQ n)
 have e2 : ((dprod (bLQ n) : Nat) : Rat) = 0 := e
 have e3 : dprod (bLQ n) = 0 := by exact_mod_cast e2
 omega
theorem bLQ_sz {n : NetD} (h : VNet n) : ∀ x ∈ bLQ n, x.num.natAbs ≤ 10 ^ 6 ∧ x.den ≤ 10 ^ 8 := fun x hx => by
 obtain ⟨b, hb, rfl⟩ := List.mem_map.1 hx
 exact bQ_sz (h.br b hb).2.2.2
theorem DN_IB {n : NetD} (h : VNet n) (hb : n.branches.length ≤ 10) : IB (10 ^ 80) (DN n) := by
 have h1 := dprod_le (bLQ n) fun x hx => (bLQ_sz h x hx).2
 have hl : (bLQ n).length = n.branches.length := by simp [bLQ]
 refine ⟨(dprod (bLQ n) : Int), rfl, ?_⟩
 rw [Int.natAbs_natCast]
 exact Nat.le_trans h1 (Nat.pow_le_pow_right (by decide) (by omega))
theorem DN_b {n : NetD} (h : VNet n) (hb : n.branches.length ≤ 10) {b : BranchD} (hm : b ∈ n.branches) : IB (10 ^ 86) (DN n * bQ b) := by
 have hl : (bLQ n).length = n.branches.length := by simp [bLQ]
 exact (dprod_IB (bLQ n) (bLQ_sz h) (bQ b) (List.mem_map.2 ⟨b, hm, rfl⟩)).ten (by omega)
theorem mille (a : Int) : (1000 : Rat) * Rat.divInt a 1000 = (a : Rat) := by
 have h := mul_div_back (show ((1000 : Int) : Rat) ≠ 0 by decide) (a : Rat)
 rw [← Rat.divInt_eq_div] at h
 exact h
theorem DN_c {n : NetD} (h : VNet n) (hb : n.branches.length ≤ 10) {b : BranchD} (hm : b ∈ n.branches) : IB (10 ^ 89) (1000 * (DN n * cQ b)) := by
 have h1 := DN_b h hb hm
 have h2 := (branch_num (h.br b hm).2.2.2).2.2.2.2
 have h30 : (-b.shift).natAbs ≤ 10 ^ 3 := by
  rw [show (10 : Nat) ^ 3 = 1000 by decide]
  omega
 have h3 : IB (10 ^ 3) ((-b.shift : Int) : Rat) := ⟨-b.shift, rfl, h30⟩
 have h4 := ib_ten h1 h3
 rw [← mille] at h4
 rw [cQ, show 1000 * (DN n * (bQ b * Rat.divInt (-b.shift) 1000)) = DN n * bQ b * (1000 * Rat.divInt (-b.shift) 1000) by grind]
 exact h4
theorem esN_mem {n : NetD} {e : EdgeQ} (he : e ∈ esN n) : ∃ b ∈ n.branches, e = ((busAt n b.src).toNat, (busAt n b.dst).toNat, bQ b) := by
 obtain ⟨i, hi, rfl⟩ := List.mem_map.1 he
 have hi := List.mem_range.1 hi
 refine ⟨n.branches[i], List.getElem_mem hi, ?_⟩
 simp [frmL, toL, bLQ, hi]
theorem fw_IB {n : NetD} (h : VNet n) (hb : n.branches.length ≤ 10) (i j : Nat) : IB (10 ^ 88) (DN n * at2 (fwM n) i j) := by
 rw [fw_lap h]
 have h1 := lapE_IB (D := DN n) (B := 10 ^ 86) (plN n) (esN n) 0 (fun _ _ => 0) (fun e he => by
  obtain ⟨b, hm, rfl⟩ := esN_mem he
  exact DN_b h hb hm) (fun a c => by rw [Rat.mul_zero]; exact IB.zero _) i j
 have hl : (esN n).length = n.branches.length := by simp [esN, esL]
 refine h1.mono ?_
 rw [hl, Nat.zero_add, show (10 : Nat) ^ 88 = 10 * (10 * 10 ^ 86) by rw [show 88 = 86 + 2 by rfl, Nat.pow_add]]
 generalize 10 ^ 86 = z
 exact Nat.mul_le_mul hb (by omega)
def Small (n : NetD) (r : List Rat) : Prop := ∀ i, IB (10 ^ 91) (1000 * (DN n * r.getD i 0))
structure Scale (n : NetD) (e : Rat) : Prop where
 ne : e ≠ 0
 sz : Ten 830 e
 th : ∀ r, Small n r → ∀ v, Ov 828 e ((thN n r).getD v 0)
 df : ∀ r, Small n r → ∀ b ∈ n.branches, ∀ u v, Ov 828 e (bQ b * ((thN n r).getD u 0 - (thN n r).getD v 0))
 cc : ∀ b ∈ n.branches, Ov 828 e (cQ b)
theorem scale_ex {n : NetD} (h : VNet n) (hw : wideN n = false) : ∃ e, Scale n e := by
 obtain ⟨hn, hb, _⟩ := wide_len hw
 have hnf := nf_le8 h hn
 have hd : Ten 712 (detD (nfN n) (DN n) (at2 (fwM n))) := (ten_pow (k := 88) (detD_IB fun i j _ _ => fw_IB h hb i j) hnf).ten (by omega)
 have hd0 : detD (nfN n) (DN n) (at2 (fwM n)) ≠ 0 := detD_ne (fw_det h) (DN_ne n)
 have hD := DN_IB h hb
 have hK : IB (10 ^ 3) (1000 : Rat) := ⟨1000, rfl, by decide⟩
 have hh : ∀ r, Small n r → ∀ v, Ten 736 (1000 * (thN n r).getD v 0 * detD (nfN n) (DN n) (at2 (fwM n))) := fun r hr v => by
  rw [thN_hat, hatE]
  by_cases hp : 0 ≤ plN n v
  ·rw [if_pos hp]
   have hl := pl_lt n v
   exact (ten_pow (k := 91) (sys_IB (C := 10 ^ 91) (r := fun i => (pickQ (freeL n) r).getD i 0) (fun i j _ _ => fw_IB h hb i j) (fun i hi => by rw [pickQ_at (show i < (freeL n).length from hi)]; exact hr _) (Nat.pow_le_pow_right (by decide) (by omega)) (fun i hi => fw_eq h r hi) (show (plN n v).toNat < nfN n by omega)) hnf).ten (by omega)
  ·rw [if_neg hp, Rat.mul_zero, Rat.zero_mul]
   exact IB.zero _
 refine ⟨1000 * DN n * detD (nfN n) (DN n) (at2 (fwM n)), mul_ne0 (mul_ne0 (by decide) (DN_ne n)) hd0, (ib_ten (ib_ten hK hD) hd).ten (by omega), fun r hr v => ?_, fun r hr b hm u v => ?_, fun b hm => ?_⟩
 ·have h1 := ib_ten (hh r hr v) hD
  unfold Ov
  rw [show (thN n r).getD v 0 * (1000 * DN n * detD (nfN n) (DN n) (at2 (fwM n))) = 1000 * (thN n r).getD v 0 * detD (nfN n) (DN n) (at2 (fwM n)) * DN n by grind]
  exact h1.ten (by omega)
 ·have h1 := ib_ten (DN_b h hb hm) (ib_off (hh r hr u) (hh r hr v))
  unfold Ov
  rw [show bQ b * ((thN n r).getD u 0 - (thN n r).getD v 0) * (1000 * DN n * detD (nfN n) (DN n) (at2 (fwM n))) = DN n * bQ b * (1000 * (thN n r).getD u 0 * detD (nfN n) (DN n) (at2 (fwM n)) - 1000 * (thN n r).getD v 0 * detD (nfN n) (DN n) (at2 (fwM n))) by grind]
  exact h1.ten (by omega)
 ·have h1 := ib_ten (DN_c h hb hm) hd
  unfold Ov
  rw [show cQ b * (1000 * DN n * detD (nfN n) (DN n) (at2 (fwM n))) = 1000 * (DN n * cQ b) * detD (nfN n) (DN n) (at2 (fwM n)) by grind]
  exact h1.ten (by omega)
theorem shK_IB {D : Rat} {frm tu : List Int} {C P : List Rat} {B B0 : Nat} (hC : ∀ i, IB B (1000 * (D * C.getD i 0))) (hP : ∀ i, IB B0 (1000 * (D * P.getD i 0))) : ∀ k i, IB (B0 + k * (2 * B)) (1000 * (D * (shK frm tu C P k).getD i 0))
 | 0, i => (hP i).mono (by omega)
 | k + 1, i => by
  have ih := shK_IB (frm := frm) (tu := tu) hC hP k
  have h1 : ∀ i, IB (B0 + k * (2 * B) + B) (1000 * (D * ((shK frm tu C P k).set (frm.getD k 0).toNat ((shK frm tu C P k).getD (frm.getD k 0).toNat 0 - C.getD k 0)).getD i 0)) := fun i => by
   rw [getD_setQ]
   split
   ·rw [show 1000 * (D * ((shK frm tu C P k).getD (frm.getD k 0).toNat 0 - C.getD k 0)) = 1000 * (D * (shK frm tu C P k).getD (frm.getD k 0).toNat 0) - 1000 * (D * C.getD k 0) by grind]
    exact (ih _).sub (hC k)
   ·exact (ih i).mono (by omega)
  rw [shK, shQ, getD_setQ, Nat.add_mul, Nat.one_mul]
  split
  ·generalize (shK frm tu C P k).set (frm.getD k 0).toNat ((shK frm tu C P k).getD (frm.getD k 0).toNat 0 - C.getD k 0) = L at *
   rw [show 1000 * (D * (L.getD (tu.getD k 0).toNat 0 + C.getD k 0)) = 1000 * (D * L.getD (tu.getD k 0).toNat 0) + 1000 * (D * C.getD k 0) by grind]
   exact ((h1 _).add (hC k)).mono (by omega)
  ·exact (h1 i).mono (by omega)
theorem cLQ_IB {n : NetD} (h : VNet n) (hb : n.branches.length ≤ 10) (i : Nat) : IB (10 ^ 89) (1000 * (DN n * (cLQ n).getD i 0)) := by
 unfold cLQ
 rw [gD, List.getElem?_map]
 cases e : n.branches[i]? with
 | none =>
  show IB (10 ^ 89) (1000 * (DN n * 0))
  rw [Rat.mul_zero, Rat.mul_zero]
  exact IB.zero _
 | some b => exact DN_c h hb (List.mem_of_getElem? e)
theorem sh_small {n : NetD} (h : VNet n) (hb : n.branches.length ≤ 10) {r : List Rat} (hr : ∀ i, IB (10 ^ 6) (r.getD i 0)) : Small n (shN n r) := fun i => by
 have hK : IB (10 ^ 3) (1000 : Rat) := ⟨1000, rfl, by decide⟩
 have h1 := shK_IB (D := DN n) (frm := frmL n) (tu := toL n) (C := cLQ n) (P := r) (cLQ_IB h hb) (fun i => ib_ten hK (ib_ten (DN_IB h hb) (hr i))) n.branches.length i
 refine h1.mono ?_
 rw [show (10 : Nat) ^ 91 = 100 * 10 ^ 89 by rw [show 91 = 89 + 2 by rfl, Nat.pow_add]]
 have e : (10 : Nat) ^ (3 + (80 + 6)) = 10 ^ 89 := rfl
 rw [e]
 generalize 10 ^ 89 = z
 have := Nat.mul_le_mul_right (2 * z) hb
 omega
theorem sm_int {n : NetD} (h8 : n.nodes.length ≤ 8) {inj : List Int} (hi : ∀ i, -100000 ≤ inj.getD i 0 ∧ inj.getD i 0 ≤ 100000) (i : Nat) : IB (10 ^ 6) ((smN n inj).getD i 0) := by
 unfold smN smQ
 rw [gD, List.getElem?_map]
 cases e : (smI (busesL n) inj (nbN n) n.nodes.length)[i]? with
 | none => exact IB.zero _
 | some z =>
  have hb := smI_bound (bus := busesL n) (nb := nbN n) hi n.nodes.length i
  rw [gD, e] at hb
  simp only [Option.getD_some] at hb
  refine ⟨z, rfl, ?_⟩
  have : (10 : Nat) ^ 6 = 1000000 := by decide
  omega
theorem flN_at {n : NetD} (th : List Rat) {q : Rat} (hq : q ∈ flN n th) : ∃ b ∈ n.branches, q = bQ b * (th.getD (busAt n b.src).toNat 0 - th.getD (busAt n b.dst).toNat 0) + cQ b := by
 obtain ⟨i, hi, rfl⟩ := List.mem_map.1 hq
 have hi := List.mem_range.1 hi
 refine ⟨n.branches[i], List.getElem_mem hi, ?_⟩
 simp [flAt, frmL, toL, bLQ, cLQ, hi]
theorem th_sz {n : NetD} {e : Rat} (h : Scale n e) {r : List Rat} (hr : Small n r) : ∀ q ∈ thN n r, SzQ q 831 := fun q hq => by
 obtain ⟨i, hi, rfl⟩ := List.getElem_of_mem hq
 have h1 := h.th r hr i
 rw [gD, gE hi] at h1
 exact ((h1.mono (show 828 ≤ 830 by omega)).sz h.sz h.ne)
theorem fl_sz {n : NetD} {e : Rat} (h : Scale n e) {r : List Rat} (hr : Small n r) : ∀ q ∈ flN n (thN n r), SzQ q 831 := fun q hq => by
 obtain ⟨b, hb, rfl⟩ := flN_at _ hq
 exact ((((h.df r hr b hb _ _).add (h.cc b hb)).mono (show 828 + 1 ≤ 830 by omega)).sz h.sz h.ne)
theorem code_zero {n : NetD} {inj : List Int} (hw : wideN n = false) (hc : flowChk n inj = 0) : wideF n inj = false := by
 obtain ⟨h1, _, h3⟩ := flowChk_ok hc
 have hV := vnet h1
 obtain ⟨e, he⟩ := scale_ex hV hw
 obtain ⟨hn, hb, _⟩ := wide_len hw
 have hs := sh_small hV hb (fun i => sm_int hn h3 i)
 have ht := th_sz he hs
 have hf := fl_sz he hs
 unfold wideF
 rw [Bool.not_eq_false', Bool.and_eq_true]
 exact ⟨List.all_eq_true.2 fun q hq => (ht q hq).fit (by omega) (by omega), List.all_eq_true.2 fun q hq => (hf q hq).fit (by omega) (by omega)⟩
theorem code_eq {n : NetD} {inj : List Int} (hw : wideN n = false) : codeF n inj = flowChk n inj := by
 unfold codeF
 by_cases h : flowChk n inj = 0
 ·rw [if_neg (fun k => k h), code_zero hw h, if_neg (by decide), h]
 ·rw [if_pos h]
theorem code_ok {n : NetD} {inj : List Int} (h : codeF n inj = 0) : flowChk n inj = 0 ∧ (solF n inj).all fitQ = true ∧ (flwF n inj).all fitQ = true := by
 unfold codeF at h
 by_cases h1 : flowChk n inj = 0
 ·rw [if_neg (fun k => k h1)] at h
  by_cases h2 : wideF n inj = true
  ·rw [if_pos h2] at h
   omega
  ·unfold wideF at h2
   rw [Bool.not_eq_true, Bool.not_eq_false', Bool.and_eq_true] at h2
   exact ⟨h1, h2⟩
 ·rw [if_pos h1] at h
  exact absurd h h1
theorem mkS_len (l : List Rat) : (mkS (l.map qText)).length = l.length := by simp [mkS]
theorem solF_len (n : NetD) (inj : List Int) : (solF n inj).length = nbN n := angN_len _ _
theorem flwF_len (n : NetD) (inj : List Int) : (flwF n inj).length = n.branches.length := flN_len _ _
def sI : Nat → (Nat → Int) → Int
 | 0, _ => 0
 | k + 1, f => sI k f + f k
theorem sI_congr {f g : Nat → Int} : ∀ k, (∀ j, j < k → f j = g j) → sI k f = sI k g
 | 0, _ => rfl
 | k + 1, h => by rw [sI, sI, sI_congr k fun j hj => h j (by omega), h k (by omega)]
theorem sI_add (f g : Nat → Int) : ∀ k, sI k (fun j => f j + g j) = sI k f + sI k g
 | 0 => rfl
 | k + 1 => by rw [sI, sI, sI, sI_add f g k]; omega
theorem smI_at {bus inj : List Int} {nb b : Nat} (hb : b < nb) : ∀ k, (smI bus inj nb k).getD b 0 = sI k fun j => if (bus.getD j 0).toNat = b then inj.getD j 0 else 0
 | 0 => by
  rw [smI, gD, List.getElem?_replicate, sI]
  split <;> rfl
 | k + 1 => by
  have ih := smI_at (bus := bus) (inj := inj) hb k
  rw [smI, getD_setI, smI_len, sI]
  by_cases e : (bus.getD k 0).toNat = b
  ·rw [if_pos ⟨e, hb⟩, if_pos e, e, ih]
  ·rw [if_neg (fun h => e h.1), if_neg e, ih]
   omega
theorem sI_head (f : Nat → Int) : ∀ k, sI (k + 1) f = f 0 + sI k fun j => f (j + 1)
 | 0 => by simp only [sI]; omega
 | k + 1 => by
  rw [sI, sI_head f k, sI]
  omega
theorem sumK_sI : ∀ (ks vs : List Int) (x : Int), ks.length = vs.length → sumK ks vs x = sI ks.length fun j => if ks.getD j 0 = x then vs.getD j 0 else 0
 | [], vs, x, _ => by
  rw [sumK]
  ·rfl
  ·intros; contradiction
 | _ :: _, [], _, h => by simp at h
 | k :: ks, v :: vs, x, h => by
  have ih := sumK_sI ks vs x (by simpa using h)
  rw [sumK, ih, List.length_cons, sI_head]
  rfl
theorem chk_range {n : NetD} {p : List Int} (h : checkN n = 0) (hl : p.length = n.nodes.length) : flowChk n p = if p.any outP = true then 4 else if (keysL n).all (fun k => sumK (keysL n) p k == 0) = true then 0 else 14 := by
 unfold flowChk
 rw [if_neg (fun k => k h), if_neg (fun k => k hl)]
theorem chk_bal {n : NetD} {inj : List Int} (h : flowChk n inj = 0) : checkN n = 0 ∧ inj.length = n.nodes.length ∧ ∀ k ∈ keysL n, sumK (keysL n) inj k = 0 := by
 obtain ⟨h1, h2, _⟩ := flowChk_ok h
 refine ⟨h1, h2, fun k hk => ?_⟩
 rw [chk_range h1 h2] at h
 by_cases h3 : inj.any outP = true
 ·rw [if_pos h3] at h; omega
 ·rw [if_neg h3] at h
  by_cases h4 : (keysL n).all (fun k => sumK (keysL n) inj k == 0) = true
  ·have := List.all_eq_true.1 h4 k hk
   simpa using this
  ·rw [if_neg h4] at h; omega
def noShift (bs : List BranchD) : Bool := bs.all fun b => b.shift == 0
def addI (a b : List Int) : List Int := List.zipWith (· + ·) a b
theorem addI_at {a b : List Int} (hl : a.length = b.length) (j : Nat) : (addI a b).getD j 0 = a.getD j 0 + b.getD j 0 := by
 unfold addI
 rw [gD, List.getElem?_zipWith, gD, gD]
 by_cases h : j < a.length
 ·rw [gE h, gE (by omega)]; rfl
 ·rw [List.getElem?_eq_none (by omega), List.getElem?_eq_none (by omega)]; rfl
theorem addI_len {a b : List Int} (hl : a.length = b.length) : (addI a b).length = a.length := by simp [addI, hl]
theorem smI_addI {bus a b : List Int} {nb : Nat} (hl : a.length = b.length) (N i : Nat) (hi : i < nb) : (smI bus (addI a b) nb N).getD i 0 = (smI bus a nb N).getD i 0 + (smI bus b nb N).getD i 0 := by
 rw [smI_at hi, smI_at hi, smI_at hi, ← sI_add]
 refine sI_congr _ fun j _ => ?_
 rw [addI_at hl]
 split <;> omega
def addQ1 (a b : List Rat) : List Rat := List.zipWith (· + ·) a b
theorem addQ1_at {a b : List Rat} (hl : a.length = b.length) (j : Nat) : (addQ1 a b).getD j 0 = a.getD j 0 + b.getD j 0 := by
 unfold addQ1
 rw [gD, List.getElem?_zipWith, gD, gD]
 by_cases h : j < a.length
 ·rw [gE h, gE (by omega)]; rfl
 ·rw [List.getElem?_eq_none (by omega), List.getElem?_eq_none (by omega)]; simp [Rat.add_zero]
theorem ext_getQ {a b : List Rat} (hl : a.length = b.length) (h : ∀ j, j < a.length → a.getD j 0 = b.getD j 0) : a = b := by
 refine List.ext_getElem hl fun j h1 h2 => ?_
 have := h j h1
 rw [gD, gE h1, gD, gE h2] at this
 exact this
theorem smN_add {n : NetD} {a b : List Int} (hl : a.length = b.length) : smN n (addI a b) = addQ1 (smN n a) (smN n b) := by
 refine ext_getQ (by simp [addQ1, smN_len]) fun j hj => ?_
 rw [smN_len] at hj
 rw [addQ1_at (by rw [smN_len, smN_len])]
 unfold smN smQ
 have hq : ∀ l : List Int, (l.map fun (z : Int) => (z : Rat)).getD j 0 = ((l.getD j 0 : Int) : Rat) := fun l => by
  rw [gD, List.getElem?_map, gD]
  cases l[j]? <;> rfl
 rw [hq, hq, hq, smI_addI hl _ _ hj, Rat.intCast_add]
theorem no_shift_c {n : NetD} (h : noShift n.branches = true) (i : Nat) : (cLQ n).getD i 0 = 0 := by
 unfold cLQ
 rw [gD, List.getElem?_map]
 cases e : n.branches[i]? with
 | none => rfl
 | some b =>
  have h1 : b.shift = 0 := by simpa using List.all_eq_true.1 h b (List.mem_of_getElem? e)
  show cQ b = 0
  rw [cQ, h1]
  exact Rat.mul_zero _
theorem set_self (l : List Rat) (u : Nat) : l.set u (l.getD u 0) = l := by
 by_cases h : u < l.length
 ·rw [gD, gE h]
  exact List.set_getElem_self h
 ·exact List.set_eq_of_length_le (by omega)
theorem shK_none {frm tu : List Int} {C : List Rat} (hC : ∀ i, C.getD i 0 = 0) (r : List Rat) : ∀ k, shK frm tu C r k = r
 | 0 => rfl
 | k + 1 => by
  rw [shK, shK_none hC r k, shQ, hC k, show ∀ x : Rat, x - 0 = x from fun x => by grind, set_self, show ∀ x : Rat, x + 0 = x from fun x => by grind, set_self]
theorem shN_none {n : NetD} (h : noShift n.branches = true) (r : List Rat) : shN n r = r := shK_none (no_shift_c h) r _
theorem dotQ_add {x a b : List Rat} (hl : a.length = b.length) : dotQ x (addQ1 a b) = dotQ x a + dotQ x b := by
 unfold dotQ
 rw [← sm_add]
 exact sm_congr _ fun i _ => by rw [addQ1_at hl]; grind
theorem pickQ_add {free : List Int} {a b : List Rat} (hl : a.length = b.length) : pickQ free (addQ1 a b) = addQ1 (pickQ free a) (pickQ free b) := by
 refine ext_getQ (by simp [addQ1, pickQ]) fun j hj => ?_
 have hj : j < free.length := by simpa [pickQ] using hj
 rw [addQ1_at (by simp [pickQ]), pickQ_at hj, pickQ_at hj, pickQ_at hj, addQ1_at hl]
theorem thN_len (n : NetD) (r : List Rat) : (thN n r).length = nbN n := thK_len _ _ _ _ _
theorem thN_add {n : NetD} {a b : List Rat} (hl : a.length = b.length) : thN n (addQ1 a b) = addQ1 (thN n a) (thN n b) := by
 refine ext_getQ (by simp [addQ1, thN_len]) fun j _ => ?_
 rw [addQ1_at (by rw [thN_len, thN_len]), thN_hat, thN_hat, thN_hat]
 unfold hatE xN
 split
 ·rw [pickQ_add hl, dotQ_add (by simp [pickQ])]
 ·grind
theorem flK_at {frm tu : List Int} {B C th : List Rat} {k i : Nat} (hi : i < k) : (flK frm tu B C th k).getD i 0 = flAt frm tu B C th i := by
 unfold flK
 rw [gD, List.getElem?_map, List.getElem?_range hi]
 rfl
theorem flN_add {n : NetD} (h : noShift n.branches = true) {a b : List Rat} (hl : a.length = b.length) : flN n (addQ1 a b) = addQ1 (flN n a) (flN n b) := by
 refine ext_getQ (by simp [addQ1, flN_len]) fun j hj => ?_
 rw [flN_len] at hj
 rw [addQ1_at (by rw [flN_len, flN_len])]
 unfold flN
 rw [flK_at hj, flK_at hj, flK_at hj]
 unfold flAt
 rw [no_shift_c h, addQ1_at hl, addQ1_at hl]
 grind
theorem adds_chk {n : NetD} {a b : List Int} (ha : flowChk n a = 0) (hb : flowChk n b = 0) : flowChk n (addI a b) = 0 ∨ flowChk n (addI a b) = 4 := by
 obtain ⟨h1, h2, h3⟩ := chk_bal ha
 obtain ⟨_, h5, h6⟩ := chk_bal hb
 have hl : a.length = b.length := by omega
 rw [chk_range h1 (by rw [addI_len hl]; exact h2)]
 by_cases h4 : (addI a b).any outP = true
 ·rw [if_pos h4]; exact .inr rfl
 ·rw [if_neg h4, if_pos ?_]
  ·exact .inl rfl
  ·refine List.all_eq_true.2 fun x hx => ?_
   have e1 := h3 x hx
   have e2 := h6 x hx
   rw [sumK_sI _ _ _ (by rw [keysL_len, h2]), keysL_len] at e1
   rw [sumK_sI _ _ _ (by rw [keysL_len, h5]), keysL_len] at e2
   rw [beq_iff_eq, sumK_sI _ _ _ (by rw [keysL_len, addI_len hl, h2]), keysL_len]
   have e3 : (sI n.nodes.length fun j => if (keysL n).getD j 0 = x then (addI a b).getD j 0 else 0) = (sI n.nodes.length fun j => if (keysL n).getD j 0 = x then a.getD j 0 else 0) + sI n.nodes.length fun j => if (keysL n).getD j 0 = x then b.getD j 0 else 0 := by
    rw [← sI_add]
    refine sI_congr _ fun j _ => ?_
    rw [addI_at hl]
    split <;> omega
   rw [e3, e1, e2]
   rfl
theorem sol_addI {n : NetD} (hs : noShift n.branches = true) {a b : List Int} (hl : a.length = b.length) : solF n (addI a b) = addQ1 (solF n a) (solF n b) ∧ flwF n (addI a b) = addQ1 (flwF n a) (flwF n b) := by
 have e : ∀ i, solF n i = thN n (smN n i) := fun i => by
  show thN n (shN n (smN n i)) = _
  rw [shN_none hs]
 have h1 : solF n (addI a b) = addQ1 (solF n a) (solF n b) := by
  rw [e, e, e, smN_add hl, thN_add (by rw [smN_len, smN_len])]
 refine ⟨h1, ?_⟩
 unfold flwF
 rw [h1, flN_add hs (by rw [solF_len, solF_len])]
end Go.Proofs.YtenbglfkdldheaaGreatDoor
