/- Integers of at most so many digits; solutions of systems of whole numbers are quotients of determinants. Plain facts. No program here. Power flows: the sizes of angles and flows, and the sum of flows at a bus. Plain facts. No program here. Power flows: a network's angles solve its equations; the sizes of its numbers. Plain facts. Power flows: the sizes of angles and flows of a small network. Plain facts. Power flows: the plain laws of FlowProves, FlowRefuses and FlowSwitches. Power flows: sums of injections and of numbers, number by number; what is linear. Plain facts. -/
import Derived.Test.YtenbglfkdldheaaGreatDoorJFL
namespace Go.Proofs.YtenbglfkdldheaaGreatDoor
def IB (B : Nat) (x : Rat) : Prop := ∃ z : Int, x = (z : Rat) ∧ z.natAbs ≤ B
theorem IB.mono {B C : Nat} {x : Rat} (h : IB B x) (hm : B ≤ C) : IB C x := by
 obtain ⟨z, e, hz⟩ := h
 exact ⟨z, e, Nat.le_trans hz hm⟩
theorem IB.zero (B : Nat) : IB B 0 := ⟨0, rfl, Nat.zero_le _⟩
theorem IB.mul {B C : Nat} {x y : Rat} (hx : IB B x) (hy : IB C y) : IB (B * C) (x * y) := by
 obtain ⟨a, rfl, ha⟩ := hx
 obtain ⟨b, rfl, hb⟩ := hy
 exact ⟨a * b, by rw [Rat.intCast_mul], by rw [Int.natAbs_mul]; exact Nat.mul_le_mul ha hb⟩
theorem IB.add {B C : Nat} {x y : Rat} (hx : IB B x) (hy : IB C y) : IB (B + C) (x + y) := by
 obtain ⟨a, rfl, ha⟩ := hx
 obtain ⟨b, rfl, hb⟩ := hy
 exact ⟨a + b, by rw [Rat.intCast_add], Nat.le_trans (Int.natAbs_add_le a b) (Nat.add_le_add ha hb)⟩
theorem IB.neg {B : Nat} {x : Rat} (hx : IB B x) : IB B (-x) := by
 obtain ⟨a, rfl, ha⟩ := hx
 exact ⟨-a, by rw [Rat.intCast_neg], by rw [Int.natAbs_neg]; exact ha⟩
theorem IB.sub {B C : Nat} {x y : Rat} (hx : IB B x) (hy : IB C y) : IB (B + C) (x - y) := by
 rw [Rat.sub_eq_add_neg]
 exact hx.add hy.neg
theorem IB.sum {B : Nat} {f : Nat → Rat} : ∀ (n : Nat), (∀ i, i < n → IB B (f i)) → IB (n * B) (sm n f)
 | 0, _ => IB.zero _
 | n + 1, h => by
  rw [sm, Nat.add_mul, Nat.one_mul]
  exact (IB.sum n fun i hi => h i (by omega)).add (h n (by omega))
theorem IB.sg_mul {B : Nat} {x : Rat} (i : Nat) (h : IB B x) : IB B (sg i * x) := by
 unfold sg
 split
 ·rw [Rat.one_mul]; exact h
 ·rw [show (-1 : Rat) * x = -x by grind]; exact h.neg
theorem IB.det {B : Nat} : ∀ (n : Nat) (A : Nat → Nat → Rat), (∀ i j, i < n → j < n → IB B (A i j)) → IB ((n * B) ^ n) (det n A) := by
 intro n
 induction n with
 | zero => intro A _; exact ⟨1, rfl, by simp⟩
 | succ n ih =>
  intro A h
  rw [Proofs.YtenbglfkdldheaaGreatDoor.det]
  have hs := IB.sum (B := B * (n * B) ^ n) (f := fun i => sg i * A i 0 * Proofs.YtenbglfkdldheaaGreatDoor.det n (fun r c => A (sk i r) (c + 1))) (n + 1) fun i hi =>
   ((h i 0 hi (by omega)).sg_mul i).mul (ih (fun r c => A (sk i r) (c + 1)) fun a b ha hb => h _ _ (by unfold sk; split <;> omega) (by omega))
  refine hs.mono ?_
  rw [Nat.pow_succ, ← Nat.mul_assoc, Nat.mul_comm (((n + 1) * B) ^ n)]
  exact Nat.mul_le_mul_left _ (Nat.pow_le_pow_left (Nat.mul_le_mul_right _ (Nat.le_succ n)) n)
theorem aFp {A B k : Nat} {x a b : Rat} (ha : IB A a) (hb : IB B b) (h0 : b ≠ 0) (h : x * b = a) (hA : A < 10 ^ k) (hB : B < 10 ^ k) : SzQ x k := by
 obtain ⟨p, rfl, hp⟩ := ha
 obtain ⟨q, rfl, hq⟩ := hb
 have e : x = Rat.divInt p q := by
  rw [Rat.divInt_eq_div, ← h, Rat.div_def, Rat.mul_assoc, Rat.mul_inv_cancel _ h0, Rat.mul_one]
 have hle := gR p q
 rw [← e] at hle
 have hq0 : q ≠ 0 := fun e => h0 (by rw [e]; rfl)
 have h2 := hle.2
 have h3 : max 1 q.natAbs = q.natAbs := by omega
 rw [h3] at h2
 exact ⟨Nat.lt_of_le_of_lt (Nat.le_trans hle.1 hp) hA, Nat.lt_of_le_of_lt (Nat.le_trans h2 hq) hB⟩
theorem vW {n : Nat} (A : Nat → Nat → Rat) {j : Nat} (hj : j < n) (x : Nat → Rat) : ∀ m, m ≤ n → det n (upd A j fun c => sm m fun i => x i * A i c) = (if j < m then x j else 0) * det n A
 | 0, _ => by
  rw [if_neg (by omega), Rat.zero_mul]
  exact jO hj fun c => by rw [aS]; rfl
 | m + 1, hm => by
  have ih := vW A hj x m (by omega)
  have e : (fun c => sm (m + 1) fun i => x i * A i c) = fun c => 1 * (sm m fun i => x i * A i c) + x m * A m c := by
   funext c
   rw [sm]
   grind
  rw [e, jN 1 (x m) (fun c => sm m fun i => x i * A i c) (A m) n A j hj, ih]
  by_cases h : j = m
  ·subst h
   rw [dU, if_neg (by omega), if_pos (by omega)]
   grind
  ·have e2 : det n (upd A j (A m)) = 0 := kP (i := j) (k := m) hj (by omega) h fun c => by rw [aS, bW _ _ (fun k => h k.symm)]
   rw [e2]
   by_cases h2 : j < m
   ·rw [if_pos h2, if_pos (by omega)]; grind
   ·rw [if_neg h2, if_neg (by omega)]; grind
theorem aCf {n B C : Nat} {A : Nat → Nat → Rat} {x b : Nat → Rat} (hA : ∀ i j, i < n → j < n → IB B (A i j)) (hb : ∀ i, i < n → IB C (b i)) (hBC : B ≤ C) (hs : ∀ c, c < n → (sm n fun i => x i * A i c) = b c) {j : Nat} (hj : j < n) :
  IB ((n * C) ^ n) (x j * det n A) := by
 have h := vW A hj x n (Nat.le_refl n)
 rw [if_pos hj] at h
 rw [← h]
 refine IB.det n _ fun i c hi hc => ?_
 by_cases e : i = j
 ·subst e
  rw [aS, hs c hc]
  exact hb c hc
 ·rw [bW _ _ e]
  exact (hA i c hi hc).mono hBC
theorem uH {a b : Rat} (ha : a ≠ 0) (hb : b ≠ 0) : a * b ≠ 0 := fun e => by
 rcases Rat.mul_eq_zero.1 e with h | h
 ·exact ha h
 ·exact hb h
theorem aNw {n k : Nat} (hn : n ≤ 8) : (n * 10 ^ k) ^ n ≤ 10 ^ ((k + 1) * 8) := by
 refine Nat.le_trans (Nat.pow_le_pow_left (m := 10 ^ (k + 1)) ?_ n) ?_
 ·rw [Nat.pow_succ, Nat.mul_comm (10 ^ k)]
  exact Nat.mul_le_mul_right _ (by omega)
 ·rw [Nat.pow_mul]
  exact Nat.pow_le_pow_right (Nat.pow_pos (by decide)) hn
theorem IB.ten {k l : Nat} {x : Rat} (h : IB (10 ^ k) x) (hk : k ≤ l) : IB (10 ^ l) x := h.mono (Nat.pow_le_pow_right (by decide) hk)
def Ten (k : Nat) (x : Rat) : Prop := IB (10 ^ k) x
theorem Ten.ten {k l : Nat} {x : Rat} (h : Ten k x) (hk : k ≤ l) : Ten l x := IB.ten h hk
theorem aAe {n k : Nat} {x : Rat} (h : IB ((n * 10 ^ k) ^ n) x) (hn : n ≤ 8) : Ten ((k + 1) * 8) x := h.mono (aNw hn)
theorem iL {k l : Nat} {x y : Rat} (h : Ten k x) (h2 : Ten l y) : Ten (k + l) (x * y) := by
 unfold Ten at *
 rw [Nat.pow_add]
 exact h.mul h2
theorem aMg {k : Nat} {x y : Rat} (h : Ten k x) (h2 : Ten k y) : Ten (k + 1) (x + y) := by
 refine (IB.add h h2).mono ?_
 rw [Nat.pow_succ]
 generalize 10 ^ k = z
 omega
theorem aMh {k : Nat} {x y : Rat} (h : Ten k x) (h2 : Ten k y) : Ten (k + 1) (x - y) := by
 rw [Rat.sub_eq_add_neg]
 exact aMg h (IB.neg h2)
def Ov (k : Nat) (e f : Rat) : Prop := Ten k (f * e)
theorem Ov.sz {k : Nat} {e f : Rat} (h : Ov k e f) (he : Ten k e) (h0 : e ≠ 0) : SzQ f (k + 1) := by
 have : 10 ^ k < 10 ^ (k + 1) := Nat.pow_lt_pow_right (by decide) (by omega)
 exact aFp (A := 10 ^ k) (B := 10 ^ k) h he h0 rfl this this
theorem Ov.mono {k l : Nat} {e f : Rat} (h : Ov k e f) (hk : k ≤ l) : Ov l e f := IB.mono h (Nat.pow_le_pow_right (by decide) hk)
theorem aJm (x : Rat) : x * ((x.den : Nat) : Rat) = (x.num : Rat) := by
 have h1 := Rat.num_divInt_den x
 rw [Rat.divInt_eq_div] at h1
 have hd : (((x.den : Nat) : Int) : Rat) ≠ 0 := by
  have := x.den_pos
  intro e0
  have : (x.den : Int) = 0 := by exact_mod_cast e0
  omega
 show x * (((x.den : Nat) : Int) : Rat) = (x.num : Rat)
 rw [Rat.div_def] at h1
 grind
theorem pK {D b : Rat} {N B : Nat} {A : Nat → Nat → Rat} (h : ∀ a c, IB N (D * A a c)) (hb : IB B (D * b)) (i j a c : Nat) : IB (N + B) (D * dI A i j b a c) := by
 unfold dI
 split
 ·rw [Rat.mul_add]
  exact (h a c).add hb
 ·exact (h a c).mono (by omega)
theorem aCg {D b : Rat} {N B : Nat} {A : Nat → Nat → Rat} (h : ∀ a c, IB N (D * A a c)) (hb : IB B (D * b)) (pl : Nat → Int) (u v a c : Nat) : IB (N + 4 * B) (D * fX pl A u v b a c) := by
 have hn : IB B (D * -b) := by rw [Rat.mul_neg]; exact hb.neg
 unfold fX
 split
 ·exact (h a c).mono (by omega)
 ·have h1 : ∀ a c, IB (N + B) (D * (if 0 ≤ pl u then dI A (pl u).toNat (pl u).toNat b else A) a c) := fun a c => by
   split
   ·exact pK h hb _ _ a c
   ·exact (h a c).mono (by omega)
  have h2 : ∀ a c, IB (N + B + B) (D * (if 0 ≤ pl v then dI (if 0 ≤ pl u then dI A (pl u).toNat (pl u).toNat b else A) (pl v).toNat (pl v).toNat b else (if 0 ≤ pl u then dI A (pl u).toNat (pl u).toNat b else A)) a c) := fun a c => by
   split
   ·exact pK h1 hb _ _ a c
   ·exact (h1 a c).mono (by omega)
  simp only
  split
  ·exact (pK (pK h2 hn _ _) hn _ _ a c).mono (by omega)
  ·exact (h2 a c).mono (by omega)
theorem aAf {D : Rat} {B : Nat} (pl : Nat → Int) : ∀ (es : List lZ) (N : Nat) (A : Nat → Nat → Rat), (∀ e ∈ es, IB B (D * e.2.2)) → (∀ a c, IB N (D * A a c)) → ∀ a c, IB (N + es.length * (4 * B)) (D * nZ pl A es a c)
 | [], N, A, _, h, a, c => by
  rw [nZ, List.foldl_nil, List.length_nil, Nat.zero_mul, Nat.add_zero]
  exact h a c
 | e :: es, N, A, hB, h, a, c => by
  have ih := aAf pl es (N + 4 * B) (fX pl A e.1 e.2.1 e.2.2) (fun f hf => hB f (List.mem_cons_of_mem _ hf)) (fun a c => aCg h (hB e List.mem_cons_self) pl e.1 e.2.1 a c) a c
  rw [nZ] at ih ⊢
  rw [List.foldl_cons, List.length_cons, Nat.add_mul, Nat.one_mul]
  exact ih.mono (by omega)
def lU (n : Nat) (D : Rat) (M : Nat → Nat → Rat) : Rat := det n fun i j => D * M i j
theorem aJn {n : Nat} {M : Nat → Nat → Rat} {D : Rat} (hd : det n M ≠ 0) (hD0 : D ≠ 0) : lU n D M ≠ 0 := by
 rw [lU, iP M (fun _ => D)]
 exact uH (aHy n fun _ _ => hD0) hd
theorem aJo {n B : Nat} {M : Nat → Nat → Rat} {D : Rat} (hM : ∀ i j, i < n → j < n → IB B (D * M i j)) : IB ((n * B) ^ n) (lU n D M) := IB.det n _ hM
theorem aMi {n B C : Nat} {M : Nat → Nat → Rat} {x r : Nat → Rat} {D K : Rat} (hM : ∀ i j, i < n → j < n → IB B (D * M i j)) (hr : ∀ i, i < n → IB C (K * (D * r i))) (hBC : B ≤ C) (hs : ∀ i, i < n → (sm n fun j => M i j * x j) = r i) {j : Nat} (hj : j < n) :
  IB ((n * C) ^ n) (K * x j * lU n D M) := by
 have h := aCf (A := fun a c => D * M c a) (x := fun j => K * x j) (b := fun c => K * (D * r c)) (fun i j hi hj => hM j i hj hi) hr hBC (fun c hc => ?_) hj
 ·rw [lU, ← zC n (fun i j => D * M i j)]
  exact h
 ·show (sm n fun i => K * x i * (D * M c i)) = K * (D * r c)
  rw [← hs c hc, ← iN, ← iN]
  exact aY n fun i _ => by grind
theorem aFq {free : List Int} (hd : free.Nodup) {k : Nat} (hk : k < free.length) {v : Nat} : Lib.idxOf free (v : Int) = k ↔ (v : Int) = free.getD k 0 := by
 constructor
 ·intro e
  have h2 := fG (v : Int) free 0 (by have := eW free (v : Int); unfold Lib.idxOf at this e; omega)
  change free.getD ((Lib.idxOf free (v : Int)).toNat - 0) 0 = (v : Int) at h2
  rw [e] at h2
  rw [← h2]
  congr 1
 ·intro e
  rw [e]
  exact vU hd hk
theorem iU (l : List Rat) (u i : Nat) (x : Rat) : (l.set u x).getD i 0 = if u = i ∧ i < l.length then x else l.getD i 0 := by
 by_cases e : u = i
 ·subst e
  by_cases h : u < l.length
  ·rw [if_pos ⟨rfl, h⟩, gD, List.getElem?_set_self h]; rfl
  ·rw [if_neg (fun k => h k.2), gD, List.getElem?_eq_none (by rw [List.length_set]; omega), gD, List.getElem?_eq_none (by omega)]
 ·rw [if_neg (fun k => e k.1), gD, List.getElem?_set_ne e, ← gD]
theorem qO (nb i : Nat) : (List.replicate nb (0 : Rat)).getD i 0 = 0 := by
 rw [gD, List.getElem?_replicate]
 split <;> rfl
theorem aLo {nb : Nat} {free : List Int} (hd : free.Nodup) (hr : ∀ f ∈ free, 0 ≤ f ∧ f < nb) (inv : MQ) (x : List Rat) (v : Nat) : ∀ k, k ≤ free.length →
  (thK nb free inv x k).getD v 0 = if 0 ≤ Lib.idxOf free (v : Int) ∧ Lib.idxOf free (v : Int) < k then rN (inv.getD (Lib.idxOf free (v : Int)).toNat []) x else 0
 | 0, _ => by
  rw [thK, qO, if_neg (by omega)]
 | k + 1, hk => by
  have ih := aLo hd hr inv x v k (by omega)
  have hf := aFq hd (k := k) (by omega) (v := v)
  have hm := hr _ (bK (l := free) (k := k) (by omega))
  rw [thK, iU, pJ, ih]
  by_cases e : Lib.idxOf free (v : Int) = k
  ·have e2 := hf.1 e
   rw [if_pos ⟨by omega, by omega⟩, if_pos (by omega), e, Int.toNat_natCast]
  ·have e2 : ¬ (v : Int) = free.getD k 0 := fun h => e (hf.2 h)
   rw [if_neg (fun h => e2 (by omega))]
   by_cases h : 0 ≤ Lib.idxOf free (v : Int) ∧ Lib.idxOf free (v : Int) < k
   ·rw [if_pos h, if_pos (by omega)]
   ·rw [if_neg h, if_neg (by omega)]
def plN (n : NetD) : Nat → Int := fun x : Nat => Lib.idxOf (aI n) x
def esN (n : NetD) : List lZ := esL (bU n) (toL n) (bLQ n) n.branches.length
def thN (n : NetD) (r : List Rat) : List Rat := thQ (nbN n) (aI n) (lT n) r
def xN (n : NetD) (r : List Rat) (i : Nat) : Rat := rN ((lT n).getD i []) (cJ (aI n) r)
theorem yI (n : NetD) : (aI n).Nodup := kF _ _
theorem aJp (n : NetD) (r : List Rat) (v : Nat) : (thN n r).getD v 0 = eT (plN n) (xN n r) v := by
 unfold thN thQ
 rw [aLo (yI n) (fun f hf => uG f hf) _ _ v _ lR, eT]
 have h1 := eW (aI n) (v : Int)
 by_cases h : 0 ≤ plN n v
 ·have h2 : 0 ≤ Lib.idxOf (aI n) (v : Int) := h
  rw [if_pos h, if_pos ⟨h2, by omega⟩]
  rfl
 ·have h2 : ¬ 0 ≤ Lib.idxOf (aI n) (v : Int) := h
  rw [if_neg h, if_neg (fun k => h2 k.1)]
theorem aNx (n : NetD) (v : Nat) : plN n v < nfN n := by
 have := eW (aI n) (v : Int)
 show Lib.idxOf (aI n) (v : Int) < ((aI n).length : Int)
 omega
theorem aMj {n : NetD} (h : VNet n) : at2 (fwM n) = nZ (plN n) (fun _ _ => 0) (esN n) :=
 uF rfl (fun x hx => (uC h x hx).1) (fun x hx => (uD h x hx).1) _ (by simp [bU]) (by simp [toL])
theorem aNy {n : NetD} (h : VNet n) (r : List Rat) {i : Nat} (hi : i < nfN n) : (sm (nfN n) fun j => at2 (fwM n) i j * xN n r j) = (cJ (aI n) r).getD i 0 := by
 have hinv := aIj (iD n) (fun k => yF h ((aBi (iD n)).1 k))
 have hx : ∀ j, j < nfN n → xN n r j = sm (nfN n) fun k => at2 (lT n) j k * (cJ (aI n) r).getD k 0 := fun j hj => by
  unfold xN rN
  rw [(qN n).rowlen hj]
  rfl
 have e1 : (sm (nfN n) fun j => at2 (fwM n) i j * xN n r j) = sm (nfN n) fun j => sm (nfN n) fun k => at2 (fwM n) i j * at2 (lT n) j k * (cJ (aI n) r).getD k 0 :=
  aY _ fun j hj => by
   rw [hx j hj, ← iN]
   exact aY _ fun k _ => by rw [Rat.mul_assoc]
 rw [e1, pQ]
 have e2 : (sm (nfN n) fun k => sm (nfN n) fun j => at2 (fwM n) i j * at2 (lT n) j k * (cJ (aI n) r).getD k 0) = sm (nfN n) fun k => at2 (idQ (nfN n)) i k * (cJ (aI n) r).getD k 0 :=
  aY _ fun k hk => by
   have h2 : at2 (wY (fwM n) (lT n) (nfN n)) i k = at2 (idQ (nfN n)) i k := by
    show at2 (wY (fwM n) (sF (fwM n) (aI n).length) (aI n).length) i k = _
    rw [hinv]
    rfl
   rw [aAw (iD n) hi hk] at h2
   rw [← h2, Rat.mul_comm, ← iN]
   exact aY _ fun j _ => by
    show _ = (cJ (aI n) r).getD k 0 * (at2 (fwM n) i j * at2 (lT n) j k)
    rw [Rat.mul_comm]
 rw [e2, kO i _ hi fun k hk hne => by rw [zA hi hk, if_neg (fun e => hne e.symm), Rat.zero_mul], zA hi hi, if_pos rfl, Rat.one_mul]
theorem aFr {free : List Int} {r : List Rat} {i : Nat} (hi : i < free.length) : (cJ free r).getD i 0 = r.getD (free.getD i 0).toNat 0 := by
 unfold cJ
 rw [gD, List.getElem?_map, gD (l := free), gE hi]
 rfl
def iE (n : NetD) : Bool := decide (8 < n.nodes.length) || decide (10 < n.branches.length) || decide (10 < n.switches.length)
theorem qP {n : NetD} (h : iE n = false) : n.nodes.length ≤ 8 ∧ n.branches.length ≤ 10 ∧ n.switches.length ≤ 10 := by
 unfold iE at h
 simp only [Bool.or_eq_false_iff, decide_eq_false_iff_not] at h
 omega
theorem aMk {n : NetD} (h : VNet n) (h8 : n.nodes.length ≤ 8) : nbN n ≤ 8 := by
 have hm := fJ (l := aC n) (N := 8) (by omega) (by
  intro x hx
  obtain ⟨i, hi, rfl⟩ := List.getElem_of_mem hx
  have hl := bS h
  have := gQ h i (by omega) (by omega)
  simp only [at_, Int.toNat_natCast, gD, gE hi, Option.getD_some] at this
  omega)
 unfold nbN
 rw [aA, dR]
 split
 ·simp only [iV]; omega
 ·simp
theorem aMl {n : NetD} (h : VNet n) (h8 : n.nodes.length ≤ 8) : nfN n ≤ 8 := by
 have := gO (aA n) (aA n).length
 have := aMk h h8
 unfold nbN at this
 unfold nfN aI
 omega
theorem aNz {b : BranchD} (h : bI b = true) : (bQ b).num.natAbs ≤ 10 ^ 6 ∧ (bQ b).den ≤ 10 ^ 8 := by
 have hp := iC h
 have hd := gR 1000000 (b.x * b.tap)
 unfold bQ
 refine ⟨Nat.le_trans hd.1 (by decide), Nat.le_trans hd.2 ?_⟩
 generalize b.x * b.tap = z at *
 have : (10 : Nat) ^ 8 = 100000000 := by decide
 omega
theorem qQ : ∀ (l : List Rat), (∀ x ∈ l, x.den ≤ 10 ^ 8) → bX l ≤ 10 ^ (8 * l.length)
 | [], _ => by simp [bX]
 | x :: l, h => by
  have ih := qQ l fun y hy => h y (by simp [hy])
  rw [bX, List.length_cons, Nat.mul_add, Nat.add_comm, Nat.mul_one, Nat.pow_add]
  exact Nat.mul_le_mul (h x (by simp)) ih
theorem vX : ∀ (l : List Rat), (∀ x ∈ l, x.num.natAbs ≤ 10 ^ 6 ∧ x.den ≤ 10 ^ 8) → ∀ x ∈ l, IB (10 ^ (8 * l.length + 6)) ((bX l : Rat) * x)
 | [], _, x, hx => by simp at hx
 | y :: l, h, x, hx => by
  have hl := qQ l fun y hy => (h y (by simp [hy])).2
  have hlen : 8 * (y :: l).length + 6 = 8 * l.length + 6 + 8 := by rw [List.length_cons, Nat.mul_add, Nat.mul_one]
  have e : ((bX (y :: l) : Nat) : Rat) = ((y.den : Nat) : Rat) * (bX l : Rat) := by rw [bX, Rat.natCast_mul]
  rw [e, hlen]
  rcases List.mem_cons.1 hx with rfl | hx
  ·have h1 : IB (10 ^ 6) (x.num : Rat) := ⟨x.num, rfl, (h x (by simp)).1⟩
   have h2 : IB (10 ^ (8 * l.length)) (bX l : Rat) := ⟨(bX l : Int), rfl, by rw [Int.natAbs_natCast]; exact hl⟩
   have h3 := (iL h1 h2).ten (l := 8 * l.length + 6 + 8) (by omega)
   rw [← aJm x] at h3
   rw [show ((x.den : Nat) : Rat) * (bX l : Rat) * x = x * ((x.den : Nat) : Rat) * (bX l : Rat) by grind]
   exact h3
  ·have ih := vX l (fun y hy => h y (by simp [hy])) x hx
   have h1 : IB (10 ^ 8) ((y.den : Nat) : Rat) := ⟨(y.den : Int), rfl, by rw [Int.natAbs_natCast]; exact (h y (by simp)).2⟩
   rw [show ((y.den : Nat) : Rat) * (bX l : Rat) * x = (bX l : Rat) * x * ((y.den : Nat) : Rat) by grind]
   exact iL ih h1
def DN (n : NetD) : Rat := ((bX (bLQ n) : Nat) : Rat)
theorem aLp (n : NetD) : DN n ≠ 0 := fun e => by
 have := lP (bLQ n)
 have e2 : ((bX (bLQ n) : Nat) : Rat) = 0 := e
 have e3 : bX (bLQ n) = 0 := by exact_mod_cast e2
 omega
theorem aFs {n : NetD} (h : VNet n) : ∀ x ∈ bLQ n, x.num.natAbs ≤ 10 ^ 6 ∧ x.den ≤ 10 ^ 8 := fun x hx => by
 obtain ⟨b, hb, rfl⟩ := List.mem_map.1 hx
 exact aNz (h.br b hb).2.2.2
theorem aLq {n : NetD} (h : VNet n) (hb : n.branches.length ≤ 10) : IB (10 ^ 80) (DN n) := by
 have h1 := qQ (bLQ n) fun x hx => (aFs h x hx).2
 have hl : (bLQ n).length = n.branches.length := by simp [bLQ]
 refine ⟨(bX (bLQ n) : Int), rfl, ?_⟩
 rw [Int.natAbs_natCast]
 exact Nat.le_trans h1 (Nat.pow_le_pow_right (by decide) (by omega))
theorem aMm {n : NetD} (h : VNet n) (hb : n.branches.length ≤ 10) {b : BranchD} (hm : b ∈ n.branches) : IB (10 ^ 86) (DN n * bQ b) := by
 have hl : (bLQ n).length = n.branches.length := by simp [bLQ]
 exact (vX (bLQ n) (aFs h) (bQ b) (List.mem_map.2 ⟨b, hm, rfl⟩)).ten (by omega)
theorem aOa (a : Int) : (1000 : Rat) * Rat.divInt a 1000 = (a : Rat) := by
 have h := gK (show ((1000 : Int) : Rat) ≠ 0 by decide) (a : Rat)
 rw [← Rat.divInt_eq_div] at h
 exact h
theorem aOy {n : NetD} (h : VNet n) (hb : n.branches.length ≤ 10) {b : BranchD} (hm : b ∈ n.branches) : IB (10 ^ 89) (1000 * (DN n * cQ b)) := by
 have h1 := aMm h hb hm
 have h2 := (jI (h.br b hm).2.2.2).2.2.2.2
 have h30 : (-b.shift).natAbs ≤ 10 ^ 3 := by
  rw [show (10 : Nat) ^ 3 = 1000 by decide]
  omega
 have h3 : IB (10 ^ 3) ((-b.shift : Int) : Rat) := ⟨-b.shift, rfl, h30⟩
 have h4 := iL h1 h3
 rw [← aOa] at h4
 rw [cQ, show 1000 * (DN n * (bQ b * Rat.divInt (-b.shift) 1000)) = DN n * bQ b * (1000 * Rat.divInt (-b.shift) 1000) by grind]
 exact h4
theorem aJq {n : NetD} {e : lZ} (he : e ∈ esN n) : ∃ b ∈ n.branches, e = ((aR n b.src).toNat, (aR n b.dst).toNat, bQ b) := by
 obtain ⟨i, hi, rfl⟩ := List.mem_map.1 he
 have hi := List.mem_range.1 hi
 refine ⟨n.branches[i], List.getElem_mem hi, ?_⟩
 simp [bU, toL, bLQ, hi]
theorem aLr {n : NetD} (h : VNet n) (hb : n.branches.length ≤ 10) (i j : Nat) : IB (10 ^ 88) (DN n * at2 (fwM n) i j) := by
 rw [aMj h]
 have h1 := aAf (D := DN n) (B := 10 ^ 86) (plN n) (esN n) 0 (fun _ _ => 0) (fun e he => by
  obtain ⟨b, hm, rfl⟩ := aJq he
  exact aMm h hb hm) (fun a c => by rw [Rat.mul_zero]; exact IB.zero _) i j
 have hl : (esN n).length = n.branches.length := by simp [esN, esL]
 refine h1.mono ?_
 rw [hl, Nat.zero_add, show (10 : Nat) ^ 88 = 10 * (10 * 10 ^ 86) by rw [show 88 = 86 + 2 by rfl, Nat.pow_add]]
 generalize 10 ^ 86 = z
 exact Nat.mul_le_mul hb (by omega)
def Small (n : NetD) (r : List Rat) : Prop := ∀ i, IB (10 ^ 91) (1000 * (DN n * r.getD i 0))
structure Scale (n : NetD) (e : Rat) : Prop where
 ne : e ≠ 0
 sz : Ten 830 e
 th : ∀ r, Small n r → ∀ v, Ov 828 e ((thN n r).getD v 0)
 df : ∀ r, Small n r → ∀ b ∈ n.branches, ∀ u v, Ov 828 e (bQ b * ((thN n r).getD u 0 - (thN n r).getD v 0))
 cc : ∀ b ∈ n.branches, Ov 828 e (cQ b)
theorem aFt {n : NetD} (h : VNet n) (hw : iE n = false) : ∃ e, Scale n e := by
 obtain ⟨hn, hb, _⟩ := qP hw
 have hnf := aMl h hn
 have hd : Ten 712 (lU (nfN n) (DN n) (at2 (fwM n))) := (aAe (k := 88) (aJo fun i j _ _ => aLr h hb i j) hnf).ten (by omega)
 have hd0 : lU (nfN n) (DN n) (at2 (fwM n)) ≠ 0 := aJn (yF h) (aLp n)
 have hD := aLq h hb
 have hK : IB (10 ^ 3) (1000 : Rat) := ⟨1000, rfl, by decide⟩
 have hh : ∀ r, Small n r → ∀ v, Ten 736 (1000 * (thN n r).getD v 0 * lU (nfN n) (DN n) (at2 (fwM n))) := fun r hr v => by
  rw [aJp, eT]
  by_cases hp : 0 ≤ plN n v
  ·rw [if_pos hp]
   have hl := aNx n v
   exact (aAe (k := 91) (aMi (C := 10 ^ 91) (r := fun i => (cJ (aI n) r).getD i 0) (fun i j _ _ => aLr h hb i j) (fun i hi => by rw [aFr (show i < (aI n).length from hi)]; exact hr _) (Nat.pow_le_pow_right (by decide) (by omega)) (fun i hi => aNy h r hi) (show (plN n v).toNat < nfN n by omega)) hnf).ten (by omega)
  ·rw [if_neg hp, Rat.mul_zero, Rat.zero_mul]
   exact IB.zero _
 refine ⟨1000 * DN n * lU (nfN n) (DN n) (at2 (fwM n)), uH (uH (by decide) (aLp n)) hd0, (iL (iL hK hD) hd).ten (by omega), fun r hr v => ?_, fun r hr b hm u v => ?_, fun b hm => ?_⟩
 ·have h1 := iL (hh r hr v) hD
  unfold Ov
  rw [show (thN n r).getD v 0 * (1000 * DN n * lU (nfN n) (DN n) (at2 (fwM n))) = 1000 * (thN n r).getD v 0 * lU (nfN n) (DN n) (at2 (fwM n)) * DN n by grind]
  exact h1.ten (by omega)
 ·have h1 := iL (aMm h hb hm) (aMh (hh r hr u) (hh r hr v))
  unfold Ov
  rw [show bQ b * ((thN n r).getD u 0 - (thN n r).getD v 0) * (1000 * DN n * lU (nfN n) (DN n) (at2 (fwM n))) = DN n * bQ b * (1000 * (thN n r).getD u 0 * lU (nfN n) (DN n) (at2 (fwM n)) - 1000 * (thN n r).getD v 0 * lU (nfN n) (DN n) (at2 (fwM n))) by grind]
  exact h1.ten (by omega)
 ·have h1 := iL (aOy h hb hm) hd
  unfold Ov
  rw [show cQ b * (1000 * DN n * lU (nfN n) (DN n) (at2 (fwM n))) = 1000 * (DN n * cQ b) * lU (nfN n) (DN n) (at2 (fwM n)) by grind]
  exact h1.ten (by omega)
end Go.Proofs.YtenbglfkdldheaaGreatDoor
