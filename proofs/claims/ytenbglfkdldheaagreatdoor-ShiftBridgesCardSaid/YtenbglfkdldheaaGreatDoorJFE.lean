/- Power flows: the matrix of the susceptances without one bus of each island is regular. Plain facts. No program here. Power flows: the model's matrix is the one of FlA; it is regular. Plain facts. flow: Buses, a copy of numbers, angles. flow: Angles. -/
import Derived.Test.YtenbglfkdldheaaGreatDoorJFD
set_option maxRecDepth 100000
set_option maxHeartbeats 16000000
namespace Go.Proofs.YtenbglfkdldheaaGreatDoor
section
theorem null_of_det {m : MQ} {n : Nat} (h : Rect m n n) (hd : det n (at2 m) = 0) : ∃ x : Nat → Rat, (∀ i, i < n → (sm n fun k => at2 m i k * x k) = 0) ∧ ∃ f, f < n ∧ x f ≠ 0 := by
 obtain ⟨π, δ, ε, hI⟩ := (fD h n).inv
 have hl : (bJ m n).2.length < n := by
  have h1 := hI.minor n (fun X => det n fun i j => X i j) id hI.few (kW n id) (fun _ _ => rfl) (fun i hi => hi) (fun i j _ _ e => e)
  have h2 := hI.sign (fun X => det n fun i j => X i j) (at2 m) (kW n id)
  simp only [id] at h1 h2
  rw [h2] at h1
  have hfew := hI.few
  rcases Nat.lt_or_ge (bJ m n).2.length n with hl | hl
  ·exact hl
  ·exfalso
   have hid := hI.piv_id (show _ = n by omega)
   have h4 : det n (fun i j => at2 (bJ m n).1 i j) = 1 := by
    rw [← yZ n]
    refine cS n fun i j hi hj => ?_
    have := hI.unit j i (by omega) hi
    rw [hid j hj] at this
    exact this
   have h5 : det n (fun i j => at2 m i j) = 0 := hd
   rw [h4, h5, Rat.mul_zero, Rat.mul_one] at h1
   exact hI.dne h1.symm
 have hf := tQ h n
 obtain ⟨f, hfm⟩ : ∃ f, f ∈ mD (bJ m n).2 n := by
  cases e : mD (bJ m n).2 n with
  | nil => rw [e] at hf; simp only [List.length_nil] at hf; omega
  | cons f r => exact ⟨f, List.mem_cons_self⟩
 obtain ⟨f1, f2⟩ := aDk.1 hfm
 refine ⟨fun j => (kY (bJ m n).1 (bJ m n).2 n f (bJ m n).2.length).getD j 0, aDl hI f1 f2, f, f1, ?_⟩
 simp only
 rw [oH hI f1 f2 _ lR]
 decide
def dI (A : Nat → Nat → Rat) (i j : Nat) (c : Rat) : Nat → Nat → Rat := fun a b => if a = i ∧ b = j then A a b + c else A a b
def qf (n : Nat) (A : Nat → Nat → Rat) (x : Nat → Rat) : Rat := sm n fun a => x a * sm n fun b => A a b * x b
theorem nY {n i j : Nat} (hi : i < n) (hj : j < n) (A : Nat → Nat → Rat) (c : Rat) (x : Nat → Rat) : qf n (dI A i j c) x = qf n A x + c * (x i * x j) := by
 have h1 : ∀ a, (sm n fun b => dI A i j c a b * x b) = (sm n fun b => A a b * x b) + if a = i then c * x j else 0 := by
  intro a
  have e : (fun b => dI A i j c a b * x b) = fun b => A a b * x b + (if a = i ∧ b = j then c * x b else 0) := by
   funext b
   rw [dI]
   split <;> grind
  rw [e, rL]
  congr 1
  by_cases ha : a = i
  ·rw [if_pos ha, kO j n hj fun b _ hb => if_neg fun k => hb k.2, if_pos ⟨ha, rfl⟩]
  ·rw [if_neg ha]
   exact gJ n fun b _ => if_neg fun k => ha k.1
 have e : (fun a => x a * sm n fun b => dI A i j c a b * x b) = fun a => (x a * sm n fun b => A a b * x b) + (if a = i then x a * (c * x j) else 0) := by
  funext a
  rw [h1 a]
  split <;> grind
 rw [qf, e, rL, kO i n hi fun a _ ha => if_neg ha, if_pos rfl, qf]
 grind
def fX (pl : Nat → Int) (A : Nat → Nat → Rat) (u v : Nat) (b : Rat) : Nat → Nat → Rat :=
 if u = v then A
 else
  let A1 := if 0 ≤ pl u then dI A (pl u).toNat (pl u).toNat b else A
  let A2 := if 0 ≤ pl v then dI A1 (pl v).toNat (pl v).toNat b else A1
  if 0 ≤ pl u ∧ 0 ≤ pl v then dI (dI A2 (pl u).toNat (pl v).toNat (-b)) (pl v).toNat (pl u).toNat (-b) else A2
def eT (pl : Nat → Int) (x : Nat → Rat) (v : Nat) : Rat := if 0 ≤ pl v then x (pl v).toNat else 0
theorem aEy {n : Nat} {pl : Nat → Int} (hp : ∀ v, pl v < n) (A : Nat → Nat → Rat) (u v : Nat) (b : Rat) (x : Nat → Rat) :
  qf n (fX pl A u v b) x = qf n A x + if u = v then 0 else b * ((eT pl x u - eT pl x v) * (eT pl x u - eT pl x v)) := by
 by_cases h : u = v
 ·rw [fX, if_pos h, if_pos h]; grind
 ·rw [fX, if_neg h, if_neg h, eT, eT]
  have hu := hp u
  have hv := hp v
  simp only
  by_cases h1 : 0 ≤ pl u
  ·by_cases h2 : 0 ≤ pl v
   ·rw [if_pos ⟨h1, h2⟩, if_pos h2, if_pos h1, if_pos h1, if_pos h2, nY (by omega) (by omega), nY (by omega) (by omega), nY (by omega) (by omega), nY (by omega) (by omega)]
    grind
   ·rw [if_neg (fun k => h2 k.2), if_neg h2, if_pos h1, if_pos h1, if_neg h2, nY (by omega) (by omega)]
    grind
  ·by_cases h2 : 0 ≤ pl v
   ·rw [if_neg (fun k => h1 k.1), if_pos h2, if_neg h1, if_neg h1, if_pos h2, nY (by omega) (by omega)]
    grind
   ·rw [if_neg (fun k => h1 k.1), if_neg h2, if_neg h1, if_neg h1, if_neg h2]
    grind
abbrev lZ := Nat × Nat × Rat
def nZ (pl : Nat → Int) (A : Nat → Nat → Rat) (es : List lZ) : Nat → Nat → Rat := es.foldl (fun A e => fX pl A e.1 e.2.1 e.2.2) A
def enE (pl : Nat → Int) (x : Nat → Rat) : List lZ → Rat
 | [] => 0
 | e :: es => (if e.1 = e.2.1 then 0 else e.2.2 * ((eT pl x e.1 - eT pl x e.2.1) * (eT pl x e.1 - eT pl x e.2.1))) + enE pl x es
theorem aEz {n : Nat} {pl : Nat → Int} (hp : ∀ v, pl v < n) (x : Nat → Rat) : ∀ (es : List lZ) (A : Nat → Nat → Rat), qf n (nZ pl A es) x = qf n A x + enE pl x es
 | [], A => by rw [nZ, List.foldl_nil, enE]; grind
 | e :: es, A => by
  have ih := aEz hp x es (fX pl A e.1 e.2.1 e.2.2)
  rw [nZ] at ih
  rw [nZ, List.foldl_cons, ih, aEy hp, enE]
  grind
theorem aLm (x : Rat) : 0 ≤ x * x := by
 rcases (Rat.le_total : (0 : Rat) ≤ x ∨ x ≤ 0) with h | h
 ·exact Rat.mul_nonneg h h
 ·have h2 : 0 ≤ -x := by grind
  have h3 := Rat.mul_nonneg h2 h2
  grind
theorem aLn {pl : Nat → Int} {x : Nat → Rat} : ∀ {es : List lZ}, (∀ e ∈ es, 0 < e.2.2) → 0 ≤ enE pl x es
 | [], _ => by rw [enE]; exact Rat.le_refl
 | e :: es, h => by
  have ih := aLn (pl := pl) (x := x) fun e he => h e (List.mem_cons_of_mem _ he)
  have h1 : 0 ≤ e.2.2 := by have := h e List.mem_cons_self; grind
  rw [enE]
  split
  ·grind
  ·have := Rat.mul_nonneg h1 (aLm (eT pl x e.1 - eT pl x e.2.1))
   grind
theorem uE {pl : Nat → Int} {x : Nat → Rat} : ∀ {es : List lZ}, (∀ e ∈ es, 0 < e.2.2) → enE pl x es = 0 → ∀ e ∈ es, eT pl x e.1 = eT pl x e.2.1
 | [], _, _, e, he => by cases he
 | e :: es, h, hz, f, hf => by
  have h1 := aLn (pl := pl) (x := x) fun e he => h e (List.mem_cons_of_mem _ he)
  have h2 := h e List.mem_cons_self
  have h3 := aLm (eT pl x e.1 - eT pl x e.2.1)
  rw [enE] at hz
  by_cases hs : e.1 = e.2.1
  ·rw [if_pos hs] at hz
   have hz2 : enE pl x es = 0 := by grind
   rcases List.mem_cons.1 hf with rfl | hf
   ·rw [hs]
   ·exact uE (fun e he => h e (List.mem_cons_of_mem _ he)) hz2 f hf
  ·rw [if_neg hs] at hz
   have h4 : 0 ≤ e.2.2 := by grind
   have h5 := Rat.mul_nonneg h4 h3
   have hz2 : enE pl x es = 0 := by grind
   have hz3 : e.2.2 * ((eT pl x e.1 - eT pl x e.2.1) * (eT pl x e.1 - eT pl x e.2.1)) = 0 := by grind
   rcases List.mem_cons.1 hf with rfl | hf
   ·rcases Rat.mul_eq_zero.1 hz3 with k | k
    ·rw [k] at h2; exact absurd h2 (by decide)
    ·rcases Rat.mul_eq_zero.1 k with k | k <;> grind
   ·exact uE (fun e he => h e (List.mem_cons_of_mem _ he)) hz2 f hf
theorem vS {m : MQ} {n : Nat} (h : Rect m n n) {pl : Nat → Int} (hp : ∀ v, pl v < n) {es : List lZ} (hb : ∀ e ∈ es, 0 < e.2.2) (hm : ∀ i j, i < n → j < n → at2 m i j = nZ pl (fun _ _ => 0) es i j)
  (hc : ∀ x : Nat → Rat, (∀ e ∈ es, eT pl x e.1 = eT pl x e.2.1) → ∀ i, i < n → x i = 0) : det n (at2 m) ≠ 0 := by
 intro hd
 obtain ⟨x, hx, f, hf, hne⟩ := null_of_det h hd
 have hq : qf n (at2 m) x = 0 := gJ n fun a ha => by rw [hx a ha, Rat.mul_zero]
 have hq2 : qf n (nZ pl (fun _ _ => 0) es) x = 0 := by
  refine Eq.trans ?_ hq
  refine aY n fun a ha => ?_
  congr 1
  exact aY n fun b hb => by rw [hm a b ha hb]
 rw [aEz hp] at hq2
 have hz : qf n (fun _ _ => (0 : Rat)) x = 0 := gJ n fun a _ => by
  rw [gJ n fun b _ => Rat.zero_mul _, Rat.mul_zero]
 rw [hz] at hq2
 exact hne (hc x (uE hb (by grind)) f hf)
theorem vT {m : MQ} {n : Nat} (h : Rect m n n) {p : Int} (hp : p = -1 ∨ (0 ≤ p ∧ p < n)) (b : Rat) (a c : Nat) : at2 (cP m p b) a c = (if 0 ≤ p then dI (at2 m) p.toNat p.toNat b else at2 m) a c := by
 rw [cP]
 by_cases h0 : 0 ≤ p
 ·rw [if_pos h0, if_pos h0, qK h (by omega) (by omega), dI]
  by_cases e : a = p.toNat ∧ c = p.toNat
  ·rw [if_pos e, if_pos e, e.1, e.2]
  ·rw [if_neg e, if_neg e]
 ·rw [if_neg h0, if_neg h0]
theorem jJ {m : MQ} {n : Nat} (h : Rect m n n) {p : Int} (hp : p = -1 ∨ (0 ≤ p ∧ p < n)) (b : Rat) : Rect (cP m p b) n n := by
 rw [cP]
 split
 ·exact cR h (by omega) _ _
 ·exact h
theorem sV {m : MQ} {n : Nat} {free : List Int} (hl : free.length = n) (h : Rect m n n) (u v : Nat) (b : Rat) (a c : Nat) : at2 (iK free u v b m) a c = fX (fun x : Nat => Lib.idxOf free x) (at2 m) u v b a c := by
 obtain ⟨h1, h2, h3⟩ := mI hl (u : Int) (v : Int)
 rw [iK, fX]
 by_cases huv : u = v
 ·subst huv
  rw [if_pos rfl, if_pos rfl]
 ·rw [if_neg (fun k => huv (by omega)), if_neg huv]
  show at2 (qJ (cP (cP m (Lib.idxOf free (u : Int)) b) (Lib.idxOf free (v : Int)) b) (Lib.idxOf free (u : Int)) (Lib.idxOf free (v : Int)) b) a c = (if 0 ≤ Lib.idxOf free (u : Int) ∧ 0 ≤ Lib.idxOf free (v : Int) then dI (dI (if 0 ≤ Lib.idxOf free (v : Int) then dI (if 0 ≤ Lib.idxOf free (u : Int) then dI (at2 m) (Lib.idxOf free (u : Int)).toNat (Lib.idxOf free (u : Int)).toNat b else at2 m) (Lib.idxOf free (v : Int)).toNat (Lib.idxOf free (v : Int)).toNat b else (if 0 ≤ Lib.idxOf free (u : Int) then dI (at2 m) (Lib.idxOf free (u : Int)).toNat (Lib.idxOf free (u : Int)).toNat b else at2 m)) (Lib.idxOf free (u : Int)).toNat (Lib.idxOf free (v : Int)).toNat (-b)) (Lib.idxOf free (v : Int)).toNat (Lib.idxOf free (u : Int)).toNat (-b) else (if 0 ≤ Lib.idxOf free (v : Int) then dI (if 0 ≤ Lib.idxOf free (u : Int) then dI (at2 m) (Lib.idxOf free (u : Int)).toNat (Lib.idxOf free (u : Int)).toNat b else at2 m) (Lib.idxOf free (v : Int)).toNat (Lib.idxOf free (v : Int)).toNat b else (if 0 ≤ Lib.idxOf free (u : Int) then dI (at2 m) (Lib.idxOf free (u : Int)).toNat (Lib.idxOf free (u : Int)).toNat b else at2 m))) a c
  replace h3 := h3 (fun k => huv (by omega))
  generalize Lib.idxOf free (u : Int) = p at *
  generalize Lib.idxOf free (v : Int) = q at *
  have e1 := vT h h1 b
  have r1 := jJ h h1 b
  have e2 := vT r1 h2 b
  have r2 := jJ r1 h2 b
  have f1 : at2 (cP m p b) = (if 0 ≤ p then dI (at2 m) p.toNat p.toNat b else at2 m) := by
   funext i j
   exact e1 i j
  have f2 : at2 (cP (cP m p b) q b) = (if 0 ≤ q then dI (if 0 ≤ p then dI (at2 m) p.toNat p.toNat b else at2 m) q.toNat q.toNat b else (if 0 ≤ p then dI (at2 m) p.toNat p.toNat b else at2 m)) := by
   funext i j
   rw [e2 i j, f1]
  rw [qJ]
  by_cases hb : 0 ≤ p ∧ 0 ≤ q
  ·rw [if_pos hb, if_pos hb, qK (cR r2 (by omega) _ _) (by omega) (by omega), qK r2 (by omega) (by omega), f2]
   have hne : p.toNat ≠ q.toNat := fun k => h3 hb.1 (by omega)
   generalize (if 0 ≤ q then dI (if 0 ≤ p then dI (at2 m) p.toNat p.toNat b else at2 m) q.toNat q.toNat b else (if 0 ≤ p then dI (at2 m) p.toNat p.toNat b else at2 m)) = A
   unfold dI
   by_cases g1 : a = q.toNat ∧ c = p.toNat
   ·obtain ⟨rfl, rfl⟩ := g1
    rw [if_pos ⟨rfl, rfl⟩, if_pos ⟨rfl, rfl⟩, if_neg (fun k => hne k.2), Rat.sub_eq_add_neg]
   ·rw [if_neg g1, if_neg g1]
    by_cases g2 : a = p.toNat ∧ c = q.toNat
    ·rw [if_pos g2, if_pos g2, g2.1, g2.2, Rat.sub_eq_add_neg]
    ·rw [if_neg g2, if_neg g2]
  ·rw [if_neg hb, if_neg hb, f2]
def esL (frm tu : List Int) (B : List Rat) (k : Nat) : List lZ := (List.range k).map fun i => ((frm.getD i 0).toNat, (tu.getD i 0).toNat, B.getD i 0)
theorem lF {free frm tu : List Int} {B : List Rat} {n : Nat} (hl : free.length = n) : ∀ k, Rect (fF free frm tu B n k) n n
 | 0 => qL n
 | k + 1 => by
  have ih := lF (frm := frm) (tu := tu) (B := B) hl k
  rw [fF, iK]
  obtain ⟨h1, h2, _⟩ := mI hl (frm.getD k 0) (tu.getD k 0)
  split
  ·exact ih
  ·have r2 := jJ (jJ ih h1 (B.getD k 0)) h2 (B.getD k 0)
   rw [qJ]
   split
   ·exact cR (cR r2 (by omega) _ _) (by omega) _ _
   ·exact r2
theorem aAa (n a c : Nat) : at2 (gA n) a c = 0 := by
 unfold at2 gA
 by_cases h : a < n
 ·rw [gD (l := List.replicate n (List.replicate n 0)), List.getElem?_replicate, if_pos h, Option.getD_some, gD, List.getElem?_replicate]
  split <;> rfl
 ·rw [gD (l := List.replicate n (List.replicate n 0)), List.getElem?_replicate, if_neg h]
  rfl
theorem uF {free frm tu : List Int} {B : List Rat} {n : Nat} (hl : free.length = n) (h2 : ∀ x ∈ frm, 0 ≤ x) (h3 : ∀ x ∈ tu, 0 ≤ x) : ∀ k, k ≤ frm.length → k ≤ tu.length → at2 (fF free frm tu B n k) = nZ (fun x : Nat => Lib.idxOf free x) (fun _ _ => 0) (esL frm tu B k)
 | 0, _, _ => by
  funext a c
  exact aAa n a c
 | k + 1, k2, k3 => by
  have hu := h2 _ (bK (l := frm) (k := k) (by omega))
  have hv := h3 _ (bK (l := tu) (k := k) (by omega))
  obtain ⟨u, eu⟩ := Int.eq_ofNat_of_zero_le hu
  obtain ⟨v, ev⟩ := Int.eq_ofNat_of_zero_le hv
  have ih := uF (B := B) hl h2 h3 k (by omega) (by omega)
  have e : esL frm tu B (k + 1) = esL frm tu B k ++ [(u, v, B.getD k 0)] := by
   unfold esL
   rw [List.range_succ, List.map_append, List.map_cons, List.map_nil, eu, ev]
   rfl
  funext a c
  rw [fF, eu, ev, sV hl (lF hl k), ih, e, nZ, nZ, List.foldl_append]
  rfl
theorem aFa {n : NetD} (h : VNet n) (P : Int → Prop) (hP : ∀ b ∈ n.branches, (P (aR n b.src) ↔ P (aR n b.dst))) {u v : Int} (hu : 0 ≤ u ∧ u < (aA n).length) (hv : 0 ≤ v ∧ v < (aA n).length) (he : at_ (aA n) u = at_ (aA n) v) (hp : P u) : P v := by
 have hl := pO h
 have hm := kK (aC n)
 rw [uN h, mK (dY h) (by omega) (by omega)] at he
 refine he.keep P ?_ hp
 intro a k ha hk hi
 have hk2 : k.toNat < n.branches.length := by
  have h1 := hk.1
  have h2 := hk.2.1
  simp [aD] at h2
  omega
 have e : bY (aD n) k = (aR n n.branches[k.toNat].src, aR n n.branches[k.toNat].dst) := by
  rw [bY, gD, aD, List.getElem?_map, gE hk2]
  rfl
 have h3 := hP n.branches[k.toNat] (List.getElem_mem hk2)
 rw [pM, e] at hi
 unfold nxt
 rw [e]
 rcases hi with hi | hi
 ·simp only at hi ⊢
  rw [hi] at h3 ⊢
  have : a + aR n n.branches[k.toNat].dst - a = aR n n.branches[k.toNat].dst := by omega
  rw [this]
  exact h3.1 ha
 ·simp only at hi ⊢
  rw [hi] at h3 ⊢
  have : aR n n.branches[k.toNat].src + a - a = aR n n.branches[k.toNat].src := by omega
  rw [this]
  exact h3.2 ha
theorem iS {isl : List Int} {x : Int} : ∀ {k : Nat}, x ∈ eO isl k ↔ ∃ j : Nat, j < k ∧ x = j ∧ (isl.take j).contains (isl.getD j 0) = true
 | 0 => by simp [eO]
 | k + 1 => by
  rw [eO, List.mem_append, iS]
  constructor
  ·rintro (⟨j, h1, h2, h3⟩ | h)
   ·exact ⟨j, by omega, h2, h3⟩
   ·split at h
    ·rename_i hc
     exact ⟨k, by omega, List.mem_singleton.1 h, hc⟩
    ·cases h
  ·rintro ⟨j, h1, h2, h3⟩
   by_cases e : j < k
   ·exact .inl ⟨j, e, h2, h3⟩
   ·obtain rfl : j = k := by omega
    right
    rw [if_pos h3, h2]
    exact List.mem_singleton.2 rfl
theorem aNv (isl : List Int) : ∀ (u : Nat), u < isl.length → ∃ r : Nat, r ≤ u ∧ isl.getD r 0 = isl.getD u 0 ∧ (r : Int) ∉ eO isl isl.length := by
 intro u
 induction u using Nat.strongRecOn with
 | ind u ih =>
  intro hu
  by_cases hf : (u : Int) ∈ eO isl isl.length
  ·obtain ⟨j, h1, h2, h3⟩ := iS.1 hf
   obtain rfl : u = j := by omega
   have hm : isl.getD u 0 ∈ isl.take u := by simpa using h3
   obtain ⟨j, hj, e⟩ := List.getElem_of_mem hm
   rw [List.length_take] at hj
   rw [List.getElem_take] at e
   obtain ⟨r, h4, h5, h6⟩ := ih j (by omega) (by omega)
   refine ⟨r, by omega, ?_, h6⟩
   rw [h5, gD, gE (by omega), ← e]
   rfl
  ·exact ⟨u, Nat.le_refl _, rfl, hf⟩
theorem kF (isl : List Int) : ∀ k, (eO isl k).Nodup
 | 0 => List.nodup_nil
 | k + 1 => by
  rw [eO, List.nodup_append]
  refine ⟨kF isl k, by split <;> simp, fun x hx y hy e => ?_⟩
  subst e
  obtain ⟨j, h1, h2, _⟩ := iS.1 hx
  split at hy
  ·have := List.mem_singleton.1 hy
   omega
  ·cases hy
theorem sW {x : Int} : ∀ (zs : List Int) (i : Nat), Lib.idxFrom zs x i = -1 → x ∉ zs
 | [], _, _ => by simp
 | z :: zs, i, h => by
  rw [Lib.idxFrom] at h
  split at h
  ·omega
  ·rename_i hz
   have := sW zs (i + 1) h
   simp only [List.mem_cons, not_or]
   refine ⟨fun e => ?_, this⟩
   subst e
   simp at hz
theorem aFb {zs : List Int} {x : Int} (h : x ∉ zs) : Lib.idxOf zs x = -1 := by
 rcases eW zs x with h1 | h1
 ·exact h1
 ·have h2 := fG x zs 0 (by simpa [Lib.idxOf] using h1.1)
  have h3 : (Lib.idxFrom zs x 0).toNat - 0 < zs.length := by have := h1; unfold Lib.idxOf at this; omega
  exact absurd (h2 ▸ bK h3) h
theorem vU {zs : List Int} (hd : zs.Nodup) {i : Nat} (hi : i < zs.length) : Lib.idxOf zs (zs.getD i 0) = i := by
 rcases eW zs (zs.getD i 0) with h1 | h1
 ·exact absurd (bK hi) (sW zs 0 h1)
 ·have h2 := fG (zs.getD i 0) zs 0 (by simpa [Lib.idxOf] using h1.1)
  change zs.getD ((Lib.idxOf zs (zs.getD i 0)).toNat - 0) 0 = zs.getD i 0 at h2
  have h3 : (Lib.idxOf zs (zs.getD i 0)).toNat < zs.length := by omega
  rw [Nat.sub_zero] at h2
  obtain ⟨p, hp⟩ : ∃ p, p = (Lib.idxOf zs (zs.getD i 0)).toNat := ⟨_, rfl⟩
  rw [← hp] at h2 h3
  rw [gD, gE h3, gD, gE hi] at h2
  have h4 := (List.getElem_inj (h₀ := h3) (h₁ := hi) hd).1 (by simpa using h2)
  omega
theorem aFc {q : Rat} (h : 0 < q.num) : 0 < q := by
 rw [Rat.lt_iff]
 simpa using h
theorem aMb (a : Int) {d : Int} (hd : 0 < d) : (Rat.divInt a d).num * d = a * ((Rat.divInt a d).den : Int) := by
 have h := Rat.num_divInt_den (Rat.divInt a d)
 exact (Rat.divInt_eq_divInt_iff (by have := den_pos (Rat.divInt a d); omega) (by omega)).1 h
theorem aMc {b : BranchD} (h : bI b = true) : 0 < bQ b := by
 have hp := iC h
 have hc := aMb 1000000 (show 0 < b.x * b.tap by omega)
 have hd := den_pos (Rat.divInt 1000000 (b.x * b.tap))
 refine aFc ?_
 show 0 < (Rat.divInt 1000000 (b.x * b.tap)).num
 refine Int.not_le.1 fun k => ?_
 have := Int.mul_le_mul_of_nonneg_right k (show 0 ≤ b.x * b.tap by omega)
 omega
def fwM (n : NetD) : MQ := fF (aI n) (bU n) (toL n) (bLQ n) (aI n).length n.branches.length
theorem iD (n : NetD) : Rect (fwM n) (aI n).length (aI n).length := lF rfl _
theorem yF {n : NetD} (h : VNet n) : det (aI n).length (at2 (fwM n)) ≠ 0 := by
 have hfl : (bU n).length = n.branches.length := by simp [bU]
 have htl : (toL n).length = n.branches.length := by simp [toL]
 have hmem : ∀ e ∈ esL (bU n) (toL n) (bLQ n) n.branches.length, ∃ b ∈ n.branches, e = ((aR n b.src).toNat, (aR n b.dst).toNat, bQ b) := by
  intro e he
  obtain ⟨i, hi, rfl⟩ := List.mem_map.1 he
  have hi := List.mem_range.1 hi
  refine ⟨n.branches[i], List.getElem_mem hi, ?_⟩
  simp [bU, toL, bLQ, hi]
 have hall : ∀ b ∈ n.branches, ((aR n b.src).toNat, (aR n b.dst).toNat, bQ b) ∈ esL (bU n) (toL n) (bLQ n) n.branches.length := by
  intro b hb
  obtain ⟨i, hi, rfl⟩ := List.getElem_of_mem hb
  refine List.mem_map.2 ⟨i, List.mem_range.2 hi, ?_⟩
  simp [bU, toL, bLQ, hi]
 refine vS (iD n) (pl := fun x : Nat => Lib.idxOf (aI n) x) (fun v => by have := eW (aI n) v; omega) (es := esL (bU n) (toL n) (bLQ n) n.branches.length) ?_ (fun i j _ _ => by rw [fwM, uF rfl (fun x hx => (uC h x hx).1) (fun x hx => (uD h x hx).1) _ (by omega) (by omega)]) ?_
 ·intro e he
  obtain ⟨b, hb, rfl⟩ := hmem e he
  exact aMc (h.br b hb).2.2.2
 ·intro x hx i hi
  obtain ⟨u, hul, hu, _⟩ := iS.1 (bK (l := aI n) hi)
  obtain ⟨r, hr, he, hrf⟩ := aNv (aA n) u hul
  have hr0 : eT (fun x : Nat => Lib.idxOf (aI n) x) x r = 0 := by
   rw [eT, if_neg]
   rw [show Lib.idxOf (aI n) (r : Int) = -1 from aFb hrf]
   decide
  have hk := aFa h (fun w => eT (fun x : Nat => Lib.idxOf (aI n) x) x w.toNat = 0) (fun b hb => by
   have := hx _ (hall b hb)
   simp only at this ⊢
   rw [this]) (u := (r : Int)) (v := (u : Int)) (by omega) (by omega) (by unfold at_; rw [Int.toNat_natCast, Int.toNat_natCast]; exact he) (by show eT _ x ((r : Int).toNat) = 0; rw [Int.toNat_natCast]; exact hr0)
  simp only [Int.toNat_natCast] at hk
  have hg := vU (kF (aA n) (aA n).length) hi
  change Lib.idxOf (aI n) ((aI n).getD i 0) = i at hg
  rw [hu] at hg
  rw [eT, hg, if_pos (by omega), Int.toNat_natCast] at hk
  exact hk
theorem aMd {n : NetD} (h : VNet n) : rV (fwM n) (aI n).length = (sF (fwM n) (aI n).length, true) := by
 rw [rV, if_neg (fun k => yF h ((aBi (iD n)).1 k))]
theorem pI {D : Rat} {N : Nat} {A : Nat → Nat → Rat} (h : ∀ a c, IF N (D * A a c)) {b : Rat} (hb : IF N (D * b)) (i j a c : Nat) : IF (N + 1) (D * dI A i j b a c) := by
 unfold dI
 split
 ·rw [Rat.mul_add]
  exact (h a c).add hb
 ·exact (h a c).mono (by omega)
theorem aCc {D : Rat} {N : Nat} {A : Nat → Nat → Rat} (h : ∀ a c, IF N (D * A a c)) {b : Rat} (hb : IF N (D * b)) (pl : Nat → Int) (u v a c : Nat) : IF (N + 4) (D * fX pl A u v b a c) := by
 have hn : IF N (D * -b) := by rw [Rat.mul_neg]; exact hb.neg
 unfold fX
 split
 ·exact (h a c).mono (by omega)
 ·have h1 : ∀ a c, IF (N + 1) (D * (if 0 ≤ pl u then dI A (pl u).toNat (pl u).toNat b else A) a c) := fun a c => by
   split
   ·exact pI h hb _ _ a c
   ·exact (h a c).mono (by omega)
  have h2 : ∀ a c, IF (N + 2) (D * (if 0 ≤ pl v then dI (if 0 ≤ pl u then dI A (pl u).toNat (pl u).toNat b else A) (pl v).toNat (pl v).toNat b else (if 0 ≤ pl u then dI A (pl u).toNat (pl u).toNat b else A)) a c) := fun a c => by
   split
   ·exact pI h1 (hb.mono (by omega)) _ _ a c
   ·exact (h1 a c).mono (by omega)
  simp only
  split
  ·exact pI (pI h2 (hn.mono (by omega)) _ _) (hn.mono (by omega)) _ _ a c
  ·exact (h2 a c).mono (by omega)
theorem aAb {free frm tu : List Int} {B : List Rat} {n : Nat} (hl : free.length = n) (h2 : ∀ x ∈ frm, 0 ≤ x) (h3 : ∀ x ∈ tu, 0 ≤ x) {D : Rat} (hB : ∀ k, IF 26 (D * B.getD k 0)) : ∀ k, k ≤ frm.length → k ≤ tu.length → ∀ a c, IF (26 + 4 * k) (D * at2 (fF free frm tu B n k) a c)
 | 0, _, _, a, c => by rw [fF, aAa, Rat.mul_zero]; exact IF.zero _
 | k + 1, k2, k3, a, c => by
  obtain ⟨u, eu⟩ := Int.eq_ofNat_of_zero_le (h2 _ (bK (l := frm) (k := k) (by omega)))
  obtain ⟨v, ev⟩ := Int.eq_ofNat_of_zero_le (h3 _ (bK (l := tu) (k := k) (by omega)))
  rw [fF, eu, ev, sV hl (lF hl k)]
  exact (aCc (aAb hl h2 h3 hB k (by omega) (by omega)) ((hB k).mono (by omega)) _ u v a c).mono (by omega)
theorem vV {n : NetD} (h : VNet n) : ∀ x ∈ bLQ n, FitR 1 x := fun x hx => by
 obtain ⟨b, hb, rfl⟩ := List.mem_map.1 hx
 exact yE (h.br b hb).2.2.2
theorem aFd {n : NetD} (h : VNet n) : Whole (aI n).length 130 (at2 (cY (fwM n) (aI n).length)) (fun _ => (bX (bLQ n) : Rat)) := by
 have hb := h.hb
 have hlen : (bLQ n).length = n.branches.length := by simp [bLQ]
 have hD : IF 26 ((bX (bLQ n) : Nat) : Rat) := by
  have h1 := lO (bLQ n) (vV h)
  exact IF.mono ⟨_, rfl, h1⟩ (by omega)
 refine ⟨fun i _ e => ?_, fun i _ => hD.mono (by omega), fun i j hi => ?_⟩
 ·have := lP (bLQ n)
  have e : bX (bLQ n) = 0 := by exact_mod_cast e
  omega
 ·rw [nK (iD n) hi]
  split
  ·exact (aAb rfl (fun x hx => (uC h x hx).1) (fun x hx => (uD h x hx).1) (fun k => (xD _ (vV h) hlen k).mono (by omega)) _ (by simp [bU]) (by simp [toL]) i j).mono (by omega)
  ·split
   ·rw [Rat.mul_one]; exact hD.mono (by omega)
   ·rw [Rat.mul_zero]; exact IF.zero _
theorem aFe {n : NetD} (h : VNet n) (i j : Nat) (hi : i < (aI n).length) : FitR 4000 (at2 (sF (fwM n) (aI n).length) i j) := by
 have hf := gO (aA n) (aA n).length
 have hl := iM h
 obtain ⟨π, δ, ε, hI⟩ := (fD (eR (iD n)) (aI n).length).inv
 rw [aBh]
 refine (aBe hI (aFd h) i _ hi).mono ?_
 have hfl : (aI n).length ≤ 24 := by unfold aI; omega
 have := Nat.mul_le_mul hfl (show 130 + (aI n).length + 1 ≤ 155 by omega)
 omega
end
section
open Go.RowKit
section
variable {w : World} {base g : Nat} {rs : Nat → Value} {is : Nat → List Int} {qs : Nat → Value} {ts : Nat → List Rat} {iv : Value}
theorem MS.cI (h : MS w base g rs is qs ts iv) {j : Nat} (hj : j < 5) : ∃ A c, w.cell? ⟨g, ixM j, none⟩ = some (.slice A (is j).length c) ∧ Reads w w.heap.size 1 A (is j).length ((is j).map I) := by
 obtain ⟨A, c, e, hr⟩ := h.ints hj
 exact ⟨A, c, by rw [← e]; exact h.cellI hj, hr⟩
end
theorem buses_fw (base g : Nat) (rs : Nat → Value) (is : Nat → List Int) (qs : Nat → Value) (ts : Nat → List Rat) (iv : Value) (w : World) (h : MS w base g rs is qs ts iv) (_hl : (is 1).length ≤ 1000) :
  Calls Tryz.prog 92 #[.pointer (some ⟨g, 0, none⟩)] w fun e w' => e = .returned (I ((is 1).length : Nat)) ∧ w' = w := by
 obtain ⟨A, c, c1, -⟩ := h.cI (j := 1) (by decide)
 change w.cell? ⟨g, 1, none⟩ = _ at c1
 clear h
 generalize (is 1).length = n1 at *
 go_enter Tryz.func92, Tryz.ntmps92
 go_wp2
 go_ret
 exact ⟨rfl, rfl⟩
def cJ (free : List Int) (r : List Rat) : List Rat := free.map fun f => r.getD f.toNat 0
def thK (nb : Nat) (free : List Int) (inv : MQ) (x : List Rat) : Nat → List Rat
 | 0 => List.replicate nb 0
 | k + 1 => (thK nb free inv x k).set (free.getD k 0).toNat (rN (inv.getD k []) x)
theorem pJ (nb : Nat) (free : List Int) (inv : MQ) (x : List Rat) : ∀ k, (thK nb free inv x k).length = nb
 | 0 => by simp [thK]
 | k + 1 => by rw [thK, List.length_set]; exact pJ nb free inv x k
def thQ (nb : Nat) (free : List Int) (inv : MQ) (r : List Rat) : List Rat := thK nb free inv (cJ free r) free.length
theorem aCd {free : List Int} {k : Nat} (r : List Rat) (hk : k < free.length) : cJ (free.take (k + 1)) r = cJ (free.take k) r ++ [r.getD (free.getD k 0).toNat 0] := by
 unfold cJ
 rw [List.take_add_one, gE hk, List.map_append, gD (l := free), gE hk]
 rfl
theorem aJh (base g : Nat) (rs : Nat → Value) (is : Nat → List Int) (qs : Nat → Value) (ts : Nat → List Rat) (iv : Value) (inv : MQ) (vs : List Value) (r : List Rat) (A : Option Addr) (c nb nf : Nat) (w : World) (h : MS w base g rs is qs ts iv) (hL : LM w base iv vs inv)
  (hr : RV w A nb r) (hnb : (is 1).length = nb) (hb : nb ≤ 1000) (hnf : (is 4).length = nf) (hf4 : nf ≤ 1000) (hin : Rect inv nf nf) (hfr : ∀ x ∈ is 4, 0 ≤ x ∧ x < nb) {N : Nat} (hN : N ≤ 40000000) (hf : ∀ k, k < nf → DotFit N (inv.getD k []) (cJ (is 4) r)) :
  Calls Tryz.prog 135 #[.pointer (some ⟨g, 0, none⟩), .slice A nb c] w (zB w (thQ nb (is 4) inv r)) := by
 have hmk := xA nf (by omega)
 have HP := aH (Part.start w nf)
 have HS := aH h
 have HL := aH hL
 have HRV := aH hr
 have HF := aH hf
 have HIN := aH hin
 have HFR := aH hfr
 obtain ⟨A4, k4, e4, hr4⟩ := h.ints (j := 4) (by decide)
 rw [hnf] at hr4 e4
 have HR4 := aH hr4
 have HE4 := aH e4
 have hbg := h.ge
 have c4 : w.cell? ⟨g, 6, none⟩ = some (.slice A4 nf k4) := by rw [← e4]; exact h.cellI (j := 4) (by decide)
 clear e4
 clear h hL hr hf hin hfr hr4
 unfold bM at hmk
 go_enter Tryz.func135, Tryz.ntmps135
 go_upto_region 2 with (fail)
 clear hmk
 have HC4 := aH ((aB c4 HP.out.below))
 have c4 := HC4.out
 go_wp2
 clear c4 HC4
 go_loopg [22] (nf - 0) (fun q v wr => ∃ k : Nat, q = nf - k ∧ v = I k ∧ k ≤ nf ∧ Hid (Part w w.heap.size nf (cJ ((is 4).take k) r) wr))
 case atStart => exact ⟨0, rfl, rfl, by omega, HP⟩
 case round =>
  clear HP
  obtain ⟨k, rfl, rfl, hk, HP⟩ := hrel
  obtain ⟨wa, rfl⟩ := wE wr
  by_cases hlt : k < nf
  ·obtain ⟨b4, o4, rfl, _, h4⟩ := (HR4.out.below HP.out.below).int_at hlt
   obtain ⟨hj0, hj1⟩ := HFR.out _ (bK (l := is 4) (k := k) (by omega))
   have HX := aH (aCd r (show k < (is 4).length by omega))
   obtain ⟨jf, hjf⟩ : ∃ jf : Nat, (is 4).getD k 0 = jf := Int.eq_ofNat_of_zero_le hj0
   rw [hjf] at hj1 h4 HX
   rw [Int.toNat_natCast] at HX
   have hjn : jf < nb := by omega
   have hrl := HRV.out.len
   obtain ⟨q, hq⟩ : ∃ q, r[jf]? = some q := ⟨_, gE (by omega)⟩
   rw [gD, hq, Option.getD_some] at HX
   obtain ⟨br, or, n0, B1, l1, d1, B2, l2, d2, e, _, hC, hrt⟩ := (HRV.out.below HP.out.below).form hjn q hq
   subst e
   have u0 := hC.c0
   have u1 := hC.c1
   have u2 := hC.c2
   have u3 := hC.c3
   obtain ⟨o0, o1, o2, o3, hC2⟩ := HP.out.cells hlt
   have z0 := hC2.c0
   have z1 := hC2.c1
   have z2 := hC2.c2
   have z3 := hC2.c3
   have y0 := HP.out.frozen (k * 4)
   have y1 := HP.out.frozen (k * 4 + 1)
   have y2 := HP.out.frozen (k * 4 + 2)
   have y3 := HP.out.frozen (k * 4 + 3)
   have hpl : (cJ ((is 4).take k) r).length = k := by unfold cJ; rw [List.length_map, List.length_take]; omega
   have hp := HP.out.put (by omega) lR hrt
   rw [hpl, ← HX.out] at hp
   have HN := aH hp
   unfold put4 at HN
   clear hC hC2 hrt hp hq hjf hj0 hj1 hpl HX HP hrl
   go_wp2
   go_roundg (nf - (k + 1))
   case measure => omega
   case rel => exact ⟨k + 1, rfl, by go_num, by omega, HN⟩
  ·have hkn : k = nf := by omega
   subst hkn
   have HXR := aH (HP.out.row (by unfold cJ; rw [List.length_map, List.length_take]; omega) lR (by unfold maxLen; omega))
   have HB := aH HP.out.below
   rw [List.take_of_length_le (by omega)] at HXR
   clear HP
   have HSA := aH (HS.out.call HB.out)
   have HC := aH (buses_fw base g rs is qs ts iv wa HSA.out (by omega))
   go_wp2_with fail
   refine HC.out.mono ?_
   rintro e w1 ⟨rfl, rfl⟩
   clear HC
   obtain ⟨wa, rfl⟩ : ∃ z : World, z = w1 := ⟨_, rfl⟩
   rw [hnb]
   have HZ := aH (jB nb wa (by omega))
   go_wp2_with fail
   refine HZ.out.mono ?_
   rintro e w2 ⟨v8, rfl, hr8, hb⟩
   clear HZ
   obtain ⟨A8, c8, rfl⟩ := hr8.val
   rw [List.length_replicate] at hr8 ⊢
   obtain ⟨b1, hb1⟩ : ∃ q, q = wa.heap.size := ⟨_, rfl⟩
   have hwb := HB.out.size
   have HR8 := aH (show RRow w2 wa.heap.size (.slice A8 nb c8) (thK nb (is 4) inv (cJ (is 4) r) 0) from hr8)
   have HB2 := aH hb
   skip
   have c5 : w2.cell? ⟨g, 6, none⟩ = some (.slice A4 k k4) := by rw [← HE4.out]; exact (HSA.out.call hb).cellI (j := 4) (by decide)
   clear hr8 hb hb1 b1
   go_wp2
   clear c5
   go_loopg [43] (k - 0) (fun q v wr => ∃ j : Nat, q = k - j ∧ v = I j ∧ j ≤ k ∧ Hid (RRow wr wa.heap.size (.slice A8 nb c8) (thK nb (is 4) inv (cJ (is 4) r) j)) ∧ Hid (Below wa.heap.size wa wr))
   case atStart => exact ⟨0, rfl, rfl, by omega, HR8, HB2⟩
   case round =>
    clear HR8 HB2
    obtain ⟨j, rfl, rfl, hj, HR8, HB2⟩ := hrel
    obtain ⟨wb, rfl⟩ := wE wr
    have HBW := aH (HB.out.trans (HB2.out.mono hwb))
    by_cases hlt : j < k
    ·obtain ⟨b4, o4, rfl, _, h4⟩ := (HR4.out.below HBW.out).int_at hlt
     obtain ⟨hj0, hj1⟩ := HFR.out _ (bK (l := is 4) (k := j) (by omega))
     have HX := aH (show thK nb (is 4) inv (cJ (is 4) r) (j + 1) = (thK nb (is 4) inv (cJ (is 4) r) j).set ((is 4).getD j 0).toNat (rN (inv.getD j []) (cJ (is 4) r)) from rfl)
     obtain ⟨jf, hjf⟩ : ∃ jf : Nat, (is 4).getD j 0 = jf := Int.eq_ofNat_of_zero_le hj0
     rw [hjf] at hj1 h4 HX
     rw [Int.toNat_natCast] at HX
     have hjn : jf < nb := by omega
     obtain ⟨gi, oi, ci, B, cB, e, _, _, hu, hc, _, hrow⟩ := (HL.out.call HBW.out).at_ (i := j) (by rw [HIN.out.1]; exact hlt)
     have c7 : wb.cell? ⟨g, 7, none⟩ = some iv := by rw [(HS.out.call HBW.out).blk.cell]; rfl
     rw [e] at c7
     rw [HIN.out.1] at c7
     rw [HIN.out.rowlen hlt] at hc hrow
     have HC := aH (aKq (inv.getD j []) (cJ (is 4) r) k B (some ⟨w.heap.size, 0, none⟩) cB k k wb hrow.rv (HXR.out.call HB2.out).rv lR (by omega) hN (HF.out j hlt))
     obtain ⟨b8, o8, c9, n8, B1, l1, d1, B2, l2, d2, e8, hE, hb8, hbl8⟩ := HR8.out.el (pJ _ _ _ _ _) hjn
     injection e8 with e8 _ e9
     subst e8 e9
     have HE8 := aH hE
     clear e hu hrow hE hjf hj0 hj1
     go_wp2_with fail
     refine HC.out.mono ?_
     rintro e W3 ⟨vq, rfl, hv, hb⟩
     clear HC
     obtain ⟨tb, T1, t1, u1, T2, t2, u2, rfl⟩ := hv.bools
     have hEl := HE8.out.below hb
     obtain ⟨hput, hkw, hbe⟩ := (HR8.out.call hb).putEl (k := jf) hjn hv
     rw [← HX.out] at hput
     have HN := aH hput
     have HBN := aH (cG (o := o8 + jf * 4) (HB2.out.trans (hb.mono HB2.out.size)) hb8 (.bool tb) (.slice T1 t1 u1) (.bool false) (.slice T2 t2 u2))
     have z0 := hEl.c0
     have z1 := hEl.c1
     have z2 := hEl.c2
     have z3 := hEl.c3
     have y0 := hEl.f0
     have y1 := hEl.f1
     have y2 := hEl.f2
     have y3 := hEl.f3
     unfold put4 at HN HBN
     clear hEl hput hkw hbe hv hb HE8 HX HR8 HB2 HBW h4 hc c7
     go_wp2
     go_roundg (k - (j + 1))
     case measure => omega
     case rel => exact ⟨j + 1, rfl, by go_num, by omega, HN, HBN⟩
    ·have hjk : j = k := by omega
     subst hjk
     have HEND := aH (show zB w (thQ nb (is 4) inv r) (.returned (.slice A8 nb c8)) wb from ⟨_, rfl, by
      have h := HR8.out.less hwb
      unfold thQ
      rw [hnf]
      exact h, HBW.out⟩)
     clear HR8 HB2 HBW
     go_wp2
     go_ret
     exact HEND.out
def FitL (N : Nat) (l : List Rat) : Prop := ∀ i, FitR N (l.getD i 0)
theorem FitL.mono {N M : Nat} {l : List Rat} (h : FitL N l) (hm : N ≤ M) : FitL M l := fun i => (h i).mono hm
theorem FitL.set {N : Nat} {l : List Rat} (h : FitL N l) (j : Nat) {x : Rat} (hx : FitR N x) : FitL N (l.set j x) := fun i => by
 by_cases e : i < l.length
 ·by_cases e2 : j = i
  ·subst e2
   rw [gD, List.getElem?_set_self e]
   exact hx
  ·rw [gD, List.getElem?_set_ne e2, ← gD]
   exact h i
 ·rw [gD, List.getElem?_eq_none (by rw [List.length_set]; omega)]
  have := h i
  rw [gD, List.getElem?_eq_none (by omega)] at this
  exact this
end
end Go.Proofs.YtenbglfkdldheaaGreatDoor
