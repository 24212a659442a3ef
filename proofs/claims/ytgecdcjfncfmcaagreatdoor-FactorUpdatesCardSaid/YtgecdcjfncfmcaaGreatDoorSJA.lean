/- More on determinants of matrices given as functions: along the first row, the transposed matrix, dependent rows, Cramer's rule; alternating forms. Plain facts. No program here. Elimination in plain Lean: what lin.Reduce computes, and what stays true. No program here. lin.Reduce on lists of rows. No program here. The sizes of the numbers of an elimination: quotients of minors. No program here. All numbers of an elimination are of at most 700000 words. No program here. Determinants of products, rank and transposed matrices, kernels: plain facts from eliminations. No program here. Eliminations of the first columns alone; columns without pivots; vectors of the kernel. No program here. The states within one column of an elimination. No program here. What lin.Det computes is the determinant. No program here. Package solve in plain Lean: what its functions answer, and the law of systems. No program here. Package solve in plain Lean: bases and kernels. No program here. Package solve in plain Lean: inverses and determinants. No program here. Package factor in plain Lean: a regular matrix, its inverse and its determinant; updates. No program here. -/
import Derived.Test.YtgecdcjfncfmcaaGreatDoorJP
import Derived.Test.YtgecdcjfncfmcaaGreatDoorJK
namespace Go.Proofs.YtgecdcjfncfmcaaGreatDoor

theorem sg_succ (i : Nat) : sg (i + 1) = - sg i := by
  unfold sg
  rcases Nat.mod_two_eq_zero_or_one i with h1 | h1
  · have h2 : ¬ (i + 1) % 2 = 0 := by omega
    rw [if_pos h1, if_neg h2]
  · have h2 : (i + 1) % 2 = 0 := by omega
    have h3 : ¬ i % 2 = 0 := by omega
    rw [if_neg h3, if_pos h2]; grind
theorem sk_zero (r : Nat) : sk 0 r = r + 1 := by unfold sk; rw [if_neg (by omega)]
theorem sk_succ_zero (i : Nat) : sk (i + 1) 0 = 0 := by unfold sk; rw [if_pos (by omega)]
theorem sk_succ (i r : Nat) : sk (i + 1) (r + 1) = sk i r + 1 := by
  unfold sk
  by_cases h : r < i
  · rw [if_pos h, if_pos (by omega)]
  · rw [if_neg h, if_neg (by omega)]
/-- the determinant along the first row -/
theorem det_row : ∀ (n : Nat) (A : Nat → Nat → Rat), det (n + 1) A = sm (n + 1) fun j => sg j * A 0 j * det n (fun r c => A (r + 1) (sk j c)) := by
  intro n
  induction n with
  | zero => intro A; simp only [det, sm]
  | succ n ih =>
    intro A
    rw [det, sm_head _ (n + 1), sm_head _ (n + 1)]
    have e1 : ∀ i, det (n + 1) (fun r c => A (sk (i + 1) r) (c + 1)) = sm (n + 1) fun j => sg j * A 0 (j + 1) * det n (fun r c => A (sk i r + 1) (sk j c + 1)) := fun i => by
      rw [ih]
      refine sm_congr _ fun j _ => ?_
      rw [sk_succ_zero]
      congr 2
      funext r c
      rw [sk_succ]
    have e2 : ∀ j, det (n + 1) (fun r c => A (r + 1) (sk (j + 1) c)) = sm (n + 1) fun i => sg i * A (i + 1) 0 * det n (fun r c => A (sk i r + 1) (sk j c + 1)) := fun j => by
      rw [det]
      refine sm_congr _ fun i _ => ?_
      rw [sk_succ_zero]
      congr 2
      funext r c
      rw [sk_succ]
    rw [show (fun r c => A (sk 0 r) (c + 1)) = fun r c => A (r + 1) (sk 0 c) by funext r c; rw [sk_zero, sk_zero]]
    congr 1
    simp only [e1, e2, ← sm_mul]
    rw [sm_comm]
    refine sm_congr _ fun j _ => sm_congr _ fun i _ => ?_
    rw [sg_succ, sg_succ]
    grind
/-- the transposed matrix has the same determinant -/
theorem det_tr : ∀ (n : Nat) (A : Nat → Nat → Rat), det n (fun i j => A j i) = det n A := by
  intro n
  induction n with
  | zero => intro A; rfl
  | succ n ih =>
    intro A
    rw [det, det_row]
    refine sm_congr _ fun i _ => ?_
    rw [← ih]
/-- an alternating form of n rows -/
structure Alt (n : Nat) (F : (Nat → Nat → Rat) → Rat) : Prop where
  lin : ∀ (a b : Rat) (u v : Nat → Rat) (A : Nat → Nat → Rat) (k : Nat), k < n → F (upd A k (fun j => a * u j + b * v j)) = a * F (upd A k u) + b * F (upd A k v)
  same : ∀ (A : Nat → Nat → Rat) (i k : Nat), i < n → k < n → i ≠ k → A i = A k → F A = 0
  congr : ∀ (A B : Nat → Nat → Rat), (∀ i, i < n → A i = B i) → F A = F B
section
variable {n : Nat} {F : (Nat → Nat → Rat) → Rat}
theorem Alt.smul (h : Alt n F) (a : Rat) (A : Nat → Nat → Rat) {k : Nat} (hk : k < n) (u : Nat → Rat) : F (upd A k (fun j => a * u j)) = a * F (upd A k u) := by
  have e := h.lin a 0 u u A k hk
  rw [show (fun j => a * u j + 0 * u j) = fun j => a * u j by funext j; grind] at e
  rw [e]; grind
theorem Alt.zero_row (h : Alt n F) {A : Nat → Nat → Rat} {i : Nat} (hi : i < n) (hz : ∀ j, A i j = 0) : F A = 0 := by
  have e := h.smul 0 A hi (A i)
  rw [show (fun j => 0 * A i j) = A i by funext j; rw [hz]; grind, upd_self] at e
  rw [e]; grind
theorem Alt.addrow (h : Alt n F) (A : Nat → Nat → Rat) {i k : Nat} (hi : i < n) (hk : k < n) (hne : i ≠ k) (a : Rat) : F (upd A i (fun j => A i j + a * A k j)) = F A := by
  have e := h.lin 1 a (A i) (A k) A i hi
  rw [show (fun j => 1 * A i j + a * A k j) = fun j => A i j + a * A k j by funext j; grind] at e
  rw [e, upd_self, h.same (upd A i (A k)) i k hi hk hne (by rw [upd_same, upd_ne _ _ (Ne.symm hne)])]
  grind
theorem Alt.swap (h : Alt n F) (A : Nat → Nat → Rat) {i k : Nat} (hi : i < n) (hk : k < n) (hne : i ≠ k) : F (upd (upd A i (A k)) k (A i)) = - F A := by
  have hz : ∀ u : Nat → Rat, F (upd (upd A i u) k u) = 0 := fun u => h.same _ i k hi hk hne (by
    rw [upd_same, upd_ne _ _ hne, upd_same])
  have h1 := hz (fun j => 1 * A i j + 1 * A k j)
  rw [h.lin 1 1 _ _ _ _ hk, upd_comm A hne _ (A i), upd_comm A hne _ (A k), h.lin 1 1 _ _ _ _ hi, h.lin 1 1 _ _ _ _ hi] at h1
  rw [(upd_comm A hne (A i) (A i)).symm, (upd_comm A hne (A k) (A k)).symm, hz, hz] at h1
  have e1 : upd (upd A k (A k)) i (A i) = A := by rw [upd_self, upd_self]
  rw [e1] at h1
  rw [upd_comm A hne]
  grind
/-- multiples of row r are taken from the first m rows -/
theorem Alt.elim_ (h : Alt n F) (A : Nat → Nat → Rat) (g : Nat → Rat) {r : Nat} (hr : r < n) : ∀ m, m ≤ n → F (fun i j => if i = r ∨ m ≤ i then A i j else A i j - g i * A r j) = F A := by
  intro m
  induction m with
  | zero => intro _; exact h.congr _ _ fun i _ => by funext j; rw [if_pos (.inr (by omega))]
  | succ m ih =>
    intro hm
    rw [← ih (by omega)]
    by_cases e : m = r
    · refine h.congr _ _ fun i _ => ?_
      funext j
      by_cases hi : i = r
      · rw [if_pos (.inl hi), if_pos (.inl hi)]
      · by_cases h2 : m ≤ i
        · rw [if_pos (.inr (by omega)), if_pos (.inr h2)]
        · rw [if_neg (by omega), if_neg (by omega)]
    · rw [← h.addrow (fun i j => if i = r ∨ m ≤ i then A i j else A i j - g i * A r j) (i := m) (k := r) (by omega) hr e (-g m)]
      refine h.congr _ _ fun i _ => ?_
      funext j
      by_cases hi : i = m
      · subst hi
        rw [upd_same, if_neg (by omega), if_pos (.inr (Nat.le_refl _)), if_pos (.inl rfl)]
        grind
      · rw [upd_ne _ _ hi]
        by_cases h2 : i = r
        · rw [if_pos (.inl h2), if_pos (.inl h2)]
        · by_cases h3 : m ≤ i
          · rw [if_pos (.inr (by omega)), if_pos (.inr h3)]
          · rw [if_neg (by omega), if_neg (by omega)]
theorem Alt.elim (h : Alt n F) (A : Nat → Nat → Rat) (g : Nat → Rat) {r : Nat} (hr : r < n) : F (fun i j => if i = r then A r j else A i j - g i * A r j) = F A := by
  rw [← h.elim_ A g hr n (Nat.le_refl _)]
  refine h.congr _ _ fun i hi => ?_
  funext j
  by_cases h2 : i = r
  · subst h2
    rw [if_pos rfl, if_pos (.inl rfl)]
  · rw [if_neg h2, if_neg (by omega)]
theorem Alt.sum (h : Alt n F) (A : Nat → Nat → Rat) {i : Nat} (hi : i < n) (y : Nat → Rat) (R : Nat → Nat → Rat) : ∀ m, F (upd A i (fun j => sm m fun k => y k * R k j)) = sm m fun k => y k * F (upd A i (R k))
  | 0 => by
    rw [sm]
    exact h.zero_row hi fun j => by rw [upd_same]; rfl
  | m + 1 => by
    have e := h.lin 1 (y m) (fun j => sm m fun k => y k * R k j) (R m) A i hi
    rw [show (fun j => 1 * (sm m fun k => y k * R k j) + y m * R m j) = fun j => sm (m + 1) fun k => y k * R k j by funext j; rw [sm]; grind] at e
    rw [e, h.sum A hi y R m, sm]
    grind
end
theorem det_alt (n : Nat) : Alt n (det n) where
  lin a b u v A k hk := det_lin a b u v n A k hk
  same A i k hi hk hne he := det_same hi hk hne fun j => by rw [he]
  congr A B h := det_congr n fun i j hi _ => by rw [h i hi]
/-- chosen columns -/
theorem upd_cols (A : Nat → Nat → Rat) (k : Nat) (u : Nat → Rat) (γ : Nat → Nat) : (fun i j => upd A k u i (γ j)) = upd (fun i j => A i (γ j)) k (fun j => u (γ j)) := by
  funext i j
  by_cases h : i = k
  · rw [h, upd_same, upd_same]
  · rw [upd_ne _ _ h, upd_ne _ _ h]
theorem cols_alt (n : Nat) (γ : Nat → Nat) : Alt n (fun X => det n fun i j => X i (γ j)) where
  lin a b u v A k hk := by simp only [upd_cols]; exact det_lin a b _ _ n _ k hk
  same A i k hi hk hne he := det_same hi hk hne fun j => by rw [he]
  congr A B h := det_congr n fun i j hi _ => by rw [h i hi]
/-- rows times a matrix -/
theorem upd_prod (A B : Nat → Nat → Rat) (l k : Nat) (u : Nat → Rat) : (fun i j => sm l fun t => upd A k u i t * B t j) = upd (fun i j => sm l fun t => A i t * B t j) k (fun j => sm l fun t => u t * B t j) := by
  funext i j
  by_cases h : i = k
  · rw [h, upd_same, upd_same]
  · rw [upd_ne _ _ h, upd_ne _ _ h]
theorem prod_alt (n l : Nat) (B : Nat → Nat → Rat) : Alt n (fun X => det n fun i j => sm l fun t => X i t * B t j) where
  lin a b u v A k hk := by
    simp only [upd_prod]
    rw [← det_lin a b _ _ n _ k hk]
    congr 2
    funext j
    rw [← sm_lin]
    exact sm_congr _ fun t _ => by grind
  same A i k hi hk hne he := det_same hi hk hne fun j => by rw [he]
  congr A B h := det_congr n fun i j hi _ => by rw [h i hi]
/-- dependent rows -/
theorem det_dep {n : Nat} {B : Nat → Nat → Rat} {y : Nat → Rat} {i : Nat} (hi : i < n) (hy : y i ≠ 0) (h : ∀ j, j < n → (sm n fun k => y k * B k j) = 0) : det n B = 0 := by
  have e := (det_alt n).sum B hi y B n
  have hz : det n (upd B i (fun j => sm n fun k => y k * B k j)) = 0 := by
    rw [det_congr (B := upd B i (fun _ => 0)) n fun a j _ hj => ?_]
    · exact det_zero_row hi fun j => by rw [upd_same]
    · by_cases ha : a = i
      · rw [ha, upd_same, upd_same, h j hj]
      · rw [upd_ne _ _ ha, upd_ne _ _ ha]
  rw [hz, sm_one i n hi] at e
  · rw [upd_self] at e
    rcases Rat.mul_eq_zero.1 e.symm with h1 | h1
    · exact absurd h1 hy
    · exact h1
  · intro k hk hki
    rw [det_same hi hk (Ne.symm hki) fun j => by rw [upd_same, upd_ne _ _ hki]]
    grind
/-- Cramer's rule -/
theorem cramer {n : Nat} {B : Nat → Nat → Rat} {x b : Nat → Rat} (h : ∀ s, s < n → b s = sm n fun u => B s u * x u) {t : Nat} (ht : t < n) : det n (fun s u => if u = t then b s else B s u) = x t * det n B := by
  rw [← det_tr n (fun s u => if u = t then b s else B s u), ← det_tr n B]
  have e := (det_alt n).sum (fun i j => B j i) ht x (fun i j => B j i) n
  rw [sm_one t n ht, upd_self (fun i j => B j i)] at e
  · rw [← e]
    refine det_congr n fun i j _ hj => ?_
    by_cases hi : i = t
    · subst hi
      rw [if_pos rfl, upd_same, h j hj]
      exact sm_congr _ fun u _ => by grind
    · rw [if_neg hi, upd_ne _ _ hi]
  · intro k hk hkt
    rw [det_same ht hk (Ne.symm hkt) fun j => by rw [upd_same, upd_ne _ _ hkt]]
    grind
end Go.Proofs.YtgecdcjfncfmcaaGreatDoor
namespace Go.Proofs.YtgecdcjfncfmcaaGreatDoor

/-- two numbers change places -/
def tau (r p i : Nat) : Nat := if i = r then p else if i = p then r else i
theorem tau_lt {r p i n : Nat} (hr : r < n) (hp : p < n) (hi : i < n) : tau r p i < n := by unfold tau; split <;> (try split) <;> omega
theorem tau_inj {r p i j : Nat} (h : tau r p i = tau r p j) : i = j := by
  unfold tau at h
  split at h <;> split at h <;> (try split at h) <;> (try split at h) <;> omega
theorem tau_tau (r p i : Nat) : tau r p (tau r p i) = i := by
  unfold tau
  by_cases h1 : i = r
  · rw [if_pos h1]; by_cases h2 : p = r
    · rw [if_pos h2]; omega
    · rw [if_neg h2, if_pos rfl]; omega
  · by_cases h2 : i = p
    · rw [if_neg h1, if_pos h2, if_pos rfl]; omega
    · rw [if_neg h1, if_neg h2, if_neg h1, if_neg h2]
theorem tau_small {r p i : Nat} (hp : r ≤ p) (hi : i < r) : tau r p i = i := by unfold tau; rw [if_neg (by omega), if_neg (by omega)]
theorem tau_ge {r p i : Nat} (hp : r ≤ p) (hi : r ≤ i) : r ≤ tau r p i := by unfold tau; split <;> (try split) <;> omega
structure Prm (n : Nat) (π : Nat → Nat) : Prop where
  lt : ∀ i, i < n → π i < n
  inj : ∀ i j, i < n → j < n → π i = π j → i = j
  onto : ∀ k, k < n → ∃ i, i < n ∧ π i = k
/-- what stays true through an elimination: M the matrix, A the present one behind k columns, pv the columns with pivots -/
structure RI (n : Nat) (M A : Nat → Nat → Rat) (k : Nat) (pv : List Nat) (π : Nat → Nat) (δ ε : Rat) : Prop where
  few : pv.length ≤ n
  lt : ∀ t, t < pv.length → pv.getD t 0 < k
  inc : ∀ t u, t < u → u < pv.length → pv.getD t 0 < pv.getD u 0
  unit : ∀ t i, t < pv.length → i < n → A i (pv.getD t 0) = if i = t then 1 else 0
  left : ∀ t j, t < pv.length → j < pv.getD t 0 → A t j = 0
  low : ∀ i j, pv.length ≤ i → i < n → j < k → A i j = 0
  prm : Prm n π
  back : ∀ i j, i < n → M (π i) j = (sm pv.length fun t => M (π i) (pv.getD t 0) * A t j) + (if i < pv.length then 0 else A i j)
  dne : δ ≠ 0
  minor : ∀ (s : Nat) (F : (Nat → Nat → Rat) → Rat) (f : Nat → Nat), pv.length ≤ s → Alt s F → (∀ i, i < pv.length → f i = i) → (∀ i, i < s → f i < n) → (∀ i j, i < s → j < s → f i = f j → i = j) → F (fun i => M (π (f i))) = δ * F (fun i => A (f i))
  ene : ε ≠ 0
  sign : ∀ (F : (Nat → Nat → Rat) → Rat) (X : Nat → Nat → Rat), Alt n F → F (fun i => X (π i)) = ε * F X
theorem RI.start (n : Nat) (M : Nat → Nat → Rat) : RI n M M 0 [] id 1 1 where
  few := by simp
  lt t h := by simp at h
  inc t u _ h := by simp at h
  unit t i h := by simp at h
  left t j h := by simp at h
  low i j _ _ h := by omega
  prm := ⟨fun i h => h, fun i j _ _ h => h, fun k hk => ⟨k, hk, rfl⟩⟩
  back i j _ := by simp only [List.length_nil, sm, id, Nat.not_lt_zero, if_false]; grind
  dne := by decide
  minor s F f _ _ _ _ _ := by simp only [id]; grind
  ene := by decide
  sign F X _ := by simp only [id]; grind
section
variable {n : Nat} {M A : Nat → Nat → Rat} {k : Nat} {pv : List Nat} {π : Nat → Nat} {δ ε : Rat}
theorem RI.none (h : RI n M A k pv π δ ε) (hz : ∀ i, pv.length ≤ i → i < n → A i k = 0) : RI n M A (k + 1) pv π δ ε :=
  { h with
    lt := fun t ht => Nat.lt_succ_of_lt (h.lt t ht)
    low := fun i j h1 h2 h3 => by
      by_cases e : j = k
      · rw [e]; exact hz i h1 h2
      · exact h.low i j h1 h2 (by omega) }
theorem swap_rows (X : Nat → Nat → Rat) {r p : Nat} (h : r ≠ p) : (fun i => X (tau r p i)) = upd (upd X r (X p)) p (X r) := by
  funext i
  unfold tau
  by_cases h1 : i = r
  · rw [if_pos h1, upd_ne _ _ (by omega), h1, upd_same]
  · by_cases h2 : i = p
    · rw [if_neg h1, if_pos h2, h2, upd_same]
    · rw [if_neg h1, if_neg h2, upd_ne _ _ h2, upd_ne _ _ h1]
theorem RI.swap (h : RI n M A k pv π δ ε) {p : Nat} (hp : pv.length ≤ p) (hn : p < n) : ∃ ε', RI n M (fun i => A (tau pv.length p i)) k pv (fun i => π (tau pv.length p i)) δ ε' := by
  have hr : pv.length < n := by omega
  refine ⟨if pv.length = p then ε else -ε, ?_⟩
  exact {
    few := h.few
    lt := h.lt
    inc := h.inc
    unit := fun t i ht hi => by
      rw [h.unit t _ ht (tau_lt hr hn hi)]
      by_cases e : i = t
      · rw [if_pos e, if_pos (by rw [e]; exact tau_small hp ht)]
      · rw [if_neg e, if_neg (fun h2 => e (by
          have h3 : tau pv.length p i = tau pv.length p t := by rw [h2, tau_small hp ht]
          exact tau_inj h3))]
    left := fun t j ht hj => by
      show A (tau pv.length p t) j = 0
      rw [tau_small hp ht]; exact h.left t j ht hj
    low := fun i j h1 h2 h3 => h.low _ j (tau_ge hp h1) (tau_lt hr hn h2) h3
    prm := ⟨fun i hi => h.prm.lt _ (tau_lt hr hn hi), fun i j hi hj e => tau_inj (h.prm.inj _ _ (tau_lt hr hn hi) (tau_lt hr hn hj) e), fun k hk => by
      obtain ⟨i, hi, e⟩ := h.prm.onto k hk
      exact ⟨tau pv.length p i, tau_lt hr hn hi, by show π (tau _ _ (tau _ _ i)) = k; rw [tau_tau]; exact e⟩⟩
    back := fun i j hi => by
      rw [h.back _ j (tau_lt hr hn hi)]
      congr 1
      · exact sm_congr _ fun t ht => by rw [tau_small hp ht]
      · by_cases e : i < pv.length
        · rw [if_pos e, if_pos (by rw [tau_small hp e]; exact e)]
        · rw [if_neg e, if_neg (by have := tau_ge hp (show pv.length ≤ i by omega); omega)]
    dne := h.dne
    minor := fun s F f hs hF h1 h2 h3 => h.minor s F (fun i => tau pv.length p (f i)) hs hF (fun i hi => by
      show tau _ _ (f i) = i
      rw [h1 i hi, tau_small hp hi]) (fun i hi => tau_lt hr hn (h2 i hi)) (fun i j hi hj e => h3 i j hi hj (tau_inj e))
    ene := by
      split
      · exact h.ene
      · exact fun e => h.ene (by grind)
    sign := fun F X hF => by
      by_cases e : pv.length = p
      · rw [if_pos e, ← h.sign F X hF]
        refine hF.congr _ _ fun i _ => ?_
        rw [show tau pv.length p i = i by unfold tau; split <;> (try split) <;> omega]
      · rw [if_neg e]
        have h1 := swap_rows (fun i => X (π i)) e
        have h2 := hF.swap (fun i => X (π i)) hr hn e
        rw [← h1, h.sign F X hF] at h2
        rw [h2]
        grind }
/-- the matrix behind a pivot in row r and column k -/
def pvt (A : Nat → Nat → Rat) (r k : Nat) : Nat → Nat → Rat := fun i j => if i = r then A r j / A r k else A i j - A i k * (A r j / A r k)
theorem getD_snoc {l : List Nat} {k t : Nat} : (l ++ [k]).getD t 0 = if t < l.length then l.getD t 0 else if t = l.length then k else 0 := by
  rw [List.getD_eq_getElem?_getD, List.getElem?_append]
  by_cases h : t < l.length
  · rw [if_pos h, if_pos h, List.getD_eq_getElem?_getD]
  · rw [if_neg h, if_neg h]
    by_cases e : t = l.length
    · rw [if_pos e, e, Nat.sub_self]; rfl
    · rw [if_neg e, List.getElem?_eq_none (by simp; omega)]; rfl
theorem getD_snoc_lt {l : List Nat} {k t : Nat} (h : t < l.length) : (l ++ [k]).getD t 0 = l.getD t 0 := by rw [getD_snoc, if_pos h]
theorem getD_snoc_eq {l : List Nat} {k : Nat} : (l ++ [k]).getD l.length 0 = k := by rw [getD_snoc, if_neg (by omega), if_pos rfl]
theorem zero_div_ (d : Rat) : (0 : Rat) / d = 0 := by rw [Rat.div_def]; grind
theorem div_self_ {d : Rat} (h : d ≠ 0) : d / d = 1 := by rw [Rat.div_def]; exact Rat.mul_inv_cancel d h
theorem mul_div_back {d : Rat} (h : d ≠ 0) (x : Rat) : d * (x / d) = x := by
  rw [Rat.div_def, Rat.mul_comm, Rat.mul_assoc, Rat.mul_comm d⁻¹, Rat.mul_inv_cancel d h, Rat.mul_one]
theorem RI.pivot (h : RI n M A k pv π δ ε) (hr : pv.length < n) (hd : A pv.length k ≠ 0) : RI n M (pvt A pv.length k) (k + 1) (pv ++ [k]) π (δ * A pv.length k) ε := by
  have hl : (pv ++ [k]).length = pv.length + 1 := by simp
  have h0 : ∀ j, j < k → A pv.length j = 0 := fun j hj => h.low _ j (Nat.le_refl _) hr hj
  exact {
    few := by rw [hl]; omega
    lt := fun t ht => by
      rw [hl] at ht
      by_cases e : t < pv.length
      · rw [getD_snoc_lt e]; have := h.lt t e; omega
      · obtain rfl : t = pv.length := by omega
        rw [getD_snoc_eq]; omega
    inc := fun t u ht hu => by
      rw [hl] at hu
      rw [getD_snoc_lt (show t < pv.length by omega)]
      by_cases e : u < pv.length
      · rw [getD_snoc_lt e]; exact h.inc t u ht e
      · obtain rfl : u = pv.length := by omega
        rw [getD_snoc_eq]; exact h.lt t ht
    unit := fun t i ht hi => by
      rw [hl] at ht
      by_cases e : t < pv.length
      · rw [getD_snoc_lt e]
        have hz : A pv.length (pv.getD t 0) = 0 := by rw [h.unit t _ e hr, if_neg (by omega)]
        unfold pvt
        rw [hz, zero_div_]
        by_cases e2 : i = pv.length
        · rw [if_pos e2, if_neg (by omega)]
        · rw [if_neg e2, h.unit t i e hi]; grind
      · obtain rfl : t = pv.length := by omega
        rw [getD_snoc_eq]
        unfold pvt
        rw [div_self_ hd]
        by_cases e2 : i = pv.length
        · rw [if_pos e2, if_pos e2]
        · rw [if_neg e2, if_neg e2]; grind
    left := fun t j ht hj => by
      rw [hl] at ht
      by_cases e : t < pv.length
      · rw [getD_snoc_lt e] at hj
        have hjk : j < k := by have := h.lt t e; omega
        unfold pvt
        rw [if_neg (by omega), h0 j hjk, h.left t j e hj, zero_div_]; grind
      · obtain rfl : t = pv.length := by omega
        rw [getD_snoc_eq] at hj
        unfold pvt
        rw [if_pos rfl, h0 j hj, zero_div_]
    low := fun i j h1 h2 h3 => by
      rw [hl] at h1
      unfold pvt
      rw [if_neg (by omega)]
      by_cases e : j = k
      · rw [e, div_self_ hd]; grind
      · rw [h0 j (by omega), h.low i j (by omega) h2 (by omega), zero_div_]; grind
    prm := h.prm
    back := fun i j hi => by
      rw [hl, sm, getD_snoc_eq]
      have e1 := h.back i j hi
      have e2 := h.back i k hi
      have e3 : (sm pv.length fun t => M (π i) ((pv ++ [k]).getD t 0) * pvt A pv.length k t j) = 1 * (sm pv.length fun t => M (π i) (pv.getD t 0) * A t j) + (-(A pv.length j / A pv.length k)) * (sm pv.length fun t => M (π i) (pv.getD t 0) * A t k) := by
        rw [← sm_lin]
        refine sm_congr _ fun t ht => ?_
        rw [getD_snoc_lt ht]
        unfold pvt
        rw [if_neg (by omega)]
        grind
      have hq := mul_div_back hd (A pv.length j)
      rw [e3]
      generalize (sm pv.length fun t => M (π i) (pv.getD t 0) * A t j) = s1 at *
      generalize (sm pv.length fun t => M (π i) (pv.getD t 0) * A t k) = s2 at *
      have e4 : pvt A pv.length k pv.length j = A pv.length j / A pv.length k := if_pos rfl
      rw [e4, e1, e2]
      generalize hqq : A pv.length j / A pv.length k = q at *
      rcases Nat.lt_trichotomy i pv.length with hlt | heq | hgt
      · rw [if_pos hlt, if_pos hlt, if_pos (by omega)]; grind
      · rw [if_neg (by omega), if_neg (by omega), if_pos (by omega), heq]; grind
      · rw [if_neg (by omega), if_neg (by omega), if_neg (by omega)]
        have e5 : pvt A pv.length k i j = A i j - A i k * q := by unfold pvt; rw [if_neg (by omega), hqq]
        rw [e5]; grind
    dne := fun e => by
      rcases Rat.mul_eq_zero.1 e with h1 | h1
      · exact h.dne h1
      · exact hd h1
    minor := fun s F f hs hF h1 h2 h3 => by
      rw [hl] at hs h1
      rw [h.minor s F f (by omega) hF (fun i hi => h1 i (by omega)) h2 h3]
      have hfr : f pv.length = pv.length := h1 _ (by omega)
      have e1 := hF.smul (1 / A pv.length k) (fun i => A (f i)) (show pv.length < s by omega) (A (f pv.length))
      rw [upd_self (fun i => A (f i))] at e1
      have e2 := hF.elim (upd (fun i => A (f i)) pv.length (fun j => 1 / A pv.length k * A (f pv.length) j)) (fun i => A (f i) k) (show pv.length < s by omega)
      rw [e1] at e2
      have e3 : F (fun i => pvt A pv.length k (f i)) = 1 / A pv.length k * F (fun i => A (f i)) := by
        rw [← e2]
        refine hF.congr _ _ fun i hi => ?_
        funext j
        by_cases e : i = pv.length
        · rw [if_pos e, e, hfr, upd_same]
          unfold pvt
          rw [if_pos rfl]
          rw [Rat.div_def, Rat.div_def]; grind
        · rw [if_neg e, upd_same, upd_ne _ _ e, hfr]
          unfold pvt
          rw [if_neg (fun h4 => e (h3 _ _ hi (by omega) (by rw [h4, hfr])))]
          rw [Rat.div_def, Rat.div_def]; grind
      rw [e3]
      have e4 := mul_div_back hd 1
      generalize F (fun i => A (f i)) = x at *
      generalize 1 / A pv.length k = y at *
      grind
    ene := h.ene
    sign := h.sign }
end
end Go.Proofs.YtgecdcjfncfmcaaGreatDoor
namespace Go.Proofs.YtgecdcjfncfmcaaGreatDoor

/-- the first row from p on with something in column k -/
def nzAt (k : Nat) : List (List Rat) → Nat → Nat
  | [], p => p
  | r :: l, p => if r.getD k 0 = 0 then nzAt k l (p + 1) else p
def scRow (k : Nat) (d : Rat) (r : List Rat) : List Rat := r.mapIdx fun j x => if k ≤ j then x / d else x
def elRow (k : Nat) (pr r : List Rat) : List Rat := r.mapIdx fun j x => if k ≤ j then x - r.getD k 0 * pr.getD j 0 else x
def swQ (m : MQ) (r p : Nat) : MQ := (m.set r (m.getD p [])).set p (m.getD r [])
/-- the pivot's row, and all rows behind it -/
def pvRow (m : MQ) (r k : Nat) : List Rat := scRow k (at2 m r k) (m.getD r [])
def pvQ (m : MQ) (r k : Nat) : MQ := m.mapIdx fun i row => if i = r then pvRow m r k else elRow k (pvRow m r k) row
def redS (s : MQ × List Nat) (k : Nat) : MQ × List Nat :=
  if s.1.length ≤ nzAt k (s.1.drop s.2.length) s.2.length then s else
  (pvQ (swQ s.1 s.2.length (nzAt k (s.1.drop s.2.length) s.2.length)) s.2.length k, s.2 ++ [k])
def redQ (m : MQ) : Nat → MQ × List Nat
  | 0 => (m, [])
  | k + 1 => redS (redQ m k) k
theorem nzAt_spec (k : Nat) : ∀ (l : List (List Rat)) (p : Nat), ∃ j, nzAt k l p = p + j ∧ j ≤ l.length ∧ (∀ i, i < j → (l.getD i []).getD k 0 = 0) ∧ (j < l.length → (l.getD j []).getD k 0 ≠ 0)
  | [], p => ⟨0, rfl, by simp, fun i hi => by omega, fun h => by simp at h⟩
  | r :: l, p => by
    rw [nzAt]
    by_cases h : r.getD k 0 = 0
    · rw [if_pos h]
      obtain ⟨j, h1, h2, h3, h4⟩ := nzAt_spec k l (p + 1)
      refine ⟨j + 1, by rw [h1]; omega, by simp; omega, fun i hi => ?_, fun hj => h4 (by simpa using hj)⟩
      match i with
      | 0 => exact h
      | i + 1 => exact h3 i (by omega)
    · rw [if_neg h]
      exact ⟨0, rfl, by simp, fun i hi => by omega, fun _ => h⟩
theorem getD_drop_ {α : Type} (l : List α) (r i : Nat) (d : α) : (l.drop r).getD i d = l.getD (r + i) d := by
  rw [List.getD_eq_getElem?_getD, List.getElem?_drop, List.getD_eq_getElem?_getD]
/-- what the search for a pivot finds -/
theorem piv_spec (m : MQ) (r k : Nat) (hr : r ≤ m.length) : r ≤ nzAt k (m.drop r) r ∧ nzAt k (m.drop r) r ≤ m.length ∧ (∀ i, r ≤ i → i < nzAt k (m.drop r) r → at2 m i k = 0) ∧ (nzAt k (m.drop r) r < m.length → at2 m (nzAt k (m.drop r) r) k ≠ 0) := by
  obtain ⟨j, h1, h2, h3, h4⟩ := nzAt_spec k (m.drop r) r
  rw [List.length_drop] at h2 h4
  rw [h1]
  refine ⟨by omega, by omega, fun i hi1 hi2 => ?_, fun h => ?_⟩
  · have := h3 (i - r) (by omega)
    rw [getD_drop_, show r + (i - r) = i by omega] at this
    exact this
  · have := h4 (by omega)
    rw [getD_drop_] at this
    exact this
theorem getD_mapIdx {α β : Type} (l : List α) (f : Nat → α → β) (i : Nat) (d : α) (e : β) (hi : i < l.length) : (l.mapIdx f).getD i e = f i (l.getD i d) := by
  rw [List.getD_eq_getElem?_getD, List.getElem?_mapIdx, List.getD_eq_getElem?_getD, List.getElem?_eq_getElem hi]
  rfl
theorem getD_mapIdx_ge {α β : Type} (l : List α) (f : Nat → α → β) (i : Nat) (e : β) (hi : l.length ≤ i) : (l.mapIdx f).getD i e = e := by
  rw [List.getD_eq_getElem?_getD, List.getElem?_eq_none (by simpa using hi)]; rfl
theorem getD_ge {α : Type} (l : List α) (i : Nat) (e : α) (hi : l.length ≤ i) : l.getD i e = e := by
  rw [List.getD_eq_getElem?_getD, List.getElem?_eq_none hi]; rfl
theorem scRow_at (k : Nat) (d : Rat) (r : List Rat) (j : Nat) : (scRow k d r).getD j 0 = if k ≤ j then r.getD j 0 / d else r.getD j 0 := by
  unfold scRow
  by_cases h : j < r.length
  · rw [getD_mapIdx r _ j 0 0 h]
  · rw [getD_mapIdx_ge _ _ _ _ (by omega), getD_ge r j 0 (by omega), zero_div_]
    split <;> rfl
theorem elRow_at (k : Nat) (pr r : List Rat) (j : Nat) (hl : pr.length = r.length) : (elRow k pr r).getD j 0 = if k ≤ j then r.getD j 0 - r.getD k 0 * pr.getD j 0 else r.getD j 0 := by
  unfold elRow
  by_cases h : j < r.length
  · rw [getD_mapIdx r _ j 0 0 h]
  · rw [getD_mapIdx_ge _ _ _ _ (by omega), getD_ge r j 0 (by omega), getD_ge pr j 0 (by omega)]
    split
    · grind
    · rfl
theorem rect_len {m : MQ} {n w i : Nat} (h : Rect m n w) (hi : i < n) : (m.getD i []).length = w := h.rowlen hi
theorem rect_swQ {m : MQ} {n w r p : Nat} (h : Rect m n w) (hr : r < n) (hp : p < n) : Rect (swQ m r p) n w := by
  have h1 := rect_len h hr
  have h2 := rect_len h hp
  refine ⟨by unfold swQ; rw [List.length_set, List.length_set]; exact h.1, fun row hrow => ?_⟩
  unfold swQ at hrow
  rcases List.mem_or_eq_of_mem_set hrow with h3 | h3
  · rcases List.mem_or_eq_of_mem_set h3 with h4 | h4
    · exact h.2 row h4
    · rw [h4]; exact h2
  · rw [h3]; exact h1
theorem swQ_at {m : MQ} {r p i : Nat} (hr : r < m.length) (hp : p < m.length) : (swQ m r p).getD i [] = m.getD (tau r p i) [] := by
  unfold swQ tau
  rw [List.getD_eq_getElem?_getD, List.getElem?_set]
  by_cases h1 : i = p
  · subst h1
    rw [if_pos rfl, if_pos (by simpa using hp)]
    by_cases h2 : i = r
    · rw [if_pos h2, h2]; rfl
    · rw [if_neg h2, if_pos rfl]; rfl
  · rw [if_neg (Ne.symm h1), List.getElem?_set]
    by_cases h2 : i = r
    · subst h2
      rw [if_pos rfl, if_pos hr, if_pos rfl]; rfl
    · rw [if_neg (Ne.symm h2), if_neg h2, if_neg h1, List.getD_eq_getElem?_getD]
theorem rect_pvQ {m : MQ} {n w r k : Nat} (h : Rect m n w) (hr : r < n) : Rect (pvQ m r k) n w := by
  refine ⟨by unfold pvQ; rw [List.length_mapIdx]; exact h.1, fun row hrow => ?_⟩
  unfold pvQ at hrow
  obtain ⟨i, hi, e⟩ := List.mem_mapIdx.1 hrow
  rw [← e]
  have hpl : (pvRow m r k).length = w := by unfold pvRow scRow; rw [List.length_mapIdx]; exact rect_len h hr
  split
  · exact hpl
  · unfold elRow
    rw [List.length_mapIdx]
    exact h.2 _ (List.getElem_mem hi)
/-- the matrix behind a pivot, by its elements -/
theorem pvQ_at {m : MQ} {n w r k : Nat} (h : Rect m n w) (hr : r < n) (h0 : ∀ j, j < k → at2 m r j = 0) {i : Nat} (hi : i < n) (j : Nat) : at2 (pvQ m r k) i j = pvt (at2 m) r k i j := by
  have hpr : ∀ j, (pvRow m r k).getD j 0 = at2 m r j / at2 m r k := fun j => by
    unfold pvRow
    rw [scRow_at]
    split
    · rfl
    · have := h0 j (by omega)
      rw [this, zero_div_]
      exact this
  have hpl : (pvRow m r k).length = w := by unfold pvRow scRow; rw [List.length_mapIdx]; exact rect_len h hr
  show ((pvQ m r k).getD i []).getD j 0 = _
  unfold pvQ
  rw [getD_mapIdx m _ i [] [] (by rw [h.1]; exact hi)]
  unfold pvt
  by_cases e : i = r
  · rw [if_pos e, if_pos e, hpr]
  · rw [if_neg e, if_neg e, elRow_at _ _ _ _ (by rw [hpl, rect_len h hi]), hpr]
    by_cases hk : k ≤ j
    · rw [if_pos hk]; rfl
    · rw [if_neg hk, h0 j (by omega), zero_div_]
      show at2 m i j = at2 m i j - at2 m i k * 0
      grind
theorem RI.congr {n : Nat} {M A B : Nat → Nat → Rat} {k : Nat} {pv : List Nat} {π : Nat → Nat} {δ ε : Rat} (h : RI n M A k pv π δ ε) (e : ∀ i, i < n → B i = A i) : RI n M B k pv π δ ε :=
  { h with
    unit := fun t i ht hi => by rw [e i hi]; exact h.unit t i ht hi
    left := fun t j ht hj => by rw [e t (by have := h.few; omega)]; exact h.left t j ht hj
    low := fun i j h1 h2 h3 => by rw [e i h2]; exact h.low i j h1 h2 h3
    back := fun i j hi => by
      rw [h.back i j hi, e i hi]
      congr 1
      exact sm_congr _ fun t ht => by rw [e t (by have := h.few; omega)]
    minor := fun s F f hs hF h1 h2 h3 => by
      rw [h.minor s F f hs hF h1 h2 h3]
      congr 1
      exact hF.congr _ _ fun i hi => (e _ (h2 i hi)).symm }
/-- what is known of the state behind k columns -/
structure Red (m : MQ) (n w k : Nat) (s : MQ × List Nat) : Prop where
  rect : Rect s.1 n w
  inv : ∃ π δ ε, RI n (at2 m) (at2 s.1) k s.2 π δ ε
theorem Red.few {m : MQ} {n w k : Nat} {s : MQ × List Nat} (h : Red m n w k s) : s.2.length ≤ n := by
  obtain ⟨_, _, _, h1⟩ := h.inv
  exact h1.few
theorem Red.step {m : MQ} {n w k : Nat} {s : MQ × List Nat} (h : Red m n w k s) : Red m n w (k + 1) (redS s k) := by
  obtain ⟨π, δ, ε, hI⟩ := h.inv
  have hn := h.rect.1
  have hf := hI.few
  obtain ⟨h1, h2, h3, h4⟩ := piv_spec s.1 s.2.length k (by omega)
  unfold redS
  by_cases hp : s.1.length ≤ nzAt k (s.1.drop s.2.length) s.2.length
  · rw [if_pos hp]
    exact ⟨h.rect, π, δ, ε, hI.none fun i hi1 hi2 => h3 i hi1 (by omega)⟩
  · rw [if_neg hp]
    generalize nzAt k (s.1.drop s.2.length) s.2.length = p at *
    have hpn : p < n := by omega
    have hrn : s.2.length < n := by omega
    obtain ⟨ε', hS⟩ := hI.swap h1 hpn
    have hR := rect_swQ h.rect hrn hpn
    have ha : ∀ i, at2 (swQ s.1 s.2.length p) i = fun j => at2 s.1 (tau s.2.length p i) j := fun i => by
      funext j
      unfold at2
      rw [swQ_at (by omega) (by omega)]
    have hS' : RI n (at2 m) (at2 (swQ s.1 s.2.length p)) k s.2 _ δ ε' := hS.congr fun i _ => ha i
    have hd : at2 (swQ s.1 s.2.length p) s.2.length k ≠ 0 := by
      rw [ha]
      show at2 s.1 (tau s.2.length p s.2.length) k ≠ 0
      rw [show tau s.2.length p s.2.length = p by unfold tau; rw [if_pos rfl]]
      exact h4 (by omega)
    have hP := hS'.pivot hrn hd
    refine ⟨rect_pvQ hR hrn, _, _, _, hP.congr fun i hi => ?_⟩
    funext j
    exact pvQ_at hR hrn (fun j hj => hS'.low _ j (Nat.le_refl _) hrn hj) hi j
theorem red_inv {m : MQ} {n w : Nat} (h : Rect m n w) : ∀ k, Red m n w k (redQ m k)
  | 0 => ⟨h, id, 1, 1, RI.start n (at2 m)⟩
  | k + 1 => (red_inv h k).step
end Go.Proofs.YtgecdcjfncfmcaaGreatDoor
namespace Go.Proofs.YtgecdcjfncfmcaaGreatDoor

/-- an integer of at most N words -/
def IF (N : Nat) (x : Rat) : Prop := ∃ z : Int, x = (z : Rat) ∧ Fits N z
theorem IF.mono {N M : Nat} {x : Rat} (h : IF N x) (hm : N ≤ M) : IF M x := by
  obtain ⟨z, e, hz⟩ := h
  exact ⟨z, e, hz.mono hm⟩
theorem IF.zero (N : Nat) : IF N 0 := ⟨0, rfl, fits_zero N⟩
theorem IF.mul {N M : Nat} {x y : Rat} (hx : IF N x) (hy : IF M y) : IF (N + M) (x * y) := by
  obtain ⟨a, rfl, ha⟩ := hx
  obtain ⟨b, rfl, hb⟩ := hy
  exact ⟨a * b, by rw [Rat.intCast_mul], ha.mul hb⟩
theorem IF.add {N : Nat} {x y : Rat} (hx : IF N x) (hy : IF N y) : IF (N + 1) (x + y) := by
  obtain ⟨a, rfl, ha⟩ := hx
  obtain ⟨b, rfl, hb⟩ := hy
  exact ⟨a + b, by rw [Rat.intCast_add], ha.add hb⟩
theorem IF.neg {N : Nat} {x : Rat} (hx : IF N x) : IF N (-x) := by
  obtain ⟨a, rfl, ha⟩ := hx
  exact ⟨-a, by rw [Rat.intCast_neg], ha.neg⟩
theorem IF.sub {N : Nat} {x y : Rat} (hx : IF N x) (hy : IF N y) : IF (N + 1) (x - y) := by
  rw [Rat.sub_eq_add_neg]
  exact hx.add hy.neg
theorem IF.sum {N : Nat} {f : Nat → Rat} : ∀ (n : Nat), (∀ i, i < n → IF N (f i)) → IF (N + n) (sm n f)
  | 0, _ => IF.zero _
  | n + 1, h => by
    rw [sm]
    exact (IF.sum n fun i hi => h i (by omega)).add ((h n (by omega)).mono (by omega))
theorem IF.sg_mul {N : Nat} {x : Rat} (i : Nat) (h : IF N x) : IF N (sg i * x) := by
  unfold sg
  split
  · rw [Rat.one_mul]; exact h
  · rw [show (-1 : Rat) * x = -x by grind]; exact h.neg
theorem IF.det {Z : Nat} : ∀ (n : Nat) (A : Nat → Nat → Rat), (∀ i j, i < n → j < n → IF Z (A i j)) → IF (n * (Z + n + 1) + 1) (det n A) := by
  intro n
  induction n with
  | zero => intro A _; exact ⟨1, rfl, fits_one _ (by omega) _ (by decide) (by decide)⟩
  | succ n ih =>
    intro A h
    rw [Proofs.YtgecdcjfncfmcaaGreatDoor.det]
    have hs := IF.sum (N := Z + (n * (Z + n + 1) + 1)) (f := fun i => sg i * A i 0 * Proofs.YtgecdcjfncfmcaaGreatDoor.det n (fun r c => A (sk i r) (c + 1))) (n + 1) fun i hi =>
      ((h i 0 hi (by omega)).sg_mul i).mul (ih (fun r c => A (sk i r) (c + 1)) fun a b ha hb => h _ _ (by unfold sk; split <;> omega) (by omega))
    refine hs.mono ?_
    have e1 : (n + 1) * (Z + (n + 1) + 1) = n * (Z + n + 1) + n + (Z + n + 1 + 1) := by
      rw [Nat.add_mul, Nat.one_mul, show Z + (n + 1) + 1 = (Z + n + 1) + 1 by omega, Nat.mul_add, Nat.mul_one]
    rw [e1]
    omega
theorem fitR_quot {N : Nat} {x a b : Rat} (ha : IF N a) (hb : IF N b) (h0 : b ≠ 0) (h : x * b = a) (_h1 : 1 ≤ N) : FitR N x := by
  obtain ⟨p, rfl, hp⟩ := ha
  obtain ⟨q, rfl, hq⟩ := hb
  have e : x = Rat.divInt p q := by
    rw [Rat.divInt_eq_div, ← h, Rat.div_def, Rat.mul_assoc, Rat.mul_inv_cancel _ h0, Rat.mul_one]
  have hle := divInt_le p q
  rw [← e] at hle
  have hq0 : q ≠ 0 := fun e => h0 (by rw [e]; rfl)
  refine ⟨?_, ?_⟩
  · unfold Fits at hp ⊢; have := hle.1; omega
  · unfold Fits at hq ⊢
    have h2 := hle.2
    have : max 1 q.natAbs = q.natAbs := by omega
    rw [this] at h2
    show ((x.den : Int).natAbs : Int) < _
    rw [Int.natAbs_natCast]
    omega
theorem det_scale {n : Nat} (A : Nat → Nat → Rat) (g : Nat → Rat) : ∀ m, m ≤ n → det n (fun i j => if i < m then g i * A i j else A i j) = pd m g * det n A := by
  intro m
  induction m with
  | zero => intro _; rw [pd, Rat.one_mul]; exact det_congr n fun i j _ _ => by rw [if_neg (by omega)]
  | succ m ih =>
    intro hm
    rw [pd_last, show pd m g * g m * det n A = g m * (pd m g * det n A) by grind, ← ih (by omega)]
    have e := det_smul (g m) n (fun i j => if i < m then g i * A i j else A i j) m (by omega) (A m)
    have e2 : upd (fun i j => if i < m then g i * A i j else A i j) m (A m) = fun i j => if i < m then g i * A i j else A i j := by
      funext i j
      by_cases h : i = m
      · rw [h, upd_same, if_neg (by omega)]
      · rw [upd_ne _ _ h]
    rw [e2] at e
    rw [← e]
    refine det_congr n fun i j _ _ => ?_
    by_cases h : i = m
    · rw [h, upd_same, if_pos (by omega)]
    · rw [upd_ne _ _ h]
      by_cases h2 : i < m
      · rw [if_pos h2, if_pos (by omega)]
      · rw [if_neg h2, if_neg (by omega)]
/-- the product of the denominators of a row -/
def dprod : List Rat → Nat
  | [] => 1
  | x :: l => x.den * dprod l
theorem dprod_fit {N : Nat} : ∀ (l : List Rat), (∀ x ∈ l, FitR N x) → Fits (N * l.length + 1) (dprod l : Int)
  | [], _ => fits_one _ (by omega) _ (by decide) (by decide)
  | x :: l, h => by
    have h1 := (h x (by simp)).2.mul (dprod_fit l fun y hy => h y (by simp [hy]))
    have e : ((dprod (x :: l) : Nat) : Int) = (x.den : Int) * (dprod l : Int) := by rw [dprod, Int.natCast_mul]
    rw [e]
    refine h1.mono ?_
    rw [List.length_cons, Nat.mul_add]; omega
theorem dprod_pos : ∀ (l : List Rat), 0 < dprod l
  | [] => by decide
  | x :: l => Nat.mul_pos x.den_pos (dprod_pos l)
theorem dprod_mul {N : Nat} : ∀ (l : List Rat), (∀ x ∈ l, FitR N x) → ∀ x ∈ l, IF (N * l.length + 1) ((dprod l : Rat) * x)
  | [], _, x, hx => by simp at hx
  | y :: l, h, x, hx => by
    have hl := dprod_fit l fun y hy => h y (by simp [hy])
    have hlen : N * (y :: l).length = N * l.length + N := by rw [List.length_cons, Nat.mul_add, Nat.mul_one]
    have e : ((dprod (y :: l) : Nat) : Rat) = ((y.den : Nat) : Rat) * (dprod l : Rat) := by rw [dprod, Rat.natCast_mul]
    rw [e, hlen]
    rcases List.mem_cons.1 hx with rfl | hx
    · refine ⟨x.num * (dprod l : Int), ?_, ((h x (by simp)).1.mul hl).mono (by omega)⟩
      have e2 : (x.num : Rat) = x * ((x.den : Nat) : Rat) := by
        have h1 := Rat.num_divInt_den x
        rw [Rat.divInt_eq_div] at h1
        have hd : (((x.den : Nat) : Int) : Rat) ≠ 0 := by
          have := x.den_pos
          intro e0
          have : (x.den : Int) = 0 := by exact_mod_cast e0
          omega
        have h2 := mul_div_back hd (x.num : Rat)
        rw [h1] at h2
        rw [← h2, Rat.mul_comm]; rfl
      rw [Rat.intCast_mul, e2]
      show _ = x * ((x.den : Nat) : Rat) * ((dprod l : Nat) : Rat)
      grind
    · have ih := dprod_mul l (fun y hy => h y (by simp [hy])) x hx
      have h1 : IF N ((y.den : Nat) : Rat) := ⟨(y.den : Int), rfl, (h y (by simp)).2⟩
      have := h1.mul ih
      rw [show ((y.den : Nat) : Rat) * (dprod l : Rat) * x = ((y.den : Nat) : Rat) * ((dprod l : Rat) * x) by grind]
      exact this.mono (by omega)
end Go.Proofs.YtgecdcjfncfmcaaGreatDoor
namespace Go.Proofs.YtgecdcjfncfmcaaGreatDoor

theorem det_scale_all {n : Nat} (A : Nat → Nat → Rat) (g : Nat → Rat) : det n (fun i j => g i * A i j) = pd n g * det n A := by
  rw [← det_scale A g n (Nat.le_refl n)]
  exact det_congr n fun i j hi _ => by rw [if_pos hi]
theorem pd_ne {g : Nat → Rat} : ∀ (n : Nat), (∀ i, i < n → g i ≠ 0) → pd n g ≠ 0
  | 0, _ => by rw [pd]; decide
  | n + 1, h => by
    rw [pd]
    intro e
    rcases Rat.mul_eq_zero.1 e with h1 | h1
    · exact h 0 (by omega) h1
    · exact pd_ne n (fun i hi => h _ (by omega)) h1
/-- rows can be made whole -/
structure Whole (n Z : Nat) (M : Nat → Nat → Rat) (D : Nat → Rat) : Prop where
  ne : ∀ i, i < n → D i ≠ 0
  fit : ∀ i, i < n → IF Z (D i)
  mul : ∀ i j, i < n → IF Z (D i * M i j)
theorem ri_size {n : Nat} {M A : Nat → Nat → Rat} {k : Nat} {pv : List Nat} {π : Nat → Nat} {δ ε : Rat} (h : RI n M A k pv π δ ε) {Z : Nat} {D : Nat → Rat} (hD : Whole n Z M D) (i j : Nat) (hi : i < n) :
    FitR (Z + (n * (Z + n + 1) + 1) + n + 1) (A i j) := by
  have hf := h.few
  have hr : pv.length * (Z + pv.length + 1) + 1 ≤ n * (Z + n + 1) + 1 := by
    have := Nat.mul_le_mul hf (show Z + pv.length + 1 ≤ Z + n + 1 by omega)
    omega
  -- the minor of the pivots
  have hm := h.minor pv.length (fun X => det pv.length fun i j => X i (pv.getD j 0)) id (Nat.le_refl _) (cols_alt _ _) (fun _ _ => rfl) (fun i hi => by show i < n; omega) (fun i j _ _ e => e)
  have hid : det pv.length (fun i j => A (id i) (pv.getD j 0)) = 1 := by
    rw [← det_id pv.length]
    exact det_congr _ fun a b ha hb => h.unit b a hb (by show a < n; omega)
  simp only [id] at hm hid
  rw [hid, Rat.mul_one] at hm
  have hP := pd_ne (g := fun i => D (π i)) pv.length fun i hi => hD.ne _ (h.prm.lt i (by omega))
  generalize hPP : pd pv.length (fun i => D (π i)) = P at *
  have hδ : IF (n * (Z + n + 1) + 1) (P * δ) := by
    rw [← hm, ← hPP, ← det_scale_all]
    exact (IF.det pv.length _ fun a b ha _ => hD.mul _ _ (h.prm.lt a (by omega))).mono hr
  have hδ0 : P * δ ≠ 0 := fun e => by
    rcases Rat.mul_eq_zero.1 e with h1 | h1
    · exact hP h1
    · exact h.dne h1
  -- rows with pivots
  have hrow : ∀ t j, t < pv.length → IF (n * (Z + n + 1) + 1) (A t j * (P * δ)) := fun t j ht => by
    have hc := cramer (n := pv.length) (B := fun s u => M (π s) (pv.getD u 0)) (x := fun u => A u j) (b := fun s => M (π s) j) (fun s hs => by
      rw [h.back s j (by omega), if_pos hs]; grind) ht
    rw [hm] at hc
    have e : A t j * (P * δ) = pd pv.length (fun i => D (π i)) * det pv.length (fun s u => if u = t then M (π s) j else M (π s) (pv.getD u 0)) := by
      rw [hc, hPP]; grind
    rw [e, ← det_scale_all]
    refine (IF.det pv.length _ fun a b ha _ => ?_).mono hr
    by_cases hb : b = t
    · rw [if_pos hb]; exact hD.mul _ _ (h.prm.lt a (by omega))
    · rw [if_neg hb]; exact hD.mul _ _ (h.prm.lt a (by omega))
  by_cases hir : i < pv.length
  · exact (fitR_quot (hrow i j hir) hδ hδ0 rfl (by omega)).mono (by omega)
  · -- the other rows
    have hρ := h.prm.lt i hi
    have hb := h.back i j hi
    rw [if_neg hir] at hb
    have hDρ := hD.ne _ hρ
    have key : A i j * (D (π i) * (P * δ)) = D (π i) * M (π i) j * (P * δ) - sm pv.length fun t => D (π i) * M (π i) (pv.getD t 0) * (A t j * (P * δ)) := by
      have e : (sm pv.length fun t => D (π i) * M (π i) (pv.getD t 0) * (A t j * (P * δ))) = (D (π i) * (P * δ)) * sm pv.length fun t => M (π i) (pv.getD t 0) * A t j := by
        rw [← sm_mul]
        exact sm_congr _ fun t _ => by grind
      rw [e, hb]
      grind
    have h1 : IF (Z + (n * (Z + n + 1) + 1) + n) (D (π i) * M (π i) j * (P * δ)) := ((hD.mul _ j hρ).mul hδ).mono (by omega)
    have h2 : IF (Z + (n * (Z + n + 1) + 1) + n) (sm pv.length fun t => D (π i) * M (π i) (pv.getD t 0) * (A t j * (P * δ))) :=
      (IF.sum (N := Z + (n * (Z + n + 1) + 1)) pv.length fun t ht => (hD.mul _ _ hρ).mul (hrow t j ht)).mono (by omega)
    have h3 := h1.sub h2
    rw [← key] at h3
    refine fitR_quot h3 (((hD.fit _ hρ).mul hδ).mono (by omega)) (fun e => ?_) rfl (by omega)
    rcases Rat.mul_eq_zero.1 e with h4 | h4
    · exact hDρ h4
    · exact hδ0 h4
theorem rect_getD {m : MQ} {n w i : Nat} (h : Rect m n w) (hi : i < n) : m.getD i [] ∈ m := by
  rw [List.getD_eq_getElem?_getD, List.getElem?_eq_getElem (by rw [h.1]; exact hi)]
  exact List.getElem_mem _
theorem dprod_at {N w : Nat} (l : List Rat) (h : ∀ x ∈ l, FitR N x) (hl : l.length = w) (j : Nat) : IF (N * w + 1) ((dprod l : Rat) * l.getD j 0) := by
  subst hl
  by_cases hj : j < l.length
  · refine dprod_mul l h _ ?_
    rw [List.getD_eq_getElem?_getD, List.getElem?_eq_getElem hj]
    exact List.getElem_mem _
  · rw [getD_ge l j 0 (by omega), Rat.mul_zero]
    exact IF.zero _
theorem whole_of {m : MQ} {n w N : Nat} (h : Rect m n w) (hf : ∀ r ∈ m, ∀ x ∈ r, FitR N x) : Whole n (N * w + 1) (at2 m) (fun i => (dprod (m.getD i []) : Rat)) where
  ne i hi := by
    have := dprod_pos (m.getD i [])
    intro e
    have e : dprod (m.getD i []) = 0 := by exact_mod_cast e
    omega
  fit i hi := by
    have h1 := dprod_fit (m.getD i []) (hf _ (rect_getD h hi))
    rw [rect_len h hi] at h1
    exact ⟨_, rfl, h1⟩
  mul i j hi := dprod_at _ (hf _ (rect_getD h hi)) (rect_len h hi) j
/-- what a walk asks of an elimination -/
def Bnd (m : MQ) (n : Nat) : Prop := ∀ k i j, i < n → FitR 700000 (at2 (redQ m k).1 i j)
theorem red_bnd {m : MQ} {n w : Nat} (h : Rect m n w) (hn : n ≤ 40) (hw : w ≤ 80) (hf : ∀ r ∈ m, ∀ x ∈ r, FitR 210 x) : Bnd m n := fun k i j hi => by
  obtain ⟨π, δ, ε, hI⟩ := (red_inv h k).inv
  have hZ : 210 * w + 1 ≤ 16801 := by omega
  refine (ri_size hI (whole_of h hf) i j hi).mono ?_
  have h1 : n * (210 * w + 1 + n + 1) ≤ 40 * (16801 + 40 + 1) := Nat.mul_le_mul hn (by omega)
  omega
end Go.Proofs.YtgecdcjfncfmcaaGreatDoor
namespace Go.Proofs.YtgecdcjfncfmcaaGreatDoor

section
variable {n w : Nat} {M A : Nat → Nat → Rat} {k : Nat} {pv : List Nat} {π : Nat → Nat} {δ ε : Rat}
/-- what is mapped to 0 by the present matrix is mapped to 0 by the matrix -/
theorem RI.null (h : RI n M A k pv π δ ε) {x : Nat → Rat} (hx : ∀ i, i < n → (sm w fun j => A i j * x j) = 0) : ∀ i, i < n → (sm w fun j => M i j * x j) = 0 := by
  intro i hi
  obtain ⟨a, ha, rfl⟩ := h.prm.onto i hi
  have e : (sm w fun j => M (π a) j * x j) = (sm pv.length fun t => M (π a) (pv.getD t 0) * sm w fun j => A t j * x j) + (if a < pv.length then 0 else sm w fun j => A a j * x j) := by
    have e1 : ∀ t, M (π a) (pv.getD t 0) * (sm w fun j => A t j * x j) = sm w fun j => M (π a) (pv.getD t 0) * (A t j * x j) := fun t => by rw [sm_mul]
    simp only [e1]
    rw [sm_comm]
    by_cases hr : a < pv.length
    · rw [if_pos hr, Rat.add_zero]
      refine sm_congr _ fun j _ => ?_
      rw [h.back a j ha, if_pos hr, Rat.add_zero, Rat.mul_comm, ← sm_mul]
      exact sm_congr _ fun t _ => by grind
    · rw [if_neg hr, ← sm_add]
      refine sm_congr _ fun j _ => ?_
      rw [h.back a j ha, if_neg hr, Rat.add_mul, Rat.mul_comm (sm _ _), ← sm_mul]
      congr 1
      exact sm_congr _ fun t _ => by grind
  rw [e, sm_zero pv.length fun t ht => by rw [hx t (by have := h.few; omega)]; grind]
  split
  · grind
  · rw [hx a ha]; grind
/-- full rank: as many pivots as rows, if a minor of all rows is not 0 -/
theorem RI.full (h : RI n M A w pv π δ ε) {γ : Nat → Nat} (hγ : ∀ j, j < n → γ j < w) (hd : det n (fun i j => M i (γ j)) ≠ 0) : pv.length = n := by
  have hf := h.few
  rcases Nat.lt_or_ge pv.length n with hl | hl
  · exfalso
    have h1 := h.minor n (fun X => det n fun i j => X i (γ j)) id hf (cols_alt n γ) (fun _ _ => rfl) (fun i hi => hi) (fun i j _ _ e => e)
    have h2 := h.sign (fun X => det n fun i j => X i (γ j)) M (cols_alt n γ)
    have h3 : det n (fun i j => A i (γ j)) = 0 := by
      rw [det_congr (B := fun i j => if i = pv.length then 0 else A i (γ j)) n fun i j hi hj => ?_]
      · exact det_zero_row hl fun j => if_pos rfl
      · by_cases e : i = pv.length
        · rw [if_pos e, e]; exact h.low _ _ (Nat.le_refl _) hl (hγ j hj)
        · rw [if_neg e]
    simp only [id] at h1 h2
    rw [h3, h2] at h1
    rcases Rat.mul_eq_zero.1 (show ε * det n (fun i j => M i (γ j)) = 0 by rw [h1]; grind) with h4 | h4
    · exact h.ene h4
    · exact hd h4
  · omega
theorem RI.piv_ge (h : RI n M A k pv π δ ε) : ∀ t, t < pv.length → t ≤ pv.getD t 0
  | 0, _ => Nat.zero_le _
  | t + 1, ht => by
    have h1 := h.piv_ge t (by omega)
    have h2 := h.inc t (t + 1) (by omega) ht
    omega
/-- as many pivots as columns: every column has one -/
theorem RI.piv_id (h : RI n M A w pv π δ ε) (hl : pv.length = w) : ∀ t, t < w → pv.getD t 0 = t := by
  have key : ∀ d t, t + d + 1 = w → pv.getD t 0 = t := by
    intro d
    induction d with
    | zero =>
      intro t ht
      have h1 := h.piv_ge t (by omega)
      have h2 := h.lt t (by omega)
      omega
    | succ d ih =>
      intro t ht
      have h1 := h.piv_ge t (by omega)
      have h2 := ih (t + 1) (by omega)
      have h3 := h.inc t (t + 1) (by omega) (by omega)
      omega
  intro t ht
  exact key (w - t - 1) t (by omega)
end
/-- a list of rows for a matrix given as a function -/
def toM (n w : Nat) (X : Nat → Nat → Rat) : MQ := (List.range n).map fun i => (List.range w).map fun j => X i j
theorem rect_toM (n w : Nat) (X : Nat → Nat → Rat) : Rect (toM n w X) n w := ⟨by simp [toM], fun r hr => by
  unfold toM at hr
  obtain ⟨i, _, rfl⟩ := List.mem_map.1 hr
  simp⟩
theorem at2_toM {n w i j : Nat} (X : Nat → Nat → Rat) (hi : i < n) (hj : j < w) : at2 (toM n w X) i j = X i j := by
  unfold at2 toM
  rw [getD_range_map n _ hi, getD_range_map w _ hj]
theorem at2_ge {m : MQ} {n w i j : Nat} (h : Rect m n w) (hi : i < n) (hj : w ≤ j) : at2 m i j = 0 := getD_ge _ _ _ (by rw [rect_len h hi]; exact hj)
/-- a row of the present matrix without a pivot is 0 -/
theorem Red.zero_row {m : MQ} {n w : Nat} {s : MQ × List Nat} (h : Red m n w w s) {i : Nat} (h1 : s.2.length ≤ i) (hi : i < n) (j : Nat) : at2 s.1 i j = 0 := by
  obtain ⟨π, δ, ε, hI⟩ := h.inv
  by_cases hj : j < w
  · exact hI.low i j h1 hi hj
  · exact at2_ge h.rect hi (by omega)
/-- every alternating form of the rows is a multiple of the determinant -/
theorem alt_unique {n : Nat} {F : (Nat → Nat → Rat) → Rat} (hF : Alt n F) {m : MQ} (hm : Rect m n n) : F (at2 m) = det n (at2 m) * F (fun i j => if i = j then 1 else 0) := by
  have hR := red_inv hm n
  obtain ⟨π, δ, ε, hI⟩ := hR.inv
  have key : ∀ G, Alt n G → ε * G (at2 m) = δ * G (at2 (redQ m n).1) := fun G hG => by
    have h1 := hI.minor n G id hI.few hG (fun _ _ => rfl) (fun i hi => hi) (fun i j _ _ e => e)
    have h2 := hI.sign G (at2 m) hG
    simp only [id] at h1
    rw [← h2, h1]
  have k1 := key F hF
  have k2 := key (det n) (det_alt n)
  have hf := hI.few
  rcases Nat.lt_or_ge (redQ m n).2.length n with hl | hl
  · rw [hF.zero_row hl fun j => hR.zero_row (Nat.le_refl _) hl j, Rat.mul_zero] at k1
    rw [(det_alt n).zero_row hl fun j => hR.zero_row (Nat.le_refl _) hl j, Rat.mul_zero] at k2
    rcases Rat.mul_eq_zero.1 k1 with h | h
    · exact absurd h hI.ene
    · rcases Rat.mul_eq_zero.1 k2 with h' | h'
      · exact absurd h' hI.ene
      · rw [h, h']; grind
  · have hl : (redQ m n).2.length = n := by omega
    have hid : ∀ i, i < n → at2 (redQ m n).1 i = fun j => if i = j then 1 else 0 := fun i hi => by
      funext j
      by_cases hj : j < n
      · have := hI.unit j i (by omega) hi
        rw [hI.piv_id hl j hj] at this
        exact this
      · rw [at2_ge hR.rect hi (by omega), if_neg (by omega)]
    rw [hF.congr _ (fun i j => if i = j then 1 else 0) hid] at k1
    rw [(det_alt n).congr _ (fun i j => if i = j then 1 else 0) hid, det_id, Rat.mul_one] at k2
    rw [← k2] at k1
    have e : ε * (F (at2 m) - det n (at2 m) * F (fun i j => if i = j then 1 else 0)) = 0 := by
      have : ε * F (at2 m) = ε * (det n (at2 m) * F (fun i j => if i = j then 1 else 0)) := by rw [k1]; grind
      rw [Rat.sub_eq_add_neg, Rat.mul_add, this]; grind
    rcases Rat.mul_eq_zero.1 e with h | h
    · exact absurd h hI.ene
    · grind
/-- the determinant of a product -/
theorem det_mul (n : Nat) (X Y : Nat → Nat → Rat) : det n (fun i j => sm n fun t => X i t * Y t j) = det n X * det n Y := by
  have h := alt_unique (prod_alt n n Y) (rect_toM n n X)
  have e1 : det n (fun i j => sm n fun t => at2 (toM n n X) i t * Y t j) = det n (fun i j => sm n fun t => X i t * Y t j) :=
    det_congr n fun i j hi _ => sm_congr _ fun t ht => by rw [at2_toM X hi ht]
  have e2 : det n (at2 (toM n n X)) = det n X := det_congr n fun i j hi hj => at2_toM X hi hj
  have e3 : det n (fun i j => sm n fun t => (if i = t then (1 : Rat) else 0) * Y t j) = det n Y := det_congr n fun i j hi _ => by
    rw [sm_one i n hi fun t _ ht => by rw [if_neg (Ne.symm ht)]; grind, if_pos rfl]; grind
  simp only at h
  rw [e1, e2, e3] at h
  exact h
/-- rows that are combinations of too few rows -/
theorem det_low {r s : Nat} (hs : s < r) (X Y : Nat → Nat → Rat) : det r (fun i j => sm s fun t => X i t * Y t j) = 0 := by
  have e : det r (fun i j => sm s fun t => X i t * Y t j) = det r (fun i j => sm r fun t => (if t < s then X i t else 0) * (if t < s then Y t j else 0)) := by
    refine det_congr r fun i j _ _ => ?_
    have : ∀ d, (sm (s + d) fun t => (if t < s then X i t else 0) * (if t < s then Y t j else 0)) = sm s fun t => X i t * Y t j := by
      intro d
      induction d with
      | zero => exact sm_congr _ fun t ht => by rw [if_pos (show t < s from ht), if_pos (show t < s from ht)]
      | succ d ih => rw [← Nat.add_assoc, sm, ih, if_neg (by omega)]; grind
    rw [← this (r - s), show s + (r - s) = r by omega]
  rw [e, det_mul, ← det_tr r (fun i t => if t < s then X i t else 0), det_zero_row hs fun j => if_neg (by omega)]
  grind
/-- rank of rows and of columns -/
theorem rank_le {m m' : MQ} {n w : Nat} (hm : Rect m n w) (hm' : Rect m' w n) (ht : ∀ i j, i < n → j < w → at2 m' j i = at2 m i j) : (redQ m w).2.length ≤ (redQ m' n).2.length := by
  obtain ⟨π, δ, ε, hI⟩ := (red_inv hm w).inv
  have hR := red_inv hm' n
  obtain ⟨π', δ', ε', hJ⟩ := hR.inv
  rcases Nat.lt_or_ge (redQ m' n).2.length (redQ m w).2.length with hl | hl
  · exfalso
    have h1 := hI.minor (redQ m w).2.length (fun X => det (redQ m w).2.length fun i j => X i ((redQ m w).2.getD j 0)) id (Nat.le_refl _) (cols_alt _ _) (fun _ _ => rfl) (fun i hi => by have := hI.few; show i < n; omega) (fun i j _ _ e => e)
    have hid : det (redQ m w).2.length (fun i j => at2 (redQ m w).1 (id i) ((redQ m w).2.getD j 0)) = 1 := by
      rw [← det_id (redQ m w).2.length]
      exact det_congr _ fun a b ha hb => hI.unit b a hb (by have := hI.few; show a < n; omega)
    simp only [id] at h1 hid
    rw [hid, Rat.mul_one] at h1
    refine hI.dne (h1.symm.trans ?_)
    have hcol : ∀ j, ∃ c : Nat → Rat, j < (redQ m w).2.length → ∀ i, i < n → at2 m i ((redQ m w).2.getD j 0) = sm (redQ m' n).2.length fun t => at2 (redQ m' n).1 t i * c t := fun j => by
      by_cases hj : j < (redQ m w).2.length
      · have hpw := hI.lt j hj
        obtain ⟨b, hb, eb⟩ := hJ.prm.onto _ hpw
        refine ⟨fun t => at2 m' (π' b) ((redQ m' n).2.getD t 0), fun _ i hi => ?_⟩
        have hbk := hJ.back b i hb
        rw [← ht i _ hi hpw, ← eb, hbk]
        have hz : (if b < (redQ m' n).2.length then (0 : Rat) else at2 (redQ m' n).1 b i) = 0 := by
          by_cases e : b < (redQ m' n).2.length
          · rw [if_pos e]
          · rw [if_neg e]; exact hR.zero_row (by omega) hb i
        rw [hz, Rat.add_zero]
        exact sm_congr _ fun t _ => by rw [Rat.mul_comm]
      · exact ⟨fun _ => 0, fun h => absurd h hj⟩
    obtain ⟨c, hc⟩ : ∃ c : Nat → Nat → Rat, ∀ j, j < (redQ m w).2.length → ∀ i, i < n → at2 m i ((redQ m w).2.getD j 0) = sm (redQ m' n).2.length fun t => at2 (redQ m' n).1 t i * c t j :=
      ⟨fun t j => (Classical.choose (hcol j)) t, fun j hj i hi => Classical.choose_spec (hcol j) hj i hi⟩
    rw [← det_low hl (fun i t => at2 (redQ m' n).1 t (π i)) c]
    exact det_congr _ fun i j hi hj => hc j hj _ (hI.prm.lt i (by have := hI.few; omega))
  · exact hl
theorem rank_tr {m : MQ} {n w : Nat} (hm : Rect m n w) : (redQ m w).2.length = (redQ (trQ m w) n).2.length := by
  have ht : Rect (trQ m w) w n := rect_tr hm.1
  have h1 := rank_le hm ht fun i j _ hj => at2_tr m hj
  have h2 := rank_le ht hm fun i j hi _ => (at2_tr m hi).symm
  omega
end Go.Proofs.YtgecdcjfncfmcaaGreatDoor
namespace Go.Proofs.YtgecdcjfncfmcaaGreatDoor

theorem getD_take_ {α : Type} (r : List α) {k c : Nat} (h : k < c) (d : α) : (r.take c).getD k d = r.getD k d := by
  rw [List.getD_eq_getElem?_getD, List.getElem?_take, if_pos h, List.getD_eq_getElem?_getD]
theorem getD_map_ {α β : Type} (f : List α → List β) (hf : f [] = []) (m : List (List α)) (i : Nat) : (m.map f).getD i [] = f (m.getD i []) := by
  rw [List.getD_eq_getElem?_getD, List.getElem?_map, List.getD_eq_getElem?_getD]
  cases m[i]? with
  | none => exact hf.symm
  | some x => rfl
theorem at2_take (m : MQ) {c k : Nat} (h : k < c) (i : Nat) : at2 (m.map fun r => r.take c) i k = at2 m i k := by
  unfold at2
  rw [getD_map_ (fun r => r.take c) (by simp) m i, getD_take_ _ h]
theorem nzAt_take {k c : Nat} (h : k < c) : ∀ (l : List (List Rat)) (p : Nat), nzAt k (l.map fun r => r.take c) p = nzAt k l p
  | [], _ => rfl
  | r :: l, p => by rw [List.map_cons, nzAt, nzAt, getD_take_ r h, nzAt_take h l]
theorem scRow_take (k : Nat) (d : Rat) (r : List Rat) (c : Nat) : scRow k d (r.take c) = (scRow k d r).take c := by
  apply List.ext_getElem?
  intro j
  unfold scRow
  rw [List.getElem?_mapIdx, List.getElem?_take, List.getElem?_take, List.getElem?_mapIdx]
  by_cases hj : j < c
  · rw [if_pos hj, if_pos hj]
  · rw [if_neg hj, if_neg hj]; rfl
theorem elRow_take {k c : Nat} (h : k < c) (pr r : List Rat) : elRow k (pr.take c) (r.take c) = (elRow k pr r).take c := by
  apply List.ext_getElem?
  intro j
  unfold elRow
  rw [List.getElem?_mapIdx, List.getElem?_take, List.getElem?_take, List.getElem?_mapIdx]
  by_cases hj : j < c
  · rw [if_pos hj, if_pos hj, getD_take_ r h, getD_take_ pr hj]
  · rw [if_neg hj, if_neg hj]; rfl
theorem swQ_take (m : MQ) (r p c : Nat) : swQ (m.map fun x => x.take c) r p = (swQ m r p).map fun x => x.take c := by
  unfold swQ
  rw [getD_map_ (fun x => x.take c) (by simp), getD_map_ (fun x => x.take c) (by simp), List.map_set, List.map_set]
theorem pvRow_take (m : MQ) (r : Nat) {k c : Nat} (h : k < c) : pvRow (m.map fun x => x.take c) r k = (pvRow m r k).take c := by
  unfold pvRow
  rw [at2_take m h, getD_map_ (fun x => x.take c) (by simp), scRow_take]
theorem pvQ_take (m : MQ) (r : Nat) {k c : Nat} (h : k < c) : pvQ (m.map fun x => x.take c) r k = (pvQ m r k).map fun x => x.take c := by
  apply List.ext_getElem?
  intro i
  unfold pvQ
  rw [List.getElem?_mapIdx, List.getElem?_map, List.getElem?_map, List.getElem?_mapIdx]
  cases m[i]? with
  | none => rfl
  | some x =>
    simp only [Option.map_some]
    congr 1
    by_cases e : i = r
    · rw [if_pos e, if_pos e, pvRow_take m r h]
    · rw [if_neg e, if_neg e, pvRow_take m r h, elRow_take h]
theorem red_take (m : MQ) (c : Nat) : ∀ k, k ≤ c → redQ (m.map fun x => x.take c) k = ((redQ m k).1.map (fun x => x.take c), (redQ m k).2)
  | 0, _ => rfl
  | k + 1, h => by
    rw [redQ, redQ, red_take m c k (by omega)]
    unfold redS
    simp only
    rw [List.length_map, ← List.map_drop, nzAt_take (by omega)]
    split
    · rfl
    · rw [swQ_take, pvQ_take _ _ (by omega)]
/-- one step brings one pivot at most -/
theorem redS_piv (s : MQ × List Nat) (k : Nat) : (redS s k).2 = s.2 ∨ (redS s k).2 = s.2 ++ [k] := by
  unfold redS
  split
  · exact .inl rfl
  · exact .inr rfl
/-- nothing happens when every row has a pivot -/
theorem redS_full {s : MQ × List Nat} (h : s.2.length = s.1.length) (k : Nat) : redS s k = s := by
  unfold redS
  rw [List.drop_of_length_le (by omega), nzAt, if_pos (by omega)]
theorem redQ_full {m : MQ} {n w : Nat} (hm : Rect m n w) {k : Nat} (h : (redQ m k).2.length = n) : ∀ d, redQ m (k + d) = redQ m k
  | 0 => rfl
  | d + 1 => by
    rw [← Nat.add_assoc, redQ, redQ_full hm h d]
    exact redS_full (by rw [h, (red_inv hm k).rect.1]) _
theorem piv_lt {m : MQ} {n w : Nat} (hm : Rect m n w) (k : Nat) : ∀ p ∈ (redQ m k).2, p < k := fun p hp => by
  obtain ⟨π, δ, ε, hI⟩ := (red_inv hm k).inv
  obtain ⟨t, ht, e⟩ := List.mem_iff_getElem.1 hp
  have := hI.lt t ht
  rw [List.getD_eq_getElem?_getD, List.getElem?_eq_getElem ht, Option.getD_some, e] at this
  exact this
/-- the columns without a pivot -/
def frees (pv : List Nat) (w : Nat) : List Nat := (List.range w).filter fun k => !pv.contains k
theorem frees_succ (pv : List Nat) (w : Nat) : frees pv (w + 1) = frees pv w ++ if pv.contains w = true then [] else [w] := by
  unfold frees
  rw [List.range_succ, List.filter_append]
  congr 1
  by_cases h : pv.contains w = true
  · rw [if_pos h, List.filter_cons_of_neg (by rw [h]; decide)]; rfl
  · rw [if_neg h, List.filter_cons_of_pos (by simpa using h)]; rfl
theorem frees_snoc (pv : List Nat) (w : Nat) : ∀ k, k ≤ w → frees (pv ++ [w]) k = frees pv k
  | 0, _ => rfl
  | k + 1, h => by
    rw [frees_succ, frees_succ, frees_snoc pv w k (by omega)]
    congr 1
    have e : (pv ++ [w]).contains k = pv.contains k := by
      rw [Bool.eq_iff_iff, List.contains_iff_mem, List.contains_iff_mem, List.mem_append]
      constructor
      · rintro (h1 | h1)
        · exact h1
        · simp at h1; omega
      · exact .inl
    rw [e]
theorem frees_len {m : MQ} {n w : Nat} (hm : Rect m n w) : ∀ k, (frees (redQ m k).2 k).length + (redQ m k).2.length = k
  | 0 => rfl
  | k + 1 => by
    have ih := frees_len hm k
    rw [frees_succ, List.length_append]
    rcases redS_piv (redQ m k) k with h | h
    · have e : (redQ m (k + 1)).2 = (redQ m k).2 := h
      rw [e]
      have hk : ¬ ((redQ m k).2.contains k = true) := fun hc => by
        have := piv_lt hm k k (List.contains_iff_mem.1 hc)
        omega
      rw [if_neg hk]
      simp only [List.length_cons, List.length_nil]
      omega
    · have e : (redQ m (k + 1)).2 = (redQ m k).2 ++ [k] := h
      rw [e, frees_snoc _ _ _ (Nat.le_refl _), if_pos (by simp), List.length_append]
      simp only [List.length_cons, List.length_nil]
      omega
theorem mem_frees {pv : List Nat} {w f : Nat} : f ∈ frees pv w ↔ f < w ∧ f ∉ pv := by
  unfold frees
  rw [List.mem_filter, List.mem_range]
  simp
theorem frees_lt {pv : List Nat} {w : Nat} {i j : Nat} (h : i < j) (hj : j < (frees pv w).length) : (frees pv w).getD i 0 < (frees pv w).getD j 0 := by
  have hp : (frees pv w).Pairwise (· < ·) := List.Pairwise.filter _ List.pairwise_lt_range
  rw [List.getD_eq_getElem?_getD, List.getElem?_eq_getElem (by omega), List.getD_eq_getElem?_getD, List.getElem?_eq_getElem hj]
  exact List.pairwise_iff_getElem.1 hp i j (by omega) hj h
/-- the vector of the kernel for column f, with the first t pivots' elements -/
def kerS (A : MQ) (pv : List Nat) (w f : Nat) : Nat → List Rat
  | 0 => (List.replicate w 0).set f 1
  | t + 1 => (kerS A pv w f t).set (pv.getD t 0) (-(at2 A t f))
theorem kerS_len (A : MQ) (pv : List Nat) (w f : Nat) : ∀ t, (kerS A pv w f t).length = w
  | 0 => by simp [kerS]
  | t + 1 => by rw [kerS, List.length_set, kerS_len A pv w f t]
theorem getD_set_ {α : Type} (l : List α) (i j : Nat) (x d : α) : (l.set i x).getD j d = if i = j ∧ j < l.length then x else l.getD j d := by
  rw [List.getD_eq_getElem?_getD, List.getElem?_set, List.getD_eq_getElem?_getD]
  by_cases h : i = j
  · by_cases h2 : j < l.length
    · rw [if_pos h, if_pos (by omega), if_pos ⟨h, h2⟩]; rfl
    · rw [if_pos h, if_neg (by omega), if_neg (fun k => h2 k.2), List.getElem?_eq_none (by omega)]
  · rw [if_neg h, if_neg (fun k => h k.1)]
section
variable {n w : Nat} {M : Nat → Nat → Rat} {A : MQ} {pv : List Nat} {π : Nat → Nat} {δ ε : Rat}
theorem kerS_free (h : RI n M (at2 A) w pv π δ ε) {f : Nat} (hf : f < w) (hp : f ∉ pv) : ∀ t, t ≤ pv.length → (kerS A pv w f t).getD f 0 = 1
  | 0, _ => by rw [kerS, getD_set_, if_pos ⟨rfl, by simpa using hf⟩]
  | t + 1, ht => by
    rw [kerS, getD_set_, if_neg (fun k => hp (by
      rw [← k.1, List.getD_eq_getElem?_getD, List.getElem?_eq_getElem (by omega)]
      exact List.getElem_mem _)), kerS_free h hf hp t (by omega)]
theorem kerS_other {f j : Nat} (hj : j ≠ f) : ∀ t, (∀ u, u < t → pv.getD u 0 ≠ j) → (kerS A pv w f t).getD j 0 = 0
  | 0, _ => by
    rw [kerS, getD_set_, if_neg (fun k => hj k.1.symm), List.getD_eq_getElem?_getD, List.getElem?_replicate]
    split <;> rfl
  | t + 1, h => by rw [kerS, getD_set_, if_neg (fun k => h t (by omega) k.1), kerS_other hj t fun u hu => h u (by omega)]
theorem RI.distinct (h : RI n M (at2 A) w pv π δ ε) {t u : Nat} (ht : t < pv.length) (hu : u < pv.length) (he : pv.getD t 0 = pv.getD u 0) : t = u := by
  rcases Nat.lt_trichotomy t u with h1 | h1 | h1
  · have := h.inc t u h1 hu; omega
  · exact h1
  · have := h.inc u t h1 ht; omega
theorem kerS_piv (h : RI n M (at2 A) w pv π δ ε) {f u : Nat} : ∀ t, t ≤ pv.length → u < t → (kerS A pv w f t).getD (pv.getD u 0) 0 = -(at2 A u f)
  | 0, _, hu => by omega
  | t + 1, ht, hu => by
    rw [kerS, getD_set_]
    by_cases e : u = t
    · subst e
      rw [if_pos ⟨rfl, by rw [kerS_len]; exact h.lt u (by omega)⟩]
    · rw [if_neg (fun k => e (h.distinct (by omega) (by omega) k.1.symm)), kerS_piv h t (by omega) (by omega)]
/-- it is mapped to 0 -/
theorem kerS_null (h : RI n M (at2 A) w pv π δ ε) {f : Nat} (hf : f < w) (hp : f ∉ pv) : ∀ i, i < n → (sm w fun j => M i j * (kerS A pv w f pv.length).getD j 0) = 0 := by
  refine h.null fun i hi => ?_
  have hfp : ∀ u, u < pv.length → pv.getD u 0 ≠ f := fun u hu e => hp (by
    rw [← e, List.getD_eq_getElem?_getD, List.getElem?_eq_getElem hu]
    exact List.getElem_mem _)
  by_cases hir : i < pv.length
  · have hz : ∀ j, j < w → j ≠ f → j ≠ pv.getD i 0 → at2 A i j * (kerS A pv w f pv.length).getD j 0 = 0 := fun j _ hj1 hj2 => by
      by_cases e : ∃ u, u < pv.length ∧ pv.getD u 0 = j
      · obtain ⟨u, hu, rfl⟩ := e
        rw [h.unit u i hu hi, if_neg (fun e => hj2 (by rw [e]))]; grind
      · rw [kerS_other hj1 pv.length fun u hu he => e ⟨u, hu, he⟩]; grind
    have hpw := h.lt i hir
    have hpf := hfp i hir
    have e1 : at2 A i f * (kerS A pv w f pv.length).getD f 0 = at2 A i f := by rw [kerS_free h hf hp _ (Nat.le_refl _), Rat.mul_one]
    have e2 : at2 A i (pv.getD i 0) * (kerS A pv w f pv.length).getD (pv.getD i 0) 0 = -(at2 A i f) := by
      rw [kerS_piv h pv.length (Nat.le_refl _) hir, h.unit i i hir hi, if_pos rfl, Rat.one_mul]
    rcases Nat.lt_or_gt_of_ne hpf with h1 | h1
    · rw [sm_two (pv.getD i 0) f h1 w hf fun j hj a b => hz j hj b a, e1, e2]; grind
    · rw [sm_two f (pv.getD i 0) h1 w hpw fun j hj a b => hz j hj a b, e1, e2]; grind
  · exact sm_zero w fun j hj => by rw [h.low i j (by omega) hi hj]; grind
/-- behind its column it is 0 -/
theorem kerS_after (h : RI n M (at2 A) w pv π δ ε) {f j : Nat} (hj : f < j) : (kerS A pv w f pv.length).getD j 0 = 0 := by
  by_cases e : ∃ u, u < pv.length ∧ pv.getD u 0 = j
  · obtain ⟨u, hu, rfl⟩ := e
    rw [kerS_piv h pv.length (Nat.le_refl _) hu, h.left u f hu hj]; grind
  · exact kerS_other (by omega) pv.length fun u hu he => e ⟨u, hu, he⟩
end
def kerQ (m : MQ) (w : Nat) : MQ := (frees (redQ m w).2 w).map fun f => kerS (redQ m w).1 (redQ m w).2 w f (redQ m w).2.length
end Go.Proofs.YtgecdcjfncfmcaaGreatDoor
namespace Go.Proofs.YtgecdcjfncfmcaaGreatDoor

/-- a row of which the elements from k to j have been divided -/
def scP (k j : Nat) (d : Rat) (r : List Rat) : List Rat := r.mapIdx fun i x => if k ≤ i ∧ i < j then x / d else x
theorem mapIdx_id {α : Type} (r : List α) (f : Nat → α → α) (h : ∀ i x, r[i]? = some x → f i x = x) : r.mapIdx f = r := by
  apply List.ext_getElem?
  intro i
  rw [List.getElem?_mapIdx]
  cases e : r[i]? with
  | none => rfl
  | some x => show some (f i x) = some x; rw [h i x e]
theorem scP_len (k j : Nat) (d : Rat) (r : List Rat) : (scP k j d r).length = r.length := List.length_mapIdx
theorem scP_start (k : Nat) (d : Rat) (r : List Rat) : scP k k d r = r := mapIdx_id r _ fun i x _ => if_neg (by omega)
theorem scP_end (k : Nat) (d : Rat) (r : List Rat) : scP k r.length d r = scRow k d r := by
  apply List.ext_getElem?
  intro i
  unfold scP scRow
  rw [List.getElem?_mapIdx, List.getElem?_mapIdx]
  cases e : r[i]? with
  | none => rfl
  | some x =>
    have hi := (List.getElem?_eq_some_iff.1 e).1
    simp only [Option.map_some]
    by_cases hk : k ≤ i
    · rw [if_pos ⟨hk, hi⟩, if_pos hk]
    · rw [if_neg (fun h => hk h.1), if_neg hk]
theorem scP_at (k j : Nat) (d : Rat) (r : List Rat) (i : Nat) (hi : j ≤ i) : (scP k j d r).getD i 0 = r.getD i 0 := by
  unfold scP
  by_cases h : i < r.length
  · rw [getD_mapIdx r _ i 0 0 h, if_neg (by omega)]
  · rw [getD_mapIdx_ge _ _ _ _ (by omega), getD_ge r i 0 (by omega)]
theorem scP_set {k j : Nat} (d : Rat) (r : List Rat) (hk : k ≤ j) (hj : j < r.length) : (scP k j d r).set j (r.getD j 0 / d) = scP k (j + 1) d r := by
  apply List.ext_getElem?
  intro i
  unfold scP
  rw [List.getElem?_set, List.getElem?_mapIdx, List.getElem?_mapIdx, List.length_mapIdx]
  by_cases e : j = i
  · subst e
    rw [if_pos rfl, if_pos hj, List.getElem?_eq_getElem hj, List.getD_eq_getElem?_getD, List.getElem?_eq_getElem hj]
    simp only [Option.map_some]
    rw [if_pos ⟨hk, by omega⟩]; rfl
  · rw [if_neg e]
    cases r[i]? with
    | none => rfl
    | some x =>
      simp only [Option.map_some]
      by_cases h : k ≤ i ∧ i < j
      · rw [if_pos h, if_pos ⟨h.1, by omega⟩]
      · rw [if_neg h, if_neg (by omega)]
/-- a row from whose elements from k to j a multiple of another row has been taken -/
def elP (k j : Nat) (f : Rat) (pr r : List Rat) : List Rat := r.mapIdx fun i x => if k ≤ i ∧ i < j then x - f * pr.getD i 0 else x
theorem elP_len (k j : Nat) (f : Rat) (pr r : List Rat) : (elP k j f pr r).length = r.length := List.length_mapIdx
theorem elP_start (k : Nat) (f : Rat) (pr r : List Rat) : elP k k f pr r = r := mapIdx_id r _ fun i x _ => if_neg (by omega)
theorem elP_end (k : Nat) (pr r : List Rat) : elP k r.length (r.getD k 0) pr r = elRow k pr r := by
  apply List.ext_getElem?
  intro i
  unfold elP elRow
  rw [List.getElem?_mapIdx, List.getElem?_mapIdx]
  cases e : r[i]? with
  | none => rfl
  | some x =>
    have hi := (List.getElem?_eq_some_iff.1 e).1
    simp only [Option.map_some]
    by_cases hk : k ≤ i
    · rw [if_pos ⟨hk, hi⟩, if_pos hk]
    · rw [if_neg (fun h => hk h.1), if_neg hk]
theorem elP_at (k j : Nat) (f : Rat) (pr r : List Rat) (i : Nat) (hi : j ≤ i) : (elP k j f pr r).getD i 0 = r.getD i 0 := by
  unfold elP
  by_cases h : i < r.length
  · rw [getD_mapIdx r _ i 0 0 h, if_neg (by omega)]
  · rw [getD_mapIdx_ge _ _ _ _ (by omega), getD_ge r i 0 (by omega)]
theorem elP_set {k j : Nat} (f : Rat) (pr r : List Rat) (hk : k ≤ j) (hj : j < r.length) : (elP k j f pr r).set j (r.getD j 0 - f * pr.getD j 0) = elP k (j + 1) f pr r := by
  apply List.ext_getElem?
  intro i
  unfold elP
  rw [List.getElem?_set, List.getElem?_mapIdx, List.getElem?_mapIdx, List.length_mapIdx]
  by_cases e : j = i
  · subst e
    rw [if_pos rfl, if_pos hj, List.getElem?_eq_getElem hj, List.getD_eq_getElem?_getD, List.getElem?_eq_getElem hj]
    simp only [Option.map_some]
    rw [if_pos ⟨hk, by omega⟩]; rfl
  · rw [if_neg e]
    cases r[i]? with
    | none => rfl
    | some x =>
      simp only [Option.map_some]
      by_cases h : k ≤ i ∧ i < j
      · rw [if_pos h, if_pos ⟨h.1, by omega⟩]
      · rw [if_neg h, if_neg (by omega)]
theorem elP_skip {k j : Nat} (f : Rat) (pr r : List Rat) (h0 : pr.getD j 0 = 0) : elP k (j + 1) f pr r = elP k j f pr r := by
  apply List.ext_getElem?
  intro i
  unfold elP
  rw [List.getElem?_mapIdx, List.getElem?_mapIdx]
  cases r[i]? with
  | none => rfl
  | some x =>
    simp only [Option.map_some]
    by_cases h : k ≤ i ∧ i < j
    · rw [if_pos h, if_pos ⟨h.1, by omega⟩]
    · rw [if_neg h]
      by_cases e : i = j
      · subst e
        by_cases hk : k ≤ i
        · rw [if_pos ⟨hk, by omega⟩, h0]; congr 1; grind
        · rw [if_neg (fun h => hk h.1)]
      · rw [if_neg (by omega)]
/-- a matrix whose first i rows are done -/
def elM (k : Nat) (pr : List Rat) (rr i : Nat) (m : MQ) : MQ := m.mapIdx fun a row => if a < i ∧ a ≠ rr then elRow k pr row else row
theorem elM_len (k : Nat) (pr : List Rat) (rr i : Nat) (m : MQ) : (elM k pr rr i m).length = m.length := List.length_mapIdx
theorem elM_start (k : Nat) (pr : List Rat) (rr : Nat) (m : MQ) : elM k pr rr 0 m = m := mapIdx_id m _ fun a x _ => if_neg (by omega)
theorem elM_row (k : Nat) (pr : List Rat) (rr i : Nat) (m : MQ) (a : Nat) (ha : i ≤ a ∨ a = rr) : (elM k pr rr i m).getD a [] = m.getD a [] := by
  unfold elM
  by_cases h : a < m.length
  · rw [getD_mapIdx m _ a [] [] h, if_neg (by omega)]
  · rw [getD_mapIdx_ge _ _ _ _ (by omega), getD_ge m a [] (by omega)]
theorem elRow_zero {k : Nat} {pr r : List Rat} (h0 : r.getD k 0 = 0) : elRow k pr r = r := by
  unfold elRow
  rw [h0]
  refine mapIdx_id r _ fun i x _ => ?_
  split
  · grind
  · rfl
theorem elM_set {k : Nat} (pr : List Rat) {rr i : Nat} (m : MQ) (hi : i < m.length) (hr : i ≠ rr) : (elM k pr rr i m).set i (elRow k pr (m.getD i [])) = elM k pr rr (i + 1) m := by
  apply List.ext_getElem?
  intro a
  unfold elM
  rw [List.getElem?_set, List.getElem?_mapIdx, List.getElem?_mapIdx, List.length_mapIdx]
  by_cases e : i = a
  · subst e
    rw [if_pos rfl, if_pos hi, List.getElem?_eq_getElem hi, List.getD_eq_getElem?_getD, List.getElem?_eq_getElem hi]
    simp only [Option.map_some]
    rw [if_pos ⟨by omega, hr⟩]; rfl
  · rw [if_neg e]
    cases m[a]? with
    | none => rfl
    | some x =>
      simp only [Option.map_some]
      by_cases h : a < i ∧ a ≠ rr
      · rw [if_pos h, if_pos ⟨by omega, h.2⟩]
      · rw [if_neg h, if_neg (by omega)]
theorem elM_skip {k : Nat} (pr : List Rat) {rr i : Nat} (m : MQ) (h : i = rr ∨ (m.getD i []).getD k 0 = 0) : elM k pr rr (i + 1) m = elM k pr rr i m := by
  apply List.ext_getElem?
  intro a
  unfold elM
  rw [List.getElem?_mapIdx, List.getElem?_mapIdx]
  cases e : m[a]? with
  | none => rfl
  | some x =>
    simp only [Option.map_some]
    by_cases h1 : a < i ∧ a ≠ rr
    · rw [if_pos h1, if_pos ⟨by omega, h1.2⟩]
    · rw [if_neg h1]
      by_cases h2 : a = i ∧ a ≠ rr
      · obtain ⟨rfl, h3⟩ := h2
        rw [if_pos ⟨by omega, h3⟩]
        rcases h with h | h
        · exact absurd h h3
        · have hx : m.getD a [] = x := by rw [List.getD_eq_getElem?_getD, e]; rfl
          rw [hx] at h
          rw [elRow_zero h]
      · rw [if_neg (by omega)]
theorem elM_end {k rr : Nat} (m : MQ) (hr : rr < m.length) : elM k (pvRow m rr k) rr m.length (m.set rr (pvRow m rr k)) = pvQ m rr k := by
  apply List.ext_getElem?
  intro a
  unfold elM pvQ
  rw [List.getElem?_mapIdx, List.getElem?_mapIdx, List.getElem?_set]
  by_cases e : rr = a
  · subst e
    rw [if_pos rfl, if_pos hr, List.getElem?_eq_getElem hr]
    simp only [Option.map_some]
    rw [if_neg (fun h => h.2 rfl), if_pos trivial]
  · rw [if_neg e]
    cases e2 : m[a]? with
    | none => rfl
    | some x =>
      have ha := (List.getElem?_eq_some_iff.1 e2).1
      simp only [Option.map_some]
      rw [if_pos ⟨ha, Ne.symm e⟩, if_neg (Ne.symm e)]
theorem set_getD_self {α : Type} (l : List (List α)) (i : Nat) : l.set i (l.getD i []) = l := by
  apply List.ext_getElem?
  intro a
  rw [List.getElem?_set]
  by_cases e : i = a
  · subst e
    rw [if_pos rfl, List.getD_eq_getElem?_getD]
    by_cases h : i < l.length
    · rw [if_pos h, List.getElem?_eq_getElem h]; rfl
    · rw [if_neg h, List.getElem?_eq_none (by omega)]
  · rw [if_neg e]
theorem nzAt_step {k p : Nat} {A : MQ} (hp : p < A.length) : nzAt k (A.drop p) p = if at2 A p k = 0 then nzAt k (A.drop (p + 1)) (p + 1) else p := by
  rw [List.drop_eq_getElem_cons hp, nzAt]
  have hx : A.getD p [] = A[p] := by rw [List.getD_eq_getElem?_getD, List.getElem?_eq_getElem hp]; rfl
  have e : at2 A p k = (A[p]).getD k 0 := by unfold at2; rw [hx]
  rw [e]
theorem nzAt_end {k : Nat} {A : MQ} : nzAt k (A.drop A.length) A.length = A.length := by rw [List.drop_of_length_le (Nat.le_refl _), nzAt]
end Go.Proofs.YtgecdcjfncfmcaaGreatDoor
namespace Go.Proofs.YtgecdcjfncfmcaaGreatDoor

/-- a row of which a multiple of the pivot's row has been taken -/
def elD (k : Nat) (pr r : List Rat) : List Rat := elP k r.length (r.getD k 0 / pr.getD k 0) pr r
/-- a matrix whose rows from k + 1 to i are done -/
def dtM (k i : Nat) (m : MQ) : MQ := m.mapIdx fun a row => if k < a ∧ a < i then elD k (m.getD k []) row else row
def dtQ (m : MQ) : Nat → Option (MQ × Rat)
  | 0 => some (m, 1)
  | k + 1 => match dtQ m k with
    | none => none
    | some s => if s.1.length ≤ nzAt k (s.1.drop k) k then none else some (dtM k s.1.length (swQ s.1 k (nzAt k (s.1.drop k) k)), (if nzAt k (s.1.drop k) k = k then s.2 else -s.2) * at2 (swQ s.1 k (nzAt k (s.1.drop k) k)) k k)
def detR (m : MQ) (n : Nat) : Rat := match dtQ m n with
  | none => 0
  | some s => s.2
theorem det_block : ∀ (k n : Nat) (A : Nat → Nat → Rat), k < n → (∀ i j, j < k → j < i → i < n → A i j = 0) → (∀ i, k ≤ i → i < n → A i k = 0) → det n A = 0 := by
  intro k
  induction k with
  | zero =>
    intro n A hk _ h0
    cases n with
    | zero => omega
    | succ n =>
      rw [det]
      exact sm_zero _ fun i hi => by rw [h0 i (by omega) hi]; grind
  | succ k ih =>
    intro n A hk h1 h0
    cases n with
    | zero => omega
    | succ n =>
      rw [det, sm_one 0 (n + 1) (by omega) fun i hi h => by rw [h1 i 0 (by omega) (by omega) hi]; grind]
      rw [ih n (fun r c => A (sk 0 r) (c + 1)) (by omega) (fun i j hj hij hi => by
        show A (sk 0 i) (j + 1) = 0
        rw [sk_zero]; exact h1 _ _ (by omega) (by omega) (by omega)) (fun i hi hin => by
        show A (sk 0 i) (k + 1) = 0
        rw [sk_zero]; exact h0 _ (by omega) (by omega))]
      grind
/-- what stays true: M the matrix, A the present one behind k columns, d what has been multiplied -/
structure DI (n : Nat) (M A : Nat → Nat → Rat) (k : Nat) (d : Rat) : Prop where
  low : ∀ i j, j < k → j < i → i < n → A i j = 0
  sign : ∃ σ : Rat, σ * σ = 1 ∧ det n M = σ * det n A ∧ d = σ * pd k fun i => A i i
theorem DI.start (n : Nat) (M : Nat → Nat → Rat) : DI n M M 0 1 := ⟨fun i j h => by omega, 1, by grind, by grind, by rw [pd]; grind⟩
theorem DI.done {n : Nat} {M A : Nat → Nat → Rat} {d : Rat} (h : DI n M A n d) : det n M = d := by
  obtain ⟨σ, _, h2, h3⟩ := h.sign
  rw [h2, h3, det_tri n A fun i j hi hj => h.low i j (by omega) hj hi]
theorem DI.zero {n : Nat} {M A : Nat → Nat → Rat} {k : Nat} {d : Rat} (h : DI n M A k d) (hk : k < n) (h0 : ∀ i, k ≤ i → i < n → A i k = 0) : det n M = 0 := by
  obtain ⟨σ, _, h2, _⟩ := h.sign
  rw [h2, det_block k n A hk (fun i j hj hij hi => h.low i j hj hij hi) h0]; grind
theorem pd_congr {f g : Nat → Rat} : ∀ (n : Nat), (∀ i, i < n → f i = g i) → pd n f = pd n g
  | 0, _ => rfl
  | n + 1, h => by rw [pd, pd, h 0 (by omega), pd_congr n fun i hi => h _ (by omega)]
theorem DI.swap {n : Nat} {M A : Nat → Nat → Rat} {k p : Nat} {d : Rat} (h : DI n M A k d) (hk : k < n) (hp : k ≤ p) (hn : p < n) : DI n M (fun i => A (tau k p i)) k (if p = k then d else -d) := by
  obtain ⟨σ, h1, h2, h3⟩ := h.sign
  refine ⟨fun i j hj hij hi => h.low _ j hj ?_ (tau_lt hk hn hi), ?_⟩
  · by_cases e : i < k
    · rw [tau_small hp e]; exact hij
    · have := tau_ge hp (show k ≤ i by omega); omega
  · have hpd : (pd k fun i => A (tau k p i) i) = pd k fun i => A i i := pd_congr k fun i hi => by rw [tau_small hp hi]
    by_cases e : p = k
    · refine ⟨σ, h1, ?_, ?_⟩
      · rw [h2]
        congr 1
        refine det_congr n fun i j _ _ => ?_
        rw [show tau k p i = i by unfold tau; split <;> (try split) <;> omega]
      · rw [if_pos e, hpd]; exact h3
    · refine ⟨-σ, by grind, ?_, ?_⟩
      · have h4 := (det_alt n).swap A hk hn (Ne.symm e)
        rw [← swap_rows A (Ne.symm e)] at h4
        rw [h2, h4]; grind
      · rw [if_neg e, hpd, h3]; grind
theorem DI.step {n : Nat} {M A : Nat → Nat → Rat} {k : Nat} {d : Rat} (h : DI n M A k d) (hk : k < n) (hd : A k k ≠ 0) : DI n M (fun i j => if k < i then A i j - A i k / A k k * A k j else A i j) (k + 1) (d * A k k) := by
  obtain ⟨σ, h1, h2, h3⟩ := h.sign
  refine ⟨fun i j hj hij hi => ?_, σ, h1, ?_, ?_⟩
  · show (if k < i then A i j - A i k / A k k * A k j else A i j) = 0
    by_cases e : j = k
    · subst e
      rw [if_pos hij]
      have := mul_div_back hd (A i j)
      grind
    · rw [h.low i j (by omega) hij hi, h.low k j (by omega) (by omega) hk]
      split
      · grind
      · rfl
  · rw [h2]
    congr 1
    rw [← (det_alt n).elim A (fun i => if k < i then A i k / A k k else 0) hk]
    refine det_congr n fun i j _ _ => ?_
    by_cases e : i = k
    · rw [if_pos e, e, if_neg (by omega)]
    · rw [if_neg e]
      split
      · rfl
      · grind
  · have e : (pd (k + 1) fun i => if k < i then A i i - A i k / A k k * A k i else A i i) = pd (k + 1) fun i => A i i := pd_congr _ fun i hi => if_neg (by omega)
    rw [e, pd_last, h3]
    grind
theorem elD_at (k : Nat) (pr r : List Rat) (j : Nat) (hl : pr.length = r.length) : (elD k pr r).getD j 0 = if k ≤ j then r.getD j 0 - r.getD k 0 / pr.getD k 0 * pr.getD j 0 else r.getD j 0 := by
  unfold elD elP
  by_cases h : j < r.length
  · rw [getD_mapIdx r _ j 0 0 h]
    by_cases hk : k ≤ j
    · rw [if_pos ⟨hk, h⟩, if_pos hk]
    · rw [if_neg (fun e => hk e.1), if_neg hk]
  · rw [getD_mapIdx_ge _ _ _ _ (by omega), getD_ge r j 0 (by omega), getD_ge pr j 0 (by omega)]
    split
    · grind
    · rfl
theorem rect_dtM {m : MQ} {n w k i : Nat} (h : Rect m n w) : Rect (dtM k i m) n w := by
  refine ⟨by unfold dtM; rw [List.length_mapIdx]; exact h.1, fun row hrow => ?_⟩
  unfold dtM at hrow
  obtain ⟨a, ha, e⟩ := List.mem_mapIdx.1 hrow
  rw [← e]
  split
  · unfold elD; rw [elP_len]; exact h.2 _ (List.getElem_mem ha)
  · exact h.2 _ (List.getElem_mem ha)
theorem dtM_at {m : MQ} {n k : Nat} (h : Rect m n n) (hk : k < n) (h0 : ∀ j, j < k → at2 m k j = 0) {i : Nat} (hi : i < n) (j : Nat) : at2 (dtM k m.length m) i j = if k < i then at2 m i j - at2 m i k / at2 m k k * at2 m k j else at2 m i j := by
  show ((dtM k m.length m).getD i []).getD j 0 = _
  unfold dtM
  rw [getD_mapIdx m _ i [] [] (by rw [h.1]; exact hi)]
  by_cases e : k < i
  · rw [if_pos ⟨e, by rw [h.1]; exact hi⟩, if_pos e, elD_at _ _ _ _ (by rw [rect_len h hk, rect_len h hi])]
    by_cases hj : k ≤ j
    · rw [if_pos hj]; rfl
    · rw [if_neg hj, h0 j (by omega)]
      show at2 m i j = at2 m i j - at2 m i k / at2 m k k * 0
      grind
  · rw [if_neg (fun h => e h.1), if_neg e]; rfl
theorem dtQ_inv {m : MQ} {n : Nat} (hm : Rect m n n) : ∀ k, k ≤ n → (∀ s, dtQ m k = some s → Rect s.1 n n ∧ DI n (at2 m) (at2 s.1) k s.2) ∧ (dtQ m k = none → det n (at2 m) = 0)
  | 0, _ => ⟨fun s h => by injection h with h; subst h; exact ⟨hm, DI.start n _⟩, fun h => by cases h⟩
  | k + 1, hk => by
    obtain ⟨h1, h2⟩ := dtQ_inv hm k (by omega)
    rw [dtQ]
    cases e : dtQ m k with
    | none => exact ⟨fun s h => (by cases h), fun _ => h2 e⟩
    | some s =>
      obtain ⟨hR, hI⟩ := h1 s e
      obtain ⟨p1, p2, p3, p4⟩ := piv_spec s.1 k k (by rw [hR.1]; omega)
      rw [hR.1] at p2 p4
      simp only
      by_cases hp : s.1.length ≤ nzAt k (s.1.drop k) k
      · rw [if_pos hp]
        rw [hR.1] at hp
        exact ⟨fun s h => (by cases h), fun _ => hI.zero (by omega) fun i hi hin => p3 i hi (by omega)⟩
      · rw [if_neg hp]
        rw [hR.1] at hp
        generalize nzAt k (s.1.drop k) k = p at *
        have hkn : k < n := by omega
        have hpn : p < n := by omega
        have hSw := rect_swQ hR hkn hpn
        have ha : ∀ i j, at2 (swQ s.1 k p) i j = at2 s.1 (tau k p i) j := fun i j => by
          unfold at2
          rw [swQ_at (by rw [hR.1]; exact hkn) (by rw [hR.1]; exact hpn)]
        have hS := hI.swap hkn p1 hpn
        have hd : at2 s.1 (tau k p k) k ≠ 0 := by
          rw [show tau k p k = p by unfold tau; rw [if_pos rfl]]
          exact p4 hpn
        have hT := hS.step hkn hd
        refine ⟨fun t h => ?_, fun h => (by cases h)⟩
        injection h with h
        subst h
        refine ⟨rect_dtM hSw, ?_⟩
        have hlen : s.1.length = (swQ s.1 k p).length := by rw [hSw.1, hR.1]
        have h0 : ∀ j, j < k → at2 (swQ s.1 k p) k j = 0 := fun j hj => by rw [ha]; exact hS.low k j hj hj hkn
        have hat : ∀ i, i < n → ∀ j, at2 (dtM k s.1.length (swQ s.1 k p)) i j = if k < i then at2 s.1 (tau k p i) j - at2 s.1 (tau k p i) k / at2 s.1 (tau k p k) k * at2 s.1 (tau k p k) j else at2 s.1 (tau k p i) j := fun i hi j => by
          rw [hlen, dtM_at hSw hkn h0 hi j, ha, ha, ha, ha]
        obtain ⟨σ, s1, s2, s3⟩ := hT.sign
        refine ⟨fun i j hj hij hi => by rw [hat i hi]; exact hT.low i j hj hij hi, σ, s1, ?_, ?_⟩
        · rw [s2]
          congr 1
          exact det_congr n fun i j hi _ => (hat i hi j).symm
        · rw [ha]
          show (if p = k then s.2 else -s.2) * at2 s.1 (tau k p k) k = _
          rw [s3]
          congr 1
          exact pd_congr _ fun i hi => (hat i (by omega) i).symm
theorem detR_det {m : MQ} {n : Nat} (hm : Rect m n n) : detR m n = det n (at2 m) := by
  obtain ⟨h1, h2⟩ := dtQ_inv hm n (Nat.le_refl _)
  unfold detR
  cases e : dtQ m n with
  | none => exact (h2 e).symm
  | some s => exact (h1 s e).2.done.symm
end Go.Proofs.YtgecdcjfncfmcaaGreatDoor
namespace Go.Proofs.YtgecdcjfncfmcaaGreatDoor

/-- the rows with one number more each -/
def extQ (m : MQ) (b : List Rat) : MQ := m.mapIdx fun i r => r ++ [b.getD i 0]
theorem extQ_len (m : MQ) (b : List Rat) : (extQ m b).length = m.length := List.length_mapIdx
theorem rect_extQ {m : MQ} {n w : Nat} (h : Rect m n w) (b : List Rat) : Rect (extQ m b) n (w + 1) := by
  refine ⟨by rw [extQ_len, h.1], fun r hr => ?_⟩
  obtain ⟨i, hi, rfl⟩ := List.mem_iff_getElem.1 hr
  unfold extQ at hi ⊢
  rw [List.length_mapIdx] at hi
  rw [List.getElem_mapIdx, List.length_append, h.2 _ (List.getElem_mem hi)]
  rfl
theorem extQ_row {m : MQ} {n w : Nat} (h : Rect m n w) (b : List Rat) {i : Nat} (hi : i < n) : (extQ m b).getD i [] = m.getD i [] ++ [b.getD i 0] := by
  unfold extQ
  rw [getD_mapIdx m _ i [] [] (by rw [h.1]; exact hi)]
theorem at2_extQ {m : MQ} {n w : Nat} (h : Rect m n w) (b : List Rat) {i j : Nat} (hi : i < n) (hj : j ≤ w) : at2 (extQ m b) i j = if j < w then at2 m i j else b.getD i 0 := by
  have hl := rect_len h hi
  unfold at2
  rw [extQ_row h b hi, List.getD_eq_getElem?_getD, List.getElem?_append, hl]
  by_cases e : j < w
  · rw [if_pos e, if_pos e, ← List.getD_eq_getElem?_getD]
  · rw [if_neg e, if_neg e, show j - w = 0 by omega]; rfl
theorem extQ_take {m : MQ} {n w : Nat} (h : Rect m n w) (b : List Rat) : (extQ m b).map (fun r => r.take w) = m := by
  apply List.ext_getElem
  · rw [List.length_map, extQ_len]
  · intro i h1 h2
    have := h.2 _ (List.getElem_mem h2)
    rw [List.getElem_map]
    have e : (extQ m b)[i]'(by rw [extQ_len]; exact h2) = m[i] ++ [b.getD i 0] := List.getElem_mapIdx
    rw [e, List.take_append_of_le_length (by omega), List.take_of_length_le (by omega)]
theorem extQ_red {m : MQ} {n w : Nat} (h : Rect m n w) (b : List Rat) : (redQ (extQ m b) w).2 = (redQ m w).2 := by
  have := red_take (extQ m b) w w (Nat.le_refl _)
  rw [extQ_take h] at this
  rw [this]
/-- what lin.Solve answers: the vector and how many there are -/
def solR (m : MQ) (b : List Rat) (w : Nat) : List Rat × Nat :=
  let s := redQ (extQ m b) w
  if nzAt w (s.1.drop s.2.length) s.2.length < s.1.length then ([], 0) else if s.2.length < w then ([], 2) else ((s.1.take w).map fun r => r.getD w 0, 1)
def rankT (m : MT) : Nat × Int := if chkM m ≠ 0 then (0, chkM m) else ((redQ (valsM m) (wd m)).2.length, 0)
def solveT (m : MT) (b : List (List UInt8)) : List (List UInt8) × Int :=
  if chkM m ≠ 0 then ([], chkM m) else if chkV b ≠ 0 then ([], chkV b) else if b.length ≠ m.length then ([], 3) else
  if (solR (valsM m) (valsV b) (wd m)).2 = 0 then ([], 8) else if (solR (valsM m) (valsV b) (wd m)).2 = 2 then ([], 10) else txV (solR (valsM m) (valsV b) (wd m)).1
def squareT (m : MT) : Int := if chkM m ≠ 0 then chkM m else if 0 < m.length ∧ wd m ≠ m.length then 3 else 0
def detT (m : MT) : List UInt8 × Int := if squareT m ≠ 0 then ([], squareT m) else ratTx (detR (valsM m) m.length)
def kerT (m : MT) : MT × Int := if chkM m ≠ 0 then ([], chkM m) else txM (kerQ (valsM m) (wd m))
def basT (m : MT) : List Nat × Int := if chkM m ≠ 0 then ([], chkM m) else ((redQ (trQ (valsM m) (wd m)) (if wd m = 0 then 0 else m.length)).2, 0)
/-- the rows and those of the identity beside them -/
def extI (m : MQ) (n : Nat) : MQ := m.mapIdx fun i r => r ++ (List.replicate n 0).set i 1
def invT (m : MT) : MT × Int :=
  if squareT m ≠ 0 then ([], squareT m) else if (redQ (extI (valsM m) m.length) m.length).2.length < m.length then ([], 10) else txM ((redQ (extI (valsM m) m.length) m.length).1.map fun r => r.drop m.length)
def joinT (m : MT) (b : List (List UInt8)) : MT := m.mapIdx fun i r => r ++ [b.getD i []]
/-! ### sizes -/
theorem P32_ten (N : Nat) : P32 N ≤ (10 ^ (10 * N) : Nat) := by
  induction N with
  | zero => decide
  | succ n ih =>
    have h1 : P32 (n + 1) = P32 n * 4294967296 := by unfold P32; rw [Int.pow_succ]
    have h2 : 10 ^ (10 * (n + 1)) = 10 ^ (10 * n) * 10000000000 := by rw [show 10 * (n + 1) = 10 * n + 10 by omega, Nat.pow_add]
    rw [h1, h2]
    omega
theorem fitR_szQ {N : Nat} {q : Rat} (h : FitR N q) : SzQ q (10 * N) := by
  have h1 := P32_ten N
  obtain ⟨h2, h3⟩ := h
  unfold Fits at h2 h3
  exact ⟨by omega, by omega⟩
theorem szQ_fitR {q : Rat} (h : SzQ q 12) : FitR 2 q := by
  obtain ⟨h1, h2⟩ := h
  have e : P32 2 = 18446744073709551616 := by decide
  have e2 : (10 : Nat) ^ 12 = 1000000000000 := by decide
  unfold FitR Fits
  rw [e]
  omega
theorem small_fit {n : Nat} {m : MT} (h : smallB n m = true) (hc : chkM m = 0) : ∀ r ∈ valsM m, ∀ x ∈ r, FitR 2 x := fun r hr x hx => szQ_fitR (small_sz h (chkM_ok hc).ok r hr x hx)
/-! ### systems -/
theorem vals_join {m : MT} {b : List (List UInt8)} (h : b.length = m.length) : valsM (joinT m b) = extQ (valsM m) (valsV b) := by
  apply List.ext_getElem
  · simp [valsM, joinT, extQ]
  · intro i h1 h2
    have hi : i < m.length := by simpa [valsM, joinT] using h1
    have hb : i < b.length := by omega
    simp only [valsM, joinT, extQ, List.getElem_map, List.getElem_mapIdx, valsV, List.map_append, List.map_cons, List.map_nil, List.getD_eq_getElem?_getD, List.getElem?_eq_getElem hb, List.getElem?_map, Option.map_some, Option.getD_some]
theorem join_vm {m : MT} {b : List (List UInt8)} {n w : Nat} (h : VM m n w) (hb : ∀ s ∈ b, rchk s = 0) (hl : b.length = n) (hw : w < 40) : VM (joinT m b) n (w + 1) := by
  refine ⟨⟨by simp [joinT, h.rect.1], fun r hr => ?_⟩, h.hn, .inl (by omega), fun r hr s hs => ?_⟩
  · obtain ⟨i, hi, rfl⟩ := List.mem_mapIdx.1 hr
    rw [List.length_append, h.rect.2 _ (List.getElem_mem hi)]; rfl
  · obtain ⟨i, hi, rfl⟩ := List.mem_mapIdx.1 hr
    rcases List.mem_append.1 hs with h1 | h1
    · exact h.ok _ (List.getElem_mem hi) s h1
    · have hb2 : i < b.length := by rw [hl, ← h.rect.1]; exact hi
      rw [List.getD_eq_getElem?_getD, List.getElem?_eq_getElem hb2] at h1
      have h1 := List.mem_singleton.1 h1
      rw [h1]
      exact hb _ (List.getElem_mem hb2)
theorem sm_snoc_neg {w : Nat} {E x : Nat → Rat} {e : Rat} (he : E w = e) : sm (w + 1) (fun j => E j * (if j < w then x j else -1)) = sm w (fun j => E j * x j) - e := by
  rw [sm, if_neg (by omega), he, sm_congr w (g := fun j => E j * x j) fun j hj => by rw [if_pos hj]]
  grind
/-- the solution solves -/
theorem sol_solves {m : MQ} {n w : Nat} {b : List Rat} (hm : Rect m n w) (hf : (redQ (extQ m b) w).2.length = w) (hz : ¬ nzAt w ((redQ (extQ m b) w).1.drop w) w < (redQ (extQ m b) w).1.length) :
    ∀ i, i < n → (sm w fun j => at2 m i j * at2 (redQ (extQ m b) w).1 j w) = b.getD i 0 := by
  have hR := red_inv (rect_extQ hm b) w
  obtain ⟨π, δ, ε, hI⟩ := hR.inv
  have hid := hI.piv_id hf
  have hwn : w ≤ n := by have := hI.few; omega
  have hlen := hR.rect.1
  generalize hA : (redQ (extQ m b) w).1 = A at *
  generalize hpv : (redQ (extQ m b) w).2 = pv at *
  have hsp := piv_spec A w w (by omega)
  have key := hI.null (w := w + 1) (x := fun j => if j < w then at2 A j w else -1) fun i hi => ?_
  · intro i hi
    have h1 := key i hi
    rw [sm_snoc_neg (e := b.getD i 0) (by rw [at2_extQ hm b hi (Nat.le_refl _), if_neg (by omega)])] at h1
    rw [sm_congr w (g := fun j => at2 (extQ m b) i j * at2 A j w) fun j hj => by rw [at2_extQ hm b hi (by omega), if_pos hj]]
    grind
  · rw [sm_snoc_neg (E := at2 A i) rfl]
    by_cases h : i < w
    · rw [sm_one i w h fun j hj hne => ?_]
      · have hu := hI.unit i i (by omega) hi
        rw [hid i h, if_pos rfl] at hu
        rw [hu]; grind
      · have hu := hI.unit j i (by omega) hi
        rw [hid j hj, if_neg (Ne.symm hne)] at hu
        rw [hu]; grind
    · rw [sm_zero w fun j hj => by rw [hI.low i j (by omega) hi hj]; grind]
      rw [hsp.2.2.1 i (by omega) (by omega)]; grind
theorem rank_ext (m : MQ) (b : List Rat) (w : Nat) : (redQ (extQ m b) (w + 1)).2.length = if nzAt w ((redQ (extQ m b) w).1.drop (redQ (extQ m b) w).2.length) (redQ (extQ m b) w).2.length < (redQ (extQ m b) w).1.length then (redQ (extQ m b) w).2.length + 1 else (redQ (extQ m b) w).2.length := by
  rw [redQ, redS]
  split
  · rw [if_neg (by omega)]
  · rw [if_pos (by omega), List.length_append]; rfl
theorem txV_fit {l : List Rat} (h : l.all fitQ = true) : txV l = (l.map qText, 0) := if_pos h
theorem back_text {s : List UInt8} (h : rchk s = 0) : fitQ (rval s) = true ∧ qText (rval s) = s := by
  have v : VM [[s]] 1 1 := ⟨⟨rfl, fun r hr => by rw [List.mem_singleton.1 hr]; rfl⟩, by omega, .inl (by omega), fun r hr s' hs => by
    rw [List.mem_singleton.1 hr] at hs
    rw [List.mem_singleton.1 hs]; exact h⟩
  have h1 := v.fit
  have h2 := v.text
  simp only [valsM, valsV, List.map_cons, List.map_nil] at h1 h2
  refine ⟨by simpa using h1, ?_⟩
  injection h2 with h2
  injection h2
theorem vals_text {b : List (List UInt8)} (h : ∀ s ∈ b, rchk s = 0) : (valsV b).all fitQ = true ∧ (valsV b).map qText = b := by
  refine ⟨List.all_eq_true.2 fun x hx => ?_, ?_⟩
  · obtain ⟨s, hs, rfl⟩ := List.mem_map.1 hx
    exact (back_text (h s hs)).1
  · unfold valsV
    rw [List.map_map]
    conv => rhs; rw [← List.map_id b]
    exact List.map_congr_left fun s hs => (back_text (h s hs)).2
theorem txV_back {l : List Rat} (h : l.all fitQ = true) (hl : l.length ≤ 40) : chkV (l.map qText) = 0 ∧ valsV (l.map qText) = l := by
  rw [List.all_eq_true] at h
  refine ⟨chkV_all (by rw [List.length_map]; exact hl) fun s hs => ?_, ?_⟩
  · obtain ⟨q, hq, rfl⟩ := List.mem_map.1 hs
    exact (qText_ok q (h q hq)).1
  · unfold valsV
    rw [List.map_map]
    conv => rhs; rw [← List.map_id l]
    exact List.map_congr_left fun q hq => (qText_ok q (h q hq)).2
theorem kinds_law {m : MT} {b : List (List UInt8)} (hm : chkM m = 0) (hb : chkV b = 0) (hl : b.length = m.length) (h0 : 0 < m.length) (hs : smallB 5 m = true) (hsb : ∀ s ∈ b, s.length ≤ 12) :
    rankT (joinT m b) = ((redQ (extQ (valsM m) (valsV b)) (wd m + 1)).2.length, 0) ∧
    ((rankT m).1 < (rankT (joinT m b)).1 → solveT m b = ([], 8)) ∧ (¬ (rankT m).1 < (rankT (joinT m b)).1 → (rankT m).1 < wd m → solveT m b = ([], 10)) ∧
    (¬ (rankT m).1 < (rankT (joinT m b)).1 → ¬ (rankT m).1 < wd m → ∃ x, solveT m b = (x, 0) ∧ applyM m x = (b, 0)) := by
  have v := chkM_ok hm
  have hR := v.vals
  have hbo := chkV_ok hb
  have hsl := small_len hs
  have hw5 : wd m ≤ 5 := by
    cases m with
    | nil => simp at h0
    | cons r m => exact hsl.2 r List.mem_cons_self
  have vj := join_vm v hbo.2 hl (by omega)
  have hwj : wd (joinT m b) = wd m + 1 := wd_eq vj.rect h0
  have e1 : rankT (joinT m b) = ((redQ (extQ (valsM m) (valsV b)) (wd m + 1)).2.length, 0) := by
    rw [rankT, if_neg (by rw [vj.chk]; exact fun h => h rfl), hwj, vals_join hl]
  have e2 : (rankT m).1 = (redQ (extQ (valsM m) (valsV b)) (wd m)).2.length := by
    rw [rankT, if_neg (by rw [hm]; exact fun h => h rfl), extQ_red hR]
  have e3 : solveT m b = if (solR (valsM m) (valsV b) (wd m)).2 = 0 then ([], 8) else if (solR (valsM m) (valsV b) (wd m)).2 = 2 then ([], 10) else txV (solR (valsM m) (valsV b) (wd m)).1 := by
    rw [solveT, if_neg (by rw [hm]; exact fun h => h rfl), if_neg (by rw [hb]; exact fun h => h rfl), if_neg (by omega)]
  refine ⟨e1, ?_⟩
  rw [e1, e2, e3, rank_ext]
  unfold solR
  simp only
  generalize hS : redQ (extQ (valsM m) (valsV b)) (wd m) = S at *
  have hfew : S.2.length ≤ wd m := by
    have := frees_len (rect_extQ hR (valsV b)) (wd m)
    rw [hS] at this; omega
  by_cases hz : nzAt (wd m) (S.1.drop S.2.length) S.2.length < S.1.length
  · simp only [if_pos hz]
    exact ⟨fun _ => rfl, fun h => absurd (Nat.lt_succ_self _) h, fun h => absurd (Nat.lt_succ_self _) h⟩
  · simp only [if_neg hz]
    refine ⟨fun h => absurd h (Nat.lt_irrefl _), fun _ h => by rw [if_pos h]; rfl, fun _ h => ?_⟩
    rw [if_neg h]
    have hf : S.2.length = wd m := by omega
    rw [hf] at hz
    have hsv := sol_solves (b := valsV b) hR (by rw [hS]; exact hf) (by rw [hS]; exact hz)
    rw [hS] at hsv
    -- the size of the solution
    have hF : ∀ r ∈ extQ (valsM m) (valsV b), ∀ x ∈ r, FitR 2 x := fun r hr x hx => by
      obtain ⟨i, hi, rfl⟩ := List.mem_mapIdx.1 hr
      rcases List.mem_append.1 hx with h1 | h1
      · exact small_fit hs hm _ (List.getElem_mem hi) x h1
      · rw [List.mem_singleton.1 h1]
        by_cases hib : i < (valsV b).length
        · rw [List.getD_eq_getElem?_getD, List.getElem?_eq_getElem hib, Option.getD_some]
          obtain ⟨s, hs', e⟩ := List.mem_map.1 (List.getElem_mem hib)
          rw [← e]
          exact szQ_fitR ((rval_sz (hbo.2 s hs')).1.mono (hsb s hs'))
        · rw [getD_ge _ _ _ (by omega)]; exact szQ_fitR (sz_zero.mono (by omega))
    have hRe := rect_extQ hR (valsV b)
    have hri := red_inv hRe (wd m)
    rw [hS] at hri
    obtain ⟨π, δ, ε, hI⟩ := hri.inv
    have hSz : ∀ i j, i < m.length → SzQ (at2 S.1 i j) 1150 := fun i j hi => by
      have h1 := ri_size hI (whole_of hRe hF) i j hi
      have h2 : m.length * (2 * (wd m + 1) + 1 + m.length + 1) ≤ 5 * 19 := Nat.mul_le_mul hsl.1 (by have := hsl.1; omega)
      exact (fitR_szQ (h1.mono (show _ ≤ 115 by have := hsl.1; omega))).mono (by omega)
    have hwn : wd m ≤ m.length := by have := hI.few; omega
    have hlen : ((S.1.take (wd m)).map fun r => r.getD (wd m) 0).length = wd m := by rw [List.length_map, List.length_take, hri.rect.1]; omega
    have hget : ∀ j, j < wd m → ((S.1.take (wd m)).map fun r => r.getD (wd m) 0).getD j 0 = at2 S.1 j (wd m) := fun j hj => by
      have hj2 : j < S.1.length := by rw [hri.rect.1]; omega
      unfold at2
      rw [List.getD_eq_getElem?_getD, List.getElem?_map, List.getElem?_take, if_pos hj, List.getElem?_eq_getElem hj2, List.getD_eq_getElem?_getD (l := S.1), List.getElem?_eq_getElem hj2]
      rfl
    generalize hX : (S.1.take (wd m)).map (fun r => r.getD (wd m) 0) = X at *
    have hfit : X.all fitQ = true := List.all_eq_true.2 fun x hx => by
      obtain ⟨j, hj, rfl⟩ := List.mem_iff_getElem.1 hx
      have h1 := hget j (by omega)
      rw [List.getD_eq_getElem?_getD, List.getElem?_eq_getElem hj, Option.getD_some] at h1
      rw [h1]
      exact (hSz j _ (by omega)).fit (by omega) (by omega)
    refine ⟨X.map qText, by simp only [if_neg (show ¬ (1 : Nat) = 0 by omega), if_neg (show ¬ (1 : Nat) = 2 by omega)]; exact txV_fit hfit, ?_⟩
    obtain ⟨hc, hv⟩ := txV_back hfit (by omega)
    rw [applyM, if_neg (by rw [hm]; exact fun h => h rfl), if_neg (by rw [hc]; exact fun h => h rfl), if_neg (by rw [List.length_map, hlen]; exact fun h => h.2 rfl), hv]
    have hy : ((valsM m).map fun r => dotQ r X) = valsV b := by
      apply List.ext_getElem
      · simp [valsM, valsV, hl]
      · intro i h1 h2
        have hi : i < m.length := by simpa [valsM] using h1
        have h3 := hsv i hi
        rw [List.getElem_map, dotQ, hR.2 _ (List.getElem_mem _)]
        rw [List.getD_eq_getElem?_getD, List.getElem?_eq_getElem h2, Option.getD_some] at h3
        rw [← h3]
        refine sm_congr _ fun j hj => ?_
        rw [hget j hj]
        unfold at2
        rw [List.getD_eq_getElem?_getD (l := valsM m), List.getElem?_eq_getElem (by simpa [valsM] using hi)]
        rfl
    rw [hy, txV_fit (vals_text hbo.2).1, (vals_text hbo.2).2]
end Go.Proofs.YtgecdcjfncfmcaaGreatDoor
namespace Go.Proofs.YtgecdcjfncfmcaaGreatDoor

/-! ### bases -/
theorem redQ_nil : ∀ k, redQ [] k = ([], [])
  | 0 => rfl
  | k + 1 => by rw [redQ, redQ_nil k]; rfl
theorem red_mem {T : MQ} {i : Nat} : ∀ d, i ∈ (redQ T (i + 1 + d)).2 ↔ i ∈ (redQ T (i + 1)).2
  | 0 => Iff.rfl
  | d + 1 => by
    rw [← red_mem d]
    show i ∈ (redS (redQ T (i + 1 + d)) (i + 1 + d)).2 ↔ _
    rcases redS_piv (redQ T (i + 1 + d)) (i + 1 + d) with h | h
    · rw [h]
    · rw [h, List.mem_append]
      constructor
      · rintro (h1 | h1)
        · exact h1
        · have := List.mem_singleton.1 h1; omega
      · exact .inl
theorem red_step_mem {T : MQ} {n w : Nat} (hT : Rect T n w) (i : Nat) : ((redQ T i).2.length < (redQ T (i + 1)).2.length ↔ i ∈ (redQ T (i + 1)).2) ∧ (redQ T i).2.length ≤ (redQ T (i + 1)).2.length := by
  have hn : ¬ i ∈ (redQ T i).2 := fun h => by have := piv_lt hT i i h; omega
  show ((redQ T i).2.length < (redS (redQ T i) i).2.length ↔ i ∈ (redS (redQ T i) i).2) ∧ (redQ T i).2.length ≤ (redS (redQ T i) i).2.length
  rcases redS_piv (redQ T i) i with h | h
  · rw [h]; exact ⟨⟨fun h => absurd h (Nat.lt_irrefl _), fun h => absurd h hn⟩, Nat.le_refl _⟩
  · rw [h]; simp
theorem trQ_take {m : MQ} (w k : Nat) : trQ (m.take k) w = (trQ m w).map fun r => r.take k := by
  unfold trQ
  rw [List.map_map]
  refine List.map_congr_left fun j _ => ?_
  show _ = (m.map fun r => r.getD j 0).take k
  rw [List.map_take]
theorem bas_piv (m : MT) (hm : chkM m = 0) : basT m = ((redQ (trQ (valsM m) (wd m)) m.length).2, 0) := by
  rw [basT, if_neg (by rw [hm]; exact fun h => h rfl)]
  split
  · rename_i h
    rw [h]
    show ((redQ [] 0).2, (0 : Int)) = ((redQ [] m.length).2, 0)
    rw [redQ_nil, redQ_nil]
  · rfl
theorem rank_take {m : MT} (hm : chkM m = 0) {i : Nat} (hi : i < m.length) : rankT (m.take (i + 1)) = ((redQ (trQ (valsM m) (wd m)) (i + 1)).2.length, 0) := by
  have v := chkM_ok hm
  have hl : (m.take (i + 1)).length = i + 1 := by rw [List.length_take]; omega
  have vk : VM (m.take (i + 1)) (i + 1) (wd m) := ⟨⟨hl, fun r hr => v.rect.2 r (List.mem_of_mem_take hr)⟩, by have := v.hn; omega, v.hk.elim .inl fun h => by omega, fun r hr => v.ok r (List.mem_of_mem_take hr)⟩
  have hw : wd (m.take (i + 1)) = wd m := wd_eq vk.rect (by omega)
  rw [rankT, if_neg (by rw [vk.chk]; exact fun h => h rfl), hw, rank_tr vk.vals]
  have e : valsM (m.take (i + 1)) = (valsM m).take (i + 1) := by unfold valsM; rw [List.map_take]
  rw [e, trQ_take, red_take _ _ _ (Nat.le_refl _)]
/-- the rank grows exactly at the rows of the basis -/
theorem bases_law {m : MT} (hm : chkM m = 0) {i : Nat} (hi : i < m.length) :
    ((redQ (trQ (valsM m) (wd m)) i).2.length < (redQ (trQ (valsM m) (wd m)) (i + 1)).2.length ↔ i ∈ (basT m).1) := by
  have v := chkM_ok hm
  rw [bas_piv m hm, (red_step_mem (rect_tr (k := wd m) v.vals.1) i).1]
  have := red_mem (T := trQ (valsM m) (wd m)) (i := i) (m.length - (i + 1))
  rw [show i + 1 + (m.length - (i + 1)) = m.length by omega] at this
  exact this.symm
theorem piv_sorted {T : MQ} {n w : Nat} (hT : Rect T n w) (k : Nat) : ∀ t u, t < u → u < (redQ T k).2.length → (redQ T k).2.getD t 0 < (redQ T k).2.getD u 0 := by
  obtain ⟨π, δ, ε, hI⟩ := (red_inv hT k).inv
  exact hI.inc
/-! ### kernels -/
theorem rect_ker (m : MQ) (w : Nat) : Rect (kerQ m w) (frees (redQ m w).2 w).length w := ⟨by rw [kerQ, List.length_map], fun r hr => by
  obtain ⟨f, _, rfl⟩ := List.mem_map.1 hr
  exact kerS_len _ _ _ _ _⟩
theorem ker_row (m : MQ) (w : Nat) {i : Nat} (hi : i < (frees (redQ m w).2 w).length) : (kerQ m w).getD i [] = kerS (redQ m w).1 (redQ m w).2 w ((frees (redQ m w).2 w).getD i 0) (redQ m w).2.length := by
  unfold kerQ
  rw [List.getD_eq_getElem?_getD, List.getElem?_map, List.getElem?_eq_getElem hi, List.getD_eq_getElem?_getD, List.getElem?_eq_getElem hi]
  rfl
theorem free_at (pv : List Nat) (w : Nat) {i : Nat} (hi : i < (frees pv w).length) : (frees pv w).getD i 0 < w ∧ (frees pv w).getD i 0 ∉ pv := by
  rw [List.getD_eq_getElem?_getD, List.getElem?_eq_getElem hi]
  exact mem_frees.1 (List.getElem_mem hi)
/-- element f_j of vector i -/
theorem ker_unit {m : MQ} {n w : Nat} (hm : Rect m n w) {i j : Nat} (hi : i < (frees (redQ m w).2 w).length) (hj : j < (frees (redQ m w).2 w).length) : at2 (kerQ m w) i ((frees (redQ m w).2 w).getD j 0) = if i = j then 1 else 0 := by
  obtain ⟨π, δ, ε, hI⟩ := (red_inv hm w).inv
  unfold at2
  rw [ker_row m w hi]
  have hfj := free_at _ w hj
  by_cases e : i = j
  · subst e
    rw [if_pos rfl]
    exact kerS_free hI hfj.1 hfj.2 _ (Nat.le_refl _)
  · rw [if_neg e]
    refine kerS_other (fun h => ?_) _ fun u hu h => hfj.2 ?_
    · rcases Nat.lt_or_gt_of_ne e with h1 | h1
      · have := frees_lt h1 hj; omega
      · have := frees_lt h1 hi; omega
    · rw [← h, List.getD_eq_getElem?_getD, List.getElem?_eq_getElem hu]
      exact List.getElem_mem _
theorem ker_rank {m : MQ} {n w : Nat} (hm : Rect m n w) : (redQ (kerQ m w) w).2.length = (frees (redQ m w).2 w).length := by
  obtain ⟨π, δ, ε, hI⟩ := (red_inv (rect_ker m w) w).inv
  refine hI.full (γ := fun j => (frees (redQ m w).2 w).getD j 0) (fun j hj => (free_at _ w hj).1) ?_
  rw [det_congr (B := fun i j => if i = j then 1 else 0) _ fun i j hi hj => ker_unit hm hi hj, det_id]
  decide
theorem ker_null {m : MQ} {n w : Nat} (hm : Rect m n w) {r : List Rat} (hr : r ∈ kerQ m w) : (m.map fun x => dotQ x r) = List.replicate n 0 := by
  obtain ⟨f, hf, rfl⟩ := List.mem_map.1 hr
  obtain ⟨π, δ, ε, hI⟩ := (red_inv hm w).inv
  have h := mem_frees.1 hf
  apply List.ext_getElem
  · rw [List.length_map, hm.1, List.length_replicate]
  · intro i h1 h2
    have hi : i < n := by rwa [List.length_replicate] at h2
    have hi2 : i < m.length := by rw [hm.1]; exact hi
    have h3 := kerS_null hI h.1 h.2 i hi
    rw [List.getElem_map, List.getElem_replicate, dotQ, hm.2 _ (List.getElem_mem _)]
    refine Eq.trans ?_ h3
    refine sm_congr _ fun j _ => ?_
    unfold at2
    rw [List.getD_eq_getElem?_getD (l := m), List.getElem?_eq_getElem hi2]
    rfl
structure KerFacts (m K : MT) : Prop where
  vm : VM K K.length (wd m)
  vals : valsM K = kerQ (valsM m) (wd m)
  len : K.length = (frees (redQ (valsM m) (wd m)).2 (wd m)).length
theorem ker_facts {m K : MT} (hm : chkM m = 0) (h : kerT m = (K, 0)) : KerFacts m K := by
  have v := chkM_ok hm
  have hw : wd m ≤ 40 := v.hk.elim id fun h => by rw [wd_nil h]; omega
  rw [kerT, if_neg (by rw [hm]; exact fun h => h rfl)] at h
  obtain ⟨h1, h2⟩ := txM_ok (m := kerQ (valsM m) (wd m)) (by rw [h])
  rw [h] at h2
  have h2 := congrArg Prod.fst h2
  simp only at h2
  have hr := rect_ker (valsM m) (wd m)
  have hfl := frees_len v.vals (wd m)
  obtain ⟨k1, k2⟩ := fit_back hr (by omega) (.inl hw) h1
  have hl : K.length = (frees (redQ (valsM m) (wd m)).2 (wd m)).length := by rw [h2, List.length_map, hr.1]
  rw [← h2] at k1 k2
  rw [← hl] at k1
  exact ⟨k1, k2, hl⟩
theorem zeros_text (n : Nat) : txV (List.replicate n 0) = (List.replicate n [48], 0) := by
  rw [txV_fit (List.all_eq_true.2 fun x hx => by rw [(List.mem_replicate.1 hx).2]; decide +kernel), List.map_replicate, show qText 0 = [48] by decide +kernel]
theorem kernels_law {m K : MT} (hm : chkM m = 0) (h : kerT m = (K, 0)) (h0 : 0 < m.length) :
    (rankT m).1 + K.length = wd m ∧ rankT K = (K.length, 0) ∧ ∀ v ∈ K, applyM m v = (List.replicate m.length [48], 0) := by
  have v := chkM_ok hm
  have kf := ker_facts hm h
  have hfl := frees_len v.vals (wd m)
  refine ⟨?_, ?_, fun x hx => ?_⟩
  · rw [rankT, if_neg (by rw [hm]; exact fun h => h rfl), kf.len]
    simp only
    omega
  · rw [rankT, if_neg (by rw [kf.vm.chk]; exact fun h => h rfl), kf.vals]
    by_cases hz : K.length = 0
    · have e : kerQ (valsM m) (wd m) = [] := List.eq_nil_of_length_eq_zero (by rw [(rect_ker (valsM m) (wd m)).1, ← kf.len, hz])
      rw [e, redQ_nil, hz]
      rfl
    · rw [wd_eq kf.vm.rect (by omega), ker_rank v.vals, kf.len]
  · have hxo := kf.vm.ok x hx
    have hxl : x.length = wd m := kf.vm.rect.2 x hx
    have hw : wd m ≤ 40 := rect_w v h0
    have hr : valsV x ∈ kerQ (valsM m) (wd m) := by rw [← kf.vals]; exact List.mem_map_of_mem hx
    rw [applyM, if_neg (by rw [hm]; exact fun h => h rfl), if_neg (by rw [chkV_all (by omega) hxo]; exact fun h => h rfl), if_neg (by rw [hxl]; exact fun h => h.2 rfl), ker_null v.vals hr, zeros_text]
/-- the i-th vector's column -/
def freeAt (m : MT) (i : Nat) : Nat := (frees (redQ (valsM m) (wd m)).2 (wd m)).getD i 0
theorem text_zero {s : List UInt8} (h : rchk s = 0) : s = [48] ↔ rval s = 0 := by
  constructor
  · rintro rfl; exact rval_48
  · intro e
    rw [← (back_text h).2, e]; decide +kernel
theorem text_one {s : List UInt8} (h : rchk s = 0) (e : rval s = 1) : s = [49] := by rw [← (back_text h).2, e]; decide +kernel
theorem echelons_law {m K : MT} (hm : chkM m = 0) (h : kerT m = (K, 0)) {i : Nat} {x : List (List UInt8)} (hi : K[i]? = some x) :
    x.length = wd m ∧ freeAt m i < wd m ∧ x.getD (freeAt m i) [] = [49] ∧ (∀ j, freeAt m i < j → j < wd m → x.getD j [] = [48]) ∧ (∀ k, k < i → freeAt m k < freeAt m i) ∧
    ∀ k y, k ≠ i → K[k]? = some y → y.length = wd m ∧ y.getD (freeAt m i) [] = [48] := by
  have v := chkM_ok hm
  have kf := ker_facts hm h
  obtain ⟨π, δ, ε, hI⟩ := (red_inv v.vals (wd m)).inv
  have hil : i < K.length := (List.getElem?_eq_some_iff.1 hi).1
  have hf := free_at (redQ (valsM m) (wd m)).2 (wd m) (i := i) (by rw [← kf.len]; exact hil)
  have hx : x ∈ K := List.mem_of_getElem? hi
  have el : ∀ {k : Nat} {y : List (List UInt8)}, K[k]? = some y → ∀ j, j < wd m → rchk (y.getD j []) = 0 ∧ rval (y.getD j []) = at2 (kerQ (valsM m) (wd m)) k j := fun {k y} hk j hj => by
    have hy : y ∈ K := List.mem_of_getElem? hk
    have hyl : y.length = wd m := kf.vm.rect.2 y hy
    have e : y.getD j [] = y[j]'(by omega) := by rw [List.getD_eq_getElem?_getD, List.getElem?_eq_getElem (by omega)]; rfl
    refine ⟨by rw [e]; exact kf.vm.ok y hy _ (List.getElem_mem _), ?_⟩
    rw [← kf.vals, e]
    unfold at2 valsM valsV
    rw [List.getD_eq_getElem?_getD (l := List.map _ K), List.getElem?_map, hk, Option.map_some, Option.getD_some, List.getD_eq_getElem?_getD, List.getElem?_map, List.getElem?_eq_getElem (by omega)]
    rfl
  refine ⟨kf.vm.rect.2 x hx, hf.1, ?_, fun j h1 h2 => ?_, fun k hk => frees_lt hk (by rw [← kf.len]; exact hil), fun k y hk hy => ⟨kf.vm.rect.2 y (List.mem_of_getElem? hy), ?_⟩⟩
  · obtain ⟨h1, h2⟩ := el hi (freeAt m i) hf.1
    refine text_one h1 (h2.trans ?_)
    rw [freeAt, ker_unit v.vals (by rw [← kf.len]; exact hil) (by rw [← kf.len]; exact hil), if_pos rfl]
  · obtain ⟨h3, h4⟩ := el hi j h2
    refine (text_zero h3).2 (h4.trans ?_)
    unfold at2
    rw [ker_row _ _ (by rw [← kf.len]; exact hil)]
    exact kerS_after hI h1
  · have hkl : k < K.length := (List.getElem?_eq_some_iff.1 hy).1
    obtain ⟨h3, h4⟩ := el hy (freeAt m i) hf.1
    refine (text_zero h3).2 (h4.trans ?_)
    rw [freeAt, ker_unit v.vals (by rw [← kf.len]; exact hkl) (by rw [← kf.len]; exact hil), if_neg hk]
end Go.Proofs.YtgecdcjfncfmcaaGreatDoor
namespace Go.Proofs.YtgecdcjfncfmcaaGreatDoor

theorem square_ok {m : MT} (h : squareT m = 0) : VM m m.length m.length ∧ wd m = m.length ∧ chkM m = 0 := by
  rw [squareT] at h
  split at h
  · rename_i h0; exact absurd h h0
  · rename_i h0
    have hc := Decidable.not_not.1 h0
    have v := chkM_ok hc
    split at h
    · cases h
    · rename_i h1
      have hw : wd m = m.length := by
        by_cases hz : 0 < m.length
        · exact Decidable.not_not.1 fun h => h1 ⟨hz, h⟩
        · rw [wd_nil (by omega)]; omega
      rw [hw] at v
      exact ⟨v, hw, hc⟩
theorem extI_len (m : MQ) (n : Nat) : (extI m n).length = m.length := List.length_mapIdx
theorem rect_extI {m : MQ} {n : Nat} (h : Rect m n n) : Rect (extI m n) n (n + n) := by
  refine ⟨by rw [extI_len, h.1], fun r hr => ?_⟩
  obtain ⟨i, hi, rfl⟩ := List.mem_mapIdx.1 hr
  rw [List.length_append, h.2 _ (List.getElem_mem hi), List.length_set, List.length_replicate]
theorem extI_row {m : MQ} {n : Nat} (h : Rect m n n) {i : Nat} (hi : i < n) : (extI m n).getD i [] = m.getD i [] ++ (List.replicate n 0).set i 1 := by
  unfold extI
  rw [getD_mapIdx m _ i [] [] (by rw [h.1]; exact hi)]
theorem unit_at (n i j : Nat) (hi : i < n) : ((List.replicate n (0 : Rat)).set i 1).getD j 0 = if i = j then 1 else 0 := by
  rw [getD_set_, List.length_replicate]
  by_cases e : i = j
  · rw [if_pos ⟨e, by omega⟩, if_pos e]
  · rw [if_neg fun h => e h.1, if_neg e, List.getD_eq_getElem?_getD, List.getElem?_replicate]
    split <;> rfl
theorem at2_extI {m : MQ} {n : Nat} (h : Rect m n n) {i j : Nat} (hi : i < n) : at2 (extI m n) i j = if j < n then at2 m i j else if i = j - n then 1 else 0 := by
  have hl := rect_len h hi
  unfold at2
  rw [extI_row h hi, List.getD_eq_getElem?_getD, List.getElem?_append, hl]
  by_cases e : j < n
  · rw [if_pos e, if_pos e, ← List.getD_eq_getElem?_getD]
  · rw [if_neg e, if_neg e, ← List.getD_eq_getElem?_getD, unit_at n i _ hi]
/-- what stands in the last columns -/
def invQ (m : MQ) (n : Nat) : MQ := (redQ (extI m n) n).1.map fun r => r.drop n
theorem rect_inv {m : MQ} {n : Nat} (h : Rect m n n) : Rect (invQ m n) n n := by
  have hR := (red_inv (rect_extI h) n).rect
  refine ⟨by rw [invQ, List.length_map, hR.1], fun r hr => ?_⟩
  obtain ⟨s, hs, rfl⟩ := List.mem_map.1 hr
  rw [List.length_drop, hR.2 s hs]; omega
theorem at2_inv {m : MQ} {n : Nat} (i j : Nat) : at2 (invQ m n) i j = at2 (redQ (extI m n) n).1 i (n + j) := by
  unfold at2 invQ
  rw [getD_map_ (fun r : List Rat => r.drop n) (by simp), getD_drop_]
/-- there is an inverse exactly if the determinant is not 0 -/
theorem inv_det {m : MQ} {n : Nat} (h : Rect m n n) : (redQ (extI m n) n).2.length < n ↔ det n (at2 m) = 0 := by
  obtain ⟨π, δ, ε, hI⟩ := (red_inv (rect_extI h) n).inv
  have h1 := hI.minor n (fun X => det n fun i j => X i j) id hI.few (cols_alt n id) (fun _ _ => rfl) (fun i hi => hi) (fun i j _ _ e => e)
  have h2 := hI.sign (fun X => det n fun i j => X i j) (at2 (extI m n)) (cols_alt n id)
  simp only [id] at h1 h2
  have h3 : det n (fun i j => at2 (extI m n) i j) = det n (at2 m) := det_congr n fun i j hi hj => by rw [at2_extI h hi, if_pos hj]
  rw [h2, h3] at h1
  constructor
  · intro hl
    have h4 : det n (fun i j => at2 (redQ (extI m n) n).1 i j) = 0 := by
      rw [det_congr (B := fun i j => if i = (redQ (extI m n) n).2.length then 0 else at2 (redQ (extI m n) n).1 i j) n fun i j hi hj => ?_]
      · exact det_zero_row hl fun j => if_pos rfl
      · by_cases e : i = (redQ (extI m n) n).2.length
        · rw [if_pos e, e]; exact hI.low _ _ (Nat.le_refl _) hl hj
        · rw [if_neg e]
    rw [h4, Rat.mul_zero] at h1
    exact (Rat.mul_eq_zero.1 h1).resolve_left hI.ene
  · intro hd
    have hfew := hI.few
    rcases Nat.lt_or_ge (redQ (extI m n) n).2.length n with hl | hl
    · exact hl
    · exfalso
      have hid := hI.piv_id (show _ = n by omega)
      have h4 : det n (fun i j => at2 (redQ (extI m n) n).1 i j) = 1 := by
        rw [← det_id n]
        refine det_congr n fun i j hi hj => ?_
        have := hI.unit j i (by omega) hi
        rw [hid j hj] at this
        exact this
      rw [h4, hd, Rat.mul_zero, Rat.mul_one] at h1
      exact hI.dne h1.symm
theorem inv_left {m : MQ} {n : Nat} (h : Rect m n n) (hf : ¬ (redQ (extI m n) n).2.length < n) : mulQ m (invQ m n) n = idQ n := by
  obtain ⟨π, δ, ε, hI⟩ := (red_inv (rect_extI h) n).inv
  have hfew := hI.few
  have hl : (redQ (extI m n) n).2.length = n := by omega
  have hid := hI.piv_id hl
  refine mat_ext (rect_mul _ h.1) (rect_id n) fun i j hi hj => ?_
  rw [at2_mul h hi hj, at2_id hi hj]
  obtain ⟨a, ha, rfl⟩ := hI.prm.onto i hi
  have h1 := hI.back a (n + j) ha
  rw [hl, if_pos ha, at2_extI h hi, if_neg (by omega), show n + j - n = j by omega, Rat.add_zero] at h1
  rw [h1]
  refine sm_congr n fun t ht => ?_
  rw [hid t ht, at2_extI h hi, if_pos ht, at2_inv]
/-- a matrix with a determinant that is not 0 maps no other vector to 0 -/
theorem det_kernel {n : Nat} {M : Nat → Nat → Rat} (hd : det n M ≠ 0) {x : Nat → Rat} (hx : ∀ i, i < n → (sm n fun k => M i k * x k) = 0) : ∀ i, i < n → x i = 0 := by
  intro i hi
  rcases Decidable.em (x i = 0) with h | h
  · exact h
  · exfalso
    apply hd
    rw [← det_tr]
    refine det_dep (y := x) hi h fun j hj => ?_
    rw [← hx j hj]
    exact sm_congr n fun k _ => by rw [Rat.mul_comm]
theorem inv_right {m : MQ} {n : Nat} (h : Rect m n n) (hf : ¬ (redQ (extI m n) n).2.length < n) : mulQ (invQ m n) m n = idQ n := by
  have hv := rect_inv h
  have hl := inv_left h hf
  have hd : det n (at2 m) ≠ 0 := fun e => hf ((inv_det h).2 e)
  refine mat_ext (rect_mul _ hv.1) (rect_id n) fun i j hi hj => ?_
  have h1 := det_kernel hd (x := fun k => at2 (mulQ (invQ m n) m n) k j - at2 (idQ n) k j) (fun a ha => ?_) i hi
  · grind
  · have e1 : (sm n fun k => at2 m a k * (at2 (mulQ (invQ m n) m n) k j - at2 (idQ n) k j)) = at2 (mulQ m (mulQ (invQ m n) m n) n) a j - at2 (mulQ m (idQ n) n) a j := by
      rw [at2_mul h ha hj, at2_mul h ha hj]
      have := sm_lin 1 (-1) (fun k => at2 m a k * at2 (mulQ (invQ m n) m n) k j) (fun k => at2 m a k * at2 (idQ n) k j) n
      rw [show (1 : Rat) * sm n (fun k => at2 m a k * at2 (mulQ (invQ m n) m n) k j) + -1 * sm n (fun k => at2 m a k * at2 (idQ n) k j) = sm n (fun k => at2 m a k * at2 (mulQ (invQ m n) m n) k j) - sm n (fun k => at2 m a k * at2 (idQ n) k j) by grind] at this
      rw [← this]
      exact sm_congr n fun k _ => by grind
    rw [e1, ← mulQ_assoc h hv h, hl, mulQ_id_left h, mulQ_id_right h]
    grind
/-! ### sizes -/
theorem IF.pd {Z : Nat} : ∀ (n : Nat) (D : Nat → Rat), (∀ i, i < n → IF Z (D i)) → IF (n * Z + 1) (pd n D)
  | 0, _, _ => ⟨1, rfl, fits_one _ (by omega) _ (by decide) (by decide)⟩
  | n + 1, D, h => by
    rw [Proofs.YtgecdcjfncfmcaaGreatDoor.pd]
    refine ((h 0 (by omega)).mul (IF.pd n _ fun i hi => h _ (by omega))).mono ?_
    rw [Nat.add_mul]; omega
theorem det_sz {n Z : Nat} {M : Nat → Nat → Rat} {D : Nat → Rat} (h : Whole n Z M D) : FitR (n * (Z + n + 1) + 1) (det n M) := by
  refine fitR_quot (a := det n fun i j => D i * M i j) (b := pd n D) (IF.det n _ fun i j hi _ => h.mul i j hi) ((IF.pd n D h.fit).mono ?_) (pd_ne n h.ne) ?_ (by omega)
  · have := Nat.mul_le_mul (Nat.le_refl n) (show Z ≤ Z + n + 1 by omega)
    omega
  · rw [det_scale_all, Rat.mul_comm]
theorem det5 {m : MQ} {n N : Nat} (h : Rect m n n) (hn : n ≤ 5) (hf : ∀ r ∈ m, ∀ x ∈ r, FitR N x) : FitR (25 * N + 41) (det n (at2 m)) := by
  refine (det_sz (whole_of h hf)).mono ?_
  have h1 : n * (N * n + 1 + n + 1) ≤ 5 * (N * 5 + 7) := Nat.mul_le_mul hn (by have := Nat.mul_le_mul_left N hn; omega)
  omega
theorem det_small {m : MT} (h : squareT m = 0) (hs : smallB 5 m = true) : SzQ (detR (valsM m) m.length) 910 := by
  obtain ⟨v, _, hc⟩ := square_ok h
  rw [detR_det v.vals]
  exact (fitR_szQ (det5 v.vals (small_len hs).1 (small_fit hs hc))).mono (by omega)
theorem detT_ok {m : MT} (h : squareT m = 0) (hs : smallB 5 m = true) : detT m = (qText (det m.length (at2 (valsM m))), 0) := by
  have h1 := det_small h hs
  rw [detT, if_neg (by rw [h]; exact fun h => h rfl)]
  rw [detR_det (square_ok h).1.vals] at h1 ⊢
  exact ratTx_ok (h1.fit (by omega) (by omega))
theorem inv_small {m : MT} (h : squareT m = 0) (hs : smallB 5 m = true) : SzM (invQ (valsM m) m.length) 1640 := by
  obtain ⟨v, _, hc⟩ := square_ok h
  have hsl := small_len hs
  refine SzM.of_at2 (rect_inv v.vals) fun i j hi hj => ?_
  rw [at2_inv]
  obtain ⟨π, δ, ε, hI⟩ := (red_inv (rect_extI v.vals) m.length).inv
  have hF : ∀ r ∈ extI (valsM m) m.length, ∀ x ∈ r, FitR 2 x := fun r hr x hx => by
    obtain ⟨a, ha, rfl⟩ := List.mem_mapIdx.1 hr
    rcases List.mem_append.1 hx with h1 | h1
    · exact small_fit hs hc _ (List.getElem_mem ha) x h1
    · rcases List.mem_or_eq_of_mem_set h1 with h2 | h2
      · rw [(List.mem_replicate.1 h2).2]; exact szQ_fitR (sz_zero.mono (by omega))
      · rw [h2]; exact szQ_fitR ⟨by decide, by decide⟩
  have h1 := ri_size hI (whole_of (rect_extI v.vals) hF) i (m.length + j) hi
  have h2 : m.length * (2 * (m.length + m.length) + 1 + m.length + 1) ≤ 5 * 27 := Nat.mul_le_mul hsl.1 (by have := hsl.1; omega)
  exact (fitR_szQ (h1.mono (show _ ≤ 164 by have := hsl.1; omega))).mono (by omega)
theorem idT_id (n : Nat) : (idQ n).map (fun r => r.map qText) = idT n ∧ (idQ n).all (fun r => r.all fitQ) = true := by
  constructor
  · unfold idQ idT
    rw [List.map_map]
    refine List.map_congr_left fun i _ => ?_
    show List.map qText (List.map _ _) = _
    rw [List.map_map]
    refine List.map_congr_left fun j _ => ?_
    show qText (if i = j then 1 else 0) = _
    split <;> decide +kernel
  · refine List.all_eq_true.2 fun r hr => List.all_eq_true.2 fun x hx => ?_
    obtain ⟨i, _, rfl⟩ := List.mem_map.1 hr
    obtain ⟨j, _, rfl⟩ := List.mem_map.1 hx
    split <;> decide +kernel
theorem wd_sq {α : Type} {m : List (List α)} {n : Nat} (h : Rect m n n) {m' : MT} (hr : Rect m' n n) : wd m' = m'.length := by
  have _ := h
  rcases Nat.eq_zero_or_pos n with h0 | h0
  · rw [wd_nil (by rw [hr.1, h0]), hr.1, h0]
  · rw [wd_eq hr h0, hr.1]
theorem inverts_law {m : MT} (hs : smallB 5 m = true) (h : squareT m = 0) :
    ((detT m).1 = [48] → invT m = ([], 10)) ∧ ((detT m).1 ≠ [48] → ∃ V, invT m = (V, 0) ∧ mulM m V = (idT m.length, 0) ∧ mulM V m = (idT m.length, 0)) := by
  obtain ⟨v, hw, hc⟩ := square_ok h
  have hR := v.vals
  have hdt := detT_ok h hs
  have hfd := (det_small h hs).fit (by omega) (by omega)
  rw [detR_det hR] at hfd
  have hq := qText_ok _ hfd
  have hz : (detT m).1 = [48] ↔ det m.length (at2 (valsM m)) = 0 := by
    rw [hdt]
    constructor
    · intro e
      have e : qText (det m.length (at2 (valsM m))) = [48] := e
      rw [← hq.2, e]; exact rval_48
    · intro e
      show qText (det m.length (at2 (valsM m))) = [48]
      rw [e]; decide +kernel
  rw [Ne, hz]
  have e0 : invT m = if (redQ (extI (valsM m) m.length) m.length).2.length < m.length then ([], 10) else txM (invQ (valsM m) m.length) := by
    rw [invT, if_neg (by rw [h]; exact fun h => h rfl)]; rfl
  rw [e0]
  refine ⟨fun hd => if_pos ((inv_det hR).2 hd), fun hd => ?_⟩
  have hf : ¬ (redQ (extI (valsM m) m.length) m.length).2.length < m.length := fun k => hd ((inv_det hR).1 k)
  have hfit := (inv_small h hs).all (by omega) (by omega)
  have hRi := rect_inv hR
  obtain ⟨vk, hvals⟩ := fit_back hRi v.hn v.hk hfit
  refine ⟨(invQ (valsM m) m.length).map fun r => r.map qText, by rw [if_neg hf]; exact txM_fit hfit, ?_, ?_⟩
  · have hwv : wd ((invQ (valsM m) m.length).map fun r => r.map qText) = m.length := (wd_sq hRi vk.rect).trans vk.rect.1
    have e := inv_left hR hf
    rw [mulM_fit hc vk.chk (by rw [hw, vk.rect.1]) (by rw [hvals, hwv, e]; exact (idT_id _).2), hvals, hwv, e, (idT_id _).1]
  · have hwv : wd ((invQ (valsM m) m.length).map fun r => r.map qText) = m.length := (wd_sq hRi vk.rect).trans vk.rect.1
    have e := inv_right hR hf
    rw [mulM_fit vk.chk hc hwv (by rw [hvals, hw, e]; exact (idT_id _).2), hvals, hw, e, (idT_id _).1]
theorem invT_bad {m : MT} (h : squareT m ≠ 0) : invT m = ([], squareT m) ∧ detT m = ([], squareT m) := ⟨by rw [invT, if_pos h], by rw [detT, if_pos h]⟩
/-- matrices with the numbers that products of small matrices have -/
theorem detT_fit {m : MT} (h : squareT m = 0) (hf : fitQ (det m.length (at2 (valsM m))) = true) : detT m = (qText (det m.length (at2 (valsM m))), 0) := by
  rw [detT, if_neg (by rw [h]; exact fun h => h rfl), detR_det (square_ok h).1.vals]
  exact ratTx_ok hf
theorem vm_square {m : MT} {n : Nat} (v : VM m n n) : squareT m = 0 ∧ wd m = n := by
  have hw : wd m = n := by
    rcases Nat.eq_zero_or_pos n with h0 | h0
    · rw [wd_nil (by rw [v.rect.1, h0]), h0]
    · exact wd_eq v.rect h0
  refine ⟨?_, hw⟩
  rw [squareT, if_neg (by rw [v.chk]; exact fun h => h rfl), if_neg (by rw [hw, v.rect.1]; exact fun h => h.2 rfl)]
set_option exponentiation.threshold 1000 in
theorem products_law {a b : MT} (sa : smallB 5 a = true) (sb : smallB 5 b = true) (hl : a.length = b.length) (ha : squareT a = 0) (hb : squareT b = 0) :
    ∃ m t z, mulM a b = (m, 0) ∧ detT m = (z, 0) ∧ ratMul (detT a).1 (detT b).1 = (z, 0) ∧ trM a = (t, 0) ∧ detT t = ((detT a).1, 0) ∧ (detT a).2 = 0 ∧ (detT b).2 = 0 ∧
      (∀ r ∈ valsM m, ∀ x ∈ r, FitR 14 x) ∧ squareT m = 0 ∧ m.length = a.length ∧ (∀ r ∈ valsM t, ∀ x ∈ r, FitR 14 x) ∧ squareT t = 0 ∧ t.length = a.length := by
  obtain ⟨va, wa, ca⟩ := square_ok ha
  obtain ⟨vb, wb, cb⟩ := square_ok hb
  rw [← hl] at vb wb
  have hn := (small_len sa).1
  have hRa := va.vals
  have hRb := vb.vals
  have hda := detT_ok ha sa
  have hdb := detT_ok hb sb
  rw [← hl] at hdb
  have ka := det_small ha sa
  have kb := det_small hb sb
  rw [← hl, detR_det hRb] at kb
  rw [detR_det hRa] at ka
  -- the product
  have hRm : Rect (mulQ (valsM a) (valsM b) a.length) a.length a.length := rect_mul _ hRa.1
  have hsz : SzM (mulQ (valsM a) (valsM b) a.length) 126 := (SzM.mul hRa hRb (small_sz sa va.ok) (small_sz sb vb.ok) (by omega)).mono (by omega)
  have hfm := hsz.all (by omega) (by omega)
  obtain ⟨vm, hvm⟩ := fit_back hRm va.hn va.hk hfm
  have hmul := mulM_fit ca cb (by rw [wa, hl]) (by rw [wb]; exact hfm)
  rw [wb] at hmul
  generalize hM : (mulQ (valsM a) (valsM b) a.length).map (fun r => r.map qText) = m at *
  obtain ⟨sqm, hwm⟩ := vm_square vm
  have hml : m.length = a.length := vm.rect.1
  have hdm : det a.length (at2 (valsM m)) = det a.length (at2 (valsM a)) * det a.length (at2 (valsM b)) := by
    rw [hvm, ← det_mul]
    exact det_congr _ fun i j hi hj => at2_mul hRa hi hj
  have kp := ka.mul kb (by omega)
  have hfp := kp.fit (by omega) (by omega)
  -- the transpose
  have hRt : Rect (trQ (valsM a) a.length) a.length a.length := rect_tr hRa.1
  have hszt : SzM (trQ (valsM a) a.length) 126 := (SzM.tr hRa (small_sz sa va.ok)).mono (by omega)
  have hft := hszt.all (by omega) (by omega)
  obtain ⟨vt, hvt⟩ := fit_back hRt va.hn va.hk hft
  have htr := trM_fit ca (by rw [wa]; exact hft)
  rw [wa] at htr
  generalize hT : (trQ (valsM a) a.length).map (fun r => r.map qText) = t at *
  obtain ⟨sqt, hwt⟩ := vm_square vt
  have htl : t.length = a.length := vt.rect.1
  have hdt : det a.length (at2 (valsM t)) = det a.length (at2 (valsM a)) := by
    rw [hvt, ← det_tr]
    exact det_congr _ fun i j hi hj => at2_tr _ hj
  have w14 : ∀ {q : Rat}, SzQ q 126 → FitR 14 q := fun {q} h => by
    have e : (10 : Nat) ^ 126 < 2 ^ 448 := by decide +kernel
    have e2 : P32 14 = 2 ^ 448 := by unfold P32; decide +kernel
    obtain ⟨h1, h2⟩ := h
    have h1 := Nat.lt_trans h1 e
    have h2 := Nat.lt_trans h2 e
    unfold FitR Fits
    rw [e2]
    refine ⟨by exact_mod_cast h1, ?_⟩
    rw [Int.natAbs_natCast]
    exact_mod_cast h2
  have h1 : detT m = (qText (det a.length (at2 (valsM a)) * det a.length (at2 (valsM b))), 0) := by
    have := detT_fit sqm (by rw [hml, hdm]; exact hfp)
    rw [hml, hdm] at this
    exact this
  refine ⟨m, t, _, hmul, h1, ?_, htr, ?_, by rw [hda], by rw [hdb], fun r hr x hx => w14 (by rw [hvm] at hr; exact hsz r hr x hx), sqm, hml, fun r hr x hx => w14 (by rw [hvt] at hr; exact hszt r hr x hx), sqt, htl⟩
  · have q1 := qText_ok _ (ka.fit (by omega) (by omega))
    have q2 := qText_ok _ (kb.fit (by omega) (by omega))
    rw [hda, hdb]
    show ratMul (qText _) (qText _) = _
    rw [ratMul, rOp_ok q1.1 q2.1, q1.2, q2.2]
    exact ratTx_ok hfp
  · have := detT_fit sqt (by rw [htl, hdt]; exact ka.fit (by omega) (by omega))
    rw [htl, hdt] at this
    rw [this, hda]
end Go.Proofs.YtgecdcjfncfmcaaGreatDoor
namespace Go.Proofs.YtgecdcjfncfmcaaGreatDoor

/-- the error of factor.New -/
def newT (m : MT) : Int := if (invT m).2 ≠ 0 then (invT m).2 else (detT m).2
/-- what a factor solves -/
def fsolQ (V : MQ) (b : List Rat) : List Rat := V.map fun r => dotQ r b
def fchk (n : Nat) (b : List (List UInt8)) : Int := if chkV b ≠ 0 then chkV b else if b.length ≠ n then 3 else 0
def fsolT (V : MQ) (n : Nat) (b : List (List UInt8)) : List (List UInt8) × Int := if fchk n b ≠ 0 then ([], fchk n b) else txV (fsolQ V (valsV b))
/-- a product of a column and a row is added -/
def addOut (M : MQ) (x y : List Rat) : MQ := M.mapIdx fun i r => r.mapIdx fun k q => q + x.getD i 0 * y.getD k 0
theorem addOut_len (M : MQ) (x y : List Rat) : (addOut M x y).length = M.length := List.length_mapIdx
theorem rect_addOut {M : MQ} {n w : Nat} (h : Rect M n w) (x y : List Rat) : Rect (addOut M x y) n w := by
  refine ⟨by rw [addOut_len, h.1], fun r hr => ?_⟩
  obtain ⟨i, hi, rfl⟩ := List.mem_mapIdx.1 hr
  rw [List.length_mapIdx]
  exact h.2 _ (List.getElem_mem hi)
theorem at2_addOut {M : MQ} {n w : Nat} (h : Rect M n w) (x y : List Rat) {i j : Nat} (hi : i < n) (hj : j < w) : at2 (addOut M x y) i j = at2 M i j + x.getD i 0 * y.getD j 0 := by
  have hl := rect_len h hi
  unfold at2 addOut
  rw [getD_mapIdx M _ i [] [] (by rw [h.1]; exact hi), getD_mapIdx _ _ j 0 0 (by rw [hl]; exact hj)]
/-- a matrix with an inverse -/
structure Reg (M : MQ) (n : Nat) : Prop where
  rect : Rect M n n
  full : ¬ (redQ (extI M n) n).2.length < n
theorem Reg.det {M : MQ} {n : Nat} (h : Reg M n) : det n (at2 M) ≠ 0 := fun e => h.full ((inv_det h.rect).2 e)
theorem reg_of {M : MQ} {n : Nat} (h : Rect M n n) (hd : Proofs.YtgecdcjfncfmcaaGreatDoor.det n (at2 M) ≠ 0) : Reg M n := ⟨h, fun k => hd ((inv_det h).1 k)⟩
theorem det_not {M : MQ} {n : Nat} (h : Rect M n n) (hr : ¬ Reg M n) : (redQ (extI M n) n).2.length < n := Decidable.byContradiction fun k => hr ⟨h, k⟩
theorem fsol_len {M : MQ} {n : Nat} (h : Reg M n) (b : List Rat) : (fsolQ (invQ M n) b).length = n := by rw [fsolQ, List.length_map, (rect_inv h.rect).1]
theorem fsol_at {M : MQ} {n : Nat} (h : Reg M n) (b : List Rat) {j : Nat} (hj : j < n) : (fsolQ (invQ M n) b).getD j 0 = sm n fun t => at2 (invQ M n) j t * b.getD t 0 := by
  have hv := rect_inv h.rect
  have hl : j < (invQ M n).length := by rw [hv.1]; exact hj
  unfold fsolQ
  rw [List.getD_eq_getElem?_getD, List.getElem?_map, List.getElem?_eq_getElem hl, Option.map_some, Option.getD_some, dotQ, hv.2 _ (List.getElem_mem hl)]
  refine sm_congr n fun t _ => ?_
  unfold at2
  rw [List.getD_eq_getElem?_getD (l := invQ M n), List.getElem?_eq_getElem hl]
  rfl
/-- the inverse times b solves -/
theorem fsol_solves {M : MQ} {n : Nat} (h : Reg M n) {b : List Rat} {i : Nat} (hi : i < n) : (sm n fun j => at2 M i j * (fsolQ (invQ M n) b).getD j 0) = b.getD i 0 := by
  have e1 : (sm n fun j => at2 M i j * (fsolQ (invQ M n) b).getD j 0) = sm n fun j => sm n fun t => at2 M i j * (at2 (invQ M n) j t * b.getD t 0) := sm_congr n fun j hj => by rw [fsol_at h b hj, ← sm_mul]
  rw [e1, sm_comm]
  have e2 : ∀ t, t < n → (sm n fun j => at2 M i j * (at2 (invQ M n) j t * b.getD t 0)) = (if i = t then 1 else 0) * b.getD t 0 := fun t ht => by
    rw [← at2_id hi ht, ← inv_left h.rect h.full, at2_mul h.rect hi ht, Rat.mul_comm, ← sm_mul]
    exact sm_congr n fun j _ => by grind
  rw [sm_congr n e2, sm_one i n hi fun t _ hne => by rw [if_neg (Ne.symm hne)]; grind, if_pos rfl]
  grind
theorem rank_reg {M : MQ} {n : Nat} (h : Reg M n) : (redQ M n).2.length = n := by
  obtain ⟨π, δ, ε, hI⟩ := (red_inv h.rect n).inv
  exact hI.full (γ := id) (fun j hj => hj) h.det
/-- a regular system has that one solution -/
theorem sol_reg {M : MQ} {n : Nat} (h : Reg M n) {b : List Rat} : solR M b n = (fsolQ (invQ M n) b, 1) := by
  have hS := red_inv (rect_extQ h.rect b) n
  have hf : (redQ (extQ M b) n).2.length = n := by rw [extQ_red h.rect]; exact rank_reg h
  have hz : ¬ nzAt n ((redQ (extQ M b) n).1.drop n) n < (redQ (extQ M b) n).1.length := by
    rw [List.drop_of_length_le (by rw [hS.rect.1]; exact Nat.le_refl _), nzAt, hS.rect.1]; omega
  have hsv := sol_solves h.rect hf hz
  unfold solR
  simp only
  rw [hf, if_neg hz, if_neg (Nat.lt_irrefl n)]
  congr 1
  have hX : ((redQ (extQ M b) n).1.take n).map (fun r => r.getD n 0) = (List.range n).map fun j => at2 (redQ (extQ M b) n).1 j n := by
    apply List.ext_getElem
    · rw [List.length_map, List.length_take, hS.rect.1, List.length_map, List.length_range]; omega
    · intro j h1 h2
      have hj : j < n := by simpa using h2
      rw [List.getElem_map, List.getElem_take, List.getElem_map, List.getElem_range]
      unfold at2
      rw [List.getD_eq_getElem?_getD (l := (redQ (extQ M b) n).1), List.getElem?_eq_getElem (by rw [hS.rect.1]; exact hj)]
      rfl
  rw [hX]
  apply List.ext_getElem
  · rw [List.length_map, List.length_range, fsol_len h]
  · intro j h1 h2
    have hj : j < n := by simpa using h1
    rw [List.getElem_map, List.getElem_range]
    have hk := det_kernel h.det (x := fun t => at2 (redQ (extQ M b) n).1 t n - (fsolQ (invQ M n) b).getD t 0) (fun i hi => ?_) j hj
    · have e : (fsolQ (invQ M n) b)[j] = (fsolQ (invQ M n) b).getD j 0 := by rw [List.getD_eq_getElem?_getD, List.getElem?_eq_getElem h2]; rfl
      rw [e]
      grind
    · have e1 := hsv i hi
      have e2 := fsol_solves h (b := b) hi
      have e3 := sm_lin 1 (-1) (fun k => at2 M i k * at2 (redQ (extQ M b) n).1 k n) (fun k => at2 M i k * (fsolQ (invQ M n) b).getD k 0) n
      rw [e1, e2] at e3
      rw [sm_congr n (g := fun k => 1 * (at2 M i k * at2 (redQ (extQ M b) n).1 k n) + -1 * (at2 M i k * (fsolQ (invQ M n) b).getD k 0)) fun k _ => by grind, e3]
      grind
theorem new_ok {m : MT} (h : newT m = 0) : squareT m = 0 ∧ Reg (valsM m) m.length ∧ fitQ (detR (valsM m) m.length) = true ∧ (invQ (valsM m) m.length).all (fun r => r.all fitQ) = true := by
  rw [newT] at h
  split at h
  · rename_i h0; exact absurd h h0
  · rename_i h0
    have h0 := Decidable.not_not.1 h0
    have hs : squareT m = 0 := Decidable.byContradiction fun k => k (by rw [(invT_bad k).1] at h0; exact h0)
    obtain ⟨v, hw, hc⟩ := square_ok hs
    have e0 : invT m = if (redQ (extI (valsM m) m.length) m.length).2.length < m.length then ([], 10) else txM (invQ (valsM m) m.length) := by
      rw [invT, if_neg (by rw [hs]; exact fun h => h rfl)]; rfl
    rw [e0] at h0
    have hf : ¬ (redQ (extI (valsM m) m.length) m.length).2.length < m.length := fun k => by rw [if_pos k] at h0; cases h0
    rw [if_neg hf] at h0
    refine ⟨hs, ⟨v.vals, hf⟩, ?_, (txM_ok h0).1⟩
    rw [detT, if_neg (by rw [hs]; exact fun h => h rfl), ratTx] at h
    cases e : fitQ (detR (valsM m) m.length) with
    | true => rfl
    | false => rw [e] at h; cases h
/-- a factor solves what solve.Solve solves -/
theorem fsolves_law {m : MT} (h : newT m = 0) (b : List (List UInt8)) : fsolT (invQ (valsM m) m.length) m.length b = solveT m b := by
  obtain ⟨hs, hR, _, _⟩ := new_ok h
  obtain ⟨v, hw, hc⟩ := square_ok hs
  rw [solveT, if_neg (by rw [hc]; exact fun h => h rfl), fsolT]
  by_cases h1 : chkV b = 0
  · by_cases h2 : b.length = m.length
    · have e : fchk m.length b = 0 := by rw [fchk, if_neg (fun k => k h1), if_neg (fun k => k h2)]
      rw [e, if_neg (fun k => k rfl), if_neg (fun k => k h1), if_neg (fun k => k h2), hw, sol_reg hR]
      rfl
    · have e : fchk m.length b = 3 := by rw [fchk, if_neg (fun k => k h1), if_pos h2]
      rw [e, if_pos (by decide), if_neg (fun k => k h1), if_pos h2]
  · have e : fchk m.length b = chkV b := by rw [fchk, if_pos h1]
    rw [e, if_pos h1, if_pos h1]
theorem new_small {m : MT} (hs : smallB 5 m = true) : newT m = (invT m).2 := by
  rw [newT]
  split
  · rfl
  · rename_i h0
    have h0 := Decidable.not_not.1 h0
    rw [h0]
    have hq : squareT m = 0 := Decidable.byContradiction fun k => k (by rw [(invT_bad k).1] at h0; exact h0)
    rw [detT_ok hq hs]
/-! ### updates -/
structure Sm4 (M : MQ) (n : Nat) : Prop where
  rect : Rect M n n
  n4 : n ≤ 4
  fit : ∀ r ∈ M, ∀ x ∈ r, FitR 4 x
theorem Sm4.inv {M : MQ} {n : Nat} (h : Sm4 M n) : (invQ M n).all (fun r => r.all fitQ) = true := by
  refine SzM.all (k := 1910) (SzM.of_at2 (rect_inv h.rect) fun i j hi hj => ?_) (by omega) (by omega)
  rw [at2_inv]
  obtain ⟨π, δ, ε, hI⟩ := (red_inv (rect_extI h.rect) n).inv
  have hF : ∀ r ∈ extI M n, ∀ x ∈ r, FitR 4 x := fun r hr x hx => by
    obtain ⟨a, ha, rfl⟩ := List.mem_mapIdx.1 hr
    rcases List.mem_append.1 hx with h1 | h1
    · exact h.fit _ (List.getElem_mem ha) x h1
    · rcases List.mem_or_eq_of_mem_set h1 with h2 | h2
      · rw [(List.mem_replicate.1 h2).2]; exact (szQ_fitR (sz_zero.mono (by omega))).mono (by omega)
      · rw [h2]; exact (szQ_fitR ⟨by decide, by decide⟩).mono (by omega)
  have h1 := ri_size hI (whole_of (rect_extI h.rect) hF) i (n + j) hi
  have h2 : n * (4 * (n + n) + 1 + n + 1) ≤ 4 * 38 := Nat.mul_le_mul h.n4 (by have := h.n4; omega)
  exact (fitR_szQ (h1.mono (show _ ≤ 191 by have := h.n4; omega))).mono (by omega)
theorem Sm4.detfit {M : MQ} {n : Nat} (h : Sm4 M n) : fitQ (detR M n) = true := by
  rw [detR_det h.rect]
  refine (fitR_szQ (det_sz (whole_of h.rect h.fit))).fit (by omega) ?_
  have h2 : n * (4 * n + 1 + n + 1) ≤ 4 * 22 := Nat.mul_le_mul h.n4 (by have := h.n4; omega)
  omega
theorem Sm4.txt {M : MQ} {n : Nat} (h : Sm4 M n) : M.all (fun r => r.all fitQ) = true := by
  refine SzM.all (k := 40) (fun r hr x hx => fitR_szQ (h.fit r hr x hx)) (by omega) (by omega)
theorem fit4 {q : Rat} (h : SzQ q 37) : FitR 4 q := by
  have e : (10 : Nat) ^ 37 < 340282366920938463463374607431768211456 := by decide
  have e2 : P32 4 = 340282366920938463463374607431768211456 := by decide
  obtain ⟨h1, h2⟩ := h
  unfold FitR Fits
  rw [e2]
  omega
theorem Sm4.of_small {m : MT} (h : squareT m = 0) (hs : smallB 4 m = true) : Sm4 (valsM m) m.length :=
  ⟨(square_ok h).1.vals, (small_len hs).1, fun r hr x hx => fit4 ((small_sz hs (square_ok h).1.ok r hr x hx).mono (by omega))⟩
theorem small_vals {b : List (List UInt8)} (hb : chkV b = 0) (hs : ∀ s ∈ b, s.length ≤ 12) (i : Nat) : SzQ ((valsV b).getD i 0) 12 := by
  by_cases h : i < (valsV b).length
  · rw [List.getD_eq_getElem?_getD, List.getElem?_eq_getElem h, Option.getD_some]
    obtain ⟨s, hs', e⟩ := List.mem_map.1 (List.getElem_mem h)
    rw [← e]
    exact (rval_sz ((chkV_ok hb).2 s hs')).1.mono (hs s hs')
  · rw [getD_ge _ _ _ (by omega)]; exact sz_zero.mono (by omega)
theorem Sm4.upd {m : MT} (h : squareT m = 0) (hs : smallB 4 m = true) {u v : List (List UInt8)} (hu : chkV u = 0) (hv : chkV v = 0) (su : ∀ s ∈ u, s.length ≤ 12) (sv : ∀ s ∈ v, s.length ≤ 12) : Sm4 (addOut (valsM m) (valsV u) (valsV v)) m.length := by
  obtain ⟨vm, _, hc⟩ := square_ok h
  have hR := vm.vals
  refine ⟨rect_addOut hR _ _, (small_len hs).1, fun r hr x hx => ?_⟩
  obtain ⟨i, hi, rfl⟩ := List.mem_mapIdx.1 hr
  obtain ⟨k, hk, rfl⟩ := List.mem_mapIdx.1 hx
  have h1 := small_sz hs vm.ok _ (List.getElem_mem hi) _ (List.getElem_mem hk)
  exact fit4 ((h1.add ((small_vals hu su i).mul (small_vals hv sv k) (by omega))).mono (by omega))
/-- the sum as texts -/
def sumT (m : MT) (u v : List (List UInt8)) : MT := (addOut (valsM m) (valsV u) (valsV v)).map fun r => r.map qText
theorem vm_col {u : List (List UInt8)} (hu : chkV u = 0) : VM (u.map fun q => [q]) u.length 1 := by
  have h := chkV_ok hu
  refine ⟨⟨List.length_map _, fun r hr => ?_⟩, h.1, .inl (by omega), fun r hr s hs => ?_⟩
  · obtain ⟨q, _, rfl⟩ := List.mem_map.1 hr; rfl
  · obtain ⟨q, hq, rfl⟩ := List.mem_map.1 hr
    rw [List.mem_singleton.1 hs]; exact h.2 q hq
theorem vm_row {v : List (List UInt8)} (hv : chkV v = 0) : VM [v] 1 v.length := by
  have h := chkV_ok hv
  refine ⟨⟨rfl, fun r hr => by rw [List.mem_singleton.1 hr]⟩, by omega, .inl h.1, fun r hr s hs => ?_⟩
  rw [List.mem_singleton.1 hr] at hs
  exact h.2 s hs
theorem outer_law {m : MT} (h : squareT m = 0) (hs : smallB 4 m = true) {u v : List (List UInt8)} (hu : chkV u = 0) (hv : chkV v = 0) (lu : u.length = m.length) (lv : v.length = m.length) (h0 : 0 < m.length) (su : ∀ s ∈ u, s.length ≤ 12) (sv : ∀ s ∈ v, s.length ≤ 12) :
    ∃ p, mulM (u.map fun q => [q]) [v] = (p, 0) ∧ addM m p = (sumT m u v, 0) ∧ VM (sumT m u v) m.length m.length ∧ valsM (sumT m u v) = addOut (valsM m) (valsV u) (valsV v) := by
  obtain ⟨vm, hw, hc⟩ := square_ok h
  have hR := vm.vals
  have vu := vm_col hu
  have vv := vm_row hv
  rw [lu] at vu
  rw [lv] at vv
  have hwu : wd (u.map fun q => [q]) = 1 := wd_eq vu.rect h0
  have hwv : wd [v] = m.length := lv
  have hU := vu.vals
  have hV := vv.vals
  have hpr : Rect (mulQ (valsM (u.map fun q => [q])) (valsM [v]) m.length) m.length m.length := rect_mul _ hU.1
  have hpat : ∀ i j, i < m.length → j < m.length → at2 (mulQ (valsM (u.map fun q => [q])) (valsM [v]) m.length) i j = (valsV u).getD i 0 * (valsV v).getD j 0 := fun i j hi hj => by
    rw [at2_mul hU hi hj, sm, sm, Rat.zero_add]
    congr 1
    unfold at2 valsM valsV
    rw [List.map_map]
    simp only [List.getD_eq_getElem?_getD, List.getElem?_map]
    cases u[i]? <;> rfl
  have hpz : SzM (mulQ (valsM (u.map fun q => [q])) (valsM [v]) m.length) 24 := SzM.of_at2 hpr fun i j hi hj => by
    rw [hpat i j hi hj]; exact (small_vals hu su i).mul (small_vals hv sv j) (by omega)
  have hpf := hpz.all (by omega) (by omega)
  obtain ⟨vp, hvp⟩ := fit_back hpr vm.hn vm.hk hpf
  have hmul := mulM_fit vu.chk vv.chk (by rw [hwu]; rfl) (by rw [hwv]; exact hpf)
  rw [hwv] at hmul
  generalize hM : (mulQ (valsM (u.map fun q => [q])) (valsM [v]) m.length).map (fun r => r.map qText) = p at *
  have hsum : addQ (valsM m) (valsM p) = addOut (valsM m) (valsV u) (valsV v) := by
    rw [hvp]
    refine mat_ext (rect_add hR hpr) (rect_addOut hR _ _) fun i j hi hj => ?_
    rw [at2_add hR hpr hi hj, at2_addOut hR _ _ hi hj, hpat i j hi hj]
  have hS := Sm4.upd h hs hu hv su sv
  obtain ⟨vs, hvs⟩ := fit_back hS.rect vm.hn vm.hk hS.txt
  have hwp : wd p = m.length := wd_eq vp.rect h0
  refine ⟨p, hmul, ?_, vs, hvs⟩
  rw [addM_fit hc vp.chk (by rw [vp.rect.1]) (by rw [hw, hwp]) (by rw [hsum]; exact hS.txt), hsum]
  rfl
/-- a new factor of matrices whose numbers fit -/
theorem new_sm4 {m : MT} {n : Nat} (v : VM m n n) (h : Sm4 (valsM m) n) : squareT m = 0 ∧ (¬ Reg (valsM m) n → newT m = 10) ∧ (Reg (valsM m) n → newT m = 0) := by
  have hq := (vm_square v).1
  have hl : m.length = n := v.rect.1
  have e0 : invT m = if (redQ (extI (valsM m) n) n).2.length < n then ([], 10) else txM (invQ (valsM m) n) := by
    rw [invT, if_neg (by rw [hq]; exact fun h => h rfl), hl]; rfl
  refine ⟨hq, fun hr => ?_, fun hr => ?_⟩
  · rw [newT, e0, if_pos (det_not v.vals hr), if_pos (by decide)]
  · rw [newT, e0, if_neg hr.full, txM_fit h.inv, if_neg (fun k => k rfl), detT, if_neg (by rw [hq]; exact fun h => h rfl), hl, ratTx_ok h.detfit]
/-- adding with the opposite column restores -/
theorem addOut_back {M : MQ} {n : Nat} (h : Rect M n n) (x y : List Rat) (z : List Rat) (hz : ∀ i, z.getD i 0 = -(x.getD i 0)) : addOut (addOut M x y) z y = M := by
  refine mat_ext (rect_addOut (rect_addOut h x y) z y) h fun i j hi hj => ?_
  rw [at2_addOut (rect_addOut h x y) z y hi hj, at2_addOut h x y hi hj, hz]
  grind
def negT (u : List (List UInt8)) : List (List UInt8) := u.map fun s => qText (-rval s)
theorem neg_law {u : List (List UInt8)} (hu : chkV u = 0) : chkV (negT u) = 0 ∧ (∀ i, (valsV (negT u)).getD i 0 = -((valsV u).getD i 0)) ∧ (negT u).length = u.length ∧ ∀ s ∈ u, ratNeg s = (qText (-rval s), 0) := by
  have h := chkV_ok hu
  have hf : ∀ s ∈ u, fitQ (-rval s) = true := fun s hs => by
    have h1 := (back_text (h.2 s hs)).1
    unfold fitQ at h1 ⊢
    rw [Rat.neg_num, Rat.neg_den, Int.natAbs_neg]
    exact h1
  refine ⟨chkV_all (by rw [negT, List.length_map]; exact h.1) fun s hs => ?_, fun i => ?_, List.length_map _, fun s hs => ?_⟩
  · obtain ⟨q, hq, rfl⟩ := List.mem_map.1 hs
    exact (qText_ok _ (hf q hq)).1
  · unfold valsV negT
    rw [List.map_map, List.getD_eq_getElem?_getD, List.getElem?_map, List.getD_eq_getElem?_getD, List.getElem?_map]
    cases e : u[i]? with
    | none => show (0 : Rat) = -0; decide
    | some s => exact (qText_ok _ (hf s (List.mem_of_getElem? e))).2
  · rw [ratNeg, rOp_ok (h.2 s hs) rchk_48]
    exact ratTx_ok (hf s hs)
end Go.Proofs.YtgecdcjfncfmcaaGreatDoor
