/- Linear programs in plain Lean: the tables of the two phases, and what their results prove. Plain facts. No program here. Linear programs in plain Lean: the two phases. Plain facts. No program here. Linear programs in plain Lean: the additional column goes out, and the second phase. Plain facts. No program here. -/
import Derived.Test.YtcgfdfdcbamceaaGreatDoorXAB
namespace Go.Proofs.YtcgfdfdcbamceaaGreatDoor
theorem list_ext_getD {l l' : List Rat} (hl : l.length = l'.length) (h : ∀ k, l.getD k 0 = l'.getD k 0) : l = l' := by
 refine List.ext_getElem hl fun k h1 h2 => ?_
 have := h k
 rw [List.getD_eq_getElem?_getD, List.getD_eq_getElem?_getD, List.getElem?_eq_getElem h1, List.getElem?_eq_getElem h2] at this
 exact this
theorem getD_set (l : List Rat) (j k : Nat) (v : Rat) : (l.set j v).getD k 0 = if j = k ∧ k < l.length then v else l.getD k 0 := by
 rw [List.getD_eq_getElem?_getD, List.getElem?_set, List.getD_eq_getElem?_getD]
 by_cases e : j = k
 ·subst e
  by_cases h : j < l.length
  ·rw [if_pos rfl, if_pos h, if_pos ⟨rfl, h⟩]; rfl
  ·rw [if_pos rfl, if_neg h, if_neg (fun q => h q.2), List.getElem?_eq_none (by omega)]
 ·rw [if_neg e, if_neg (fun q => e q.1)]
theorem getD_rep (n k : Nat) : (List.replicate n (0 : Rat)).getD k 0 = 0 := by
 rw [List.getD_eq_getElem?_getD, List.getElem?_replicate]
 split <;> rfl
theorem sm_nn {f : Nat → Rat} : ∀ (n : Nat), (∀ i, i < n → 0 ≤ f i) → 0 ≤ sm n f
 | 0, _ => Rat.le_refl
 | n + 1, h => by
  have h1 := sm_nn n fun i hi => h i (by omega)
  have h2 := h n (by omega)
  rw [sm]; grind
theorem sm_split (f : Nat → Rat) (n : Nat) : ∀ k, sm (n + k) f = sm n f + sm k fun i => f (n + i)
 | 0 => by rw [Nat.add_zero, sm]; grind
 | k + 1 => by rw [← Nat.add_assoc, sm, sm_split f n k, sm]; grind
def negPad (c : List Rat) (n : Nat) : List Rat := (List.range n).map fun k => - c.getD k 0
def aimN (t : TabQ) (g : List Rat) : Nat → List Rat
 | 0 => g
 | i + 1 => clearQ (t.rows.getD i []) (basF t i) (aimN t g i)
def row0L (t : TabQ) : Nat := if t.rows.length = 0 then t.cols + 1 else (t.rows.getD 0 []).length
def aimQ (t : TabQ) (c : List Rat) : TabQ := { t with tgt := aimN t (negPad c (row0L t)) t.rows.length }
theorem negPad_at (c : List Rat) {n k : Nat} (h : k < n) : (negPad c n).getD k 0 = - c.getD k 0 := by
 rw [negPad, List.getD_eq_getElem?_getD, List.getElem?_map, List.getElem?_range h]; rfl
theorem negPad_len (c : List Rat) (n : Nat) : (negPad c n).length = n := by rw [negPad, List.length_map, List.length_range]
structure RowsB (t : TabQ) (m W : Nat) : Prop where
 len : t.rows.length = m
 row : ∀ r ∈ t.rows, r.length = W + 1
 bas : t.bas.length = m
 unit : ∀ i, i < m → ∀ j, j < m → ent t.rows j (basF t i) = if j = i then 1 else 0
theorem RowsB.rowAt {t : TabQ} {m W : Nat} (h : RowsB t m W) {i : Nat} (hi : i < m) : (t.rows.getD i []).length = W + 1 := by
 have hl := h.len
 rw [List.getD_eq_getElem?_getD, List.getElem?_eq_getElem (by omega)]
 exact h.row _ (List.getElem_mem _)
theorem aimN_len {t : TabQ} {m W : Nat} (h : RowsB t m W) {g : List Rat} (hg : g.length = W + 1) : ∀ i, i ≤ m → (aimN t g i).length = W + 1
 | 0, _ => hg
 | i + 1, hi => by
  have ih := aimN_len h hg i (by omega)
  rw [aimN, clear_len (by rw [ih, h.rowAt (by omega)]), ih]
theorem aimN_at {t : TabQ} {m W : Nat} (h : RowsB t m W) {g : List Rat} (hg : g.length = W + 1) : ∀ i, i ≤ m → ∀ k, (aimN t g i).getD k 0 = g.getD k 0 - sm i fun j => g.getD (basF t j) 0 * ent t.rows j k
 | 0, _, k => by rw [aimN, sm]; grind
 | i + 1, hi, k => by
  have hl := aimN_len h hg i (by omega)
  rw [aimN, clear_at (by rw [hl, h.rowAt (by omega)]), aimN_at h hg i (by omega), aimN_at h hg i (by omega), sm]
  rw [sm_zero (f := fun j => g.getD (basF t j) 0 * ent t.rows j (basF t i)) i fun j hj => by rw [h.unit i (by omega) j (by omega), if_neg (by omega)]; grind]
  rw [show (t.rows.getD i []).getD k 0 = ent t.rows i k from rfl]
  grind
theorem aim_rows (t : TabQ) (c : List Rat) : (aimQ t c).rows = t.rows := rfl
theorem RowsB.row0 {t : TabQ} {m W : Nat} (h : RowsB t m W) (hW : m = 0 → W = t.cols) : row0L t = W + 1 := by
 rw [row0L]
 by_cases e : m = 0
 ·rw [if_pos (by rw [h.len, e]), hW e]
 ·rw [if_neg (by rw [h.len]; exact e), h.rowAt (by omega)]
theorem aim_sh {t : TabQ} {m W : Nat} (h : RowsB t m W) (hW : m = 0 → W = t.cols) (c : List Rat) : ShQ (aimQ t c) m W :=
 ⟨h.len, h.row, by show (aimN _ _ _).length = _; rw [h.row0 hW, h.len]; exact aimN_len h (negPad_len _ _) m (Nat.le_refl _), h.bas⟩
theorem aim_tgt {t : TabQ} {m W : Nat} (h : RowsB t m W) (hW : m = 0 → W = t.cols) (c : List Rat) {k : Nat} (hk : k ≤ W) (hb : ∀ i, i < m → basF t i ≤ W) :
  tabF (aimQ t c) m k = - c.getD k 0 - sm m fun j => - c.getD (basF t j) 0 * ent t.rows j k := by
 rw [tabF_tgt (aim_sh h hW c), show (aimQ t c).tgt = aimN t (negPad c (row0L t)) t.rows.length from rfl, h.len, h.row0 hW, aimN_at h (negPad_len _ _) m (Nat.le_refl _), negPad_at _ (by omega)]
 congr 1
 exact sm_congr m fun j hj => by rw [negPad_at _ (by have := hb j hj; omega)]
theorem aim_row {t : TabQ} {m W : Nat} (h : RowsB t m W) (hW : m = 0 → W = t.cols) (c : List Rat) {i : Nat} (hi : i < m) (k : Nat) : tabF (aimQ t c) i k = ent t.rows i k := tabF_row (aim_sh h hW c) hi k
theorem aim_inv {t : TabQ} {m W K : Nat} {T0 : Nat → Nat → Rat} (h : RowsB t m W) (hW : m = 0 → W = t.cols) (c : List Rat) (hK : t.cols = K) (kw : K ≤ W) (hlt : ∀ i, i < m → basF t i < K)
  (sol : ∀ x, (∀ i, i < m → (sm (W + 1) fun k => ent t.rows i k * x k) = 0) ↔ SolF m W T0 x)
  (comb : ∃ M : Nat → Nat → Rat, ∀ i, i < m → ∀ k, k ≤ W → ent t.rows i k = sm m fun j => M i j * T0 j k)
  (h0 : ∀ k, k ≤ W → T0 m k = - c.getD k 0) : InvQ m W K T0 (aimQ t c) := by
 have hbW : ∀ i, i < m → basF t i ≤ W := fun i hi => by have := hlt i hi; omega
 refine ⟨aim_sh h hW c, hK, ⟨kw, hlt, fun i hi j hj => ?_⟩, fun x => ?_, ?_, ?_⟩
 ·by_cases e : j < m
  ·rw [aim_row h hW c e]; exact h.unit i hi j e
  ·obtain rfl : j = m := by omega
   rw [if_neg (by omega), show basF (aimQ t c) i = basF t i from rfl, aim_tgt h hW c (hbW i hi) hbW, sm_one i j hi fun q hq hqi => by rw [h.unit i hi q hq, if_neg hqi]; grind, h.unit i hi i hi, if_pos rfl]
   grind
 ·rw [← sol x]
  refine ⟨fun hs i hi => ?_, fun hs i hi => ?_⟩
  ·have := hs i hi
   rw [dt] at this
   rw [← this]
   exact sm_congr _ fun k _ => by rw [aim_row h hW c hi]
  ·rw [dt, ← hs i hi]
   exact sm_congr _ fun k _ => by rw [aim_row h hW c hi]
 ·obtain ⟨M, hM⟩ := comb
  exact ⟨M, fun i hi k hk => by rw [aim_row h hW c hi, hM i hi k hk]⟩
 ·obtain ⟨M, hM⟩ := comb
  refine ⟨fun j => sm m fun i => c.getD (basF t i) 0 * M i j, fun k hk => ?_⟩
  rw [aim_tgt h hW c hk hbW, h0 k hk, sm_congr m (f := fun j => (sm m fun i => c.getD (basF t i) 0 * M i j) * T0 j k) (g := fun j => sm m fun i => c.getD (basF t i) 0 * M i j * T0 j k) fun j _ => by
   rw [show (sm m fun i => c.getD (basF t i) 0 * M i j) * T0 j k = T0 j k * (sm m fun i => c.getD (basF t i) 0 * M i j) by grind, ← sm_mul]
   exact sm_congr m fun i _ => by grind]
  rw [sm_comm, sm_congr m (f := fun j => - c.getD (basF t j) 0 * ent t.rows j k) (g := fun i => - (c.getD (basF t i) 0 * ent t.rows i k)) fun i _ => by grind, sm_neg]
  rw [sm_congr m (f := fun j => sm m fun i => c.getD (basF t j) 0 * M j i * T0 i k) (g := fun i => c.getD (basF t i) 0 * ent t.rows i k) fun i hi => by
   rw [hM i hi k hk, ← sm_mul]
   exact sm_congr m fun j _ => by grind]
  grind
def T0F (m n W : Nat) (x : Nat) (a : Nat → Nat → Rat) (b g : Nat → Rat) : Nat → Nat → Rat := fun i k =>
 if i < m then if k < n then a i k else if k = n + i then 1 else if k = W then b i else if k = x then -1 else 0
 else g k
def startRow (a : List Rat) (m i : Nat) (b : Rat) : List Rat := (((a ++ List.replicate (m + 2) 0).set (a.length + i) 1).set (a.length + m) (-1)).set (a.length + m + 1) b
theorem startRow_len (a : List Rat) (m i : Nat) (b : Rat) : (startRow a m i b).length = a.length + m + 2 := by simp [startRow]; omega
theorem startRow_at (a : List Rat) {m i k : Nat} (b : Rat) (hi : i < m) (hk : k < a.length + m + 2) :
  (startRow a m i b).getD k 0 = if k < a.length then a.getD k 0 else if k = a.length + i then 1 else if k = a.length + m + 1 then b else if k = a.length + m then -1 else 0 := by
 rw [startRow, getD_set, getD_set, getD_set]
 simp only [List.length_set, List.length_append, List.length_replicate]
 by_cases h1 : k = a.length + m + 1
 ·rw [if_pos ⟨h1.symm, by omega⟩, if_neg (by omega), if_neg (by omega), if_pos h1]
 ·rw [if_neg (fun q => h1 q.1.symm)]
  by_cases h2 : k = a.length + m
  ·rw [if_pos ⟨h2.symm, by omega⟩, if_neg (by omega), if_neg (by omega), if_neg h1, if_pos h2]
  ·rw [if_neg (fun q => h2 q.1.symm)]
   by_cases h3 : k = a.length + i
   ·rw [if_pos ⟨h3.symm, by omega⟩, if_neg (by omega), if_pos h3]
   ·rw [if_neg (fun q => h3 q.1.symm)]
    by_cases h4 : k < a.length
    ·rw [if_pos h4, List.getD_eq_getElem?_getD, List.getElem?_append_left h4, List.getD_eq_getElem?_getD]
    ·rw [if_neg h4, if_neg h3, if_neg h1, if_neg h2, List.getD_eq_getElem?_getD, List.getElem?_append_right (by omega), ← List.getD_eq_getElem?_getD]
     exact getD_rep _ _
def worstN (b : List Rat) : Nat → Option Nat
 | 0 => none
 | i + 1 => if b.getD i 0 < 0 ∧ (∀ w, worstN b i = some w → b.getD i 0 < b.getD w 0) then some i else worstN b i
theorem worst_none {b : List Rat} : ∀ n, worstN b n = none → ∀ i, i < n → 0 ≤ b.getD i 0
 | 0, _, i, hi => absurd hi (by omega)
 | n + 1, h, i, hi => by
  rw [worstN] at h
  split at h
  ·cases h
  ·rename_i hc
   by_cases e : i = n
   ·rw [e]
    by_cases k : b.getD n 0 < 0
    ·exact absurd ⟨k, fun w hw => by rw [h] at hw; cases hw⟩ hc
    ·exact Rat.not_lt.1 k
   ·exact worst_none n h i (by omega)
theorem worst_some {b : List Rat} : ∀ n w, worstN b n = some w → w < n ∧ b.getD w 0 < 0 ∧ ∀ i, i < n → b.getD w 0 ≤ b.getD i 0
 | 0, w, h => by rw [worstN] at h; cases h
 | n + 1, w, h => by
  rw [worstN] at h
  split at h
  ·rename_i hc
   injection h with h
   subst h
   refine ⟨by omega, hc.1, fun i hi => ?_⟩
   by_cases e : i = n
   ·rw [e]; exact Rat.le_refl
   ·cases hw : worstN b n with
    | none => have := worst_none n hw i (by omega); have := hc.1; grind
    | some v =>
     have h1 := hc.2 v hw
     have h2 := (worst_some n v hw).2.2 i (by omega)
     grind
  ·rename_i hc
   obtain ⟨h1, h2, h3⟩ := worst_some n w h
   refine ⟨by omega, h2, fun i hi => ?_⟩
   by_cases e : i = n
   ·rw [e]
    by_cases k : b.getD w 0 ≤ b.getD n 0
    ·exact k
    ·have k2 := Rat.not_le.1 k
     exact absurd ⟨by grind, fun v hv => by rw [h] at hv; injection hv with hv; rw [← hv]; exact k2⟩ hc
   ·exact h3 i (by omega)
def rows0Q (a : List (List Rat)) (b : List Rat) : List (List Rat) := a.mapIdx fun i r => startRow r a.length i (b.getD i 0)
def base0Q (m n : Nat) : List Nat := (List.range m).map fun i => n + i
def goal0 (k : Nat) : List Rat := (List.replicate (k + 1) 0).set k (-1)
def startQ (a : List (List Rat)) (b : List Rat) (n : Nat) : TabQ :=
 let t := aimQ ⟨rows0Q a b, [], base0Q a.length n, n + a.length + 1⟩ (goal0 (n + a.length))
 match worstN b a.length with
 | none => t
 | some w => pivQ t w (n + a.length)
structure ProbQ (a : List (List Rat)) (b c : List Rat) (m n : Nat) : Prop where
 len : a.length = m
 row : ∀ r ∈ a, r.length = n
 lb : b.length = m
 lc : c.length = n
section
variable {a : List (List Rat)} {b c : List Rat} {m n : Nat}
theorem ProbQ.rowAt (h : ProbQ a b c m n) {i : Nat} (hi : i < m) : (a.getD i []).length = n := by
 have hl := h.len
 rw [List.getD_eq_getElem?_getD, List.getElem?_eq_getElem (by omega)]
 exact h.row _ (List.getElem_mem _)
theorem rows0_at (h : ProbQ a b c m n) {i k : Nat} (hi : i < m) (hk : k < n + m + 2) : ent (rows0Q a b) i k = T0F m n (n + m + 1) (n + m) (ent a) (fun i => b.getD i 0) (fun _ => 0) i k := by
 have hl := h.len
 have hr := h.rowAt hi
 have e : a[i]'(by omega) = a.getD i [] := by rw [List.getD_eq_getElem?_getD, List.getElem?_eq_getElem (by omega)]; rfl
 rw [ent, rows0Q, List.getD_eq_getElem?_getD (l := a.mapIdx _), List.getElem?_mapIdx, List.getElem?_eq_getElem (by omega), Option.map_some, Option.getD_some, startRow_at _ _ (by omega) (by rw [e, hr, hl]; exact hk), e, hr, hl, T0F, if_pos hi]
 rfl
theorem base0_at {i : Nat} (hi : i < m) (n : Nat) : (base0Q m n).getD i 0 = n + i := by
 rw [base0Q, List.getD_eq_getElem?_getD, List.getElem?_map, List.getElem?_range hi]; rfl
theorem goal0_at (k j : Nat) : (goal0 k).getD j 0 = if j = k then -1 else 0 := by
 rw [goal0, getD_set, getD_rep]
 simp only [List.length_replicate]
 by_cases e : j = k
 ·rw [if_pos ⟨e.symm, by omega⟩, if_pos e]
 ·rw [if_neg (fun q => e q.1.symm), if_neg e]
def g1 (x : Nat) : Nat → Rat := fun k => if k = x then 1 else 0
abbrev T1F (m n : Nat) (a : List (List Rat)) (b : List Rat) : Nat → Nat → Rat := T0F m n (n + m + 1) (n + m) (ent a) (fun i => b.getD i 0) (g1 (n + m))
theorem T0F_row {W x : Nat} {A : Nat → Nat → Rat} {B g g' : Nat → Rat} {i : Nat} (hi : i < m) (k : Nat) : T0F m n W x A B g i k = T0F m n W x A B g' i k := by rw [T0F, T0F, if_pos hi, if_pos hi]
theorem T0F_tgt {W x : Nat} {A : Nat → Nat → Rat} {B g : Nat → Rat} (k : Nat) : T0F m n W x A B g m k = g k := by rw [T0F, if_neg (by omega)]
theorem start_rows (h : ProbQ a b c m n) (g : List Rat) : RowsB ⟨rows0Q a b, g, base0Q m n, n + m + 1⟩ m (n + m + 1) := by
 have hl := h.len
 refine ⟨by show (rows0Q a b).length = m; rw [rows0Q, List.length_mapIdx, hl], fun r hr => ?_, by show (base0Q m n).length = m; rw [base0Q, List.length_map, List.length_range], fun i hi j hj => ?_⟩
 ·obtain ⟨i, hi, rfl⟩ := List.mem_mapIdx.1 (show r ∈ rows0Q a b from hr)
  rw [startRow_len, h.row _ (List.getElem_mem hi), hl]
 ·rw [show ent (TabQ.rows ⟨rows0Q a b, g, base0Q m n, n + m + 1⟩) j (basF ⟨rows0Q a b, g, base0Q m n, n + m + 1⟩ i) = ent (rows0Q a b) j ((base0Q m n).getD i 0) from rfl, base0_at hi, rows0_at h hj (by omega), T0F, if_pos hj, if_neg (by omega)]
  by_cases e : j = i
  ·rw [if_pos (by omega), if_pos e]
  ·rw [if_neg (by omega), if_neg (by omega), if_neg (by omega), if_neg e]
theorem start0_inv (h : ProbQ a b c m n) : InvQ m (n + m + 1) (n + m + 1) (T1F m n a b) (aimQ ⟨rows0Q a b, [], base0Q m n, n + m + 1⟩ (goal0 (n + m))) := by
 refine aim_inv (start_rows h []) (fun e => by subst e; rfl) _ rfl (Nat.le_refl _) (fun i hi => ?_) (fun x => ?_) ?_ (fun k hk => ?_)
 ·show (base0Q m n).getD i 0 < _
  rw [base0_at hi]; omega
 ·have e : ∀ i, i < m → (sm (n + m + 1 + 1) fun k => ent (rows0Q a b) i k * x k) = dt (n + m + 1) (T1F m n a b) x i := fun i hi => sm_congr _ fun k hk => by rw [rows0_at h hi (by omega), T0F_row hi (g' := g1 (n + m))]
  exact ⟨fun hs i hi => by rw [← e i hi]; exact hs i hi, fun hs i hi => (e i hi).trans (hs i hi)⟩
 ·refine ⟨fun i j => if j = i then 1 else 0, fun i hi k hk => ?_⟩
  rw [sm_one i m hi fun j _ hj => by simp only [if_neg hj]; grind]
  simp only [if_true]
  rw [rows0_at h hi (by omega), T0F_row hi (g' := g1 (n + m))]
  grind
 ·rw [T1F, T0F_tgt, goal0_at, g1]
  split
  ·decide
  ·decide
theorem start_inv (h : ProbQ a b c m n) : InvP m (n + m + 1) (n + m + 1) (T1F m n a b) (startQ a b n) := by
 have h0 := start0_inv h
 have hl := h.len
 have e : ∀ i, i < m → ∀ k, k < n + m + 2 → tabF (aimQ ⟨rows0Q a b, [], base0Q m n, n + m + 1⟩ (goal0 (n + m))) i k = T1F m n a b i k := fun i hi k hk => by
  rw [tabF_row h0.sh hi, aim_rows, rows0_at h hi hk, T0F_row hi (g' := g1 (n + m))]
 have eb : ∀ i, i < m → T1F m n a b i (n + m + 1) = b.getD i 0 := fun i hi => by
  rw [T1F, T0F, if_pos hi, if_neg (by omega), if_neg (by omega), if_pos rfl]
 rw [startQ]
 subst hl
 cases hw : worstN b a.length with
 | none => exact ⟨h0, fun i hi => by rw [e i hi _ (by omega), eb i hi]; exact worst_none _ hw i hi⟩
 | some w =>
  obtain ⟨w1, w2, w3⟩ := worst_some _ w hw
  have ew : ∀ i, i < a.length → tabF (aimQ ⟨rows0Q a b, [], base0Q a.length n, n + a.length + 1⟩ (goal0 (n + a.length))) i (n + a.length) = -1 := fun i hi => by
   rw [e i hi _ (by omega), T1F, T0F, if_pos hi, if_neg (by omega), if_neg (by omega), if_neg (by omega), if_pos rfl]
  refine ⟨h0.piv w1 (by omega) (by rw [ew w w1]; decide), fun i hi => ?_⟩
  show 0 ≤ tabF (pivQ _ w (n + a.length)) i _
  rw [tabF_piv h0.sh w1, pvF, ew w w1, ew i hi, e w w1 _ (by omega), e i hi _ (by omega), eb w w1, eb i hi, Rat.div_def, show ((-1 : Rat))⁻¹ = -1 from by decide +kernel]
  have := w3 i hi
  split <;> grind
theorem bx_nn {W : Nat} {T : Nat → Nat → Rat} {bs : Nat → Nat} (hn : ∀ i, i < m → 0 ≤ T i W) {k : Nat} (hk : k ≠ W) : 0 ≤ bx m W T bs k := by
 rw [bx, vx, if_neg hk]
 have := sm_nn (f := fun i => if bs i = k then T i W else 0) m fun i hi => by
  split
  ·exact hn i hi
  ·exact Rat.le_refl
 grind
theorem InvQ.tgt_bx {W K : Nat} {T0 : Nat → Nat → Rat} {t : TabQ} (h : InvQ m W K T0 t) : dt W T0 (bx m W (tabF t) (basF t)) m = - tabF t m W := by
 have hs := (h.sol _).1 h.bas.sol_bx
 have hd := h.bas.dt_bx (Nat.le_refl m)
 rw [if_neg (by omega)] at hd
 obtain ⟨y, hy⟩ := h.tgt
 have e : dt W (tabF t) (bx m W (tabF t) (basF t)) m = dt W T0 (bx m W (tabF t) (basF t)) m + sm m fun j => y j * dt W T0 (bx m W (tabF t) (basF t)) j := by
  generalize bx m W (tabF t) (basF t) = x
  rw [dt, sm_congr (W + 1) (g := fun k => T0 m k * x k + sm m fun j => y j * (T0 j k * x k)) fun k hk => by
   rw [hy k (by omega), Rat.add_mul]
   congr 1
   rw [Rat.mul_comm, ← sm_mul]
   exact sm_congr m fun j _ => by grind, sm_add, sm_comm]
  congr 1
  exact sm_congr m fun j _ => by rw [sm_mul]; rfl
 rw [sm_zero m fun j hj => by rw [hs j hj, Rat.mul_zero]] at e
 rw [hd] at e
 grind
theorem dt_g1 {W : Nat} {A : Nat → Nat → Rat} {B : Nat → Rat} {x : Nat} (hx : x < W + 1) (v : Nat → Rat) (p : Nat) : dt W (T0F m n p x A B (g1 x)) v m = v x := by
 rw [dt, sm_one x (W + 1) hx fun k _ hk => by rw [T0F_tgt, g1, if_neg hk]; grind, T0F_tgt, g1, if_pos rfl]
 grind
end
def fuelQ (m n : Nat) : Nat := (n + m + 1) ^ m
def settN (t : TabQ) (x : Nat) : Nat → TabQ
 | 0 => t
 | i + 1 => if basF (settN t x i) i ≠ x then settN t x i else match (List.range x).find? fun k => ent (settN t x i).rows i k != 0 with
  | none => settN t x i
  | some k => pivQ (settN t x i) i k
def zeroC (t : TabQ) (x : Nat) : TabQ := { t with rows := t.rows.map fun r => r.set x 0 }
def settleQ (t : TabQ) (x : Nat) : TabQ := zeroC (settN t x t.bas.length) x
def goal2 (c : List Rat) (m : Nat) : List Rat := c ++ List.replicate (m + 1) 0
def phase1 (a : List (List Rat)) (b : List Rat) (n : Nat) : TabQ := (improveQ (fuelQ a.length n) (startQ a b n)).1
def phase2 (a : List (List Rat)) (c : List Rat) (n : Nat) (t : TabQ) : TabQ × Option Nat := improveQ (fuelQ a.length n) (aimQ { settleQ t (n + a.length) with cols := n + a.length } (goal2 c a.length))
section
variable {a : List (List Rat)} {b c : List Rat} {m n : Nat}
theorem phase1_inv (h : ProbQ a b c m n) : EndP m (n + m + 1) (n + m + 1) (T1F m n a b) (phase1 a b n) none := by
 have hi := start_inv h
 have hl := h.len
 have := improve_run (T0 := T1F m n a b) (fuelQ a.length n) 0 (fun _ => tabF (startQ a b n)) (fun _ => basF (startQ a b n)) (fun _ => 0) (fun _ => 0) (startQ a b n) ⟨hi.bas, hi.nn, fun k hk => absurd hk (by omega), fun k hk => absurd hk (by omega), fun k hk => absurd hk (by omega)⟩ rfl rfl hi (by rw [fuelQ, hl]; omega)
 rw [phase1]
 generalize improveQ (fuelQ a.length n) (startQ a b n) = p at this
 obtain ⟨t, o⟩ := p
 cases o with
 | none => exact this
 | some s =>
  exfalso
  obtain ⟨h1, h2, h3⟩ := this.free s rfl
  have hb := this.inv.bas
  have hd : SolF m (n + m + 1) (tabF t) (dirF m (n + m + 1) (tabF t) (basF t) s) := fun i hi => by rw [hb.dt_dir h1 (by omega), if_pos hi]
  have e1 := hb.dt_dir h1 (Nat.le_refl m)
  rw [if_neg (by omega)] at e1
  obtain ⟨y, hy⟩ := this.inv.tgt
  have hs := (this.inv.sol _).1 hd
  have hnn : 0 ≤ dirF m (n + m + 1) (tabF t) (basF t) s (n + m) := by
   rw [dirF, vx, if_neg (by omega)]
   have k1 := sm_nn (f := fun i => if basF t i = n + m then - tabF t i s else 0) m fun i hi => by
    have := h3 i hi
    split <;> grind
   have k2 : (0 : Rat) ≤ if n + m = s then 1 else 0 := by split <;> decide
   grind
  generalize dirF m (n + m + 1) (tabF t) (basF t) s = x at *
  have e2 : dt (n + m + 1) (tabF t) x m = dt (n + m + 1) (T1F m n a b) x m + sm m fun j => y j * dt (n + m + 1) (T1F m n a b) x j := by
   rw [dt, sm_congr (n + m + 1 + 1) (g := fun k => T1F m n a b m k * x k + sm m fun j => y j * (T1F m n a b j k * x k)) fun k hk => by
    rw [hy k (by omega), Rat.add_mul]
    congr 1
    rw [Rat.mul_comm, ← sm_mul]
    exact sm_congr m fun j _ => by grind, sm_add, sm_comm]
   congr 1
   exact sm_congr m fun j _ => by rw [sm_mul]; rfl
  rw [sm_zero m fun j hj => by rw [hs j hj, Rat.mul_zero], T1F, dt_g1 (by omega)] at e2
  rw [e1] at e2
  grind
theorem phase1_le {t : TabQ} (h : InvP m (n + m + 1) (n + m + 1) (T1F m n a b) t) : bx m (n + m + 1) (tabF t) (basF t) (n + m) = - tabF t m (n + m + 1) := by
 have := h.toInvQ.tgt_bx
 rw [T1F, dt_g1 (by omega)] at this
 exact this
structure NoneS (m n : Nat) (A : Nat → Nat → Rat) (B y : Nat → Rat) : Prop where
 nn : ∀ i, i < m → 0 ≤ y i
 mix : ∀ k, k < n → 0 ≤ sm m fun i => y i * A i k
 neg : (sm m fun i => B i * y i) < 0
theorem tgt_slack {W K x : Nat} {A : Nat → Nat → Rat} {B g : Nat → Rat} {t : TabQ} (h : InvQ m W K (T0F m n W x A B g) t) (hW : m = 0 ∨ n + m ≤ W) (hg : ∀ i, i < m → g (n + i) = 0) (hgW : g W = 0) (hx : n + m ≤ x) (hn : n ≤ W) (hWn : m = 0 → W = n ∨ True) :
  (∀ k, k < n → tabF t m k = g k + sm m fun j => tabF t m (n + j) * A j k) ∧ tabF t m W = sm m fun j => tabF t m (n + j) * B j := by
 obtain ⟨y, hy⟩ := h.tgt
 have hy1 : ∀ i, i < m → tabF t m (n + i) = y i := fun i hi => by
  have hle : n + i < W := by rcases hW with k | k <;> omega
  rw [hy _ (by omega), T0F_tgt, hg i hi, sm_one i m hi fun j hj hji => by rw [T0F, if_pos hj, if_neg (by omega), if_neg (by omega), if_neg (by omega), if_neg (by omega)]; grind, T0F, if_pos hi, if_neg (by omega), if_pos rfl]
  grind
 refine ⟨fun k hk => ?_, ?_⟩
 ·rw [hy k (by omega), T0F_tgt]
  congr 1
  exact sm_congr m fun j hj => by rw [hy1 j hj, T0F, if_pos hj, if_pos hk]
 ·rw [hy W (Nat.le_refl _), T0F_tgt, hgW, sm_congr m (f := fun j => y j * T0F m n W x A B g j W) (g := fun j => tabF t m (n + j) * B j) fun j hj => by
   rw [hy1 j hj, T0F, if_pos hj, if_neg (by omega), if_neg (by omega), if_pos rfl]]
  grind
theorem none_law {t : TabQ} (h : EndP m (n + m + 1) (n + m + 1) (T1F m n a b) t none) (hn : tabF t m (n + m + 1) < 0) : NoneS m n (ent a) (fun i => b.getD i 0) fun i => tabF t m (n + i) := by
 have hb := h.best rfl
 obtain ⟨h1, h2⟩ := tgt_slack h.inv.toInvQ (.inr (by omega)) (fun i hi => by rw [g1, if_neg (by omega)]) (by rw [g1, if_neg (by omega)]) (Nat.le_refl _) (by omega) (fun _ => .inr trivial)
 refine ⟨fun i hi => hb _ (by omega), fun k hk => ?_, ?_⟩
 ·have := h1 k hk
  rw [g1, if_neg (by omega)] at this
  have h3 := hb k (by omega)
  grind
 ·rw [h2] at hn
  rw [sm_congr m (g := fun j => tabF t m (n + j) * b.getD j 0) fun j _ => by grind]
  exact hn
structure SettI (m n : Nat) (a : List (List Rat)) (b : List Rat) (t : TabQ) (j : Nat) : Prop where
 inv : InvP m (n + m + 1) (n + m + 1) (T1F m n a b) t
 zero : tabF t m (n + m + 1) = 0
 out : ∀ i, i < j → basF t i ≠ n + m
theorem sett_inv {t : TabQ} (h : SettI m n a b t 0) : ∀ j, j ≤ m → SettI m n a b (settN t (n + m) j) j
 | 0, _ => h
 | j + 1, hj => by
  have ih := sett_inv h j (by omega)
  rw [settN]
  generalize settN t (n + m) j = u at ih
  have hv := ih.inv
  by_cases e : basF u j ≠ n + m
  ·rw [if_pos e]
   exact ⟨hv, ih.zero, fun i hi => by
    by_cases k : i = j
    ·rw [k]; exact e
    ·exact ih.out i (by omega)⟩
  ·rw [if_neg e]
   have e' : basF u j = n + m := Classical.not_not.1 e
   have hz : tabF u j (n + m + 1) = 0 := by
    have h1 := hv.bas.bx_on (show j < m by omega)
    rw [e', phase1_le hv, ih.zero] at h1
    grind
   cases hf : (List.range (n + m)).find? fun k => ent u.rows j k != 0 with
   | none =>
    exfalso
    have hall : ∀ k, k < n + m → tabF u j k = 0 := fun k hk => by
     have := List.find?_eq_none.1 hf k (List.mem_range.2 hk)
     rw [tabF_row hv.sh (by omega)]
     simpa using this
    obtain ⟨M, hM⟩ := hv.comb
    have hM0 : ∀ i, i < m → M j i = 0 := fun i hi => by
     have h1 := hM j (by omega) (n + i) (by omega)
     rw [hall _ (by omega), sm_one i m hi fun l hl hli => by rw [T1F, T0F, if_pos hl, if_neg (by omega), if_neg (by omega), if_neg (by omega), if_neg (by omega)]; grind, T1F, T0F, if_pos hi, if_neg (by omega), if_pos rfl] at h1
     grind
    have h1 := hM j (by omega) (n + m) (by omega)
    rw [sm_zero m fun l hl => by rw [hM0 l hl]; grind] at h1
    have h2 := hv.bas.unit j (by omega) j (by omega)
    rw [e', h1, if_pos rfl] at h2
    exact absurd h2 (by decide)
   | some k =>
    simp only
    rw [List.find?_eq_some_iff_getElem] at hf
    obtain ⟨h1, i, hi, e2, _⟩ := hf
    rw [List.length_range] at hi
    rw [List.getElem_range] at e2
    subst e2
    have hne : tabF u j i ≠ 0 := by
     rw [tabF_row hv.sh (by omega)]
     simpa using h1
    have hjm : j < m := by omega
    have hc := hv.toInvQ.piv hjm (show i < n + m + 1 by omega) hne
    have hW : ∀ l, pvF (tabF u) j i l (n + m + 1) = tabF u l (n + m + 1) := fun l => by
     rw [pvF]
     by_cases q : l = j
     ·rw [if_pos q, q, hz, Rat.div_def, Rat.zero_mul]
     ·rw [if_neg q, hz, Rat.div_def]; grind
    refine ⟨⟨hc, fun l hl => ?_⟩, ?_, fun l hl => ?_⟩
    ·rw [tabF_piv hv.sh hjm, hW]; exact hv.nn l hl
    ·rw [tabF_piv hv.sh hjm, hW]; exact ih.zero
    ·rw [basF_piv hv.sh hjm, putB]
     by_cases q : l = j
     ·rw [if_pos q]; omega
     ·rw [if_neg q]; exact ih.out l (by omega)
theorem zeroC_at {t : TabQ} {W : Nat} (h : ShQ t m W) {i : Nat} (hi : i < m) (x k : Nat) (hk : k ≤ W) : ent (zeroC t x).rows i k = if k = x then 0 else ent t.rows i k := by
 have hl := h.len
 have hr := h.rowAt hi
 have e : t.rows[i]'(by omega) = t.rows.getD i [] := by rw [List.getD_eq_getElem?_getD, List.getElem?_eq_getElem (by omega)]; rfl
 rw [ent, zeroC, List.getD_eq_getElem?_getD (l := t.rows.map _), List.getElem?_map, List.getElem?_eq_getElem (by omega), Option.map_some, Option.getD_some, getD_set, e, hr, ent]
 by_cases q : k = x
 ·rw [if_pos ⟨q.symm, by omega⟩, if_pos q]
 ·rw [if_neg (fun z => q z.1.symm), if_neg q]
def W2 (m n : Nat) : Nat := if m = 0 then n else n + m + 1
def g2 (n : Nat) (c : List Rat) : Nat → Rat := fun k => if k < n then - c.getD k 0 else 0
abbrev T2F (m n : Nat) (a : List (List Rat)) (b c : List Rat) : Nat → Nat → Rat := T0F m n (W2 m n) (n + m + 1) (ent a) (fun i => b.getD i 0) (g2 n c)
theorem goal2_at (h : ProbQ a b c m n) (k : Nat) : - (goal2 c m).getD k 0 = g2 n c k := by
 have hl := h.lc
 rw [goal2, g2, List.getD_eq_getElem?_getD, List.getElem?_append]
 by_cases e : k < n
 ·rw [if_pos (by omega), if_pos e, List.getD_eq_getElem?_getD]
 ·rw [if_neg (by omega), if_neg e, ← List.getD_eq_getElem?_getD, getD_rep]; grind
theorem T2_T1 {i k : Nat} (hi : i < m) (_hk : k ≤ n + m + 1) : T2F m n a b c i k = if k = n + m then 0 else T1F m n a b i k := by
 have hm : W2 m n = n + m + 1 := if_neg (by omega)
 rw [T2F, T1F, T0F, T0F, if_pos hi, if_pos hi, hm]
 by_cases h1 : k < n
 ·rw [if_pos h1, if_pos h1, if_neg (by omega)]
 ·rw [if_neg h1, if_neg h1]
  by_cases h2 : k = n + i
  ·rw [if_pos h2, if_pos h2, if_neg (by omega)]
  ·rw [if_neg h2, if_neg h2]
   by_cases h3 : k = n + m + 1
   ·rw [if_pos h3, if_pos h3, if_neg (by omega)]
   ·rw [if_neg h3, if_neg h3, if_neg h3]
    by_cases h4 : k = n + m
    ·rw [if_pos h4]
    ·rw [if_neg h4, if_neg h4]
theorem phase2_start (h : ProbQ a b c m n) {t : TabQ} (hs : SettI m n a b t 0) : InvP m (W2 m n) (n + m) (T2F m n a b c) (aimQ { settleQ t (n + m) with cols := n + m } (goal2 c m)) := by
 have hu0 := sett_inv hs m (Nat.le_refl _)
 have hbl := hs.inv.sh.bas
 rw [settleQ, hbl]
 generalize settN t (n + m) m = u at hu0
 have hv := hu0.inv
 have hsh := hv.sh
 by_cases hm : m = 0
 ·subst hm
  have hr : u.rows = [] := List.length_eq_zero_iff.1 hsh.len
  have hW : W2 0 n = n := if_pos rfl
  have hrows : RowsB { zeroC u (n + 0) with cols := n + 0 } 0 n := ⟨(by show (u.rows.map _).length = 0; rw [hr]; rfl), fun r hx => (by rw [show ({ zeroC u (n + 0) with cols := n + 0 } : TabQ).rows = u.rows.map (fun r => r.set (n + 0) 0) from rfl, hr] at hx; cases hx), hsh.bas, fun i hi => absurd hi (by omega)⟩
  rw [hW]
  refine ⟨aim_inv hrows (fun _ => rfl) _ rfl (by omega) (fun i hi => absurd hi (by omega)) (fun x => ⟨fun _ i hi => absurd hi (by omega), fun _ i hi => absurd hi (by omega)⟩) ⟨fun _ _ => 0, fun i hi => absurd hi (by omega)⟩ (fun k _ => ?_), fun i hi => absurd hi (by omega)⟩
  rw [goal2_at h, T2F, T0F_tgt]
 ·have hW : W2 m n = n + m + 1 := if_neg hm
  have hen : ∀ i, i < m → ∀ k, k ≤ n + m + 1 → ent (zeroC u (n + m)).rows i k = if k = n + m then 0 else tabF u i k := fun i hi k hk => by rw [zeroC_at hsh hi _ _ hk, tabF_row hsh hi]
  have hblt : ∀ i, i < m → basF u i < n + m := fun i hi => by
   have h1 := hv.bas.lt i hi
   have h2 := hu0.out i hi
   omega
  have hrows : RowsB { zeroC u (n + m) with cols := n + m } m (n + m + 1) := by
   refine ⟨by show (u.rows.map _).length = m; rw [List.length_map, hsh.len], fun r hr => ?_, hsh.bas, fun i hi j hj => ?_⟩
   ·obtain ⟨s, hs, rfl⟩ := List.mem_map.1 (show r ∈ u.rows.map _ from hr)
    rw [List.length_set, hsh.row s hs]
   ·have := hblt i hi
    show ent (zeroC u (n + m)).rows j (basF u i) = _
    rw [hen j hj _ (by omega), if_neg (by omega)]
    exact hv.bas.unit i hi j (by omega)
  have hx0 : ∀ (T : Nat → Nat → Rat) (x : Nat → Rat) (i : Nat), (sm (n + m + 1 + 1) fun k => (if k = n + m then 0 else T i k) * x k) = dt (n + m + 1) T (fun k => if k = n + m then 0 else x k) i := fun T x i => sm_congr _ fun k _ => by split <;> grind
  rw [hW]
  refine ⟨aim_inv hrows (fun e => absurd e hm) _ rfl (by omega) hblt (fun x => ?_) ?_ (fun k _ => ?_), fun i hi => ?_⟩
  ·have e1 : ∀ i, i < m → (sm (n + m + 1 + 1) fun k => ent (zeroC u (n + m)).rows i k * x k) = dt (n + m + 1) (tabF u) (fun k => if k = n + m then 0 else x k) i := fun i hi => by
    rw [← hx0]; exact sm_congr _ fun k hk => by rw [hen i hi k (by omega)]
   have e2 : ∀ i, i < m → dt (n + m + 1) (T2F m n a b c) x i = dt (n + m + 1) (T1F m n a b) (fun k => if k = n + m then 0 else x k) i := fun i hi => by
    rw [← hx0, dt]; exact sm_congr _ fun k hk => by rw [T2_T1 hi (by omega)]
   have hso := hv.sol fun k => if k = n + m then 0 else x k
   refine ⟨fun hq i hi => ?_, fun hq i hi => ?_⟩
   ·rw [← hW, hW, e2 i hi]
    exact hso.1 (fun l hl => by rw [← e1 l hl]; exact hq l hl) i hi
   ·show (sm (n + m + 1 + 1) fun k => ent (zeroC u (n + m)).rows i k * x k) = 0
    rw [e1 i hi]
    exact hso.2 (fun l hl => by rw [← e2 l hl]; exact hq l hl) i hi
  ·obtain ⟨M, hM⟩ := hv.comb
   refine ⟨M, fun i hi k hk => ?_⟩
   show ent (zeroC u (n + m)).rows i k = _
   rw [hen i hi k hk, sm_congr m (g := fun j => if k = n + m then 0 else M i j * T1F m n a b j k) fun j hj => by rw [T2_T1 hj hk]; split <;> grind]
   by_cases q : k = n + m
   ·rw [if_pos q, sm_zero m fun j _ => if_pos q]
   ·rw [if_neg q, hM i hi k hk]; exact sm_congr m fun j _ => (if_neg q).symm
  ·rw [goal2_at h, T2F, T0F_tgt]
  ·rw [aim_row hrows (fun e => absurd e hm) _ hi]
   show 0 ≤ ent (zeroC u (n + m)).rows i _
   rw [hen i hi _ (Nat.le_refl _), if_neg (by omega)]
   exact hv.nn i hi
theorem phase2_inv (h : ProbQ a b c m n) {t : TabQ} (hs : SettI m n a b t 0) : EndP m (W2 m n) (n + m) (T2F m n a b c) (phase2 a c n t).1 (phase2 a c n t).2 := by
 have hl := h.len
 have hi := phase2_start h hs
 rw [phase2, hl]
 generalize aimQ { settleQ t (n + m) with cols := n + m } (goal2 c m) = u at hi
 exact improve_run (T0 := T2F m n a b c) (fuelQ m n) 0 (fun _ => tabF u) (fun _ => basF u) (fun _ => 0) (fun _ => 0) u ⟨hi.bas, hi.nn, fun k hk => absurd hk (by omega), fun k hk => absurd hk (by omega), fun k hk => absurd hk (by omega)⟩ rfl rfl hi (by rw [fuelQ]; have := Nat.pow_le_pow_left (show n + m ≤ n + m + 1 by omega) m; omega)
end
end Go.Proofs.YtcgfdfdcbamceaaGreatDoor
