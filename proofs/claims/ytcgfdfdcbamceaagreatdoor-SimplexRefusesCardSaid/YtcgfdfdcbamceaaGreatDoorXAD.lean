/- Linear programs in plain Lean: what a result proves, and duality. Plain facts. No program here. Words for memory: slices that read as lists of cells, rows that the call owns, blocks that are known whole; append, reslice, store and load on them. No program here. -/
import Derived.Test.YtcgfdfdcbamceaaGreatDoorXAC
import Derived.WalkKit
import Derived.WalkSpells
import Derived.WalkLawsBesides
import Derived.Lib.Hide
import Derived.Deep.Draws
namespace Go.Proofs.YtcgfdfdcbamceaaGreatDoor
def endQ (t : TabQ) (i : Nat) : Rat := (t.rows.getD i []).getD ((t.rows.getD i []).length - 1) 0
def valN (t : TabQ) (n : Nat) : Nat → List Rat
 | 0 => List.replicate n 0
 | i + 1 => if basF t i < n then (valN t n i).set (basF t i) (endQ t i) else valN t n i
def rayN (t : TabQ) (k n : Nat) : Nat → List Rat
 | 0 => if k < n then (List.replicate n 0).set k 1 else List.replicate n 0
 | i + 1 => if basF t i < n then (rayN t k n i).set (basF t i) (- ent t.rows i k) else rayN t k n i
def dotL (a b : List Rat) : Rat := sm a.length fun i => a.getD i 0 * b.getD i 0
structure SolvedQ where
 kind : Int
 x : List Rat
 y : List Rat
 ray : List Rat
 value : Rat
def lastQ (l : List Rat) : Rat := l.getD (l.length - 1) 0
def solveQ (a : List (List Rat)) (b c : List Rat) : SolvedQ :=
 let n := c.length
 let m := a.length
 let t := phase1 a b n
 if lastQ t.tgt < 0 then ⟨1, [], (t.tgt.drop n).take m, [], 0⟩
 else
  let p := phase2 a c n t
  let x := valN p.1 n p.1.bas.length
  match p.2 with
  | none => ⟨0, x, (p.1.tgt.drop n).take m, [], dotL c x⟩
  | some k => ⟨2, x, [], rayN p.1 k n p.1.bas.length, 0⟩
theorem valN_len (t : TabQ) (n : Nat) : ∀ i, (valN t n i).length = n
 | 0 => by rw [valN, List.length_replicate]
 | i + 1 => by
  rw [valN]
  split
  ·rw [List.length_set, valN_len t n i]
  ·exact valN_len t n i
theorem rayN_len (t : TabQ) (k n : Nat) : ∀ i, (rayN t k n i).length = n
 | 0 => by
  rw [rayN]
  split
  ·rw [List.length_set, List.length_replicate]
  ·rw [List.length_replicate]
 | i + 1 => by
  rw [rayN]
  split
  ·rw [List.length_set, rayN_len t k n i]
  ·exact rayN_len t k n i
section
variable {m n W K : Nat} {T0 : Nat → Nat → Rat} {t : TabQ}
theorem end_at (h : ShQ t m W) {i : Nat} (hi : i < m) : endQ t i = tabF t i W := by
 rw [endQ, h.rowAt hi, Nat.add_sub_cancel, tabF_row h hi]; rfl
theorem valN_at (h : ShQ t m W) (hb : BasF m W K (tabF t) (basF t)) {k : Nat} (hk : k < n) : ∀ i, i ≤ m → (valN t n i).getD k 0 = sm i fun j => if basF t j = k then tabF t j W else 0
 | 0, _ => by rw [valN, getD_rep, sm]
 | i + 1, hi => by
  have ih := valN_at h hb hk i (by omega)
  rw [valN, sm]
  by_cases e : basF t i = k
  ·rw [if_pos (by omega), if_pos e, getD_set, if_pos ⟨e, by rw [valN_len]; omega⟩, end_at h (by omega), sm_zero i fun j hj => if_neg fun q => by have := hb.inj (show j < m by omega) (show i < m by omega) (q.trans e.symm); omega]
   grind
  ·rw [if_neg e]
   by_cases q : basF t i < n
   ·rw [if_pos q, getD_set, if_neg (fun z => e z.1), ih]; grind
   ·rw [if_neg q, ih]; grind
theorem rayN_at (h : ShQ t m W) (hb : BasF m W K (tabF t) (basF t)) {s k : Nat} (hk : k < n) (hs : ∀ i, i < m → basF t i ≠ s) : ∀ i, i ≤ m → (rayN t s n i).getD k 0 = (if k = s then 1 else 0) + sm i fun j => if basF t j = k then - tabF t j s else 0
 | 0, _ => by
  rw [rayN, sm]
  by_cases q : s < n
  ·rw [if_pos q, getD_set, getD_rep]
   by_cases e : k = s
   ·rw [if_pos ⟨e.symm, by rw [List.length_replicate]; omega⟩, if_pos e]; grind
   ·rw [if_neg (fun z => e z.1.symm), if_neg e]; grind
  ·rw [if_neg q, getD_rep, if_neg (by omega)]; grind
 | i + 1, hi => by
  have ih := rayN_at h hb hk hs i (by omega)
  rw [rayN, sm]
  by_cases e : basF t i = k
  ·have hks : k ≠ s := fun z => hs i (by omega) (e.trans z)
   rw [if_pos (by omega), if_pos e, getD_set, if_pos ⟨e, by rw [rayN_len]; omega⟩, if_neg hks, ← tabF_row h (show i < m by omega), sm_zero i fun j hj => if_neg fun q => by have := hb.inj (show j < m by omega) (show i < m by omega) (q.trans e.symm); omega]
   grind
  ·rw [if_neg e]
   by_cases q : basF t i < n
   ·rw [if_pos q, getD_set, if_neg (fun z => e z.1), ih]; grind
   ·rw [if_neg q, ih]; grind
theorem slice_at (l : List Rat) (n m i : Nat) (hi : i < m) : ((l.drop n).take m).getD i 0 = l.getD (n + i) 0 := by
 rw [List.getD_eq_getElem?_getD, List.getElem?_take, if_pos hi, List.getElem?_drop, List.getD_eq_getElem?_getD]
end
structure BestS (m n : Nat) (A : Nat → Nat → Rat) (B C x y : Nat → Rat) (v : Rat) : Prop where
 xn : ∀ k, k < n → 0 ≤ x k
 yn : ∀ i, i < m → 0 ≤ y i
 fe : ∀ i, i < m → (sm n fun k => A i k * x k) ≤ B i
 mix : ∀ k, k < n → C k ≤ sm m fun i => y i * A i k
 vx : (sm n fun k => C k * x k) = v
 vy : (sm m fun i => B i * y i) = v
structure FreeS (m n : Nat) (A : Nat → Nat → Rat) (B C x r : Nat → Rat) : Prop where
 xn : ∀ k, k < n → 0 ≤ x k
 rn : ∀ k, k < n → 0 ≤ r k
 fe : ∀ i, i < m → (sm n fun k => A i k * x k) ≤ B i
 ra : ∀ i, i < m → (sm n fun k => A i k * r k) ≤ 0
 pos : 0 < sm n fun k => C k * r k
section
variable {a : List (List Rat)} {b c : List Rat} {m n : Nat}
theorem row_T2 {x : Nat → Rat} {i : Nat} (hi : i < m) : dt (W2 m n) (T2F m n a b c) x i = (sm n fun k => ent a i k * x k) + x (n + i) + b.getD i 0 * x (W2 m n) := by
 have hW : W2 m n = n + m + 1 := if_neg (by omega)
 rw [dt, sm, hW, T2F, T0F, if_pos hi, if_neg (by omega), if_neg (by omega), if_pos hW.symm, show n + m + 1 = n + (m + 1) by omega, sm_split]
 rw [sm_congr n (g := fun k => ent a i k * x k) fun k hk => by rw [T0F, if_pos hi, if_pos hk], sm_one (f := fun j => T0F m n (W2 m n) (n + (m + 1)) (ent a) (fun i => b.getD i 0) (g2 n c) i (n + j) * x (n + j)) i (m + 1) (by omega) fun j hj hji => by rw [T0F, if_pos hi, if_neg (by omega), if_neg (by omega), if_neg (by omega), if_neg (by omega)]; grind]
 rw [T0F, if_pos hi, if_neg (by omega), if_pos rfl]
 grind
theorem tgt_T2 {x : Nat → Rat} : dt (W2 m n) (T2F m n a b c) x m = - sm n fun k => c.getD k 0 * x k := by
 have hn : n ≤ W2 m n := by rw [W2]; split <;> omega
 rw [dt, show W2 m n + 1 = n + (W2 m n + 1 - n) by omega, sm_split, sm_congr n (g := fun k => - (c.getD k 0 * x k)) fun k hk => by rw [T2F, T0F_tgt, g2, if_pos hk]; grind, sm_neg, sm_zero (f := fun i => T2F m n a b c m (n + i) * x (n + i)) _ fun j _ => by rw [T2F, T0F_tgt, g2, if_neg (by omega)]; grind]
 grind
theorem W2_or : m = 0 ∨ n + m ≤ W2 m n := by rw [W2]; split <;> omega
theorem W2_n : n ≤ W2 m n := by rw [W2]; split <;> omega
theorem best_law {t : TabQ} (h : EndP m (W2 m n) (n + m) (T2F m n a b c) t none) : BestS m n (ent a) (fun i => b.getD i 0) (fun k => c.getD k 0) (bx m (W2 m n) (tabF t) (basF t)) (fun i => tabF t m (n + i)) (tabF t m (W2 m n)) := by
 have hv := h.inv
 have hb := h.best rfl
 have hW := W2_n (m := m) (n := n)
 have hor := W2_or (m := m) (n := n)
 obtain ⟨h1, h2⟩ := tgt_slack hv.toInvQ hor (fun i hi => by rw [g2, if_neg (by omega)]) (by rw [g2, if_neg (by omega)]) (by omega) hW (fun _ => .inr trivial)
 have hs := (hv.sol _).1 hv.bas.sol_bx
 have ht := hv.toInvQ.tgt_bx
 rw [tgt_T2] at ht
 refine ⟨fun k hk => ?_, fun i hi => hb _ (by omega), fun i hi => ?_, fun k hk => ?_, ?_, ?_⟩
 ·by_cases hm : m = 0
  ·subst hm
   by_cases e : k = W2 0 n
   ·rw [show W2 0 n = n from if_pos rfl] at e; omega
   ·exact bx_nn hv.nn e
  ·exact bx_nn hv.nn (by rw [W2, if_neg hm]; omega)
 ·have h3 := hs i hi
  rw [row_T2 hi, bx_W] at h3
  have h4 := bx_nn (W := W2 m n) (T := tabF t) (bs := basF t) hv.nn (k := n + i) (by rcases hor with k | k <;> omega)
  grind
 ·have h3 := h1 k hk
  rw [g2, if_pos hk] at h3
  have h4 := hb k (by omega)
  grind
 ·grind
 ·rw [h2]; exact sm_congr m fun i _ => by grind
theorem free_law {t : TabQ} {s : Nat} (h : EndP m (W2 m n) (n + m) (T2F m n a b c) t (some s)) : FreeS m n (ent a) (fun i => b.getD i 0) (fun k => c.getD k 0) (bx m (W2 m n) (tabF t) (basF t)) (dirF m (W2 m n) (tabF t) (basF t) s) ∧ ∀ i, i < m → basF t i ≠ s := by
 have hv := h.inv
 obtain ⟨f1, f2, f3⟩ := h.free s rfl
 have hW := W2_n (m := m) (n := n)
 have hor := W2_or (m := m) (n := n)
 have hkW : ∀ k, k < n + m → k ≠ W2 m n := fun k hk => by rw [W2]; split <;> omega
 have hsW : s < W2 m n := by rw [W2]; split <;> omega
 have hs := (hv.sol _).1 hv.bas.sol_bx
 have hd : SolF m (W2 m n) (tabF t) (dirF m (W2 m n) (tabF t) (basF t) s) := fun i hi => by rw [hv.bas.dt_dir hsW (by omega), if_pos hi]
 have hds := (hv.sol _).1 hd
 have hdn : ∀ k, k ≠ W2 m n → 0 ≤ dirF m (W2 m n) (tabF t) (basF t) s k := fun k hk => by
  rw [dirF, vx, if_neg hk]
  have k1 := sm_nn (f := fun i => if basF t i = k then - tabF t i s else 0) m fun i hi => by
   have := f3 i hi
   split <;> grind
  have k2 : (0 : Rat) ≤ if k = s then 1 else 0 := by split <;> decide
  grind
 have hdW : dirF m (W2 m n) (tabF t) (basF t) s (W2 m n) = 0 := if_pos rfl
 refine ⟨⟨fun k hk => bx_nn hv.nn (hkW k (by omega)), fun k hk => hdn k (hkW k (by omega)), fun i hi => ?_, fun i hi => ?_, ?_⟩, fun i hi e => ?_⟩
 ·have h3 := hs i hi
  rw [row_T2 hi, bx_W] at h3
  have h4 := bx_nn (W := W2 m n) (T := tabF t) (bs := basF t) hv.nn (k := n + i) (hkW _ (by omega))
  grind
 ·have h3 := hds i hi
  rw [row_T2 hi, hdW] at h3
  have h4 := hdn (n + i) (hkW _ (by omega))
  grind
 ·have e1 := hv.bas.dt_dir hsW (Nat.le_refl m)
  rw [if_neg (by omega)] at e1
  obtain ⟨y, hy⟩ := hv.tgt
  generalize dirF m (W2 m n) (tabF t) (basF t) s = x at *
  have e2 : dt (W2 m n) (tabF t) x m = dt (W2 m n) (T2F m n a b c) x m + sm m fun j => y j * dt (W2 m n) (T2F m n a b c) x j := by
   rw [dt, sm_congr (W2 m n + 1) (g := fun k => T2F m n a b c m k * x k + sm m fun j => y j * (T2F m n a b c j k * x k)) fun k hk => by
    rw [hy k (by omega), Rat.add_mul]
    congr 1
    rw [Rat.mul_comm, ← sm_mul]
    exact sm_congr m fun j _ => by grind, sm_add, sm_comm]
   congr 1
   exact sm_congr m fun j _ => by rw [sm_mul]; rfl
  rw [sm_zero m fun j hj => by rw [hds j hj, Rat.mul_zero], tgt_T2] at e2
  rw [e1] at e2
  grind
 ·have h3 := hv.bas.unit i hi m (Nat.le_refl _)
  rw [e, if_neg (by omega)] at h3
  rw [h3] at f2
  exact absurd f2 (by decide)
inductive ResQ (m n : Nat) (a : List (List Rat)) (b c : List Rat) : SolvedQ → Prop
 | best (x y : List Rat) (v : Rat) (hx : x.length = n) (hy : y.length = m) (h : BestS m n (ent a) (fun i => b.getD i 0) (fun k => c.getD k 0) (fun k => x.getD k 0) (fun i => y.getD i 0) v) : ResQ m n a b c ⟨0, x, y, [], v⟩
 | none (y : List Rat) (hy : y.length = m) (h : NoneS m n (ent a) (fun i => b.getD i 0) (fun i => y.getD i 0)) : ResQ m n a b c ⟨1, [], y, [], 0⟩
 | free (x r : List Rat) (hx : x.length = n) (hr : r.length = n) (h : FreeS m n (ent a) (fun i => b.getD i 0) (fun k => c.getD k 0) (fun k => x.getD k 0) (fun k => r.getD k 0)) : ResQ m n a b c ⟨2, x, [], r, 0⟩
theorem BestS.congr {A : Nat → Nat → Rat} {B C x y x' y' : Nat → Rat} {v : Rat} (h : BestS m n A B C x y v) (hx : ∀ k, k < n → x' k = x k) (hy : ∀ i, i < m → y' i = y i) : BestS m n A B C x' y' v :=
 ⟨fun k hk => by rw [hx k hk]; exact h.xn k hk, fun i hi => by rw [hy i hi]; exact h.yn i hi, fun i hi => by rw [sm_congr n fun k hk => by rw [hx k hk]]; exact h.fe i hi, fun k hk => by rw [sm_congr m fun i hi => by rw [hy i hi]]; exact h.mix k hk, by rw [sm_congr n fun k hk => by rw [hx k hk]]; exact h.vx, by rw [sm_congr m fun i hi => by rw [hy i hi]]; exact h.vy⟩
theorem NoneS.congr {A : Nat → Nat → Rat} {B y y' : Nat → Rat} (h : NoneS m n A B y) (hy : ∀ i, i < m → y' i = y i) : NoneS m n A B y' :=
 ⟨fun i hi => by rw [hy i hi]; exact h.nn i hi, fun k hk => by rw [sm_congr m fun i hi => by rw [hy i hi]]; exact h.mix k hk, by rw [sm_congr m fun i hi => by rw [hy i hi]]; exact h.neg⟩
theorem FreeS.congr {A : Nat → Nat → Rat} {B C x r x' r' : Nat → Rat} (h : FreeS m n A B C x r) (hx : ∀ k, k < n → x' k = x k) (hr : ∀ k, k < n → r' k = r k) : FreeS m n A B C x' r' :=
 ⟨fun k hk => by rw [hx k hk]; exact h.xn k hk, fun k hk => by rw [hr k hk]; exact h.rn k hk, fun i hi => by rw [sm_congr n fun k hk => by rw [hx k hk]]; exact h.fe i hi, fun i hi => by rw [sm_congr n fun k hk => by rw [hr k hk]]; exact h.ra i hi, by rw [sm_congr n fun k hk => by rw [hr k hk]]; exact h.pos⟩
theorem solve_law (h : ProbQ a b c m n) : ResQ m n a b c (solveQ a b c) := by
 have hl := h.len
 have hc := h.lc
 have h1 := phase1_inv h
 rw [solveQ, hl, hc]
 simp only
 generalize phase1 a b n = t at h1
 have hlast : lastQ t.tgt = tabF t m (n + m + 1) := by rw [lastQ, tabF_tgt h1.inv.sh, h1.inv.sh.tgt, Nat.add_sub_cancel]
 rw [hlast]
 by_cases hneg : tabF t m (n + m + 1) < 0
 ·rw [if_pos hneg]
  refine .none _ ?_ ((none_law h1 hneg).congr fun i hi => ?_)
  ·rw [List.length_take, List.length_drop, h1.inv.sh.tgt]; omega
  ·rw [slice_at _ _ _ _ hi, tabF_tgt h1.inv.sh]
 ·rw [if_neg hneg]
  have hz : tabF t m (n + m + 1) = 0 := by
   have k1 := Rat.not_lt.1 hneg
   have k2 := phase1_le h1.inv
   have k3 := bx_nn (W := n + m + 1) (T := tabF t) (bs := basF t) h1.inv.nn (k := n + m) (by omega)
   grind
  have h2 := phase2_inv h ⟨h1.inv, hz, fun i hi => absurd hi (by omega)⟩
  generalize phase2 a c n t = p at h2
  obtain ⟨u, o⟩ := p
  have hsh := h2.inv.sh
  have hxv : ∀ k, k < n → (valN u n u.bas.length).getD k 0 = bx m (W2 m n) (tabF u) (basF u) k := fun k hk => by
   have hne : k ≠ W2 m n := by rw [W2]; split <;> omega
   rw [hsh.bas, valN_at hsh h2.inv.bas hk m (Nat.le_refl _), bx, vx, if_neg hne]
   grind
  simp only
  cases o with
  | none =>
   simp only
   have hb := best_law h2
   have hs2 := hb.congr hxv (y' := fun i => ((u.tgt.drop n).take m).getD i 0) fun i hi => by rw [slice_at _ _ _ _ hi, tabF_tgt hsh]
   have hdot : dotL c (valN u n u.bas.length) = tabF u m (W2 m n) := by rw [← hs2.vx, dotL, hc]
   rw [hdot]
   refine .best _ _ _ (valN_len _ _ _) ?_ hs2
   rw [List.length_take, List.length_drop, hsh.tgt, W2]
   split <;> omega
  | some s =>
   simp only
   obtain ⟨hf, hnb⟩ := free_law h2
   refine .free _ _ (valN_len _ _ _) (rayN_len _ _ _ _) (hf.congr hxv fun k hk => ?_)
   have hne : k ≠ W2 m n := by rw [W2]; split <;> omega
   rw [hsh.bas, rayN_at hsh h2.inv.bas hk hnb m (Nat.le_refl _), dirF, vx, if_neg hne]
end
section
variable {m n : Nat} {A : Nat → Nat → Rat} {B C : Nat → Rat}
end
end Go.Proofs.YtcgfdfdcbamceaaGreatDoor
namespace Go.Proofs.YtcgfdfdcbamceaaGreatDoor
open Go.RowKit
theorem ret_int {k : IntKind} {a b : Int} (h : a = b) : Ending.returned (.int k a) = .returned (.int k b) := by rw [h]
theorem ret_bool {a b : Bool} (h : a = b) : Ending.returned (.bool a) = .returned (.bool b) := by rw [h]
abbrev I (n : Int) : Value := .int .i64 n
def Blk (w : World) (g : Nat) (t : TypeId) (cs : Array Value) : Prop := w.heap[g]? = some (.cells cs t (0, 0))
section
variable {w w' : World} {g : Nat} {t : TypeId} {cs : Array Value}
theorem Blk.lt (h : Blk w g t cs) : g < w.heap.size := (Array.getElem?_eq_some_iff.1 h).1
theorem Blk.cell (h : Blk w g t cs) (i : Nat) : w.cell? ⟨g, i, none⟩ = cs[i]? := cell_of_row w g i cs t (0, 0) h
theorem Blk.frozen (h : Blk w g t cs) (i : Nat) : w.frozen? ⟨g, i, none⟩ = false := by
 unfold Blk at h
 simp [World.frozen?, h]
theorem Blk.new (w : World) (t : TypeId) (cs : Array Value) : Blk (w.alloc (.cells cs t)) w.heap.size t cs := heap_alloc_new w _
theorem Blk.alloc (h : Blk w g t cs) (o : Obj) : Blk (w.alloc o) g t cs := (Below.heap_alloc w o g h.lt).trans h
theorem Blk.set_ (h : Blk w g t cs) (i : Nat) (u : Value) : Blk (w.setCell ⟨g, i, none⟩ u) g t (cs.setIfInBounds i u) := by
 unfold Blk at h ⊢
 simp [World.setCell, Array.getElem?_modify, h]
theorem Blk.far (h : Blk w g t cs) {p : Addr} (hp : g ≠ p.block) (u : Value) : Blk (w.setCell p u) g t cs := (Below.heap_setCell w p u g hp).trans h
theorem Blk.below {B : Nat} (h : Blk w g t cs) (hb : Below B w w') (hg : g < B) : Blk w' g t cs := (hb.block g hg).trans h
end
def Reads (w : World) (B sz : Nat) (A : Option Addr) (n : Nat) (xs : List Value) : Prop :=
 xs.length = n * sz ∧ (0 < n → ∃ b off, A = some ⟨b, off, none⟩ ∧ b < B ∧ ∀ j u, xs[j]? = some u → w.cell? ⟨b, off + j, none⟩ = some u)
section
variable {w w' : World} {B B' sz n : Nat} {A : Option Addr} {xs : List Value}
theorem Reads.keep (h : Reads w B sz A n xs) (hk : ∀ p : Addr, p.block < B → w'.cell? p = w.cell? p) : Reads w' B sz A n xs :=
 ⟨h.1, fun hn => by
  obtain ⟨b, off, e, hb, hc⟩ := h.2 hn
  exact ⟨b, off, e, hb, fun j u hu => (hk _ hb).trans (hc j u hu)⟩⟩
theorem Reads.more (h : Reads w B sz A n xs) (hB : B ≤ B') : Reads w B' sz A n xs :=
 ⟨h.1, fun hn => by
  obtain ⟨b, off, e, hb, hc⟩ := h.2 hn
  exact ⟨b, off, e, by omega, hc⟩⟩
theorem Reads.below (h : Reads w B sz A n xs) (hb : Below B w w') : Reads w' B sz A n xs := h.keep fun _ hp => hb.cell hp
theorem Reads.nil : Reads w B sz A 0 [] := ⟨by simp, fun h => absurd h (by omega)⟩
theorem Reads.at1 (h : Reads w B 1 A n xs) {k : Nat} (hk : k < n) : ∃ b off u, A = some ⟨b, off, none⟩ ∧ b < B ∧ xs[k]? = some u ∧ w.cell? ⟨b, off + k, none⟩ = some u := by
 obtain ⟨b, off, e, hb, hc⟩ := h.2 (by omega)
 have hl : k < xs.length := by have := h.1; omega
 exact ⟨b, off, xs[k], e, hb, List.getElem?_eq_getElem hl, hc k _ (List.getElem?_eq_getElem hl)⟩
theorem Reads.take (h : Reads w B sz A n xs) {k : Nat} (hk : k ≤ n) : Reads w B sz A k (xs.take (k * sz)) := by
 have hle : k * sz ≤ n * sz := Nat.mul_le_mul_right _ hk
 refine ⟨by rw [List.length_take, h.1]; omega, fun h0 => ?_⟩
 obtain ⟨b, off, e, hb, hc⟩ := h.2 (by omega)
 refine ⟨b, off, e, hb, fun j u hu => hc j u ?_⟩
 rw [List.getElem?_take] at hu
 split at hu
 ·exact hu
 ·cases hu
end
def Row (w : World) (base : Nat) (e : TypeId) (sz : Nat) (v : Value) (n : Nat) (xs : List Value) : Prop :=
 xs.length = n * sz ∧
 ((v = .slice none 0 0 ∧ n = 0) ∨
  ∃ g off cap cur, v = .slice (some ⟨g, off, none⟩) n cap ∧ base ≤ g ∧ Blk w g e cur ∧ n ≤ cap ∧ cap ≤ maxLen ∧ off + cap * sz ≤ cur.size ∧ (cur.toList.drop off).take (n * sz) = xs)
section
variable {w w' : World} {base base' : Nat} {e : TypeId} {sz : Nat} {v : Value} {n : Nat} {xs : List Value}
theorem Row.nil (w : World) (base : Nat) (e : TypeId) (sz : Nat) : Row w base e sz (.slice none 0 0) 0 [] := ⟨by simp, .inl ⟨rfl, rfl⟩⟩
theorem Row.of_own (h : w.ownsRow base e sz v n xs) : Row w base e sz v n xs := by
 obtain ⟨h1, h2⟩ := h
 refine ⟨h1, h2.imp id ?_⟩
 rintro ⟨g, cap, cur, hv, hb, hh, hn, hm, hs, ht⟩
 exact ⟨g, 0, cap, cur, hv, hb, hh, hn, hm, by omega, by simpa using ht⟩
theorem Row.keep (h : Row w base e sz v n xs) (hk : ∀ g, base ≤ g → g < w.heap.size → w'.heap[g]? = w.heap[g]?) : Row w' base e sz v n xs := by
 obtain ⟨h1, h2⟩ := h
 refine ⟨h1, h2.imp id ?_⟩
 rintro ⟨g, off, cap, cur, hv, hb, hh, r⟩
 exact ⟨g, off, cap, cur, hv, hb, (hk g hb hh.lt).trans hh, r⟩
theorem Row.alloc (h : Row w base e sz v n xs) (o : Obj) : Row (w.alloc o) base e sz v n xs := h.keep fun g _ hg => Below.heap_alloc w o g hg
theorem Row.call (h : Row w base e sz v n xs) (hb : Below w.heap.size w w') : Row w' base e sz v n xs := h.keep fun g _ hg => hb.block g hg
theorem Row.less (h : Row w base e sz v n xs) (hb : base' ≤ base) : Row w base' e sz v n xs := by
 obtain ⟨h1, h2⟩ := h
 refine ⟨h1, h2.imp id ?_⟩
 rintro ⟨g, off, cap, cur, hv, hb, r⟩
 exact ⟨g, off, cap, cur, hv, by omega, r⟩
theorem Row.val (h : Row w base e sz v n xs) : ∃ A c, v = .slice A n c := by
 rcases h.2 with ⟨rfl, rfl⟩ | ⟨g, off, cap, cur, rfl, _⟩
 ·exact ⟨_, _, rfl⟩
 ·exact ⟨_, _, rfl⟩
theorem Row.reads {A : Option Addr} {c : Nat} (h : Row w base e sz (.slice A n c) n xs) : Reads w w.heap.size sz A n xs := by
 refine ⟨h.1, fun hn => ?_⟩
 rcases h.2 with ⟨hv, h0⟩ | ⟨g, off, cap, cur, hv, hb, hh, hnc, hm, hs, ht⟩
 ·omega
 ·injection hv with hA _ _
  refine ⟨g, off, hA, hh.lt, fun j u hu => ?_⟩
  rw [hh.cell]
  rw [← ht, List.getElem?_take] at hu
  split at hu
  ·simpa using hu
  ·cases hu
theorem Row.form (h : Row w base e sz v n xs) (hn : 0 < n) : ∃ g off cap cur, v = .slice (some ⟨g, off, none⟩) n cap ∧ base ≤ g ∧ Blk w g e cur ∧ n ≤ cap ∧ cap ≤ maxLen ∧ off + cap * sz ≤ cur.size ∧ (cur.toList.drop off).take (n * sz) = xs := by
 rcases h.2 with ⟨_, h0⟩ | h2
 ·omega
 ·exact h2
end
theorem run_append_room_off {P : Program} (w : World) (t ty e : TypeId) (i : TypeInfo) (ht : P.underlying t = some (.slice e)) (hi : P.info? e = some i)
  (g off n cap : Nat) (cur : Array Value) (hg : Blk w g e cur) (ad : Addr) (m c : Nat) (news : List Value) (hl : news.length = m * i.size) (hnews : ∀ j u, news[j]? = some u → w.cell? (ad.add j) = some u) (h1 : ∀ u ∈ news, u.oneCell' = true)
  (hroom : n + m ≤ cap) (hfit : off + n * i.size + news.length ≤ cur.size) :
  (Builtin.append_ #[t, t] ty #[.slice (some ⟨g, off, none⟩) n cap, .slice (some ad) m c]).run P w =
   .ok (.slice (some ⟨g, off, none⟩) (n + m) cap) (w.setRow g (cur.toList.take (off + n * i.size) ++ news ++ cur.toList.drop (off + n * i.size + news.length)).toArray) := by
 have hfc := run_firstCells_some (P := P) w i.size m ad m c news hl hnews
 have hst := run_storeCells_at P g (off + n * i.size) e news 0 cur w hg (by simpa using hfit) h1
 simp only [Nat.add_zero] at hst
 simp [Builtin.append_, run_underlying ht, sizeOf, typeInfo, hi, Builtin.lenOf, hroom, hfc, Addr.add_lit, hst]
theorem run_append_nothing {P : Program} (w : World) (base : Nat) (t ty e : TypeId) (i : TypeInfo) (ht : P.underlying t = some (.slice e)) (hi : P.info? e = some i) (sz n : Nat) (v : Value) (xs : List Value)
  (hr : Row w base e sz v n xs) (c : Nat) : (Builtin.append_ #[t, t] ty #[v, .slice none 0 c]).run P w = .ok v w := by
 rcases hr.2 with ⟨rfl, rfl⟩ | ⟨g, off, cap, cur, rfl, _, _, hnc, _⟩
 ·simp [Builtin.append_, run_underlying ht, sizeOf, typeInfo, hi, Builtin.lenOf, Builtin.firstCells]
 ·simp [Builtin.append_, run_underlying ht, sizeOf, typeInfo, hi, Builtin.lenOf, Builtin.firstCells, hnc, storeCells]
theorem room_list {cur news xs : List Value} {off n m : Nat} (hx : (cur.drop off).take n = xs) (hxl : xs.length = n) (hn : news.length = m) (hfit : off + n + m ≤ cur.length) :
  ((cur.take (off + n) ++ news ++ cur.drop (off + n + m)).drop off).take (n + m) = xs ++ news := by
 have h1 : cur.take (off + n) = cur.take off ++ xs := by rw [List.take_add, hx]
 rw [h1, List.append_assoc, List.append_assoc, List.drop_append_of_le_length (by simp; omega), List.drop_of_length_le (by simp; omega), List.nil_append, ← List.append_assoc]
 rw [List.take_append_of_le_length (by simp; omega), List.take_of_length_le (by simp; omega)]
theorem run_append_row {P : Program} (w : World) (base : Nat) (t ty e : TypeId) (i : TypeInfo) (z : Value) (sz bytes : Nat) (ht : P.underlying t = some (.slice e)) (hi : P.info? e = some i) (hz : i.zero = some z)
  (hsize : i.size = sz) (hby : i.bytes = bytes) (hzs : z.cells.size = sz) (hsz : 0 < sz)
  (v : Value) (n : Nat) (xs : List Value) (hr : Row w base e sz v n xs)
  (B : Nat) (A : Option Addr) (m c : Nat) (news : List Value) (hs : Reads w B sz A m news) (h1 : ∀ u ∈ news, u.oneCell' = true)
  (h63 : n + m ≤ maxLen) (hbytes : (n + m) * bytes ≤ 140737488355328) (hbase : base ≤ w.heap.size) :
  ∃ v' w', (Builtin.append_ #[t, t] ty #[v, .slice A m c]).run P w = .ok v' w' ∧ Row w' base e sz v' (n + m) (xs ++ news) ∧ Below base w w' := by
 have keep : ∀ {w' : World} {row : Option Nat}, w.grownBy w' row → (∀ k, row = some k → base ≤ k) → Below base w w' :=
  fun hg hk => (Below.refl base w).grown hg hbase hk
 rcases A with _ | ad
 ·have hm : m = 0 := by
   rcases Nat.eq_zero_or_pos m with h0 | h0
   ·exact h0
   ·obtain ⟨b, off, h, _⟩ := hs.2 h0
    cases h
  subst hm
  have hn : news = [] := List.eq_nil_of_length_eq_zero (by simpa using hs.1)
  subst hn
  exact ⟨v, w, run_append_nothing w base t ty e i ht hi sz n v xs hr c, by simpa using hr, Below.refl _ _⟩
 ·have hcells : ∀ j u, news[j]? = some u → w.cell? (ad.add j) = some u := by
   intro j u hu
   rcases Nat.eq_zero_or_pos m with h0 | h0
   ·subst h0
    have hn : news = [] := List.eq_nil_of_length_eq_zero (by simpa using hs.1)
    subst hn
    simp at hu
   ·obtain ⟨b, off, h, _, hc⟩ := hs.2 h0
    injection h with h
    subst h
    rw [Addr.add_lit]
    exact hc j u hu
  rcases hr.2 with ⟨rfl, rfl⟩ | ⟨g, off, cap, cur, rfl, hbg, hg, hnc, hcm, hcs, htake⟩
  ·have hx : xs = [] := List.eq_nil_of_length_eq_zero (by simpa using hr.1)
   subst hx
   obtain ⟨v', w', hrun, h2, h3, _⟩ := run_append_own (P := P) w base t ty e i z sz bytes ht hi hz hsize hby hzs hsz (.slice none 0 0) 0 [] (World.ownsRow_nil w _ e sz) ad m c news hs.1 hcells h1 h63 hbytes hbase
   exact ⟨v', w', hrun, Row.of_own h2, keep h3 (by simp [Value.ownBlock])⟩
  ·by_cases hroom : n + m ≤ cap
   ·subst hsize
    have hle : (n + m) * i.size ≤ cap * i.size := Nat.mul_le_mul_right _ hroom
    rw [Nat.add_mul] at hle
    have hl := hs.1
    have hfit : off + n * i.size + news.length ≤ cur.size := by omega
    refine ⟨_, _, run_append_room_off w t ty e i ht hi g off n cap cur hg ad m c news hs.1 hcells h1 hroom hfit, ⟨by rw [List.length_append, hr.1, hl, Nat.add_mul], .inr ⟨g, off, cap, _, rfl, hbg, setRow_heap w g cur _ e _ hg, hroom, hcm, ?_, ?_⟩⟩, ?_⟩
    ·simp only [List.size_toArray, List.length_append, List.length_take, List.length_drop, Array.length_toList]
     omega
    ·simp only
     rw [Nat.add_mul, ← hl]
     have := room_list (m := news.length) htake hr.1 rfl (by simpa using hfit)
     exact this
    ·exact ⟨rfl, rfl, rfl, by simp [World.setRow], fun k hk => setRow_other w g k _ (by omega)⟩
   ·have holds : ∀ j u, xs[j]? = some u → w.cell? ((⟨g, off, none⟩ : Addr).add j) = some u := by
     intro j u hu
     rw [Addr.add_lit, hg.cell]
     rw [← htake, List.getElem?_take] at hu
     split at hu
     ·simpa using hu
     ·cases hu
    obtain ⟨v', w', hrun, h2, h3⟩ := run_append_arg_grows (P := P) w t ty e i z sz bytes ht hi hz hsize hby hzs hsz ⟨g, off, none⟩ n cap xs hr.1 holds ad m c news hs.1 hcells (by omega) h63 hbytes
    exact ⟨v', w', hrun, (Row.of_own h2).less hbase, keep h3 (by simp)⟩
theorem wpList_append_row {P : Program} {w : World} {ops : Array Oper} {rest : List Oper} {o : Oper} {a : Act} {Q : Exit → Act → World → Prop} (hgd : o.guard = none) (s x : Operand) (t : TypeId)
  (ho : o.op = .call { callee := .builtin .append, args := #[s, x], argTypes := #[t, t] })
  (base : Nat) (e : TypeId) (i : TypeInfo) (z : Value) (sz bytes : Nat) (ht : P.underlying t = some (.slice e)) (hi : P.info? e = some i) (hz : i.zero = some z)
  (hsize : i.size = sz) (hby : i.bytes = bytes) (hzs : z.cells.size = sz) (hsz : 0 < sz)
  (v : Value) (n : Nat) (xs : List Value) (hsv : a.eval s = v) (hr : Row w base e sz v n xs)
  (B : Nat) (A : Option Addr) (m c : Nat) (news : List Value) (hx : a.eval x = .slice A m c) (hs : Reads w B sz A m news) (h1 : ∀ u ∈ news, u.oneCell' = true)
  (h63 : n + m ≤ maxLen) (hbytes : (n + m) * bytes ≤ 140737488355328) (hbase : base ≤ w.heap.size)
  (h : ∀ v' w', Row w' base e sz v' (n + m) (xs ++ news) → Below base w w' → wpList P ops Q rest (a.put o.dst v') w') : wpList P ops Q (o :: rest) a w := by
 refine wpList_plain hgd fun K hK => ?_
 obtain ⟨v', w', hrun, h2, h3⟩ := run_append_row (P := P) w base t o.type e i z sz bytes ht hi hz hsize hby hzs hsz v n xs hr B A m c news hs h1 h63 hbytes hbase
 unfold Oper.wp execOp
 simp only [ho, resolve, invoke, builtin, Sem.run_bind, Sem.run_pure, Result.andThen_ok, List.map_toArray, List.map_cons, List.map_nil, hsv, hx, hrun]
 exact hK _ _ (h v' w' h2 h3)
theorem reads_one (w : World) (t : TypeId) (u : Value) : Reads (w.alloc (.cells #[u] t)) (w.heap.size + 1) 1 (some ⟨w.heap.size, 0, none⟩) 1 [u] := by
 refine ⟨rfl, fun _ => ⟨_, _, rfl, by omega, fun j x hx => ?_⟩⟩
 rw [(Blk.new w t #[u]).cell]
 cases j with
 | zero => simpa using hx
 | succ j => simp at hx
def oldCell (w : World) (p : Addr) : Value := (w.cell? p).getD undef
theorem Blk.drew {w : World} {g : Nat} {t : TypeId} {cs : Array Value} (h : Blk w g t cs) : Blk w.drew g t cs := h
theorem Reads.drew {w : World} {B sz n : Nat} {A : Option Addr} {xs : List Value} (h : Reads w B sz A n xs) : Reads w.drew B sz A n xs := h.keep fun _ _ => rfl
theorem Row.empty (w : World) (base : Nat) (e : TypeId) (sz : Nat) (hb : base ≤ w.heap.size) : Row (w.alloc (.cells #[] e)) base e sz (.slice (some ⟨w.heap.size, 0, none⟩) 0 0) 0 [] :=
 ⟨by simp, .inr ⟨w.heap.size, 0, 0, #[], rfl, hb, Blk.new w e _, Nat.le_refl _, by simp [maxLen], by simp, by simp⟩⟩
theorem Row.set_at {w : World} {base g off n cap sz : Nat} {e : TypeId} {xs : List Value} (h : Row w base e sz (.slice (some ⟨g, off, none⟩) n cap) n xs) {j : Nat} (_hj : j < n * sz) (u : Value) :
  Row (w.setCell ⟨g, off + j, none⟩ u) base e sz (.slice (some ⟨g, off, none⟩) n cap) n (xs.set j u) := by
 rcases h.2 with ⟨hv, h0⟩ | ⟨g', off', cap', cur, hv, hb, hh, hnc, hm, hs, ht⟩
 ·cases hv
 ·injection hv with hA _ hc
  injection hA with hA
  injection hA with hg ho
  subst hg ho hc
  refine ⟨by simpa using h.1, .inr ⟨g, off, cap, _, rfl, hb, hh.set_ _ u, hnc, hm, by simpa using hs, ?_⟩⟩
  rw [← ht, Array.toList_setIfInBounds, List.drop_set]
  rw [if_neg (by omega), Nat.add_sub_cancel_left, List.take_set]
def cellsBy {α : Type} (f : α → List Value) (l : List α) : List Value := l.flatMap f
theorem cellsBy_len {α : Type} {f : α → List Value} {sz : Nat} (hf : ∀ x, (f x).length = sz) (l : List α) : (cellsBy f l).length = l.length * sz := by
 induction l with
 | nil => simp [cellsBy]
 | cons x l ih =>
  simp only [cellsBy, List.flatMap_cons, List.length_append, List.length_cons, hf] at ih ⊢
  rw [ih, Nat.add_mul]; omega
theorem cellsBy_at {α : Type} {f : α → List Value} {sz : Nat} (hf : ∀ x, (f x).length = sz) (l : List α) (k : Nat) (x : α) (h : l[k]? = some x) (j : Nat) (hj : j < sz) : (cellsBy f l)[k * sz + j]? = (f x)[j]? := by
 induction l generalizing k with
 | nil => simp at h
 | cons y l ih =>
  cases k with
  | zero =>
   simp at h; subst h
   simp only [cellsBy, List.flatMap_cons]
   rw [List.getElem?_append_left (by rw [hf]; omega)]
   congr 1; omega
  | succ k =>
   have := ih k (by simpa using h)
   simp only [cellsBy, List.flatMap_cons] at this ⊢
   rw [List.getElem?_append_right (by rw [hf, Nat.add_mul]; omega), hf, ← this]
   congr 1
   rw [Nat.add_mul]; omega
end Go.Proofs.YtcgfdfdcbamceaaGreatDoor
