/- fine: are there no errors? rat.CheckAll. Determinants of matrices of rational numbers, given as functions of row and column: linear and alternating in the rows, triangular matrices. Plain facts. No program here. Package matrix in plain Lean: matrices of texts and of rational numbers, and the laws of the ring. No program here. The laws of package matrix that the keep's MatrixRing, MatrixTurns and MatrixUnits ask for, on the plain functions. No program here. matrix.CheckVec, Check, first, width; matrices of texts that are read. -/
import Derived.Test.YtenbglfkdldheaaGreatDoorOO
set_option maxRecDepth 100000
set_option maxHeartbeats 400000
namespace Go.Proofs.YtenbglfkdldheaaGreatDoor
section
open Go.RowKit
def jY (es : List Int) : Bool := es.all fun e => e == 0
theorem aAa (w : World) (t : TypeId) (xs : List Value) : Reads (w.alloc (.cells xs.toArray t)) (w.heap.size + 1) 1 (some ⟨w.heap.size, 0, none⟩) xs.length xs := by
 refine ⟨by simp, fun _ => ⟨_, _, rfl, by omega, fun j u hu => ?_⟩⟩
 rw [(Blk.new w t xs.toArray).cell]
 simpa using hu
theorem aIb (x : Int) (w : World) : Calls Tryz.prog 86 #[I x] w fun e w' => e = .returned (.bool (x != 0)) ∧ w = w' := by
 go_enter Tryz.func86, Tryz.ntmps86
 go_wp2
 go_ret
 exact ⟨rfl, rfl⟩
theorem aEf (es : List Int) (n : Nat) (A : Option Addr) (c : Nat) (w : World) (B : Nat) (hr : Reads w B 1 A n (es.map I)) (hn : n ≤ 1000000) :
  Calls Tryz.prog 141 #[.slice A n c, .func (.func 86) #[] #[]] w fun e w' => (∃ r, e = .returned (I r) ∧ decide (0 ≤ r) = !jY es) ∧ w = w' := by
 have hl : es.length = n := by have := hr.1; simpa using this
 go_enter Tryz.func141, Tryz.ntmps141
 go_wp2
 go_loopg [8] (n - 0) (fun r v wr => ∃ k : Nat, r = n - k ∧ v = I k ∧ k ≤ n ∧ w = wr ∧ Hid (jY es = jY (es.drop k)))
 case atStart => exact ⟨0, rfl, rfl, by omega, rfl, rfl⟩
 case round =>
  obtain ⟨k, rfl, rfl, hk, rfl, HO⟩ := hrel
  by_cases hlt : k < n
  ·obtain ⟨b, off, u, rfl, _, hu, hc⟩ := hr.at1 hlt
   obtain ⟨x, hx⟩ : ∃ x, es.getD k 0 = x := ⟨_, rfl⟩
   have hx2 : es[k]'(by omega) = x := by rw [← hx, gD, gE (by omega)]; rfl
   obtain rfl : u = I x := by
    rw [List.getElem?_map, gE (by omega), hx2] at hu
    simpa using hu.symm
   have HO2 := aH (show jY es = ((x == 0) && jY (es.drop (k + 1))) by
    rw [HO.out, List.drop_eq_getElem_cons (by omega), hx2]
    rfl)
   have HL := aH hl
   clear hu hr hx hx2 HO hl
   by_cases h0 : x = 0
   ·have tb : (x != 0) = false := by rw [h0]; rfl
    have HO3 := aH (show jY es = jY (es.drop (k + 1)) by rw [HO2.out, h0]; rfl)
    clear h0
    go_wp2_with (go_at_call 86; refine (aIb x _).mono ?_; rintro e w' ⟨rfl, rfl⟩)
    go_roundg (n - (k + 1))
    case measure => omega
    case rel => exact ⟨k + 1, rfl, by go_num, by omega, rfl, HO3⟩
   ·have tb : (x != 0) = true := bne_iff_ne.2 h0
    have HF := aH (show decide (0 ≤ (k : Int)) = !jY es by
     rw [HO2.out, beq_eq_false_iff_ne.2 h0, decide_eq_true (by omega)]; rfl)
    clear h0
    go_wp2_with (go_at_call 86; refine (aIb x _).mono ?_; rintro e w' ⟨rfl, rfl⟩)
    go_ret
    exact ⟨⟨_, rfl, HF.out⟩, rfl⟩
  ·have HF := aH (show decide (0 ≤ (-1 : Int)) = !jY es by
    rw [HO.out, List.drop_of_length_le (by omega)]; rfl)
   clear HO
   go_wp2
   go_ret
   exact ⟨⟨_, rfl, HF.out⟩, rfl⟩
theorem aIc (es : List Int) (n : Nat) (A : Option Addr) (c : Nat) (w : World) (B : Nat) (hr : Reads w B 1 A n (es.map I)) (hn : n ≤ 1000000) :
  Calls Tryz.prog 32 #[.slice A n c] w fun e w' => e = .returned (.bool (jY es)) ∧ w = w' := by
 have h41 : ∀ w, Reads w B 1 A n (es.map I) → Calls Tryz.prog 85 #[.slice A n c, .func (.func 86) #[] #[]] w fun e w' => e = .returned (.bool (!jY es)) ∧ w = w' := by
  intro w hr
  have HX := aH (aEf es n A c w B hr hn)
  clear hr
  go_enter Tryz.func85, Tryz.ntmps85
  go_wp2_with fail
  refine HX.out.mono ?_
  rintro e w1 ⟨⟨r, rfl, hr⟩, rfl⟩
  have HR := aH hr
  clear hr HX
  go_wp2
  go_ret
  exact ⟨congrArg (fun b => Ending.returned (.bool b)) HR.out, rfl⟩
 have H41 := aH (h41 w hr)
 clear h41 hr
 go_enter Tryz.func32, Tryz.ntmps32
 go_wp2_with fail
 refine H41.out.mono ?_
 rintro e w1 ⟨rfl, rfl⟩
 go_wp2
 go_ret
 exact ⟨by simp, rfl⟩
abbrev Sv (s : ByteArray) : Value := .string s
end
section
def sm : Nat → (Nat → Rat) → Rat
 | 0, _ => 0
 | n + 1, f => sm n f + f n
theorem bO {f g : Nat → Rat} : ∀ (n : Nat), (∀ i, i < n → f i = g i) → sm n f = sm n g
 | 0, _ => rfl
 | n + 1, h => by rw [sm, sm, bO n fun i hi => h i (by omega), h n (by omega)]
theorem gQ {f : Nat → Rat} : ∀ (n : Nat), (∀ i, i < n → f i = 0) → sm n f = 0
 | 0, _ => rfl
 | n + 1, h => by rw [sm, gQ n fun i hi => h i (by omega), h n (by omega)]; grind
theorem aAb (a b : Rat) (f g : Nat → Rat) : ∀ (n : Nat), sm n (fun i => a * f i + b * g i) = a * sm n f + b * sm n g
 | 0 => by simp only [sm]; grind
 | n + 1 => by rw [sm, sm, sm, aAb a b f g n]; grind
theorem oO (a : Rat) (f : Nat → Rat) : ∀ (n : Nat), sm n (fun i => a * f i) = a * sm n f
 | 0 => by simp only [sm]; grind
 | n + 1 => by rw [sm, sm, oO a f n]; grind
theorem rX (f g : Nat → Rat) : ∀ (n : Nat), sm n (fun i => f i + g i) = sm n f + sm n g
 | 0 => by simp only [sm]; grind
 | n + 1 => by rw [sm, sm, sm, rX f g n]; grind
theorem mK {f : Nat → Rat} (k : Nat) : ∀ (n : Nat), k < n → (∀ i, i < n → i ≠ k → f i = 0) → sm n f = f k
 | 0, h, _ => absurd h (by omega)
 | n + 1, h, hz => by
  rw [sm]
  by_cases e : n = k
  ·rw [gQ n fun i hi => hz i (by omega) (by omega), e]; grind
  ·rw [mK k n (by omega) fun i hi hk => hz i (by omega) hk, hz n (by omega) e]; grind
theorem vZ {f : Nat → Rat} (k l : Nat) (hkl : k < l) : ∀ (n : Nat), l < n → (∀ i, i < n → i ≠ k → i ≠ l → f i = 0) → sm n f = f k + f l
 | 0, h, _ => absurd h (by omega)
 | n + 1, h, hz => by
  rw [sm]
  by_cases e : n = l
  ·rw [mK k n (by omega) fun i hi hk => hz i (by omega) hk (by omega), e]
  ·rw [vZ k l hkl n (by omega) fun i hi hk hl => hz i (by omega) hk hl, hz n (by omega) (by omega) e]; grind
theorem wA (f : Nat → Rat) : ∀ (n : Nat), sm (n + 1) f = f 0 + sm n (fun i => f (i + 1))
 | 0 => by simp only [sm]; grind
 | n + 1 => by rw [sm, wA f n, sm]; grind
theorem wB (f : Nat → Nat → Rat) (n : Nat) : ∀ (m : Nat), sm m (fun i => sm n (fun j => f i j)) = sm n (fun j => sm m (fun i => f i j))
 | 0 => by rw [sm, gQ n]; intro i _; rfl
 | m + 1 => by rw [sm, wB f n m, ← rX]; exact bO n fun j _ => rfl
def sk (i r : Nat) : Nat := if r < i then r else r + 1
def sg (i : Nat) : Rat := if i % 2 = 0 then 1 else -1
def det : Nat → (Nat → Nat → Rat) → Rat
 | 0, _ => 1
 | n + 1, A => sm (n + 1) fun i => sg i * A i 0 * det n (fun r c => A (sk i r) (c + 1))
theorem cR {A B : Nat → Nat → Rat} : ∀ (n : Nat), (∀ i j, i < n → j < n → A i j = B i j) → det n A = det n B := by
 intro n
 induction n generalizing A B with
 | zero => intro _; rfl
 | succ n ih =>
  intro h
  rw [det, det]
  refine bO _ fun i hi => ?_
  rw [h i 0 hi (by omega), ih fun r c hr hc => h _ _ (by unfold sk; split <;> omega) (by omega)]
def upd (A : Nat → Nat → Rat) (k : Nat) (u : Nat → Rat) : Nat → Nat → Rat := fun r => if r = k then u else A r
theorem aW (A : Nat → Nat → Rat) (k : Nat) (u : Nat → Rat) : upd A k u k = u := if_pos rfl
theorem cC (A : Nat → Nat → Rat) {k r : Nat} (u : Nat → Rat) (h : r ≠ k) : upd A k u r = A r := if_neg h
theorem eM (A : Nat → Nat → Rat) (k : Nat) : upd A k (A k) = A := by
 funext r
 unfold upd
 split
 ·rename_i h; rw [h]
 ·rfl
theorem eN (A : Nat → Nat → Rat) {k l : Nat} (h : k ≠ l) (u v : Nat → Rat) : upd (upd A k u) l v = upd (upd A l v) k u := by
 funext r
 unfold upd
 split
 ·rename_i h1
  rw [if_neg (by omega)]
 ·rfl
theorem mL (A : Nat → Nat → Rat) (k : Nat) (u : Nat → Rat) : (fun r c => upd A k u (sk k r) (c + 1)) = fun r c => A (sk k r) (c + 1) := by
 funext r c
 rw [cC A u (by unfold sk; split <;> omega)]
theorem rY (A : Nat → Nat → Rat) {i k : Nat} (u : Nat → Rat) (h : i ≠ k) :
  (fun r c => upd A k u (sk i r) (c + 1)) = upd (fun r c => A (sk i r) (c + 1)) (if k < i then k else k - 1) (fun c => u (c + 1)) := by
 funext r c
 by_cases e : r = if k < i then k else k - 1
 ·have e2 : sk i r = k := by
   rw [e]; unfold sk
   by_cases hk : k < i
   ·rw [if_pos hk, if_pos hk]
   ·rw [if_neg hk, if_neg (by omega)]; omega
  rw [e2, aW, e, aW]
 ·have e2 : sk i r ≠ k := by
   intro hc
   apply e
   unfold sk at hc
   split at hc
   ·rw [if_pos (by omega)]; exact hc
   ·rw [if_neg (by omega)]; omega
  rw [cC _ _ e2, cC _ _ e]
theorem lH (a b : Rat) (u v : Nat → Rat) : ∀ (n : Nat) (A : Nat → Nat → Rat) (k : Nat), k < n →
  det n (upd A k (fun j => a * u j + b * v j)) = a * det n (upd A k u) + b * det n (upd A k v) := by
 intro n
 induction n generalizing u v with
 | zero => intro A k h; omega
 | succ n ih =>
  intro A k hk
  rw [det, det, det, ← aAb]
  refine bO _ fun i hi => ?_
  by_cases e : i = k
  ·subst e
   rw [mL, mL, mL, aW, aW, aW]
   grind
  ·rw [rY _ _ e, rY _ _ e, rY _ _ e, cC _ _ e, cC _ _ e, cC _ _ e]
   rw [ih (fun c => u (c + 1)) (fun c => v (c + 1)) _ _ (by split <;> omega)]
   grind
theorem xT (a : Rat) (n : Nat) (A : Nat → Nat → Rat) (k : Nat) (hk : k < n) (u : Nat → Rat) : det n (upd A k (fun j => a * u j)) = a * det n (upd A k u) := by
 have h := lH a 0 u u n A k hk
 rw [show (fun j => a * u j + 0 * u j) = fun j => a * u j by funext j; grind] at h
 rw [h]; grind
theorem aBv : ∀ (n : Nat) (A : Nat → Nat → Rat) (k : Nat), k + 1 < n → (∀ j, A k j = A (k + 1) j) → det n A = 0 := by
 intro n
 induction n with
 | zero => intro A k h; omega
 | succ n ih =>
  intro A k hk h
  rw [det, vZ k (k + 1) (by omega) (n + 1) hk]
  ·have e : (fun r c => A (sk k r) (c + 1)) = fun r c => A (sk (k + 1) r) (c + 1) := by
    funext r c
    unfold sk
    by_cases h1 : r < k
    ·rw [if_pos h1, if_pos (by omega)]
    ·by_cases h2 : r = k
     ·rw [if_neg h1, if_pos (by omega), h2, h]
     ·rw [if_neg h1, if_neg (by omega)]
   have es : sg (k + 1) = - sg k := by
    unfold sg
    rcases Nat.mod_two_eq_zero_or_one k with h1 | h1
    ·have h2 : ¬ (k + 1) % 2 = 0 := by omega
     rw [if_pos h1, if_neg h2]
    ·have h2 : (k + 1) % 2 = 0 := by omega
     have h3 : ¬ k % 2 = 0 := by omega
     rw [if_neg h3, if_pos h2]; grind
   rw [e, es, h 0]
   grind
  ·intro i hi h1 h2
   rw [ih (fun r c => A (sk i r) (c + 1)) (if k < i then k else k - 1) (by split <;> omega)]
   ·grind
   ·intro j
    unfold sk
    by_cases hk : k < i
    ·rw [if_pos hk, if_pos hk, if_pos (by omega), h]
    ·rw [if_neg hk, if_neg (by omega), if_neg (by omega)]
     rw [show k - 1 + 1 = k by omega, h]
theorem wC (n : Nat) (A : Nat → Nat → Rat) (k : Nat) (hk : k + 1 < n) : det n (upd (upd A k (A (k + 1))) (k + 1) (A k)) = - det n A := by
 have hz : ∀ u : Nat → Rat, det n (upd (upd A k u) (k + 1) u) = 0 := fun u => aBv n _ k hk fun j => by
  rw [aW, cC _ _ (by omega), aW]
 have h1 := hz (fun j => 1 * A k j + 1 * A (k + 1) j)
 rw [lH 1 1 _ _ n _ _ hk, eN A (by omega) _ (A k), eN A (by omega) _ (A (k + 1)), lH 1 1 _ _ n _ _ (by omega), lH 1 1 _ _ n _ _ (by omega)] at h1
 rw [eN A (by omega) (A k) (A k) |>.symm, eN A (k := k) (by omega) (A (k + 1)) (A (k + 1)) |>.symm, hz, hz] at h1
 have e1 : upd (upd A (k + 1) (A (k + 1))) k (A k) = A := by rw [eM, eM]
 rw [e1] at h1
 rw [eN A (by omega)]
 grind
theorem aId (n : Nat) : ∀ (d : Nat) (A : Nat → Nat → Rat) (i : Nat), i + d + 1 < n → (∀ j, A i j = A (i + d + 1) j) → det n A = 0 := by
 intro d
 induction d with
 | zero => intro A i h he; exact aBv n A i h he
 | succ d ih =>
  intro A i h he
  have h1 := wC n A (i + d + 1) (by omega)
  have h2 : det n (upd (upd A (i + d + 1) (A (i + d + 1 + 1))) (i + d + 1 + 1) (A (i + d + 1))) = 0 := ih _ i (by omega) fun j => by
   rw [cC _ _ (by omega), cC _ _ (by omega), cC _ _ (by omega), aW]
   exact he j
  rw [h2] at h1
  grind
theorem nK {n : Nat} {A : Nat → Nat → Rat} {i k : Nat} (hi : i < n) (hk : k < n) (hne : i ≠ k) (h : ∀ j, A i j = A k j) : det n A = 0 := by
 rcases Nat.lt_or_gt_of_ne hne with h1 | h1
 ·exact aId n (k - i - 1) A i (by omega) fun j => by rw [h, show i + (k - i - 1) + 1 = k by omega]
 ·exact aId n (i - k - 1) A k (by omega) fun j => by rw [← h, show k + (i - k - 1) + 1 = i by omega]
theorem nL {n : Nat} {A : Nat → Nat → Rat} {i : Nat} (hi : i < n) (h : ∀ j, A i j = 0) : det n A = 0 := by
 have e := xT 0 n A i hi (A i)
 rw [show (fun j => 0 * A i j) = A i by funext j; rw [h]; grind, eM] at e
 rw [e]; grind
def pd : Nat → (Nat → Rat) → Rat
 | 0, _ => 1
 | n + 1, f => f 0 * pd n (fun i => f (i + 1))
theorem aMa : ∀ (n : Nat) (A : Nat → Nat → Rat), (∀ i j, i < n → j < i → A i j = 0) → det n A = pd n fun i => A i i := by
 intro n
 induction n with
 | zero => intro A _; rfl
 | succ n ih =>
  intro A h
  rw [det, mK 0 (n + 1) (by omega), pd]
  ·rw [ih (fun r c => A (sk 0 r) (c + 1))]
   ·have e : ∀ r, sk 0 r = r + 1 := fun r => by unfold sk; rw [if_neg (by omega)]
    simp only [e]
    unfold sg
    rw [if_pos rfl]
    grind
   ·intro i j hi hj
    unfold sk
    rw [if_neg (by omega)]
    exact h _ _ (by omega) (by omega)
  ·intro i hi h0
   rw [h i 0 hi (by omega)]
   grind
theorem aIe {f : Nat → Rat} : ∀ (n : Nat), (∀ i, i < n → f i = 1) → pd n f = 1
 | 0, _ => rfl
 | n + 1, h => by rw [pd, h 0 (by omega), aIe n fun i hi => h _ (by omega)]; grind
theorem aBw (f : Nat → Rat) : ∀ (n : Nat), pd (n + 1) f = pd n f * f n
 | 0 => by simp only [pd]; grind
 | n + 1 => by rw [pd, aBw (fun i => f (i + 1)) n, pd]; grind
theorem aAc (n : Nat) : det n (fun i j => if i = j then 1 else 0) = 1 := by
 rw [aMa n _ fun i j _ hj => if_neg (by omega)]
 exact aIe n fun i _ => if_pos rfl
end
section
open Go.Lib
abbrev MT := List (List (List UInt8))
abbrev MQ := List (List Rat)
def wd : MT → Nat
 | [] => 0
 | r :: _ => r.length
def txV (l : List Rat) : List (List UInt8) × Int := if l.all fI = true then (l.map gC, 0) else ([], 2)
def aIf (a b : List Rat) : Rat := sm a.length fun i => a.getD i 0 * b.getD i 0
structure Rect {α : Type} (m : List (List α)) (n k : Nat) : Prop where
 len : m.length = n
 row : ∀ r ∈ m, r.length = k
def at2 (m : MQ) (i j : Nat) : Rat := (m.getD i []).getD j 0
theorem Rect.rowlen {α : Type} {m : List (List α)} {n k : Nat} (h : Rect m n k) {i : Nat} (hi : i < n) : (m.getD i []).length = k := by
 have hl : i < m.length := by rw [h.len]; exact hi
 rw [gD, gE hl]
 exact h.row _ (List.getElem_mem hl)
end
section
open Go.RowKit
end
end Go.Proofs.YtenbglfkdldheaaGreatDoor
