/- Package loss in plain Lean. No program here. The plain laws of package loss. No program here. loss.text, resistance, Points, check, Exact. loss.check, Exact, (piece).at, through. -/
import Derived.Test.YtmnedfkinepnfaaGreatDoorJP
import Derived.Test.YtmnedfkinepnfaaGreatDoorJR
import Derived.Test.YtmnedfkinepnfaaGreatDoorJS
import Derived.Test.YtmnedfkinepnfaaGreatDoorJU
import Derived.Test.YtmnedfkinepnfaaGreatDoorJT
import Derived.Test.YtmnedfkinepnfaaGreatDoorJDO
namespace Go.Proofs.YtmnedfkinepnfaaGreatDoor
open Go.Lib

def resE (r : List UInt8) : Int := if rchk r ≠ 0 then rchk r else if rval r < 0 then 4 else 0
def incB : List Rat → Bool
  | x :: y :: l => decide (x < y) && incB (y :: l)
  | _ => true
def ptsE (l : List (List UInt8)) : Int := if 16 < l.length then 2 else if l.length < 2 then 8 else if rAll l ≠ 0 then rAll l else if incB (valsV l) = true then 0 else 3
def lchk (r : List UInt8) (l : List (List UInt8)) : Int := if resE r ≠ 0 then resE r else ptsE l
def exactT (r f : List UInt8) : List UInt8 × Int := if resE r ≠ 0 then ([], resE r) else if rchk f ≠ 0 then ([], rchk f) else ratTx (rval r * rval f * rval f)
/-- a piece: its two numbers -/
abbrev PcQ := Rat × Rat
def thru (r p q : Rat) : PcQ := (-(r * p * q), r * (p + q))
def pcAt (p : PcQ) (f : Rat) : Rat := p.1 + p.2 * f
def tanQ (r : Rat) (l : List Rat) : List PcQ := l.map fun p => thru r p p
def choQ (r : Rat) : List Rat → List PcQ
  | x :: y :: l => thru r x y :: choQ r (y :: l)
  | _ => []
def fitP (p : PcQ) : Bool := fitQ p.1 && fitQ p.2
def pcsT (l : List PcQ) : List (List UInt8 × List UInt8) × Int := if l.all fitP = true then (l.map fun p => (qText p.1, qText p.2), 0) else ([], 2)
def tanT (r : List UInt8) (l : List (List UInt8)) : List (List UInt8 × List UInt8) × Int := if lchk r l ≠ 0 then ([], lchk r l) else pcsT (tanQ (rval r) (valsV l))
def choT (r : List UInt8) (l : List (List UInt8)) : List (List UInt8 × List UInt8) × Int := if lchk r l ≠ 0 then ([], lchk r l) else pcsT (choQ (rval r) (valsV l))
/-- the greatest of the values and low -/
def maxQ (x : Rat) : List PcQ → Rat → Rat
  | [], low => low
  | p :: l, low => maxQ x l (if low < pcAt p x then pcAt p x else low)
/-- the first place from k on whose number is not less than x -/
def firstGe (x : Rat) : List Rat → Nat → Nat
  | [], k => k
  | y :: l, k => if y < x then firstGe x l (k + 1) else k
def gapQ : List Rat → Rat → Rat
  | x :: y :: l, far => gapQ (y :: l) (if far < y - x then y - x else far)
  | _, far => far
theorem incB_lt : ∀ {l : List Rat}, incB l = true → ∀ (i j : Nat), i < j → j < l.length → l.getD i 0 < l.getD j 0
  | [], _, _, _, _, h => by simp at h
  | [x], _, i, j, hij, h => by simp at h; omega
  | x :: y :: l, hl, i, j, hij, h => by
    rw [incB, Bool.and_eq_true] at hl
    have ih := incB_lt hl.2
    have hxy := of_decide_eq_true hl.1
    match i, j with
    | 0, 1 => exact hxy
    | 0, j + 2 =>
      have h1 := ih 0 (j + 1) (by omega) (by simpa using h)
      have h2 : x < (y :: l).getD (j + 1) 0 := by
        have : (y :: l).getD 0 0 = y := rfl
        rw [this] at h1
        grind
      exact h2
    | i + 1, j + 1 => exact ih i j (by omega) (by simpa using h)
/-- the square that is left: a tangent is nowhere above the loss -/
theorem tan_below {r p x : Rat} (hr : 0 ≤ r) : pcAt (thru r p p) x ≤ r * x * x := by
  have h : r * x * x - pcAt (thru r p p) x = r * ((x - p) * (x - p)) := by unfold pcAt thru; grind
  have h2 : 0 ≤ (x - p) * (x - p) := by
    rcases (Rat.le_total : (0 : Rat) ≤ x - p ∨ x - p ≤ 0) with h | h
    · exact Rat.mul_nonneg h h
    · have := Rat.mul_nonneg (show (0 : Rat) ≤ -(x - p) by grind) (show (0 : Rat) ≤ -(x - p) by grind)
      grind
  have h3 := Rat.mul_nonneg hr h2
  grind
theorem tan_touch (r p : Rat) : pcAt (thru r p p) p = r * p * p := by unfold pcAt thru; grind
theorem cho_left (r p q : Rat) : pcAt (thru r p q) p = r * p * p := by unfold pcAt thru; grind
theorem cho_right (r p q : Rat) : pcAt (thru r p q) q = r * q * q := by unfold pcAt thru; grind
/-- between its points a chord is above the loss -/
theorem cho_above {r p q x : Rat} (hr : 0 ≤ r) (h1 : p ≤ x) (h2 : x ≤ q) : r * x * x ≤ pcAt (thru r p q) x := by
  have h : pcAt (thru r p q) x - r * x * x = r * ((x - p) * (q - x)) := by unfold pcAt thru; grind
  have h3 := Rat.mul_nonneg hr (Rat.mul_nonneg (show (0 : Rat) ≤ x - p by grind) (show (0 : Rat) ≤ q - x by grind))
  grind
/-- by how much at most -/
theorem cho_gap {r p q x d : Rat} (hr : 0 ≤ r) (hd : q - p ≤ d) (hp : 0 ≤ q - p) : pcAt (thru r p q) x - r * x * x ≤ r * d * d / 4 := by
  have h : r * d * d / 4 - (pcAt (thru r p q) x - r * x * x) = r * (d * d - (q - p) * (q - p)) / 4 + r * ((x - (p + q) / 2) * (x - (p + q) / 2)) := by unfold pcAt thru; grind
  have sq : ∀ y : Rat, 0 ≤ y * y := fun y => by
    rcases (Rat.le_total : (0 : Rat) ≤ y ∨ y ≤ 0) with h | h
    · exact Rat.mul_nonneg h h
    · have := Rat.mul_nonneg (show (0 : Rat) ≤ -y by grind) (show (0 : Rat) ≤ -y by grind)
      grind
  have h2 := Rat.mul_nonneg hr (sq (x - (p + q) / 2))
  have h4 : (0 : Rat) ≤ d * d - (q - p) * (q - p) := by
    have := Rat.mul_nonneg (show (0 : Rat) ≤ d - (q - p) by grind) (show (0 : Rat) ≤ d + (q - p) by grind)
    grind
  have h3 := Rat.mul_nonneg hr h4
  have h5 : (0 : Rat) ≤ r * (d * d - (q - p) * (q - p)) / 4 := by grind
  grind
end Go.Proofs.YtmnedfkinepnfaaGreatDoor
namespace Go.Proofs.YtmnedfkinepnfaaGreatDoor
open Go.Lib

theorem sqr_nonneg (y : Rat) : 0 ≤ y * y := by
  rcases (Rat.le_total : (0 : Rat) ≤ y ∨ y ≤ 0) with h | h
  · exact Rat.mul_nonneg h h
  · have := Rat.mul_nonneg (show (0 : Rat) ≤ -y by grind) (show (0 : Rat) ≤ -y by grind)
    grind
theorem loss_nonneg {y : Rat} (hy : 0 ≤ y) (x : Rat) : 0 ≤ y * x * x := by
  have := Rat.mul_nonneg hy (sqr_nonneg x)
  grind
theorem maxQ_ge (x : Rat) : ∀ (l : List PcQ) (low : Rat), low ≤ maxQ x l low
  | [], low => by rw [maxQ]; exact Rat.le_refl
  | p :: l, low => by
    rw [maxQ]
    by_cases h : low < pcAt p x
    · rw [if_pos h]
      have := maxQ_ge x l (pcAt p x)
      grind
    · rw [if_neg h]
      exact maxQ_ge x l low
theorem maxQ_le (x c : Rat) : ∀ (l : List PcQ) (low : Rat), low ≤ c → (∀ p ∈ l, pcAt p x ≤ c) → maxQ x l low ≤ c
  | [], low, h, _ => by rw [maxQ]; exact h
  | p :: l, low, h, hl => by
    rw [maxQ]
    by_cases h2 : low < pcAt p x
    · rw [if_pos h2]
      exact maxQ_le x c l _ (hl p (by simp)) fun q hq => hl q (by simp [hq])
    · rw [if_neg h2]
      exact maxQ_le x c l _ h fun q hq => hl q (by simp [hq])
theorem maxQ_sz (x : Rat) (k : Nat) : ∀ (l : List PcQ) (low : Rat), SzQ low k → (∀ p ∈ l, SzQ (pcAt p x) k) → SzQ (maxQ x l low) k
  | [], low, h, _ => by rw [maxQ]; exact h
  | p :: l, low, h, hl => by
    rw [maxQ]
    by_cases h2 : low < pcAt p x
    · rw [if_pos h2]
      exact maxQ_sz x k l _ (hl p (by simp)) fun q hq => hl q (by simp [hq])
    · rw [if_neg h2]
      exact maxQ_sz x k l _ h fun q hq => hl q (by simp [hq])
theorem firstGe_spec (x : Rat) : ∀ (l : List Rat) (k : Nat), (∃ y ∈ l, x ≤ y) → ∃ j, j < l.length ∧ firstGe x l k = k + j ∧ x ≤ l.getD j 0 ∧ ∀ i, i < j → l.getD i 0 < x
  | [], _, h => by obtain ⟨y, hy, _⟩ := h; simp at hy
  | y :: l, k, h => by
    rw [firstGe]
    by_cases h2 : y < x
    · rw [if_pos h2]
      obtain ⟨j, h3, h4, h5, h6⟩ := firstGe_spec x l (k + 1) (by
        obtain ⟨z, hz, hx⟩ := h
        rcases List.mem_cons.1 hz with rfl | hz
        · grind
        · exact ⟨z, hz, hx⟩)
      refine ⟨j + 1, by simp; omega, by rw [h4]; omega, h5, fun i hi => ?_⟩
      match i with
      | 0 => exact h2
      | i + 1 => exact h6 i (by omega)
    · rw [if_neg h2]
      exact ⟨0, by simp, rfl, by show x ≤ y; grind, fun i hi => by omega⟩
theorem gapQ_ge : ∀ (l : List Rat) (far : Rat), far ≤ gapQ l far
  | [], far => by rw [gapQ]; exact Rat.le_refl; simp
  | [_], far => by rw [gapQ]; exact Rat.le_refl; simp
  | x :: y :: l, far => by
    rw [gapQ]
    by_cases h : far < y - x
    · rw [if_pos h]
      have := gapQ_ge (y :: l) (y - x)
      grind
    · rw [if_neg h]
      exact gapQ_ge (y :: l) far
theorem gapQ_at : ∀ (l : List Rat) (far : Rat) (i : Nat), i + 1 < l.length → l.getD (i + 1) 0 - l.getD i 0 ≤ gapQ l far
  | [], _, i, h => by simp at h
  | [_], _, i, h => by simp at h
  | x :: y :: l, far, i, h => by
    rw [gapQ]
    match i with
    | 0 =>
      show y - x ≤ _
      by_cases h : far < y - x
      · rw [if_pos h]; exact gapQ_ge (y :: l) _
      · rw [if_neg h]
        have := gapQ_ge (y :: l) far
        grind
    | i + 1 => exact gapQ_at (y :: l) _ i (by simpa using h)
theorem gapQ_sz (k : Nat) : ∀ (l : List Rat) (far : Rat), SzQ far (k + k + 1) → (∀ y ∈ l, SzQ y k) → SzQ (gapQ l far) (k + k + 1)
  | [], far, h, _ => by rw [gapQ]; exact h; simp
  | [_], far, h, _ => by rw [gapQ]; exact h; simp
  | x :: y :: l, far, h, hl => by
    rw [gapQ]
    refine gapQ_sz k (y :: l) _ ?_ fun z hz => hl z (by simp only [List.mem_cons] at hz ⊢; exact .inr hz)
    by_cases h2 : far < y - x
    · rw [if_pos h2]; exact (hl y (by simp)).sub (hl x (by simp))
    · rw [if_neg h2]; exact h
theorem bounds_nums {y x : Rat} {ls : List Rat} (hy : 0 ≤ y) (hi : incB ls = true) (h2 : 2 ≤ ls.length) (h0 : ls.getD 0 0 ≤ x) (h1 : x ≤ ls.getD (ls.length - 1) 0) :
    ∃ k, firstGe x (ls.drop 1) 1 = k ∧ 1 ≤ k ∧ k < ls.length ∧ (∀ i, 1 ≤ i → i < k → ls.getD i 0 < x) ∧ x ≤ ls.getD k 0 ∧ 0 ≤ maxQ x (tanQ y ls) 0 ∧ maxQ x (tanQ y ls) 0 ≤ y * x * x ∧ y * x * x ≤ pcAt (thru y (ls.getD (k - 1) 0) (ls.getD k 0)) x ∧ pcAt (thru y (ls.getD (k - 1) 0) (ls.getD k 0)) x - y * x * x ≤ y * gapQ ls 0 * gapQ ls 0 / 4 := by
  have hd : ∀ j, (ls.drop 1).getD j 0 = ls.getD (j + 1) 0 := fun j => by
    rw [List.getD_eq_getElem?_getD, List.getD_eq_getElem?_getD, List.getElem?_drop, Nat.add_comm]
  obtain ⟨j, h3, h4, h5, h6⟩ := firstGe_spec x (ls.drop 1) 1 ⟨ls.getD (ls.length - 1) 0, by
    rw [List.getD_eq_getElem?_getD, List.getElem?_eq_getElem (by omega)]
    rw [Option.getD_some]
    rw [List.mem_iff_getElem?]
    exact ⟨ls.length - 2, by rw [List.getElem?_drop, show 1 + (ls.length - 2) = ls.length - 1 by omega, List.getElem?_eq_getElem (by omega)]⟩, h1⟩
  rw [List.length_drop] at h3
  rw [hd] at h5
  have hlow : ls.getD j 0 ≤ x := by
    cases j with
    | zero => exact h0
    | succ i =>
      have := h6 i (by omega)
      rw [hd] at this
      grind
  have hinc := incB_lt hi j (j + 1) (by omega) (by omega)
  refine ⟨1 + j, h4, by omega, by omega, fun i hi1 hi2 => ?_, by rw [Nat.add_comm]; exact h5, maxQ_ge _ _ _, maxQ_le _ _ _ _ (loss_nonneg hy x) fun p hp => ?_, ?_, ?_⟩
  · have := h6 (i - 1) (by omega)
    rw [hd, Nat.sub_add_cancel hi1] at this
    exact this
  · obtain ⟨q, _, rfl⟩ := List.mem_map.1 hp
    exact tan_below hy
  · rw [Nat.add_sub_cancel_left, Nat.add_comm]
    exact cho_above hy hlow h5
  · rw [Nat.add_sub_cancel_left, Nat.add_comm]
    exact cho_gap hy (gapQ_at ls 0 j (by omega)) (by grind)
theorem SzQ.backQ {q : Rat} {k : Nat} (h : SzQ q k) (h1 : 1 ≤ k) (h2 : k ≤ 2000) : fitQ q = true ∧ rchk (qText q) = 0 ∧ rval (qText q) = q := ⟨h.fit h1 h2, (qText_ok q (h.fit h1 h2)).1, (qText_ok q (h.fit h1 h2)).2⟩
theorem sz_text {a : List UInt8} (h : rchk a = 0) (hl : a.length ≤ 100) : SzQ (rval a) 100 := (rval_sz h).1.mono hl
theorem sz_exact {r p : Rat} (hr : SzQ r 100) (hp : SzQ p 100) : SzQ (r * p * p) 300 := (hr.mul hp (by omega)).mul hp (by omega)
theorem sz_thru {r p q : Rat} (hr : SzQ r 100) (hp : SzQ p 100) (hq : SzQ q 100) : SzQ (thru r p q).1 300 ∧ SzQ (thru r p q).2 301 :=
  ⟨((hr.mul hp (by omega)).mul hq (by omega)).neg, hr.mul (hp.add hq) (by omega)⟩
theorem sz_at {r p q x : Rat} (hr : SzQ r 100) (hp : SzQ p 100) (hq : SzQ q 100) (hx : SzQ x 100) : SzQ (pcAt (thru r p q) x) 702 := by
  have h := sz_thru hr hp hq
  have h2 : SzQ ((thru r p q).2 * x) 401 := (h.2.mul hx (by omega)).mono (Nat.le_refl _)
  exact (h.1.add h2).mono (Nat.le_refl _)
theorem sz_gap {r : Rat} {l : List Rat} (hr : SzQ r 100) (hl : ∀ y ∈ l, SzQ y 100) : SzQ (r * gapQ l 0 * gapQ l 0 / 4) 503 := by
  have h := gapQ_sz 100 l 0 (SzQ.mono sz_zero (by omega)) hl
  have h4 : SzQ (4 : Rat) 1 := ⟨by decide, by decide⟩
  have h5 : SzQ (r * gapQ l 0) 301 := (hr.mul h (by omega)).mono (Nat.le_refl _)
  have h6 : SzQ (r * gapQ l 0 * gapQ l 0) 502 := (h5.mul h (by omega)).mono (Nat.le_refl _)
  exact (h6.div h4 (by omega)).mono (Nat.le_refl _)
theorem cmp_le {x y : Rat} (h : x ≤ y) : cmpQ x y ≤ 0 := by
  rcases cmpQ_cases x y with k | k | k
  · omega
  · omega
  · have := (cmpQ_gt x y).1 k; grind
theorem ratCmp_q {x y : Rat} {k j : Nat} (hx : SzQ x k) (hy : SzQ y j) (h1 : 1 ≤ k) (h2 : k ≤ 2000) (h3 : 1 ≤ j) (h4 : j ≤ 2000) : ratCmp (qText x) (qText y) = (cmpQ x y, 0) := by
  have a := hx.backQ h1 h2
  have b := hy.backQ h3 h4
  rw [ratCmp, if_pos (rAll_two a.2.1 b.2.1), a.2.2, b.2.2]
theorem tx_q {x : Rat} {k : Nat} (hx : SzQ x k) (h1 : 1 ≤ k) (h2 : k ≤ 2000) : ratTx x = (qText x, 0) := ratTx_ok (hx.fit h1 h2)
/-- the value of a piece, as the keep reckons it -/
def atT (a b f : List UInt8) : List UInt8 × Bool := ((ratAdd a (ratMul b f).1).1, (ratMul b f).2 == 0 && (ratAdd a (ratMul b f).1).2 == 0)
theorem at_q {r p q : Rat} {f : List UInt8} (hr : SzQ r 100) (hp : SzQ p 100) (hq : SzQ q 100) (hf : rchk f = 0) (hfl : f.length ≤ 100) : atT (qText (thru r p q).1) (qText (thru r p q).2) f = (qText (pcAt (thru r p q) (rval f)), true) := by
  have hx := sz_text hf hfl
  have h := sz_thru hr hp hq
  have a := h.1.backQ (by omega) (by omega)
  have b := h.2.backQ (by omega) (by omega)
  have hm : SzQ ((thru r p q).2 * rval f) 401 := h.2.mul hx (by omega)
  have c := hm.backQ (by omega) (by omega)
  have e1 : ratMul (qText (thru r p q).2) f = (qText ((thru r p q).2 * rval f), 0) := by
    rw [ratMul, rOp_ok b.2.1 hf, b.2.2, ratTx_ok c.1]
  have e2 : ratAdd (qText (thru r p q).1) (qText ((thru r p q).2 * rval f)) = (qText (pcAt (thru r p q) (rval f)), 0) := by
    rw [ratAdd, rOp_ok a.2.1 c.2.1, a.2.2, c.2.2]
    exact ratTx_ok ((sz_at hr hp hq hx).fit (by omega) (by omega))
  rw [atT, e1, e2]
  rfl
/-- two numbers as texts -/
def twoT (a b : Rat) : List UInt8 × List UInt8 × Int := if (fitQ a && fitQ b) = true then (qText a, qText b, 0) else ([], [], 2)
def lowQ (r : List UInt8) (l : List (List UInt8)) (f : List UInt8) : Rat := maxQ (rval f) (tanQ (rval r) (valsV l)) 0
def atK (l : List (List UInt8)) (f : List UInt8) : Nat := firstGe (rval f) ((valsV l).drop 1) 1
def highQ (r : List UInt8) (l : List (List UInt8)) (f : List UInt8) : Rat := pcAt (thru (rval r) ((valsV l).getD (atK l f - 1) 0) ((valsV l).getD (atK l f) 0)) (rval f)
def boundsT (r : List UInt8) (l : List (List UInt8)) (f : List UInt8) : List UInt8 × List UInt8 × Int :=
  if lchk r l ≠ 0 then ([], [], lchk r l) else if rchk f ≠ 0 then ([], [], rchk f) else if rval f < (valsV l).getD 0 0 then ([], [], 4) else if (valsV l).getD (l.length - 1) 0 < rval f then ([], [], 4) else twoT (lowQ r l f) (highQ r l f)
theorem boundsT_bad {r : List UInt8} {l : List (List UInt8)} {f : List UInt8} (h : (boundsT r l f).2.2 ≠ 0) : (boundsT r l f).1 = [] ∧ (boundsT r l f).2.1 = [] := by
  revert h
  unfold boundsT twoT
  repeat' split
  all_goals (intro h; first | exact ⟨rfl, rfl⟩ | exact absurd rfl h)
end Go.Proofs.YtmnedfkinepnfaaGreatDoor
namespace Go.Proofs.YtmnedfkinepnfaaGreatDoor
open Go.RowKit

set_option maxRecDepth 100000 in
set_option maxHeartbeats 1000000 in
theorem lossText_any (v : Value) (q : Rat) (w : World) (hx : Rt w v q) (htab : Tab w) : Calls Tryz.prog 61 #[v] w (RetTx w (ratTx q)) := by
  obtain ⟨A, l, c, B, m, d, rfl, -, -⟩ := hx.form
  obtain ⟨-, hb⟩ := boxes1 w (.bool (decide (q.num < 0))) (.slice A l c) (.bool false) (.slice B m d)
  have HT := Lib.hid (rtext_any _ _ _ (hx.ext hb) (tab_below htab hb))
  have HB := Lib.hid hb
  clear hx hb htab
  generalize decide (q.num < 0) = nb at *
  unfold ratT at *
  go_enter Tryz.func61, Tryz.ntmps61
  go_wp2_with fail
  refine HT.out.mono ?_
  rintro e w1 ⟨s, rfl, hs, hb⟩
  have HB1 := Lib.hid (HB.out.trans (hb.mono HB.out.size))
  clear HB HT hb
  by_cases h : fitQ q = true
  · have HQ := Lib.hid (show RetTx w (ratTx q) (.returned (.tuple #[.string s, I 0])) w1 from ⟨by rw [ratTx, if_pos h, hs h], HB1.out⟩)
    rw [h]
    clear hs
    go_wp2
    go_ret2
    exact HQ.out
  · have HQ := Lib.hid (show RetTx w (ratTx q) (.returned (.tuple #[.string ⟨#[]⟩, I 2])) w1 from ⟨by rw [ratTx, if_neg h], HB1.out⟩)
    have h := Bool.eq_false_iff.2 h
    rw [h]
    clear hs
    go_wp2
    go_ret2
    exact HQ.out
theorem rCmp_ok' {a b : List UInt8} (ha : rchk a = 0) (hb : rchk b = 0) : ratCmp a b = (cmpQ (rval a) (rval b), 0) := by rw [ratCmp, if_pos (rAll_two ha hb)]
theorem cmpQ_zero (x : Rat) : cmpQ x 0 < 0 ↔ x < 0 := by
  rcases cmpQ_cases x 0 with h | h | h
  · rw [h]; exact ⟨fun _ => (cmpQ_lt _ _).1 h, fun _ => by decide⟩
  · rw [h]; have := (cmpQ_eq _ _).1 h; exact ⟨fun k => absurd k (by decide), fun k => by rw [this] at k; exact absurd k (by decide)⟩
  · rw [h]; have := (cmpQ_gt _ _).1 h; exact ⟨fun k => absurd k (by decide), fun k => by grind⟩
set_option maxRecDepth 100000 in
set_option maxHeartbeats 1000000 in
theorem res_any (s : ByteArray) (w : World) (hs : s.size ≤ 9223372036854775807) (htab : Tab w) : Calls Tryz.prog 66 #[.string s] w fun e w' => e = .returned (I (resE (SL s))) ∧ Below w.heap.size w w' := by
  have HC := Lib.hid (ratSign_any s w hs htab)
  by_cases h0 : rchk (SL s) = 0
  · have he : ratCmp (SL s) [48] = (cmpQ (rval (SL s)) 0, 0) := by rw [rCmp_ok' h0 rchk_48, rval_48]
    rw [he] at HC
    by_cases h1 : rval (SL s) < 0
    · have HR := Lib.hid (show resE (SL s) = 4 by rw [resE, if_neg (fun k => k h0), if_pos h1])
      have t1 : decide (cmpQ (rval (SL s)) 0 < 0) = true := decide_eq_true ((cmpQ_zero _).2 h1)
      clear he h0 h1
      generalize cmpQ (rval (SL s)) 0 = k at *
      go_enter Tryz.func66, Tryz.ntmps66
      go_wp2_with fail
      refine HC.out.mono ?_
      rintro e w1 ⟨rfl, hb⟩
      have HB := Lib.hid hb
      clear hb HC
      go_wp2
      go_ret
      exact ⟨ret_int HR.out.symm, HB.out⟩
    · have HR := Lib.hid (show resE (SL s) = 0 by rw [resE, if_neg (fun k => k h0), if_neg h1])
      have t1 : decide (cmpQ (rval (SL s)) 0 < 0) = false := decide_eq_false (fun k => h1 ((cmpQ_zero _).1 k))
      clear he h0 h1
      generalize cmpQ (rval (SL s)) 0 = k at *
      go_enter Tryz.func66, Tryz.ntmps66
      go_wp2_with fail
      refine HC.out.mono ?_
      rintro e w1 ⟨rfl, hb⟩
      have HB := Lib.hid hb
      clear hb HC
      go_wp2
      go_ret
      exact ⟨ret_int HR.out.symm, HB.out⟩
  · have hc : rAll [SL s, [48]] = rchk (SL s) := by simp [rAll, h0]
    have he : ratCmp (SL s) [48] = (0, rchk (SL s)) := by rw [ratCmp, if_neg (by rw [hc]; exact h0), hc]
    have HR := Lib.hid (show resE (SL s) = rchk (SL s) by rw [resE, if_pos h0])
    rw [he] at HC
    have t1 : (rchk (SL s) == 0) = false := beq_eq_false_iff_ne.2 h0
    clear he hc h0
    generalize rchk (SL s) = k at *
    go_enter Tryz.func66, Tryz.ntmps66
    go_wp2_with fail
    refine HC.out.mono ?_
    rintro e w1 ⟨rfl, hb⟩
    have HB := Lib.hid hb
    clear hb HC
    go_wp2
    go_ret
    exact ⟨ret_int HR.out.symm, HB.out⟩
theorem incB_step {l : List Rat} {k : Nat} {x y : Rat} (hx : l[k]? = some x) (hy : l[k + 1]? = some y) : incB (l.drop k) = (decide (x < y) && incB (l.drop (k + 1))) := by
  obtain ⟨h1, h2⟩ := List.getElem?_eq_some_iff.1 hx
  obtain ⟨h3, h4⟩ := List.getElem?_eq_some_iff.1 hy
  rw [List.drop_eq_getElem_cons h1, List.drop_eq_getElem_cons h3, h2, h4, incB]
theorem incB_end {l : List Rat} {k : Nat} (h : l.length ≤ k + 1) : incB (l.drop k) = true := by
  rcases Nat.lt_or_ge k l.length with h1 | h1
  · rw [List.drop_eq_getElem_cons h1, List.drop_of_length_le (by omega)]; rfl
  · rw [List.drop_of_length_le h1]; rfl
theorem cmpQ_ge {x y : Rat} : (0 ≤ cmpQ x y) ↔ ¬ x < y := by
  rcases cmpQ_cases x y with h | h | h
  · rw [h]; have := (cmpQ_lt _ _).1 h; exact ⟨fun k => absurd k (by decide), fun k => absurd this k⟩
  · rw [h]; have := (cmpQ_eq _ _).1 h; exact ⟨fun _ => by grind, fun _ => by decide⟩
  · rw [h]; have := (cmpQ_gt _ _).1 h; exact ⟨fun _ => by grind, fun _ => by decide⟩
set_option maxRecDepth 100000 in
set_option maxHeartbeats 2000000 in
theorem pts_any (l : List ByteArray) (n : Nat) (A : Option Addr) (c : Nat) (w : World) (hr : Reads w w.heap.size 1 A n (l.map Sv)) (hs : Sh1 l) (htab : Tab w) :
    Calls Tryz.prog 53 #[.slice A n c] w fun e w' => e = .returned (I (ptsE (tx1 l))) ∧ Below w.heap.size w w' := by
  have hl : l.length = n := by have := hr.1; simpa using this
  have htl : (tx1 l).length = n := by rw [tx1, List.length_map, hl]
  by_cases h16 : 16 < n
  · have t : decide (16 < (n : Int)) = true := decide_eq_true (by omega)
    have HF := Lib.hid (show ptsE (tx1 l) = 2 by rw [ptsE, htl, if_pos h16])
    clear h16 hl htl
    go_enter Tryz.func53, Tryz.ntmps53
    go_wp2
    go_ret
    exact ⟨ret_int HF.out.symm, Below.refl _ _⟩
  · have t : decide (16 < (n : Int)) = false := decide_eq_false (by omega)
    by_cases h2 : n < 2
    · have t2 : decide ((n : Int) < 2) = true := decide_eq_true (by omega)
      have HF := Lib.hid (show ptsE (tx1 l) = 8 by rw [ptsE, htl, if_neg h16, if_pos h2])
      clear h16 h2 hl htl
      go_enter Tryz.func53, Tryz.ntmps53
      go_wp2
      go_ret
      exact ⟨ret_int HF.out.symm, Below.refl _ _⟩
    · have t2 : decide ((n : Int) < 2) = false := decide_eq_false (by omega)
      have HA := Lib.hid (rall_any l n A c w hr (by omega) hs htab)
      by_cases h0 : rAll (l.map SL) = 0
      · have HV := Lib.hid (show ∀ s ∈ l, rchk (SL s) = 0 from fun s hs' => (chkV_ok (l := tx1 l) (by rw [chkV, if_neg (by omega)]; exact h0)).2 _ (List.mem_map.2 ⟨s, hs', rfl⟩))
        have HF := Lib.hid (show ptsE (tx1 l) = if incB ((valsV (tx1 l)).drop 0) = true then 0 else 3 by
          rw [ptsE, htl, if_neg h16, if_neg h2, if_neg (fun k => k h0)]; rfl)
        have HS := Lib.hid hs
        have HRD := Lib.hid hr
        have HTB := Lib.hid htab
        have HL := Lib.hid hl
        have hn16 : n ≤ 16 := by omega
        have hn2 : 2 ≤ n := by omega
        rw [h0] at HA
        clear h0 hs hr htab hl htl h16 h2
        go_enter Tryz.func53, Tryz.ntmps53
        go_wp2_with fail
        refine HA.out.mono ?_
        rintro e w1 ⟨rfl, hb⟩
        have HB := Lib.hid hb
        clear hb HA
        go_wp2
        go_loopg [4] (n - 0) (fun r v wr => ∃ k : Nat, r = n - k ∧ v = I ((k : Int) + 1) ∧ k + 1 ≤ n ∧ Hid (ptsE (tx1 l) = if incB ((valsV (tx1 l)).drop k) = true then 0 else 3) ∧ Hid (Below w.heap.size w wr))
        case atStart => exact ⟨0, rfl, rfl, by omega, HF, HB⟩
        case round =>
          clear HF HB
          obtain ⟨k, rfl, rfl, hk, HF, HB⟩ := hrel
          obtain ⟨wa, rfl⟩ : ∃ wa : World, wa = wr := ⟨_, rfl⟩
          by_cases hlt : k + 1 < n
          · obtain ⟨x, hx⟩ : ∃ x, l[k]? = some x := ⟨_, List.getElem?_eq_getElem (by rw [HL.out]; omega)⟩
            obtain ⟨y, hy⟩ : ∃ y, l[k + 1]? = some y := ⟨_, List.getElem?_eq_getElem (by rw [HL.out]; omega)⟩
            have hrd := (HRD.out.below HB.out).more HB.out.size
            obtain ⟨b, off, u, rfl, _, hu, hc⟩ := hrd.at1 (k := k) (by omega)
            obtain ⟨b', off', v, e', _, hv, hd⟩ := hrd.at1 (k := k + 1) hlt
            obtain ⟨rfl, rfl⟩ : b = b' ∧ off = off' := by injection e' with e'; injection e' with e1 e2; exact ⟨e1, e2⟩
            obtain rfl : u = Sv x := by rw [List.getElem?_map, hx] at hu; simpa using hu.symm
            obtain rfl : v = Sv y := by rw [List.getElem?_map, hy] at hv; simpa using hv.symm
            have mx := List.mem_of_getElem? hx
            have my := List.mem_of_getElem? hy
            have HSX := Lib.hid (HS.out x mx)
            have HSY := Lib.hid (HS.out y my)
            have HCE := Lib.hid (rCmp_ok' (HV.out x mx) (HV.out y my))
            have HST := Lib.hid (incB_step (l := valsV (tx1 l)) (k := k) (x := rval (SL x)) (y := rval (SL y)) (by simp [valsV, tx1, hx]) (by simp [valsV, tx1, hy]))
            have hs1 : (k : Int) + 1 - 1 = k := by omega
            have hwk : IntKind.i64.wrap ((k : Int)) = k := IntWalk.i64_in _ (by omega)
            have hnk : ¬ n ≤ k := by omega
            have hkl : k < n := by omega
            have hp0 : ¬ ((k : Int) + 1 < 0) := by omega
            clear e' hu hv hx hy mx my hrd
            by_cases hxy : rval (SL x) < rval (SL y)
            · have tg : decide (0 ≤ cmpQ (rval (SL x)) (rval (SL y))) = false := decide_eq_false fun h => cmpQ_ge.1 h hxy
              have HN := Lib.hid (show ptsE (tx1 l) = if incB ((valsV (tx1 l)).drop (k + 1)) = true then 0 else 3 by rw [HF.out, HST.out, decide_eq_true hxy, Bool.true_and])
              clear HF HST hxy
              have CX := Lib.hid (cell_below hc (below_draw wa))
              have CY := Lib.hid (cell_below hd (below_draw wa))
              have HBD := Lib.hid (HB.out.trans ((below_draw wa).mono HB.out.size))
              clear HB
              go_upto_region 11 with (fail)
              clear hc hd
              refine wp_region_c (fun w' => w'.cell? ⟨b, off + k, none⟩ = some (Sv x) ∧ w'.cell? ⟨b, off + (k + 1), none⟩ = some (Sv y)) 14 (by kernel_rfl) ?_
              generalize wa.drew = W1 at *
              refine wpAnyC_take8 (i := 0) (oi := _) (v := .slice (some ⟨b, off, none⟩) n c) rfl (by kernel_rfl) (by kernel_rfl) (by kernel_rfl) (by kernel_rfl) (by kernel_rfl) (by kernel_rfl) (fun _ _ _ h => h) (Or.inl ⟨by rfl, ?_⟩) ⟨CX.out, CY.out⟩ ?_
              · intro w hSw
                obtain ⟨s0, s1⟩ := hSw
                go_simp
              try simp only [Act.put, List.setIfInBounds_toArray]
              refine wpAnyC_take8 (i := 1) (oi := _) (v := I ((k : Int) + 1)) rfl (by kernel_rfl) (by kernel_rfl) (by kernel_rfl) (by kernel_rfl) (by kernel_rfl) (by kernel_rfl) (fun _ _ _ h => h) (Or.inl ⟨by rfl, ?_⟩) ⟨CX.out, CY.out⟩ ?_
              · intro w hSw
                obtain ⟨s0, s1⟩ := hSw
                go_simp
              try simp only [Act.put]
              refine wpAnyC_take8 (i := 2) (oi := _) (v := I k) rfl (by kernel_rfl) (by kernel_rfl) (by kernel_rfl) (by kernel_rfl) (by kernel_rfl) (by kernel_rfl) (fun _ _ _ h => h) (Or.inl ⟨by rfl, ?_⟩) ⟨CX.out, CY.out⟩ ?_
              · intro w hSw
                obtain ⟨s0, s1⟩ := hSw
                go_simp
              try simp only [Act.put]
              refine wpAnyC_take8 (i := 3) (oi := _) (v := .pointer (some ⟨b, off + k, none⟩)) rfl (by kernel_rfl) (by kernel_rfl) (by kernel_rfl) (by kernel_rfl) (by kernel_rfl) (by kernel_rfl) (fun _ _ _ h => h) (Or.inl ⟨by rfl, ?_⟩) ⟨CX.out, CY.out⟩ ?_
              · intro w hSw
                obtain ⟨s0, s1⟩ := hSw
                go_simp
              try simp only [Act.put]
              refine wpAnyC_take8 (i := 4) (oi := _) (v := Sv x) rfl (by kernel_rfl) (by kernel_rfl) (by kernel_rfl) (by kernel_rfl) (by kernel_rfl) (by kernel_rfl) (fun _ _ _ h => h) (Or.inl ⟨by rfl, ?_⟩) ⟨CX.out, CY.out⟩ ?_
              · intro w hSw
                obtain ⟨s0, s1⟩ := hSw
                go_simp
              try simp only [Act.put]
              refine wpAnyC_take8 (i := 5) (oi := _) (v := .slice (some ⟨b, off, none⟩) n c) rfl (by kernel_rfl) (by kernel_rfl) (by kernel_rfl) (by kernel_rfl) (by kernel_rfl) (by kernel_rfl) (fun _ _ _ h => h) (Or.inl ⟨by rfl, ?_⟩) ⟨CX.out, CY.out⟩ ?_
              · intro w hSw
                obtain ⟨s0, s1⟩ := hSw
                go_simp
              try simp only [Act.put]
              refine wpAnyC_take8 (i := 6) (oi := _) (v := I ((k : Int) + 1)) rfl (by kernel_rfl) (by kernel_rfl) (by kernel_rfl) (by kernel_rfl) (by kernel_rfl) (by kernel_rfl) (fun _ _ _ h => h) (Or.inl ⟨by rfl, ?_⟩) ⟨CX.out, CY.out⟩ ?_
              · intro w hSw
                obtain ⟨s0, s1⟩ := hSw
                go_simp
              try simp only [Act.put]
              refine wpAnyC_take8 (i := 7) (oi := _) (v := .pointer (some ⟨b, off + (k + 1), none⟩)) rfl (by kernel_rfl) (by kernel_rfl) (by kernel_rfl) (by kernel_rfl) (by kernel_rfl) (by kernel_rfl) (fun _ _ _ h => h) (Or.inl ⟨by rfl, ?_⟩) ⟨CX.out, CY.out⟩ ?_
              · intro w hSw
                obtain ⟨s0, s1⟩ := hSw
                go_simp
              try simp only [Act.put]
              refine wpAnyC_take8 (i := 8) (oi := _) (v := Sv y) rfl (by kernel_rfl) (by kernel_rfl) (by kernel_rfl) (by kernel_rfl) (by kernel_rfl) (by kernel_rfl) (fun _ _ _ h => h) (Or.inl ⟨by rfl, ?_⟩) ⟨CX.out, CY.out⟩ ?_
              · intro w hSw
                obtain ⟨s0, s1⟩ := hSw
                go_simp
              try simp only [Act.put]
              refine wpAnyC_one (i := 9) (by kernel_rfl) rfl (fun K hK => ?_)
              go_simp
              go_at_call 19
              refine (ratCmp_any x y W1 HSX.out HSY.out (tab_below HTB.out HBD.out)).mono ?_
              rintro e w2 ⟨rfl, hb⟩
              have HB2 := Lib.hid (HBD.out.trans (hb.mono HBD.out.size))
              have CX2 := Lib.hid (cell_below CX.out hb)
              have CY2 := Lib.hid (cell_below CY.out hb)
              rw [HCE.out]
              clear hb
              refine hK.out _ _ (fun _ => ⟨CX2.out, CY2.out⟩) ?_
              clear hK K
              refine wpAnyC_take8 (i := 10) (oi := _) (v := .tuple #[I (cmpQ (rval (SL x)) (rval (SL y))), I 0]) rfl (by kernel_rfl) (by kernel_rfl) (by kernel_rfl) (by kernel_rfl) (by kernel_rfl) (by kernel_rfl) (fun _ _ _ h => h) (Or.inl ⟨by rfl, ?_⟩) ⟨CX2.out, CY2.out⟩ ?_
              · intro w hSw
                obtain ⟨s0, s1⟩ := hSw
                go_simp
              try simp only [Act.put, List.setIfInBounds_toArray]
              refine wpAnyC_take8 (i := 11) (oi := _) (v := I (cmpQ (rval (SL x)) (rval (SL y)))) rfl (by kernel_rfl) (by kernel_rfl) (by kernel_rfl) (by kernel_rfl) (by kernel_rfl) (by kernel_rfl) (fun _ _ _ h => h) (Or.inl ⟨by rfl, ?_⟩) ⟨CX2.out, CY2.out⟩ ?_
              · intro w hSw
                obtain ⟨s0, s1⟩ := hSw
                go_simp
              try simp only [Act.put]
              refine wpAnyC_take8 (i := 13) (oi := _) (v := I (cmpQ (rval (SL x)) (rval (SL y)))) rfl (by kernel_rfl) (by kernel_rfl) (by kernel_rfl) (by kernel_rfl) (by kernel_rfl) (by kernel_rfl) (fun _ _ _ h => h) (Or.inl ⟨by rfl, ?_⟩) ⟨CX2.out, CY2.out⟩ ?_
              · intro w hSw
                obtain ⟨s0, s1⟩ := hSw
                go_simp
              try simp only [Act.put]
              refine wpAnyC_take8 (i := 12) (oi := _) (v := I 0) rfl (by kernel_rfl) (by kernel_rfl) (by kernel_rfl) (by kernel_rfl) (by kernel_rfl) (by kernel_rfl) (fun _ _ _ h => h) (Or.inl ⟨by rfl, ?_⟩) ⟨CX2.out, CY2.out⟩ ?_
              · intro w hSw
                obtain ⟨s0, s1⟩ := hSw
                go_simp
              try simp only [Act.put]
              refine wpAnyC_one (i := 14) (by kernel_rfl) rfl (fun K hK => ?_)
              go_simp
              refine hK.out _ _ (fun h => absurd h (by decide)) ?_
              clear hK K CX CY CX2 CY2 HBD HSX HSY HCE
              refine wpAnyC_done (by kernel_rfl) ?_ _
              generalize cmpQ (rval (SL x)) (rval (SL y)) = kk at *
              go_wp2
              go_roundg (n - (k + 1))
              case measure => omega
              case rel => exact ⟨k + 1, rfl, by go_num, by omega, HN, HB2⟩
            · have tg : decide (0 ≤ cmpQ (rval (SL x)) (rval (SL y))) = true := decide_eq_true (cmpQ_ge.2 hxy)
              have HN := Lib.hid (show ptsE (tx1 l) = 3 by rw [HF.out, HST.out, decide_eq_false hxy]; rfl)
              clear HF HST hxy
              have CX := Lib.hid (cell_below hc (below_draw wa))
              have CY := Lib.hid (cell_below hd (below_draw wa))
              have HBD := Lib.hid (HB.out.trans ((below_draw wa).mono HB.out.size))
              clear HB
              go_upto_region 11 with (fail)
              clear hc hd
              refine wp_region_c (fun w' => w'.cell? ⟨b, off + k, none⟩ = some (Sv x) ∧ w'.cell? ⟨b, off + (k + 1), none⟩ = some (Sv y)) 14 (by kernel_rfl) ?_
              generalize wa.drew = W1 at *
              refine wpAnyC_take8 (i := 0) (oi := _) (v := .slice (some ⟨b, off, none⟩) n c) rfl (by kernel_rfl) (by kernel_rfl) (by kernel_rfl) (by kernel_rfl) (by kernel_rfl) (by kernel_rfl) (fun _ _ _ h => h) (Or.inl ⟨by rfl, ?_⟩) ⟨CX.out, CY.out⟩ ?_
              · intro w hSw
                obtain ⟨s0, s1⟩ := hSw
                go_simp
              try simp only [Act.put, List.setIfInBounds_toArray]
              refine wpAnyC_take8 (i := 1) (oi := _) (v := I ((k : Int) + 1)) rfl (by kernel_rfl) (by kernel_rfl) (by kernel_rfl) (by kernel_rfl) (by kernel_rfl) (by kernel_rfl) (fun _ _ _ h => h) (Or.inl ⟨by rfl, ?_⟩) ⟨CX.out, CY.out⟩ ?_
              · intro w hSw
                obtain ⟨s0, s1⟩ := hSw
                go_simp
              try simp only [Act.put]
              refine wpAnyC_take8 (i := 2) (oi := _) (v := I k) rfl (by kernel_rfl) (by kernel_rfl) (by kernel_rfl) (by kernel_rfl) (by kernel_rfl) (by kernel_rfl) (fun _ _ _ h => h) (Or.inl ⟨by rfl, ?_⟩) ⟨CX.out, CY.out⟩ ?_
              · intro w hSw
                obtain ⟨s0, s1⟩ := hSw
                go_simp
              try simp only [Act.put]
              refine wpAnyC_take8 (i := 3) (oi := _) (v := .pointer (some ⟨b, off + k, none⟩)) rfl (by kernel_rfl) (by kernel_rfl) (by kernel_rfl) (by kernel_rfl) (by kernel_rfl) (by kernel_rfl) (fun _ _ _ h => h) (Or.inl ⟨by rfl, ?_⟩) ⟨CX.out, CY.out⟩ ?_
              · intro w hSw
                obtain ⟨s0, s1⟩ := hSw
                go_simp
              try simp only [Act.put]
              refine wpAnyC_take8 (i := 4) (oi := _) (v := Sv x) rfl (by kernel_rfl) (by kernel_rfl) (by kernel_rfl) (by kernel_rfl) (by kernel_rfl) (by kernel_rfl) (fun _ _ _ h => h) (Or.inl ⟨by rfl, ?_⟩) ⟨CX.out, CY.out⟩ ?_
              · intro w hSw
                obtain ⟨s0, s1⟩ := hSw
                go_simp
              try simp only [Act.put]
              refine wpAnyC_take8 (i := 5) (oi := _) (v := .slice (some ⟨b, off, none⟩) n c) rfl (by kernel_rfl) (by kernel_rfl) (by kernel_rfl) (by kernel_rfl) (by kernel_rfl) (by kernel_rfl) (fun _ _ _ h => h) (Or.inl ⟨by rfl, ?_⟩) ⟨CX.out, CY.out⟩ ?_
              · intro w hSw
                obtain ⟨s0, s1⟩ := hSw
                go_simp
              try simp only [Act.put]
              refine wpAnyC_take8 (i := 6) (oi := _) (v := I ((k : Int) + 1)) rfl (by kernel_rfl) (by kernel_rfl) (by kernel_rfl) (by kernel_rfl) (by kernel_rfl) (by kernel_rfl) (fun _ _ _ h => h) (Or.inl ⟨by rfl, ?_⟩) ⟨CX.out, CY.out⟩ ?_
              · intro w hSw
                obtain ⟨s0, s1⟩ := hSw
                go_simp
              try simp only [Act.put]
              refine wpAnyC_take8 (i := 7) (oi := _) (v := .pointer (some ⟨b, off + (k + 1), none⟩)) rfl (by kernel_rfl) (by kernel_rfl) (by kernel_rfl) (by kernel_rfl) (by kernel_rfl) (by kernel_rfl) (fun _ _ _ h => h) (Or.inl ⟨by rfl, ?_⟩) ⟨CX.out, CY.out⟩ ?_
              · intro w hSw
                obtain ⟨s0, s1⟩ := hSw
                go_simp
              try simp only [Act.put]
              refine wpAnyC_take8 (i := 8) (oi := _) (v := Sv y) rfl (by kernel_rfl) (by kernel_rfl) (by kernel_rfl) (by kernel_rfl) (by kernel_rfl) (by kernel_rfl) (fun _ _ _ h => h) (Or.inl ⟨by rfl, ?_⟩) ⟨CX.out, CY.out⟩ ?_
              · intro w hSw
                obtain ⟨s0, s1⟩ := hSw
                go_simp
              try simp only [Act.put]
              refine wpAnyC_one (i := 9) (by kernel_rfl) rfl (fun K hK => ?_)
              go_simp
              go_at_call 19
              refine (ratCmp_any x y W1 HSX.out HSY.out (tab_below HTB.out HBD.out)).mono ?_
              rintro e w2 ⟨rfl, hb⟩
              have HB2 := Lib.hid (HBD.out.trans (hb.mono HBD.out.size))
              have CX2 := Lib.hid (cell_below CX.out hb)
              have CY2 := Lib.hid (cell_below CY.out hb)
              rw [HCE.out]
              clear hb
              refine hK.out _ _ (fun _ => ⟨CX2.out, CY2.out⟩) ?_
              clear hK K
              refine wpAnyC_take8 (i := 10) (oi := _) (v := .tuple #[I (cmpQ (rval (SL x)) (rval (SL y))), I 0]) rfl (by kernel_rfl) (by kernel_rfl) (by kernel_rfl) (by kernel_rfl) (by kernel_rfl) (by kernel_rfl) (fun _ _ _ h => h) (Or.inl ⟨by rfl, ?_⟩) ⟨CX2.out, CY2.out⟩ ?_
              · intro w hSw
                obtain ⟨s0, s1⟩ := hSw
                go_simp
              try simp only [Act.put, List.setIfInBounds_toArray]
              refine wpAnyC_take8 (i := 11) (oi := _) (v := I (cmpQ (rval (SL x)) (rval (SL y)))) rfl (by kernel_rfl) (by kernel_rfl) (by kernel_rfl) (by kernel_rfl) (by kernel_rfl) (by kernel_rfl) (fun _ _ _ h => h) (Or.inl ⟨by rfl, ?_⟩) ⟨CX2.out, CY2.out⟩ ?_
              · intro w hSw
                obtain ⟨s0, s1⟩ := hSw
                go_simp
              try simp only [Act.put]
              refine wpAnyC_take8 (i := 13) (oi := _) (v := I (cmpQ (rval (SL x)) (rval (SL y)))) rfl (by kernel_rfl) (by kernel_rfl) (by kernel_rfl) (by kernel_rfl) (by kernel_rfl) (by kernel_rfl) (fun _ _ _ h => h) (Or.inl ⟨by rfl, ?_⟩) ⟨CX2.out, CY2.out⟩ ?_
              · intro w hSw
                obtain ⟨s0, s1⟩ := hSw
                go_simp
              try simp only [Act.put]
              refine wpAnyC_take8 (i := 12) (oi := _) (v := I 0) rfl (by kernel_rfl) (by kernel_rfl) (by kernel_rfl) (by kernel_rfl) (by kernel_rfl) (by kernel_rfl) (fun _ _ _ h => h) (Or.inl ⟨by rfl, ?_⟩) ⟨CX2.out, CY2.out⟩ ?_
              · intro w hSw
                obtain ⟨s0, s1⟩ := hSw
                go_simp
              try simp only [Act.put]
              refine wpAnyC_one (i := 14) (by kernel_rfl) rfl (fun K hK => ?_)
              go_simp
              refine hK.out _ _ (fun h => absurd h (by decide)) ?_
              clear hK K CX CY CX2 CY2 HBD HSX HSY HCE
              refine wpAnyC_done (by kernel_rfl) ?_ _
              generalize cmpQ (rval (SL x)) (rval (SL y)) = kk at *
              go_wp2
              go_ret
              exact ⟨ret_int HN.out.symm, HB2.out⟩
          · have HE := Lib.hid (show ptsE (tx1 l) = 0 by rw [HF.out, incB_end (by simp [valsV, tx1, HL.out]; omega)]; rfl)
            clear HF
            go_wp2
            go_ret
            exact ⟨ret_int HE.out.symm, HB.out⟩
      · have tc : (rAll (l.map SL) != 0) = true := bne_iff_ne.2 h0
        have HF := Lib.hid (show ptsE (tx1 l) = rAll (l.map SL) by rw [ptsE, htl, if_neg h16, if_neg h2, if_pos (show rAll (tx1 l) ≠ 0 from h0)]; rfl)
        generalize rAll (l.map SL) = ra at *
        clear h0 hs hr htab hl htl h16 h2
        go_enter Tryz.func53, Tryz.ntmps53
        go_wp2_with fail
        refine HA.out.mono ?_
        rintro e w1 ⟨rfl, hb⟩
        have HB := Lib.hid hb
        clear hb HA
        go_wp2
        go_ret
        exact ⟨ret_int HF.out.symm, HB.out⟩
end Go.Proofs.YtmnedfkinepnfaaGreatDoor
namespace Go.Proofs.YtmnedfkinepnfaaGreatDoor
open Go.RowKit

set_option maxRecDepth 100000 in
set_option maxHeartbeats 1000000 in
theorem lchk_any (r : ByteArray) (l : List ByteArray) (n : Nat) (A : Option Addr) (c : Nat) (w : World) (sr : r.size ≤ 9223372036854775807) (hr : Reads w w.heap.size 1 A n (l.map Sv)) (hs : Sh1 l) (htab : Tab w) :
    Calls Tryz.prog 54 #[.string r, .slice A n c] w fun e w' => e = .returned (I (lchk (SL r) (tx1 l))) ∧ Below w.heap.size w w' := by
  have HC := Lib.hid (res_any r w sr htab)
  have HRD := Lib.hid hr
  have HS := Lib.hid hs
  have HTB := Lib.hid htab
  clear hr hs htab
  by_cases h0 : resE (SL r) = 0
  · have HF := Lib.hid (show lchk (SL r) (tx1 l) = ptsE (tx1 l) by rw [lchk, if_neg (fun k => k h0)])
    rw [h0] at HC
    clear h0
    go_enter Tryz.func54, Tryz.ntmps54
    go_wp2_with fail
    refine HC.out.mono ?_
    rintro e w1 ⟨rfl, hb⟩
    have HB := Lib.hid hb
    have HP := Lib.hid (pts_any l n A c w1 ((HRD.out.below hb).more hb.size) HS.out (tab_below HTB.out hb))
    clear hb HC
    go_wp2_with fail
    refine HP.out.mono ?_
    rintro e w2 ⟨rfl, hb⟩
    have HB2 := Lib.hid (HB.out.trans (hb.mono HB.out.size))
    clear hb HP HB
    go_wp2
    go_ret
    exact ⟨ret_int HF.out.symm, HB2.out⟩
  · have HF := Lib.hid (show lchk (SL r) (tx1 l) = resE (SL r) by rw [lchk, if_pos h0])
    have tc : (resE (SL r) != 0) = true := bne_iff_ne.2 h0
    generalize resE (SL r) = k at *
    clear h0
    go_enter Tryz.func54, Tryz.ntmps54
    go_wp2_with fail
    refine HC.out.mono ?_
    rintro e w1 ⟨rfl, hb⟩
    have HB := Lib.hid hb
    clear hb HC
    go_wp2
    go_ret
    exact ⟨ret_int HF.out.symm, HB.out⟩
theorem tx_bad {w w' : World} {r : List UInt8 × Int} {c : Int} (h : r = ([], c)) (hb : Below w.heap.size w w') : RetTx w r (.returned (.tuple #[.string ⟨#[]⟩, I c])) w' := ⟨by rw [h], hb⟩
set_option maxRecDepth 100000 in
set_option maxHeartbeats 4000000 in
theorem exact_any (r f : ByteArray) (w : World) (sr : r.size ≤ 9223372036854775807) (sf : f.size ≤ 9223372036854775807) (htab : Tab w) :
    Calls Tryz.prog 17 #[.string r, .string f] w (RetTx w (exactT (SL r) (SL f))) := by
  have HC := Lib.hid (res_any r w sr htab)
  have HTB := Lib.hid htab
  clear htab
  by_cases h0 : resE (SL r) = 0
  · have hvr : rchk (SL r) = 0 := by
      unfold resE at h0
      split at h0
      · rename_i k; exact absurd h0 k
      · rename_i k; exact Decidable.not_not.1 k
    have HVR := Lib.hid (rchk_val _ hvr)
    rw [h0] at HC
    by_cases h1 : rchk (SL f) = 0
    · have HVF := Lib.hid (rchk_val _ h1)
      have HRES := Lib.hid (show exactT (SL r) (SL f) = ratTx (rval (SL r) * rval (SL f) * rval (SL f)) by rw [exactT, if_neg (fun k => k h0), if_neg (fun k => k h1)])
      have H1 := Lib.hid h1
      clear h0 h1 hvr
      go_enter Tryz.func17, Tryz.ntmps17
      go_wp2_with fail
      refine HC.out.mono ?_
      rintro e w1 ⟨rfl, hb⟩
      have HB1 := Lib.hid hb
      have hcf := rchk_any f w1 sf (tab_below HTB.out hb)
      rw [H1.out] at hcf
      have HCF := Lib.hid hcf
      clear hb HC hcf
      go_wp2_with fail
      refine HCF.out.mono ?_
      rintro e w2 ⟨rfl, hb⟩
      have HB2 := Lib.hid (HB1.out.trans (hb.mono HB1.out.size))
      have HP := Lib.hid (parse_any f w2 sf HVF.out)
      clear hb HCF HB1
      go_wp2_with fail
      refine HP.out.mono ?_
      rintro e w3 ⟨v, rfl, hv, hb⟩
      have hB3 := HB2.out.trans (hb.mono HB2.out.size)
      obtain ⟨xb, xn, xnl, xnc, xd, xdl, xdc, rfl⟩ := hv.bools
      obtain ⟨vx, hb0⟩ := boxes1 w3 (.bool xb) (.slice xn xnl xnc) (.bool false) (.slice xd xdl xdc)
      have hd := below_draw (w3.alloc (.cells #[.bool xb, .slice xn xnl xnc, .bool false, .slice xd xdl xdc] ratT))
      have VX := Lib.hid (vx.below hd)
      have HXQ := Lib.hid ((hv.ext hb0).ext hd)
      have HB4 := Lib.hid ((hB3.trans (hb0.mono hB3.size)).trans (hd.mono (hB3.trans (hb0.mono hB3.size)).size))
      clear vx hd hb0 hb hv HP hB3 HB2
      unfold ratT at *
      go_upto_region 8 with (fail)
      generalize w3.heap.size = xB at *
      generalize w3.alloc (Obj.cells #[Value.bool xb, Value.slice xn xnl xnc, Value.bool false, Value.slice xd xdl xdc] 82) = W0 at *
      refine wp_region_c (fun w' => w'.cell? ⟨xB, 0, none⟩ = some (.bool xb) ∧ w'.cell? ⟨xB, 1, none⟩ = some (.slice xn xnl xnc) ∧ w'.cell? ⟨xB, 2, none⟩ = some (.bool false) ∧ w'.cell? ⟨xB, 3, none⟩ = some (.slice xd xdl xdc)) 10 (by kernel_rfl) ?_
      generalize W0.drew = W1 at *
      refine wpAnyC_take8 (i := 0) (oi := _) (v := .string r) rfl (by kernel_rfl) (by kernel_rfl) (by kernel_rfl) (by kernel_rfl) (by kernel_rfl) (by kernel_rfl) (fun _ _ _ h => h) (Or.inl ⟨by rfl, ?_⟩) ⟨VX.out.c0, VX.out.c1, VX.out.c2, VX.out.c3⟩ ?_
      · intro w hSw
        obtain ⟨s0, s1, s2, s3⟩ := hSw
        go_simp
      try simp only [Act.put, List.setIfInBounds_toArray]
      refine wpAnyC_take8 (i := 2) (oi := _) (v := .agg #[.bool xb, .slice xn xnl xnc, .bool false, .slice xd xdl xdc]) rfl (by kernel_rfl) (by kernel_rfl) (by kernel_rfl) (by kernel_rfl) (by kernel_rfl) (by kernel_rfl) (fun _ _ _ h => h) (Or.inl ⟨by rfl, ?_⟩) ⟨VX.out.c0, VX.out.c1, VX.out.c2, VX.out.c3⟩ ?_
      · intro w hSw
        obtain ⟨s0, s1, s2, s3⟩ := hSw
        go_simp
      try simp only [Act.put]
      refine wpAnyC_take8 (i := 4) (oi := _) (v := .agg #[.bool xb, .slice xn xnl xnc, .bool false, .slice xd xdl xdc]) rfl (by kernel_rfl) (by kernel_rfl) (by kernel_rfl) (by kernel_rfl) (by kernel_rfl) (by kernel_rfl) (fun _ _ _ h => h) (Or.inl ⟨by rfl, ?_⟩) ⟨VX.out.c0, VX.out.c1, VX.out.c2, VX.out.c3⟩ ?_
      · intro w hSw
        obtain ⟨s0, s1, s2, s3⟩ := hSw
        go_simp
      try simp only [Act.put]
      refine wpAnyC_one (i := 1) (by kernel_rfl) rfl (fun K hK => ?_)
      go_simp
      go_at_call 56
      refine (parse_any r W1 sr HVR.out).mono ?_
      rintro e w5 ⟨v5, rfl, hv, hb⟩
      have HB5 := Lib.hid (HB4.out.trans (hb.mono HB4.out.size))
      have VX5 := Lib.hid (VX.out.below hb)
      have HX5 := Lib.hid (HXQ.out.ext hb)
      have HV5 := Lib.hid hv
      clear hb hv
      refine hK.out _ _ (fun _ => ⟨VX5.out.c0, VX5.out.c1, VX5.out.c2, VX5.out.c3⟩) ?_
      clear hK K
      try simp only [Act.put, List.setIfInBounds_toArray, List.set_cons_zero, List.set_cons_succ]
      refine wpAnyC_one (i := 3) (by kernel_rfl) rfl (fun K hK => ?_)
      go_simp
      go_at_call 67
      refine (rmul_any _ _ (rval (SL r)) (rval (SL f)) _ HV5.out HX5.out (N := 210) (by decide) (val_fit HVR.out) (val_fit HVF.out)).mono ?_
      rintro e w6 ⟨v6, rfl, hv, hb⟩
      have HB6 := Lib.hid (HB5.out.trans (hb.mono HB5.out.size))
      have VX6 := Lib.hid (VX5.out.below hb)
      have HX6 := Lib.hid (HX5.out.ext hb)
      have HV6 := Lib.hid hv
      clear hb hv
      refine hK.out _ _ (fun _ => ⟨VX6.out.c0, VX6.out.c1, VX6.out.c2, VX6.out.c3⟩) ?_
      clear hK K
      try simp only [Act.put, List.setIfInBounds_toArray, List.set_cons_zero, List.set_cons_succ]
      refine wpAnyC_one (i := 5) (by kernel_rfl) rfl (fun K hK => ?_)
      go_simp
      go_at_call 67
      refine (rmul_any _ _ (rval (SL r) * rval (SL f)) (rval (SL f)) _ HV6.out HX6.out (N := 210 + 210) (Nat.le_of_ble_eq_true rfl) (fitR_mul (val_fit HVR.out) (val_fit HVF.out)) ((val_fit HVF.out).mono (Nat.le_add_right 210 210))).mono ?_
      rintro e w7 ⟨v7, rfl, hv, hb⟩
      have HB7 := Lib.hid (HB6.out.trans (hb.mono HB6.out.size))
      have VX7 := Lib.hid (VX6.out.below hb)
      have HV7 := Lib.hid hv
      clear hb hv
      refine hK.out _ _ (fun _ => ⟨VX7.out.c0, VX7.out.c1, VX7.out.c2, VX7.out.c3⟩) ?_
      clear hK K
      try simp only [Act.put, List.setIfInBounds_toArray, List.set_cons_zero, List.set_cons_succ]
      refine wpAnyC_one (i := 6) (by kernel_rfl) rfl (fun K hK => ?_)
      go_simp
      go_at_call 61
      refine (lossText_any _ _ w7 HV7.out (tab_below HTB.out HB7.out)).mono ?_
      rintro e w8 ⟨rfl, hb⟩
      have HB8 := Lib.hid (HB7.out.trans (hb.mono HB7.out.size))
      have VX8 := Lib.hid (VX7.out.below hb)
      clear hb
      refine hK.out _ _ (fun _ => ⟨VX8.out.c0, VX8.out.c1, VX8.out.c2, VX8.out.c3⟩) ?_
      clear hK K
      try simp only [Act.put, List.setIfInBounds_toArray, List.set_cons_zero, List.set_cons_succ]
      refine wpAnyC_take8 (i := 7) (oi := _) (v := .string ⟨(ratTx (rval (SL r) * rval (SL f) * rval (SL f))).1.toArray⟩) rfl (by kernel_rfl) (by kernel_rfl) (by kernel_rfl) (by kernel_rfl) (by kernel_rfl) (by kernel_rfl) (fun _ _ _ h => h) (Or.inl ⟨by rfl, ?_⟩) ⟨VX8.out.c0, VX8.out.c1, VX8.out.c2, VX8.out.c3⟩ ?_
      · intro w hSw
        obtain ⟨s0, s1, s2, s3⟩ := hSw
        go_simp
      try simp only [Act.put, List.setIfInBounds_toArray]
      refine wpAnyC_take8 (i := 8) (oi := _) (v := I (ratTx (rval (SL r) * rval (SL f) * rval (SL f))).2) rfl (by kernel_rfl) (by kernel_rfl) (by kernel_rfl) (by kernel_rfl) (by kernel_rfl) (by kernel_rfl) (fun _ _ _ h => h) (Or.inl ⟨by rfl, ?_⟩) ⟨VX8.out.c0, VX8.out.c1, VX8.out.c2, VX8.out.c3⟩ ?_
      · intro w hSw
        obtain ⟨s0, s1, s2, s3⟩ := hSw
        go_simp
      try simp only [Act.put]
      refine wpAnyC_one (i := 9) (by kernel_rfl) rfl (fun K hK => ?_)
      go_simp
      refine hK.out _ _ (fun _ => ⟨VX8.out.c0, VX8.out.c1, VX8.out.c2, VX8.out.c3⟩) ?_
      clear hK K
      try simp only [Act.put, List.setIfInBounds_toArray, List.set_cons_zero, List.set_cons_succ]
      refine wpAnyC_one (i := 10) (by kernel_rfl) rfl (fun K hK => ?_)
      go_simp
      refine hK.out _ _ (fun h => absurd h (by decide)) ?_
      clear hK K
      refine wpAnyC_done (by kernel_rfl) ?_ _
      have HQ := Lib.hid (show RetTx w (exactT (SL r) (SL f)) (.returned (.tuple #[.string ⟨(ratTx (rval (SL r) * rval (SL f) * rval (SL f))).1.toArray⟩, I (ratTx (rval (SL r) * rval (SL f) * rval (SL f))).2])) w8 from ⟨by rw [HRES.out], HB8.out⟩)
      go_wp2
      go_ret2
      exact HQ.out
    · have HE := Lib.hid (show exactT (SL r) (SL f) = ([], rchk (SL f)) by rw [exactT, if_neg (fun k => k h0), if_pos h1])
      have tc : (rchk (SL f) != 0) = true := bne_iff_ne.2 h1
      clear h0 hvr
      go_enter Tryz.func17, Tryz.ntmps17
      go_wp2_with fail
      refine HC.out.mono ?_
      rintro e w1 ⟨rfl, hb⟩
      have HB1 := Lib.hid hb
      have HCF := Lib.hid (rchk_any f w1 sf (tab_below HTB.out hb))
      clear hb HC h1
      go_wp2_with fail
      refine HCF.out.mono ?_
      rintro e w2 ⟨rfl, hb⟩
      have HQ := Lib.hid (tx_bad (w := w) HE.out (HB1.out.trans (hb.mono HB1.out.size)))
      clear hb HCF HB1 HE
      generalize rchk (SL f) = k at *
      go_wp2
      go_ret2
      exact HQ.out
  · have HE := Lib.hid (show exactT (SL r) (SL f) = ([], resE (SL r)) by rw [exactT, if_pos h0])
    have tc : (resE (SL r) != 0) = true := bne_iff_ne.2 h0
    clear h0
    go_enter Tryz.func17, Tryz.ntmps17
    go_wp2_with fail
    refine HC.out.mono ?_
    rintro e w1 ⟨rfl, hb⟩
    have HQ := Lib.hid (tx_bad (w := w) HE.out hb)
    clear hb HC HE
    generalize resE (SL r) = k at *
    go_wp2
    go_ret2
    exact HQ.out
end Go.Proofs.YtmnedfkinepnfaaGreatDoor
