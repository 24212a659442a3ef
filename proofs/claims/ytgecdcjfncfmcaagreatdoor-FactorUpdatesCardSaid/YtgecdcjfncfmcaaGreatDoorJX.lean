/- slices.Equal at vectors of texts, matrix.Same. The keep's small: at most n rows and columns, and texts of at most 12 letters. -/
import Derived.Test.YtgecdcjfncfmcaaGreatDoorJP
import Derived.Deep.QuietTactic
import Derived.BigQuiet
import Derived.Deep.LoopGhost
namespace Go.Proofs.YtgecdcjfncfmcaaGreatDoor
open Go.RowKit

theorem strs_ne {x y : ByteArray} (h : x ≠ y) : (x.toList == y.toList) = false := (Lib.bytes_beq_false_iff x y).2 h
set_option maxRecDepth 100000 in
set_option maxHeartbeats 1000000 in
theorem equalV_any (xs ys : List ByteArray) (n m : Nat) (A B : Option Addr) (c d : Nat) (w : World) (hx : Reads w w.heap.size 1 A n (xs.map Sv)) (hy : Reads w w.heap.size 1 B m (ys.map Sv)) (hn : n ≤ 1000000) :
    Calls Tryz.prog 42 #[.slice A n c, .slice B m d] w fun e w' => e = .returned (.bool (decide (xs = ys))) ∧ Below w.heap.size w w' := by
  have hxl : xs.length = n := by have := hx.1; simpa using this
  have hyl : ys.length = m := by have := hy.1; simpa using this
  by_cases hl : n = m
  · subst hl
    have HX := Lib.hid hx
    have HY := Lib.hid hy
    have HXL := Lib.hid hxl
    have HYL := Lib.hid hyl
    clear hx hy hxl hyl
    go_enter Tryz.func42, Tryz.ntmps42
    go_wp2
    go_loopg [13] (n - 0) (fun r v wr => ∃ k : Nat, r = n - k ∧ v = I k ∧ k ≤ n ∧ Hid (Below w.heap.size w wr) ∧ Hid (xs.take k = ys.take k))
    case atStart => exact ⟨0, rfl, rfl, by omega, Below.refl _ _, rfl⟩
    case round =>
      obtain ⟨k, rfl, rfl, hk, HB, HO⟩ := hrel
      obtain ⟨wa, rfl⟩ : ∃ wa : World, wa = wr := ⟨_, rfl⟩
      by_cases hlt : k < n
      · obtain ⟨x, hx⟩ : ∃ x, xs[k]? = some x := ⟨_, List.getElem?_eq_getElem (by rw [HXL.out]; exact hlt)⟩
        obtain ⟨y, hy⟩ : ∃ y, ys[k]? = some y := ⟨_, List.getElem?_eq_getElem (by rw [HYL.out]; exact hlt)⟩
        obtain ⟨b1, o1, u, rfl, _, hu, hc⟩ := (HX.out.below HB.out).at1 hlt
        obtain ⟨b2, o2, v, rfl, _, hv, hd⟩ := (HY.out.below HB.out).at1 hlt
        obtain rfl : u = Sv x := by
          rw [List.getElem?_map, hx] at hu
          simpa using hu.symm
        obtain rfl : v = Sv y := by
          rw [List.getElem?_map, hy] at hv
          simpa using hv.symm
        by_cases hxy : x = y
        · subst hxy
          have HN := Lib.hid (show xs.take (k + 1) = ys.take (k + 1) by rw [List.take_add_one, List.take_add_one, HO.out, hx, hy])
          have tt : (x.toList == x.toList) = true := beq_self_eq_true _
          clear hu hv hx hy HO
          go_wp2
          go_quiet (fail)
          go_wp2
          go_roundg (n - (k + 1))
          case measure => omega
          case rel => exact ⟨k + 1, rfl, by go_num, by omega, Lib.hid (below_drewN HB.out _), HN⟩
        · have HF := Lib.hid (show decide (xs = ys) = false from decide_eq_false fun h => hxy (by rw [h, hy] at hx; exact (Option.some.inj hx).symm))
          have tt : (x.toList == y.toList) = false := strs_ne hxy
          clear hu hv hx hy HO hxy
          go_wp2
          go_quiet (fail)
          go_wp2
          go_ret
          exact ⟨ret_bool HF.out.symm, below_drewN HB.out _⟩
      · have HF := Lib.hid (show decide (xs = ys) = true by
          have := HO.out
          rw [List.take_of_length_le (by rw [HXL.out]; omega), List.take_of_length_le (by rw [HYL.out]; omega)] at this
          exact decide_eq_true this)
        clear HO
        go_wp2
        go_ret
        exact ⟨ret_bool HF.out.symm, HB.out⟩
  · have t : ((n : Int) != (m : Int)) = true := bne_iff_ne.2 (by omega)
    have HF := Lib.hid (show decide (xs = ys) = false from decide_eq_false fun h => hl (by rw [← hxl, ← hyl, h]))
    clear hx hy hxl hyl
    go_enter Tryz.func42, Tryz.ntmps42
    go_wp2
    go_ret
    exact ⟨ret_bool HF.out.symm, Below.refl _ _⟩
set_option maxRecDepth 100000 in
theorem same1_any (xs ys : List ByteArray) (n m : Nat) (A B : Option Addr) (c d : Nat) (w : World) (hx : Reads w w.heap.size 1 A n (xs.map Sv)) (hy : Reads w w.heap.size 1 B m (ys.map Sv)) (hn : n ≤ 1000000) :
    Calls Tryz.prog 94 #[.slice A n c, .slice B m d] w fun e w' => e = .returned (.bool (decide (xs = ys))) ∧ Below w.heap.size w w' := by
  have HC := Lib.hid (equalV_any xs ys n m A B c d w hx hy hn)
  clear hx hy
  go_enter Tryz.func94, Tryz.ntmps94
  go_wp2_with fail
  refine HC.out.mono ?_
  rintro e w1 ⟨rfl, hb⟩
  have HB := Lib.hid hb
  clear hb HC
  go_wp2
  go_ret
  exact ⟨rfl, HB.out⟩
set_option maxRecDepth 100000 in
set_option maxHeartbeats 1000000 in
theorem eqfunc_any (xs ys : List (List ByteArray)) (n m : Nat) (A B : Option Addr) (c d : Nat) (w : World) (hx : SMat w A n xs) (hy : SMat w B m ys) (hn : n ≤ 1000000) (hw : ∀ l ∈ xs, l.length ≤ 1000000) :
    Calls Tryz.prog 93 #[.slice A n c, .slice B m d, .func (.func 94) #[] #[]] w fun e w' => e = .returned (.bool (decide (xs = ys))) ∧ Below w.heap.size w w' := by
  have hxl : xs.length = n := by obtain ⟨_, _, h, _⟩ := hx; exact h
  have hyl : ys.length = m := by obtain ⟨_, _, h, _⟩ := hy; exact h
  by_cases hl : n = m
  · subst hl
    have HX := Lib.hid hx
    have HY := Lib.hid hy
    have HXL := Lib.hid hxl
    have HYL := Lib.hid hyl
    have HW := Lib.hid hw
    clear hx hy hxl hyl hw
    go_enter Tryz.func93, Tryz.ntmps93
    go_wp2
    go_loopg [17] (n - 0) (fun r v wr => ∃ k : Nat, r = n - k ∧ v = I k ∧ k ≤ n ∧ Hid (Below w.heap.size w wr) ∧ Hid (xs.take k = ys.take k))
    case atStart => exact ⟨0, rfl, rfl, by omega, Below.refl _ _, rfl⟩
    case round =>
      obtain ⟨k, rfl, rfl, hk, HB, HO⟩ := hrel
      obtain ⟨wa, rfl⟩ : ∃ wa : World, wa = wr := ⟨_, rfl⟩
      by_cases hlt : k < n
      · obtain ⟨x, hx⟩ : ∃ x, xs[k]? = some x := ⟨_, List.getElem?_eq_getElem (by rw [HXL.out]; exact hlt)⟩
        obtain ⟨y, hy⟩ : ∃ y, ys[k]? = some y := ⟨_, List.getElem?_eq_getElem (by rw [HYL.out]; exact hlt)⟩
        obtain ⟨b1, o1, B1, c1, rfl, hc, hrx⟩ := (HX.out.below HB.out).at_ hlt x hx
        obtain ⟨b2, o2, B2, c2, rfl, hd, hry⟩ := (HY.out.below HB.out).at_ hlt y hy
        have HC := Lib.hid (same1_any x y x.length y.length B1 B2 c1 c2 wa hrx hry (HW.out x (List.mem_of_getElem? hx)))
        have HXK := Lib.hid hx
        have HYK := Lib.hid hy
        clear hrx hry hx hy
        go_wp2_with fail
        refine HC.out.mono ?_
        rintro e w1 ⟨rfl, hb⟩
        have HB1 := Lib.hid (HB.out.trans (hb.mono HB.out.size))
        clear hb HC HB hc hd
        generalize hlx : x.length = lx at *
        generalize hly : y.length = ly at *
        clear hlx hly
        by_cases hxy : x = y
        · have HN := Lib.hid (show xs.take (k + 1) = ys.take (k + 1) by rw [List.take_add_one, List.take_add_one, HO.out, HXK.out, HYK.out, hxy])
          rw [decide_eq_true hxy]
          clear HO HXK HYK hxy
          go_wp2
          go_roundg (n - (k + 1))
          case measure => omega
          case rel => exact ⟨k + 1, rfl, by go_num, by omega, HB1, HN⟩
        · have HF := Lib.hid (show decide (xs = ys) = false from decide_eq_false fun h => hxy (by
            have h1 := HXK.out
            rw [h, HYK.out] at h1
            exact (Option.some.inj h1).symm))
          rw [decide_eq_false hxy]
          clear HO HXK HYK hxy
          go_wp2
          go_ret
          exact ⟨ret_bool HF.out.symm, HB1.out⟩
      · have HF := Lib.hid (show decide (xs = ys) = true by
          have := HO.out
          rw [List.take_of_length_le (by rw [HXL.out]; omega), List.take_of_length_le (by rw [HYL.out]; omega)] at this
          exact decide_eq_true this)
        clear HO
        go_wp2
        go_ret
        exact ⟨ret_bool HF.out.symm, HB.out⟩
  · have t : ((n : Int) != (m : Int)) = true := bne_iff_ne.2 (by omega)
    have HF := Lib.hid (show decide (xs = ys) = false from decide_eq_false fun h => hl (by rw [← hxl, ← hyl, h]))
    clear hx hy hxl hyl hw
    go_enter Tryz.func93, Tryz.ntmps93
    go_wp2
    go_ret
    exact ⟨ret_bool HF.out.symm, Below.refl _ _⟩
set_option maxRecDepth 100000 in
theorem same_any (xs ys : List (List ByteArray)) (n m : Nat) (A B : Option Addr) (c d : Nat) (w : World) (hx : SMat w A n xs) (hy : SMat w B m ys) (hn : n ≤ 1000000) (hw : ∀ l ∈ xs, l.length ≤ 1000000) :
    Calls Tryz.prog 36 #[.slice A n c, .slice B m d] w fun e w' => e = .returned (.bool (decide (xs = ys))) ∧ Below w.heap.size w w' := by
  have HC := Lib.hid (eqfunc_any xs ys n m A B c d w hx hy hn hw)
  clear hx hy hw
  go_enter Tryz.func36, Tryz.ntmps36
  go_wp2_with fail
  refine HC.out.mono ?_
  rintro e w1 ⟨rfl, hb⟩
  have HB := Lib.hid hb
  clear hb HC
  go_wp2
  go_ret
  exact ⟨rfl, HB.out⟩
theorem tx1_inj {a b : List ByteArray} (h : tx1 a = tx1 b) : a = b := by
  induction a generalizing b with
  | nil => cases b with
    | nil => rfl
    | cons y b => simp [tx1] at h
  | cons x a ih => cases b with
    | nil => simp [tx1] at h
    | cons y b =>
      simp only [tx1, List.map_cons, List.cons.injEq] at h
      rw [SL_inj h.1, ih h.2]
theorem tx2_inj {a b : List (List ByteArray)} (h : tx2 a = tx2 b) : a = b := by
  induction a generalizing b with
  | nil => cases b with
    | nil => rfl
    | cons y b => simp [tx2] at h
  | cons x a ih => cases b with
    | nil => simp [tx2] at h
    | cons y b =>
      simp only [tx2, List.map_cons, List.cons.injEq] at h
      rw [tx1_inj h.1, ih h.2]
end Go.Proofs.YtgecdcjfncfmcaaGreatDoor
namespace Go.Proofs.YtgecdcjfncfmcaaGreatDoor
open Go.RowKit

def lgT (s : ByteArray) : Bool := decide (12 < s.size)
def lgS (l : List ByteArray) : Bool := l.any lgT
def lgR (N : Nat) (l : List ByteArray) : Bool := decide (N < l.length) || lgS l
def lgM (N : Nat) (m : List (List ByteArray)) : Bool := decide (N < m.length) || m.any (lgR N)
theorem not_lt_le (a b : Nat) : decide (a ≤ b) = !decide (b < a) := by
  by_cases h : a ≤ b
  · rw [decide_eq_true h, decide_eq_false (by omega)]; rfl
  · rw [decide_eq_false h, decide_eq_true (by omega)]; rfl
theorem all_not_any {α : Type} (p : α → Bool) : ∀ l : List α, (l.all fun x => !p x) = !l.any p
  | [] => rfl
  | x :: l => by rw [List.all_cons, List.any_cons, all_not_any p l, Bool.not_or]
theorem smallB_lg (N : Nat) (m : List (List ByteArray)) : smallB N (tx2 m) = !lgM N m := by
  unfold smallB lgM
  rw [Bool.not_or, ← all_not_any, tx2, List.length_map, not_lt_le, List.all_map]
  congr 1
  congr 1
  funext l
  show (decide ((tx1 l).length ≤ N) && (tx1 l).all fun s => decide (s.length ≤ 12)) = !lgR N l
  unfold lgR lgS
  rw [Bool.not_or, ← all_not_any, tx1, List.length_map, not_lt_le, List.all_map]
  congr 1
  congr 1
  funext s
  show decide ((SL s).length ≤ 12) = _
  rw [SL_len, not_lt_le]
  rfl
set_option maxRecDepth 100000 in
theorem long_any (s : ByteArray) (w : World) : Calls Tryz.prog 79 #[.string s] w fun e w' => e = .returned (.bool (lgT s)) ∧ w' = w := by
  go_enter Tryz.func79, Tryz.ntmps79
  go_wp2
  go_ret
  exact ⟨ret_bool (decide_eq_decide.2 (by omega)), rfl⟩
set_option maxRecDepth 100000 in
set_option maxHeartbeats 400000 in
theorem idxlong_any (es : List ByteArray) (n : Nat) (A : Option Addr) (c : Nat) (w : World) (hr : Reads w w.heap.size 1 A n (es.map Sv)) (hn : n ≤ 1000000) :
    Calls Tryz.prog 143 #[.slice A n c, .func (.func 79) #[] #[]] w fun e w' => (∃ r, e = .returned (I r) ∧ decide (0 ≤ r) = es.any lgT) ∧ w' = w := by
  have HL := Lib.hid (show es.length = n by have := hr.1; simpa using this)
  have HR := Lib.hid hr
  clear hr
  go_enter Tryz.func143, Tryz.ntmps143
  go_wp2
  go_loopg [8] (n - 0) (fun r v wr => ∃ k : Nat, r = n - k ∧ v = I k ∧ k ≤ n ∧ wr = w ∧ Hid (es.any lgT = (es.drop k).any lgT))
  case atStart => exact ⟨0, rfl, rfl, by omega, rfl, rfl⟩
  case round =>
    obtain ⟨k, rfl, rfl, hk, rfl, HO⟩ := hrel
    by_cases hlt : k < n
    · obtain ⟨x, hx⟩ : ∃ x, es[k]? = some x := ⟨_, List.getElem?_eq_getElem (by rw [HL.out]; exact hlt)⟩
      obtain ⟨b, off, u, rfl, _, hu, hc⟩ := HR.out.at1 hlt
      obtain rfl : u = Sv x := by
        rw [List.getElem?_map, hx] at hu
        simpa using hu.symm
      have HCC := Lib.hid (long_any x wr)
      clear hu
      have HO2 := Lib.hid (show es.any lgT = (lgT x || (es.drop (k + 1)).any lgT) by
        obtain ⟨h1, h2⟩ := List.getElem?_eq_some_iff.1 hx
        rw [HO.out, List.drop_eq_getElem_cons h1, h2]
        rfl)
      clear hx HO
      by_cases h0 : lgT x = true
      · have HF := Lib.hid (show decide (0 ≤ (k : Int)) = es.any lgT by
          rw [HO2.out, h0, decide_eq_true (by omega)]; rfl)
        go_wp2_with fail
        refine HCC.out.mono ?_
        rintro e w' ⟨rfl, rfl⟩
        clear HCC
        rw [h0]
        clear HO2 h0
        go_wp2
        go_ret
        exact ⟨⟨_, rfl, HF.out⟩, rfl⟩
      · have h0 : lgT x = false := by simpa using h0
        have HO3 := Lib.hid (show es.any lgT = (es.drop (k + 1)).any lgT by rw [HO2.out, h0]; rfl)
        go_wp2_with fail
        refine HCC.out.mono ?_
        rintro e w' ⟨rfl, rfl⟩
        clear HCC
        rw [h0]
        clear HO2 h0
        go_wp2
        go_roundg (n - (k + 1))
        case measure => omega
        case rel => exact ⟨k + 1, rfl, by go_num, by omega, rfl, HO3⟩
    · have HF := Lib.hid (show decide (0 ≤ (-1 : Int)) = es.any lgT by
        rw [HO.out, List.drop_of_length_le (by rw [HL.out]; omega)]; rfl)
      clear HO
      go_wp2
      go_ret
      exact ⟨⟨_, rfl, HF.out⟩, rfl⟩
set_option maxRecDepth 100000 in
theorem contlong_any (es : List ByteArray) (n : Nat) (A : Option Addr) (c : Nat) (w : World) (hr : Reads w w.heap.size 1 A n (es.map Sv)) (hn : n ≤ 1000000) :
    Calls Tryz.prog 78 #[.slice A n c, .func (.func 79) #[] #[]] w fun e w' => e = .returned (.bool (lgS es)) ∧ w' = w := by
  have HX := Lib.hid (idxlong_any es n A c w hr hn)
  clear hr
  go_enter Tryz.func78, Tryz.ntmps78
  go_wp2_with fail
  refine HX.out.mono ?_
  rintro e w1 ⟨⟨r, rfl, hr⟩, rfl⟩
  have HR := Lib.hid hr
  clear hr HX
  go_wp2
  go_ret
  exact ⟨ret_bool HR.out, rfl⟩
set_option maxRecDepth 100000 in
theorem longrow_any (es : List ByteArray) (n : Nat) (A : Option Addr) (c : Nat) (N g : Nat) (w : World) (hr : Reads w w.heap.size 1 A n (es.map Sv)) (hg : w.cell? ⟨g, 0, none⟩ = some (I N)) (hN : N ≤ 1000000) :
    Calls Tryz.prog 77 #[.slice A n c, .pointer (some ⟨g, 0, none⟩)] w fun e w' => e = .returned (.bool (lgR N es)) ∧ w' = w := by
  have hl : es.length = n := by have := hr.1; simpa using this
  by_cases h : N < n
  · have t : decide (N < n) = true := decide_eq_true h
    have HF := Lib.hid (show lgR N es = true by rw [lgR, hl, t]; rfl)
    clear hr hl
    go_enter Tryz.func77, Tryz.ntmps77
    go_wp2
    go_ret
    exact ⟨ret_bool HF.out.symm, rfl⟩
  · have t : decide (N < n) = false := decide_eq_false h
    have HF := Lib.hid (show lgR N es = lgS es by rw [lgR, hl, t]; rfl)
    have HX := Lib.hid (contlong_any es n A c w hr (by omega))
    clear hr hl
    go_enter Tryz.func77, Tryz.ntmps77
    go_wp2_with fail
    refine HX.out.mono ?_
    rintro e w1 ⟨rfl, rfl⟩
    clear HX
    go_wp2
    go_ret
    exact ⟨ret_bool HF.out.symm, rfl⟩
set_option maxRecDepth 100000 in
set_option maxHeartbeats 400000 in
theorem idxrow_any (es : List (List ByteArray)) (n : Nat) (A : Option Addr) (c : Nat) (N g : Nat) (w : World) (hr : SMat w A n es) (hg : w.cell? ⟨g, 0, none⟩ = some (I N)) (hN : N ≤ 1000000) (hn : n ≤ 1000000) :
    Calls Tryz.prog 142 #[.slice A n c, .func (.func 77) #[] #[.pointer (some ⟨g, 0, none⟩)]] w fun e w' => (∃ r, e = .returned (I r) ∧ decide (0 ≤ r) = es.any (lgR N)) ∧ w' = w := by
  have HL := Lib.hid (show es.length = n by obtain ⟨_, _, h, _⟩ := hr; exact h)
  have HR := Lib.hid hr
  clear hr
  go_enter Tryz.func142, Tryz.ntmps142
  go_wp2
  go_loopg [8] (n - 0) (fun r v wr => ∃ k : Nat, r = n - k ∧ v = I k ∧ k ≤ n ∧ wr = w ∧ Hid (es.any (lgR N) = (es.drop k).any (lgR N)))
  case atStart => exact ⟨0, rfl, rfl, by omega, rfl, rfl⟩
  case round =>
    obtain ⟨k, rfl, rfl, hk, rfl, HO⟩ := hrel
    by_cases hlt : k < n
    · obtain ⟨x, hx⟩ : ∃ x, es[k]? = some x := ⟨_, List.getElem?_eq_getElem (by rw [HL.out]; exact hlt)⟩
      obtain ⟨b, off, B, d, rfl, hc, hrx⟩ := HR.out.at_ hlt x hx
      have HCC := Lib.hid (longrow_any x x.length B d N g wr hrx hg hN)
      clear hrx
      have HO2 := Lib.hid (show es.any (lgR N) = ((lgR N) x || (es.drop (k + 1)).any (lgR N)) by
        obtain ⟨h1, h2⟩ := List.getElem?_eq_some_iff.1 hx
        rw [HO.out, List.drop_eq_getElem_cons h1, h2]
        rfl)
      clear hx HO
      by_cases h0 : (lgR N) x = true
      · have HF := Lib.hid (show decide (0 ≤ (k : Int)) = es.any (lgR N) by
          rw [HO2.out, h0, decide_eq_true (by omega)]; rfl)
        go_wp2_with fail
        refine HCC.out.mono ?_
        rintro e w' ⟨rfl, rfl⟩
        clear HCC
        rw [h0]
        clear HO2 h0
        go_wp2
        go_ret
        exact ⟨⟨_, rfl, HF.out⟩, rfl⟩
      · have h0 : (lgR N) x = false := by simpa using h0
        have HO3 := Lib.hid (show es.any (lgR N) = (es.drop (k + 1)).any (lgR N) by rw [HO2.out, h0]; rfl)
        go_wp2_with fail
        refine HCC.out.mono ?_
        rintro e w' ⟨rfl, rfl⟩
        clear HCC
        rw [h0]
        clear HO2 h0
        go_wp2
        go_roundg (n - (k + 1))
        case measure => omega
        case rel => exact ⟨k + 1, rfl, by go_num, by omega, rfl, HO3⟩
    · have HF := Lib.hid (show decide (0 ≤ (-1 : Int)) = es.any (lgR N) by
        rw [HO.out, List.drop_of_length_le (by rw [HL.out]; omega)]; rfl)
      clear HO
      go_wp2
      go_ret
      exact ⟨⟨_, rfl, HF.out⟩, rfl⟩
set_option maxRecDepth 100000 in
theorem controw_any (es : List (List ByteArray)) (n : Nat) (A : Option Addr) (c : Nat) (N g : Nat) (w : World) (hr : SMat w A n es) (hg : w.cell? ⟨g, 0, none⟩ = some (I N)) (hN : N ≤ 1000000) (hn : n ≤ 1000000) :
    Calls Tryz.prog 76 #[.slice A n c, .func (.func 77) #[] #[.pointer (some ⟨g, 0, none⟩)]] w fun e w' => e = .returned (.bool (es.any (lgR N))) ∧ w' = w := by
  have HX := Lib.hid (idxrow_any es n A c N g w hr hg hN hn)
  clear hr hg
  go_enter Tryz.func76, Tryz.ntmps76
  go_wp2_with fail
  refine HX.out.mono ?_
  rintro e w1 ⟨⟨r, rfl, hr⟩, rfl⟩
  have HR := Lib.hid hr
  clear hr HX
  go_wp2
  go_ret
  exact ⟨ret_bool HR.out, rfl⟩
/-- a slice of matrices that is read -/
def SMs (w : World) (A : Option Addr) (n : Nat) (ms : List (List (List ByteArray))) : Prop :=
  ∃ vs, Reads w w.heap.size 1 A n vs ∧ ms.length = n ∧ ∀ (i : Nat) (u : Value) (m : List (List ByteArray)), vs[i]? = some u → ms[i]? = some m → ∃ B c, u = .slice B m.length c ∧ SMat w B m.length m
theorem SMs.below {w w' : World} {A : Option Addr} {n : Nat} {ms : List (List (List ByteArray))} (h : SMs w A n ms) (hb : Below w.heap.size w w') : SMs w' A n ms := by
  obtain ⟨vs, h1, h2, h3⟩ := h
  exact ⟨vs, (h1.below hb).more hb.size, h2, fun i u l a b => by
    obtain ⟨B, c, e, h⟩ := h3 i u l a b
    exact ⟨B, c, e, h.below hb⟩⟩
set_option maxRecDepth 100000 in
set_option maxHeartbeats 400000 in
theorem small_any (N : Nat) (ms : List (List (List ByteArray))) (n : Nat) (A : Option Addr) (c : Nat) (w : World) (hr : SMs w A n ms) (hN : N ≤ 1000000) (hn : n ≤ 1000000) :
    Calls Tryz.prog 30 #[I N, .slice A n c] w fun e w' => e = .returned (.bool (!ms.any (lgM N))) ∧ Below w.heap.size w w' := by
  have HL := Lib.hid (show ms.length = n by obtain ⟨_, _, h, _⟩ := hr; exact h)
  have hb0 : Below w.heap.size w (w.alloc (.cells #[I N] 3)) := (Below.refl _ _).alloc (Nat.le_refl _) _
  have HR := Lib.hid (hr.below hb0)
  have HB := Lib.hid hb0
  have hg : (w.alloc (.cells #[I N] 3)).cell? ⟨w.heap.size, 0, none⟩ = some (I N) := by rw [(Blk.new w _ _).cell]; rfl
  clear hr hb0
  go_enter Tryz.func30, Tryz.ntmps30
  go_wp2
  generalize w.alloc (Obj.cells #[I N] 3) = w1 at *
  go_loopg [9] (n - 0) (fun r v wr => ∃ k : Nat, r = n - k ∧ v = I k ∧ k ≤ n ∧ wr = w1 ∧ Hid (ms.any (lgM N) = (ms.drop k).any (lgM N)))
  case atStart => exact ⟨0, rfl, rfl, by omega, rfl, rfl⟩
  case round =>
    obtain ⟨k, rfl, rfl, hk, rfl, HO⟩ := hrel
    by_cases hlt : k < n
    · obtain ⟨x, hx⟩ : ∃ x, ms[k]? = some x := ⟨_, List.getElem?_eq_getElem (by rw [HL.out]; exact hlt)⟩
      obtain ⟨vs, hr1, _, hr3⟩ := HR.out
      obtain ⟨b, off, u, rfl, _, hu, hc⟩ := hr1.at1 hlt
      obtain ⟨B, d, rfl, hrx⟩ := hr3 k u x hu hx
      have HO2 := Lib.hid (show ms.any (lgM N) = (lgM N x || (ms.drop (k + 1)).any (lgM N)) by
        obtain ⟨h1, h2⟩ := List.getElem?_eq_some_iff.1 hx
        rw [HO.out, List.drop_eq_getElem_cons h1, h2]
        rfl)
      clear hx HO hu hr1 hr3
      by_cases h : N < x.length
      · have t : decide (N < x.length) = true := decide_eq_true h
        have HF := Lib.hid (show (!ms.any (lgM N)) = false by rw [HO2.out, lgM, t]; rfl)
        clear HO2 hrx
        generalize x.length = lx at *
        go_wp2
        go_ret
        exact ⟨ret_bool HF.out.symm, HB.out⟩
      · have t : decide (N < x.length) = false := decide_eq_false h
        have HC := Lib.hid (controw_any x x.length B d N w.heap.size wr hrx hg hN (by omega))
        have HO3 := Lib.hid (show ms.any (lgM N) = (x.any (lgR N) || (ms.drop (k + 1)).any (lgM N)) by rw [HO2.out, lgM, t]; rfl)
        clear HO2 hrx
        go_wp2_with fail
        refine HC.out.mono ?_
        rintro e w' ⟨rfl, rfl⟩
        clear HC
        cases hx : x.any (lgR N) with
        | true =>
          have HF := Lib.hid (show (!ms.any (lgM N)) = false by rw [HO3.out, hx]; rfl)
          clear HO3 hx
          generalize x.length = lx at *
          go_wp2
          go_ret
          exact ⟨ret_bool HF.out.symm, HB.out⟩
        | false =>
          have HO4 := Lib.hid (show ms.any (lgM N) = (ms.drop (k + 1)).any (lgM N) by rw [HO3.out, hx]; rfl)
          clear HO3 hx
          generalize x.length = lx at *
          go_wp2
          go_roundg (n - (k + 1))
          case measure => omega
          case rel => exact ⟨k + 1, rfl, by go_num, by omega, rfl, HO4⟩
    · have HF := Lib.hid (show (!ms.any (lgM N)) = true by rw [HO.out, List.drop_of_length_le (by rw [HL.out]; omega)]; rfl)
      clear HO
      go_wp2
      go_ret
      exact ⟨ret_bool HF.out.symm, HB.out⟩
end Go.Proofs.YtgecdcjfncfmcaaGreatDoor
