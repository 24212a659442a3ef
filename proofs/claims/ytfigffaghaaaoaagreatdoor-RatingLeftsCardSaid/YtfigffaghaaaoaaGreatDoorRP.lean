/- fine: are there no errors? rat.CheckAll. Determinants of matrices of rational numbers, given as functions of row and column: linear and alternating in the rows, triangular matrices. Plain facts. No program here. Package matrix in plain Lean: matrices of texts and of rational numbers, and the laws of the ring. No program here. matrix.CheckVec, Check, first, width; matrices of texts that are read. -/
import Derived.Test.YtfigffaghaaaoaaGreatDoorRA
import Derived.Deep.LoopGhost
import Derived.Test.YtfigffaghaaaoaaGreatDoorRO
import Derived.Test.YtfigffaghaaaoaaGreatDoorRI
import Derived.WalkKit
namespace Go.Proofs.YtfigffaghaaaoaaGreatDoor
open Go.RowKit

def fineB (es : List Int) : Bool := es.all fun e => e == 0
set_option maxRecDepth 100000 in
set_option maxHeartbeats 400000 in
theorem nz_any (x : Int) (w : World) : Calls Tryz.prog 30 #[I x] w fun e w' => e = .returned (.bool (x != 0)) ∧ w = w' := by
  go_enter Tryz.func30, Tryz.ntmps30
  go_wp2
  go_ret
  exact ⟨rfl, rfl⟩
set_option maxRecDepth 100000 in
set_option maxHeartbeats 400000 in
theorem idxnz_any (es : List Int) (n : Nat) (A : Option Addr) (c : Nat) (w : World) (B : Nat) (hr : Reads w B 1 A n (es.map I)) (hn : n ≤ 1000000) :
    Calls Tryz.prog 52 #[.slice A n c, .func (.func 30) #[] #[]] w fun e w' => (∃ r, e = .returned (I r) ∧ decide (0 ≤ r) = !fineB es) ∧ w = w' := by
  have hl : es.length = n := by have := hr.1; simpa using this
  go_enter Tryz.func52, Tryz.ntmps52
  go_wp2
  go_loopg [8] (n - 0) (fun r v wr => ∃ k : Nat, r = n - k ∧ v = I k ∧ k ≤ n ∧ w = wr ∧ Hid (fineB es = fineB (es.drop k)))
  case atStart => exact ⟨0, rfl, rfl, by omega, rfl, rfl⟩
  case round =>
    obtain ⟨k, rfl, rfl, hk, rfl, HO⟩ := hrel
    by_cases hlt : k < n
    · obtain ⟨b, off, u, rfl, _, hu, hc⟩ := hr.at1 hlt
      obtain ⟨x, hx⟩ : ∃ x, es.getD k 0 = x := ⟨_, rfl⟩
      have hx2 : es[k]'(by omega) = x := by rw [← hx, List.getD_eq_getElem?_getD, List.getElem?_eq_getElem (by omega)]; rfl
      obtain rfl : u = I x := by
        rw [List.getElem?_map, List.getElem?_eq_getElem (by omega), hx2] at hu
        simpa using hu.symm
      have HO2 := Lib.hid (show fineB es = ((x == 0) && fineB (es.drop (k + 1))) by
        rw [HO.out, List.drop_eq_getElem_cons (by omega), hx2]
        rfl)
      have HL := Lib.hid hl
      clear hu hr hx hx2 HO hl
      by_cases h0 : x = 0
      · have tb : (x != 0) = false := by rw [h0]; rfl
        have HO3 := Lib.hid (show fineB es = fineB (es.drop (k + 1)) by rw [HO2.out, h0]; rfl)
        clear h0
        go_wp2_with (go_at_call 30; refine (nz_any x _).mono ?_; rintro e w' ⟨rfl, rfl⟩)
        go_roundg (n - (k + 1))
        case measure => omega
        case rel => exact ⟨k + 1, rfl, by go_num, by omega, rfl, HO3⟩
      · have tb : (x != 0) = true := bne_iff_ne.2 h0
        have HF := Lib.hid (show decide (0 ≤ (k : Int)) = !fineB es by
          rw [HO2.out, beq_eq_false_iff_ne.2 h0, decide_eq_true (by omega)]; rfl)
        clear h0
        go_wp2_with (go_at_call 30; refine (nz_any x _).mono ?_; rintro e w' ⟨rfl, rfl⟩)
        go_ret
        exact ⟨⟨_, rfl, HF.out⟩, rfl⟩
    · have HF := Lib.hid (show decide (0 ≤ (-1 : Int)) = !fineB es by
        rw [HO.out, List.drop_of_length_le (by omega)]; rfl)
      clear HO
      go_wp2
      go_ret
      exact ⟨⟨_, rfl, HF.out⟩, rfl⟩
set_option maxRecDepth 100000 in
set_option maxHeartbeats 400000 in
theorem fine_any (es : List Int) (n : Nat) (A : Option Addr) (c : Nat) (w : World) (B : Nat) (hr : Reads w B 1 A n (es.map I)) (hn : n ≤ 1000000) :
    Calls Tryz.prog 11 #[.slice A n c] w fun e w' => e = .returned (.bool (fineB es)) ∧ w = w' := by
  have h41 : ∀ w, Reads w B 1 A n (es.map I) → Calls Tryz.prog 29 #[.slice A n c, .func (.func 30) #[] #[]] w fun e w' => e = .returned (.bool (!fineB es)) ∧ w = w' := by
    intro w hr
    have HX := Lib.hid (idxnz_any es n A c w B hr hn)
    clear hr
    go_enter Tryz.func29, Tryz.ntmps29
    go_wp2_with fail
    refine HX.out.mono ?_
    rintro e w1 ⟨⟨r, rfl, hr⟩, rfl⟩
    have HR := Lib.hid hr
    clear hr HX
    go_wp2
    go_ret
    exact ⟨congrArg (fun b => Ending.returned (.bool b)) HR.out, rfl⟩
  have H41 := Lib.hid (h41 w hr)
  clear h41 hr
  go_enter Tryz.func11, Tryz.ntmps11
  go_wp2_with fail
  refine H41.out.mono ?_
  rintro e w1 ⟨rfl, rfl⟩
  go_wp2
  go_ret
  exact ⟨by simp, rfl⟩
end Go.Proofs.YtfigffaghaaaoaaGreatDoor
namespace Go.Proofs.YtfigffaghaaaoaaGreatDoor
open Go.RowKit

abbrev Sv (s : ByteArray) : Value := .string s
set_option maxRecDepth 100000 in
set_option maxHeartbeats 1000000 in
theorem rall_any (l : List ByteArray) (n : Nat) (A : Option Addr) (c : Nat) (w : World) (hr : Reads w w.heap.size 1 A n (l.map Sv)) (hn : n ≤ 9223372036854775807) (hs : ∀ s ∈ l, s.size ≤ 9223372036854775807) (htab : Tab w) :
    Calls Tryz.prog 44 #[.slice A n c] w fun e w' => e = .returned (I (rAll (l.map SL))) ∧ Below w.heap.size w w' := by
  have hl : l.length = n := by have := hr.1; simpa using this
  have HTB := Lib.hid htab
  have HS := Lib.hid hs
  have HRD := Lib.hid hr
  clear htab hs hr
  go_enter Tryz.func44, Tryz.ntmps44
  go_wp2
  go_loopg [8] (n - 0) (fun r v wr => ∃ k : Nat, r = n - k ∧ v = I k ∧ k ≤ n ∧ Hid (Below w.heap.size w wr) ∧ Hid (rAll (l.map SL) = rAll ((l.drop k).map SL)))
  case atStart => exact ⟨0, rfl, rfl, by omega, Below.refl _ _, rfl⟩
  case round =>
    obtain ⟨k, rfl, rfl, hk, HB, HO⟩ := hrel
    obtain ⟨wa, rfl⟩ : ∃ wa : World, wa = wr := ⟨_, rfl⟩
    by_cases hlt : k < n
    · obtain ⟨x, hx⟩ : ∃ x, l[k]'(by omega) = x := ⟨_, rfl⟩
      obtain ⟨b, off, u, rfl, _, hu, hc⟩ := (HRD.out.below HB.out).at1 hlt
      obtain rfl : u = Sv x := by
        rw [List.getElem?_map, List.getElem?_eq_getElem (by omega), hx] at hu
        simpa using hu.symm
      have HXS := Lib.hid (HS.out x (by rw [← hx]; exact List.getElem_mem _))
      have HO2 := Lib.hid (show rAll (l.map SL) = if rchk (SL x) = 0 then rAll ((l.drop (k + 1)).map SL) else rchk (SL x) by
        rw [HO.out, List.drop_eq_getElem_cons (by omega), hx]
        rfl)
      have HL := Lib.hid hl
      clear hu hx HO hl
      go_wp2_with fail
      refine (rchk_any x wa HXS.out (tab_below HTB.out HB.out)).mono ?_
      rintro e w1 ⟨rfl, hb⟩
      have HB1 := Lib.hid (HB.out.trans (hb.mono HB.out.size))
      clear hb HB hc
      by_cases h0 : rchk (SL x) = 0
      · have HO3 := Lib.hid (show rAll (l.map SL) = rAll ((l.drop (k + 1)).map SL) by rw [HO2.out, if_pos h0])
        rw [h0]
        clear h0 HO2
        go_wp2
        go_roundg (n - (k + 1))
        case measure => omega
        case rel => exact ⟨k + 1, rfl, by go_num, by omega, HB1, HO3⟩
      · have HO3 := Lib.hid (show rAll (l.map SL) = rchk (SL x) by rw [HO2.out, if_neg h0])
        have tc : (rchk (SL x) != 0) = true := bne_iff_ne.2 h0
        generalize rchk (SL x) = R at *
        clear h0 HO2
        go_wp2
        go_ret
        exact ⟨ret_int HO3.out.symm, HB1.out⟩
    · have HF := Lib.hid (show rAll (l.map SL) = 0 by
        rw [HO.out, List.drop_of_length_le (by omega)]; rfl)
      clear HO
      go_wp2
      go_ret
      exact ⟨ret_int HF.out.symm, HB.out⟩
end Go.Proofs.YtfigffaghaaaoaaGreatDoor
namespace Go.Proofs.YtfigffaghaaaoaaGreatDoor

def sg (i : Nat) : Rat := if i % 2 = 0 then 1 else -1
end Go.Proofs.YtfigffaghaaaoaaGreatDoor
namespace Go.Proofs.YtfigffaghaaaoaaGreatDoor
open Go.Lib

def chkV (l : List (List UInt8)) : Int := if 40 < l.length then 2 else rAll l
def valsV (l : List (List UInt8)) : List Rat := l.map rval
/-! ### rectangles -/
/-! ### the laws of the ring -/
/-! ### texts that are matrices -/
theorem chkV_ok {l : List (List UInt8)} (h : chkV l = 0) : l.length ≤ 40 ∧ ∀ s ∈ l, rchk s = 0 := by
  unfold chkV at h
  split at h
  · cases h
  · refine ⟨by omega, ?_⟩
    rename_i hl
    clear hl
    induction l with
    | nil => intro s hs; cases hs
    | cons x l ih =>
      simp only [rAll] at h
      intro s hs
      split at h
      · rename_i h0
        rcases List.mem_cons.1 hs with rfl | hs
        · exact h0
        · exact ih h s hs
      · rename_i h0; exact absurd h h0
end Go.Proofs.YtfigffaghaaaoaaGreatDoor
namespace Go.Proofs.YtfigffaghaaaoaaGreatDoor
open Go.RowKit

/-- texts out of strings -/
def tx1 (l : List ByteArray) : List (List UInt8) := l.map SL
/-- all texts are no longer than a string can be -/
def Sh1 (l : List ByteArray) : Prop := ∀ s ∈ l, s.size ≤ 9223372036854775807
set_option maxRecDepth 100000 in
theorem chkV_any (l : List ByteArray) (n : Nat) (A : Option Addr) (c : Nat) (w : World) (hr : Reads w w.heap.size 1 A n (l.map Sv)) (hs : Sh1 l) (htab : Tab w) :
    Calls Tryz.prog 24 #[.slice A n c] w fun e w' => e = .returned (I (chkV (tx1 l))) ∧ Below w.heap.size w w' := by
  have hl : l.length = n := by have := hr.1; simpa using this
  by_cases h40 : 40 < n
  · have t : decide (40 < (n : Int)) = true := decide_eq_true (by omega)
    have HF := Lib.hid (show chkV (tx1 l) = 2 by rw [chkV, if_pos (by rw [tx1, List.length_map]; omega)])
    clear h40
    go_enter Tryz.func24, Tryz.ntmps24
    go_wp2
    go_ret
    exact ⟨ret_int HF.out.symm, Below.refl _ _⟩
  · have t : decide (40 < (n : Int)) = false := decide_eq_false (by omega)
    have HF := Lib.hid (show chkV (tx1 l) = rAll (l.map SL) by rw [chkV, if_neg (by rw [tx1, List.length_map]; omega)]; rfl)
    have HA := Lib.hid (rall_any l n A c w hr (by omega) hs htab)
    clear h40 hr htab hl
    go_enter Tryz.func24, Tryz.ntmps24
    go_wp2_with fail
    refine HA.out.mono ?_
    rintro e w1 ⟨rfl, hb⟩
    have HB := Lib.hid hb
    clear hb HA
    go_wp2
    go_ret
    exact ⟨ret_int HF.out.symm, HB.out⟩
end Go.Proofs.YtfigffaghaaaoaaGreatDoor
