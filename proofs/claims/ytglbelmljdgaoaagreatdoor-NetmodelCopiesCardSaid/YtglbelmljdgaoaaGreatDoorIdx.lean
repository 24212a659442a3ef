/- slices.IndexFunc with the closures that compare names. -/
import Derived.Test.YtglbelmljdgaoaaGreatDoorLive
namespace Go.Proofs.YtglbelmljdgaoaaGreatDoor
open Go.RowKit

def nmIdx {α : Type} (f : α → ByteArray) (x : ByteArray) : List α → Nat → Int
  | [], _ => -1
  | a :: l, i => if f a = x then (i : Int) else nmIdx f x l (i + 1)

set_option maxRecDepth 100000 in
set_option maxHeartbeats 400000 in
theorem cl83 (nm : ByteArray) (xa : ByteArray) (xb : ByteArray) (br : Bool) (op : Bool) (name : ByteArray) (g : Nat) (w : World) (hc : w.cell? ⟨g, 0, none⟩ = some (.string name)) :
    Calls Tryz.prog 47 #[.agg #[.string nm, .string xa, .string xb, .bool br, .bool op], .pointer (some ⟨g, 0, none⟩)] w fun e w' => e = .returned (.bool (decide (nm = name))) ∧ Below w.heap.size w w' := by
  have hlt := World.block_lt_of_cell? w _ hc
  by_cases h : nm = name
  · subst h
    have HX := Lib.hid (show decide (nm = nm) = true by simp)
    go_enter Tryz.func47, Tryz.ntmps47
    go_wp2
    go_ret
    exact ⟨ret_bool HX.out.symm, (Below.refl _ _).alloc (Nat.le_refl _) _⟩
  · have tab : (nm.toList == name.toList) = false := (Lib.bytes_beq_false_iff nm name).2 h
    have HX := Lib.hid (show decide (nm = name) = false by simp [h])
    clear h
    go_enter Tryz.func47, Tryz.ntmps47
    go_wp2
    go_ret
    exact ⟨ret_bool HX.out.symm, (Below.refl _ _).alloc (Nat.le_refl _) _⟩

set_option maxRecDepth 100000 in
set_option maxHeartbeats 400000 in
theorem idx83 (l : List SwitchD) (name : ByteArray) (A : Option Addr) (c g n : Nat) (w : World) (hl : l.length = n) (hr : Reads w w.heap.size 5 A n (cellsBy SwitchD.cells l)) (hc : w.cell? ⟨g, 0, none⟩ = some (.string name)) (hn : n ≤ 1000000) :
    Calls Tryz.prog 46 #[.slice A n c, .func (.func 47) #[] #[.pointer (some ⟨g, 0, none⟩)]] w fun e w' => e = .returned (I (nmIdx SwitchD.name name l 0)) ∧ Below w.heap.size w w' := by
  subst hl
  have HR := Lib.hid hr
  have HC := Lib.hid hc
  clear hr hc
  go_enter Tryz.func46, Tryz.ntmps46
  go_wp2
  go_loopg [8] (l.length - 0) (fun r v wr => ∃ j : Nat, r = l.length - j ∧ v = I j ∧ j ≤ l.length ∧ Below w.heap.size w wr ∧ Hid (nmIdx SwitchD.name name (l.drop j) j = nmIdx SwitchD.name name l 0))
  case atStart => exact ⟨0, rfl, rfl, by omega, Below.refl _ _, rfl⟩
  case round =>
    obtain ⟨j, rfl, rfl, hj, hb, HF⟩ := hrel
    obtain ⟨wa, rfl⟩ : ∃ wa : World, wa = wr := ⟨_, rfl⟩
    by_cases hlt : j < l.length
    · obtain ⟨b, off, rfl, hbl', hcs⟩ := reads_by (f := SwitchD.cells) (sz := 5) (fun _ => rfl) (by omega) (HR.out.below hb) hlt
      have HF2 := Lib.hid (show (if l[j].name = name then (j : Int) else nmIdx SwitchD.name name (l.drop (j + 1)) (j + 1)) = nmIdx SwitchD.name name l 0 by
        have := HF.out
        rw [List.drop_eq_getElem_cons hlt, nmIdx] at this
        exact this)
      obtain ⟨s, hs⟩ : ∃ s, l[j] = s := ⟨_, rfl⟩
      rw [hs] at hcs HF2
      clear hs HF
      obtain ⟨nm, xa, xb, br, op⟩ := s
      have c0 := hcs 0 _ rfl
      have c1 := hcs 1 _ rfl
      have c2 := hcs 2 _ rfl
      have c3 := hcs 3 _ rfl
      have c4 := hcs 4 _ rfl
      simp only [← Nat.add_assoc, Nat.add_zero] at c0 c1 c2 c3 c4
      simp only at HF2
      have hcg : wa.cell? ⟨g, 0, none⟩ = some (.string name) := (hb.cell (p := ⟨g, 0, none⟩) (World.block_lt_of_cell? w _ HC.out)).trans HC.out
      have HCALL := Lib.hid (cl83 nm xa xb br op name g wa hcg)
      have HB := Lib.hid hb
      clear hcs hb hcg
      by_cases h : nm = name
      · have HX := Lib.hid (show nmIdx SwitchD.name name l 0 = j by rw [← HF2.out, if_pos h])
        have hd : decide (nm = name) = true := by simp [h]
        rw [hd] at HCALL
        clear h hd HF2
        go_wp2_with (go_at_call 47; refine HCALL.out.mono ?_; rintro e w2 ⟨rfl, hb2⟩; have HB2 := Lib.hid hb2; clear hb2)
        go_ret
        exact ⟨ret_int HX.out.symm, HB.out.trans (HB2.out.mono HB.out.size)⟩
      · have HX := Lib.hid (show nmIdx SwitchD.name name (l.drop (j + 1)) (j + 1) = nmIdx SwitchD.name name l 0 by rw [← HF2.out, if_neg h])
        have hd : decide (nm = name) = false := by simp [h]
        rw [hd] at HCALL
        clear h hd HF2
        go_wp2_with (go_at_call 47; refine HCALL.out.mono ?_; rintro e w2 ⟨rfl, hb2⟩; have HB2 := Lib.hid hb2; clear hb2)
        go_roundg (l.length - (j + 1))
        case measure => omega
        case rel => exact ⟨j + 1, rfl, by go_num, by omega, HB.out.trans (HB2.out.mono HB.out.size), HX⟩
    · obtain rfl : j = l.length := by omega
      have HX := Lib.hid (show nmIdx SwitchD.name name l 0 = -1 by rw [← HF.out, List.drop_of_length_le (Nat.le_refl _), nmIdx])
      have HB := Lib.hid hb
      clear hb
      go_wp2
      go_ret
      exact ⟨ret_int HX.out.symm, HB.out⟩

set_option maxRecDepth 100000 in
set_option maxHeartbeats 400000 in
theorem cl85 (nm : ByteArray) (xa : ByteArray) (xb : ByteArray) (fx : Int) (ft : Int) (fs : Int) (fl : Int) (fo : Int) (fh : Int) (name : ByteArray) (g : Nat) (w : World) (hc : w.cell? ⟨g, 0, none⟩ = some (.string name)) :
    Calls Tryz.prog 49 #[.agg #[.string nm, .string xa, .string xb, I fx, I ft, I fs, I fl, I fo, I fh], .pointer (some ⟨g, 0, none⟩)] w fun e w' => e = .returned (.bool (decide (nm = name))) ∧ Below w.heap.size w w' := by
  have hlt := World.block_lt_of_cell? w _ hc
  by_cases h : nm = name
  · subst h
    have HX := Lib.hid (show decide (nm = nm) = true by simp)
    go_enter Tryz.func49, Tryz.ntmps49
    go_wp2
    go_ret
    exact ⟨ret_bool HX.out.symm, (Below.refl _ _).alloc (Nat.le_refl _) _⟩
  · have tab : (nm.toList == name.toList) = false := (Lib.bytes_beq_false_iff nm name).2 h
    have HX := Lib.hid (show decide (nm = name) = false by simp [h])
    clear h
    go_enter Tryz.func49, Tryz.ntmps49
    go_wp2
    go_ret
    exact ⟨ret_bool HX.out.symm, (Below.refl _ _).alloc (Nat.le_refl _) _⟩

set_option maxRecDepth 100000 in
set_option maxHeartbeats 400000 in
theorem idx85 (l : List BranchD) (name : ByteArray) (A : Option Addr) (c g n : Nat) (w : World) (hl : l.length = n) (hr : Reads w w.heap.size 9 A n (cellsBy BranchD.cells l)) (hc : w.cell? ⟨g, 0, none⟩ = some (.string name)) (hn : n ≤ 1000000) :
    Calls Tryz.prog 48 #[.slice A n c, .func (.func 49) #[] #[.pointer (some ⟨g, 0, none⟩)]] w fun e w' => e = .returned (I (nmIdx BranchD.name name l 0)) ∧ Below w.heap.size w w' := by
  subst hl
  have HR := Lib.hid hr
  have HC := Lib.hid hc
  clear hr hc
  go_enter Tryz.func48, Tryz.ntmps48
  go_wp2
  go_loopg [8] (l.length - 0) (fun r v wr => ∃ j : Nat, r = l.length - j ∧ v = I j ∧ j ≤ l.length ∧ Below w.heap.size w wr ∧ Hid (nmIdx BranchD.name name (l.drop j) j = nmIdx BranchD.name name l 0))
  case atStart => exact ⟨0, rfl, rfl, by omega, Below.refl _ _, rfl⟩
  case round =>
    obtain ⟨j, rfl, rfl, hj, hb, HF⟩ := hrel
    obtain ⟨wa, rfl⟩ : ∃ wa : World, wa = wr := ⟨_, rfl⟩
    by_cases hlt : j < l.length
    · obtain ⟨b, off, rfl, hbl', hcs⟩ := reads_by (f := BranchD.cells) (sz := 9) (fun _ => rfl) (by omega) (HR.out.below hb) hlt
      have HF2 := Lib.hid (show (if l[j].name = name then (j : Int) else nmIdx BranchD.name name (l.drop (j + 1)) (j + 1)) = nmIdx BranchD.name name l 0 by
        have := HF.out
        rw [List.drop_eq_getElem_cons hlt, nmIdx] at this
        exact this)
      obtain ⟨s, hs⟩ : ∃ s, l[j] = s := ⟨_, rfl⟩
      rw [hs] at hcs HF2
      clear hs HF
      obtain ⟨nm, xa, xb, fx, ft, fs, fl, fo, fh⟩ := s
      have c0 := hcs 0 _ rfl
      have c1 := hcs 1 _ rfl
      have c2 := hcs 2 _ rfl
      have c3 := hcs 3 _ rfl
      have c4 := hcs 4 _ rfl
      have c5 := hcs 5 _ rfl
      have c6 := hcs 6 _ rfl
      have c7 := hcs 7 _ rfl
      have c8 := hcs 8 _ rfl
      simp only [← Nat.add_assoc, Nat.add_zero] at c0 c1 c2 c3 c4 c5 c6 c7 c8
      simp only at HF2
      have hcg : wa.cell? ⟨g, 0, none⟩ = some (.string name) := (hb.cell (p := ⟨g, 0, none⟩) (World.block_lt_of_cell? w _ HC.out)).trans HC.out
      have HCALL := Lib.hid (cl85 nm xa xb fx ft fs fl fo fh name g wa hcg)
      have HB := Lib.hid hb
      clear hcs hb hcg
      by_cases h : nm = name
      · have HX := Lib.hid (show nmIdx BranchD.name name l 0 = j by rw [← HF2.out, if_pos h])
        have hd : decide (nm = name) = true := by simp [h]
        rw [hd] at HCALL
        clear h hd HF2
        go_wp2_with (go_at_call 49; refine HCALL.out.mono ?_; rintro e w2 ⟨rfl, hb2⟩; have HB2 := Lib.hid hb2; clear hb2)
        go_ret
        exact ⟨ret_int HX.out.symm, HB.out.trans (HB2.out.mono HB.out.size)⟩
      · have HX := Lib.hid (show nmIdx BranchD.name name (l.drop (j + 1)) (j + 1) = nmIdx BranchD.name name l 0 by rw [← HF2.out, if_neg h])
        have hd : decide (nm = name) = false := by simp [h]
        rw [hd] at HCALL
        clear h hd HF2
        go_wp2_with (go_at_call 49; refine HCALL.out.mono ?_; rintro e w2 ⟨rfl, hb2⟩; have HB2 := Lib.hid hb2; clear hb2)
        go_roundg (l.length - (j + 1))
        case measure => omega
        case rel => exact ⟨j + 1, rfl, by go_num, by omega, HB.out.trans (HB2.out.mono HB.out.size), HX⟩
    · obtain rfl : j = l.length := by omega
      have HX := Lib.hid (show nmIdx BranchD.name name l 0 = -1 by rw [← HF.out, List.drop_of_length_le (Nat.le_refl _), nmIdx])
      have HB := Lib.hid hb
      clear hb
      go_wp2
      go_ret
      exact ⟨ret_int HX.out.symm, HB.out⟩

set_option maxRecDepth 100000 in
set_option maxHeartbeats 400000 in
theorem cl87 (nm : ByteArray) (nd : ByteArray) (le : Int) (mo : Int) (ra : Int) (name : ByteArray) (g : Nat) (w : World) (hc : w.cell? ⟨g, 0, none⟩ = some (.string name)) :
    Calls Tryz.prog 51 #[.agg #[.string nm, .string nd, I le, I mo, I ra], .pointer (some ⟨g, 0, none⟩)] w fun e w' => e = .returned (.bool (decide (nm = name))) ∧ Below w.heap.size w w' := by
  have hlt := World.block_lt_of_cell? w _ hc
  by_cases h : nm = name
  · subst h
    have HX := Lib.hid (show decide (nm = nm) = true by simp)
    go_enter Tryz.func51, Tryz.ntmps51
    go_wp2
    go_ret
    exact ⟨ret_bool HX.out.symm, (Below.refl _ _).alloc (Nat.le_refl _) _⟩
  · have tab : (nm.toList == name.toList) = false := (Lib.bytes_beq_false_iff nm name).2 h
    have HX := Lib.hid (show decide (nm = name) = false by simp [h])
    clear h
    go_enter Tryz.func51, Tryz.ntmps51
    go_wp2
    go_ret
    exact ⟨ret_bool HX.out.symm, (Below.refl _ _).alloc (Nat.le_refl _) _⟩

set_option maxRecDepth 100000 in
set_option maxHeartbeats 400000 in
theorem idx87 (l : List GenD) (name : ByteArray) (A : Option Addr) (c g n : Nat) (w : World) (hl : l.length = n) (hr : Reads w w.heap.size 5 A n (cellsBy GenD.cells l)) (hc : w.cell? ⟨g, 0, none⟩ = some (.string name)) (hn : n ≤ 1000000) :
    Calls Tryz.prog 50 #[.slice A n c, .func (.func 51) #[] #[.pointer (some ⟨g, 0, none⟩)]] w fun e w' => e = .returned (I (nmIdx GenD.name name l 0)) ∧ Below w.heap.size w w' := by
  subst hl
  have HR := Lib.hid hr
  have HC := Lib.hid hc
  clear hr hc
  go_enter Tryz.func50, Tryz.ntmps50
  go_wp2
  go_loopg [8] (l.length - 0) (fun r v wr => ∃ j : Nat, r = l.length - j ∧ v = I j ∧ j ≤ l.length ∧ Below w.heap.size w wr ∧ Hid (nmIdx GenD.name name (l.drop j) j = nmIdx GenD.name name l 0))
  case atStart => exact ⟨0, rfl, rfl, by omega, Below.refl _ _, rfl⟩
  case round =>
    obtain ⟨j, rfl, rfl, hj, hb, HF⟩ := hrel
    obtain ⟨wa, rfl⟩ : ∃ wa : World, wa = wr := ⟨_, rfl⟩
    by_cases hlt : j < l.length
    · obtain ⟨b, off, rfl, hbl', hcs⟩ := reads_by (f := GenD.cells) (sz := 5) (fun _ => rfl) (by omega) (HR.out.below hb) hlt
      have HF2 := Lib.hid (show (if l[j].name = name then (j : Int) else nmIdx GenD.name name (l.drop (j + 1)) (j + 1)) = nmIdx GenD.name name l 0 by
        have := HF.out
        rw [List.drop_eq_getElem_cons hlt, nmIdx] at this
        exact this)
      obtain ⟨s, hs⟩ : ∃ s, l[j] = s := ⟨_, rfl⟩
      rw [hs] at hcs HF2
      clear hs HF
      obtain ⟨nm, nd, le, mo, ra⟩ := s
      have c0 := hcs 0 _ rfl
      have c1 := hcs 1 _ rfl
      have c2 := hcs 2 _ rfl
      have c3 := hcs 3 _ rfl
      have c4 := hcs 4 _ rfl
      simp only [← Nat.add_assoc, Nat.add_zero] at c0 c1 c2 c3 c4
      simp only at HF2
      have hcg : wa.cell? ⟨g, 0, none⟩ = some (.string name) := (hb.cell (p := ⟨g, 0, none⟩) (World.block_lt_of_cell? w _ HC.out)).trans HC.out
      have HCALL := Lib.hid (cl87 nm nd le mo ra name g wa hcg)
      have HB := Lib.hid hb
      clear hcs hb hcg
      by_cases h : nm = name
      · have HX := Lib.hid (show nmIdx GenD.name name l 0 = j by rw [← HF2.out, if_pos h])
        have hd : decide (nm = name) = true := by simp [h]
        rw [hd] at HCALL
        clear h hd HF2
        go_wp2_with (go_at_call 51; refine HCALL.out.mono ?_; rintro e w2 ⟨rfl, hb2⟩; have HB2 := Lib.hid hb2; clear hb2)
        go_ret
        exact ⟨ret_int HX.out.symm, HB.out.trans (HB2.out.mono HB.out.size)⟩
      · have HX := Lib.hid (show nmIdx GenD.name name (l.drop (j + 1)) (j + 1) = nmIdx GenD.name name l 0 by rw [← HF2.out, if_neg h])
        have hd : decide (nm = name) = false := by simp [h]
        rw [hd] at HCALL
        clear h hd HF2
        go_wp2_with (go_at_call 51; refine HCALL.out.mono ?_; rintro e w2 ⟨rfl, hb2⟩; have HB2 := Lib.hid hb2; clear hb2)
        go_roundg (l.length - (j + 1))
        case measure => omega
        case rel => exact ⟨j + 1, rfl, by go_num, by omega, HB.out.trans (HB2.out.mono HB.out.size), HX⟩
    · obtain rfl : j = l.length := by omega
      have HX := Lib.hid (show nmIdx GenD.name name l 0 = -1 by rw [← HF.out, List.drop_of_length_le (Nat.le_refl _), nmIdx])
      have HB := Lib.hid hb
      clear hb
      go_wp2
      go_ret
      exact ⟨ret_int HX.out.symm, HB.out⟩

set_option maxRecDepth 100000 in
set_option maxHeartbeats 400000 in
theorem cl89 (nm : ByteArray) (nd : ByteArray) (de : Int) (name : ByteArray) (g : Nat) (w : World) (hc : w.cell? ⟨g, 0, none⟩ = some (.string name)) :
    Calls Tryz.prog 53 #[.agg #[.string nm, .string nd, I de], .pointer (some ⟨g, 0, none⟩)] w fun e w' => e = .returned (.bool (decide (nm = name))) ∧ Below w.heap.size w w' := by
  have hlt := World.block_lt_of_cell? w _ hc
  by_cases h : nm = name
  · subst h
    have HX := Lib.hid (show decide (nm = nm) = true by simp)
    go_enter Tryz.func53, Tryz.ntmps53
    go_wp2
    go_ret
    exact ⟨ret_bool HX.out.symm, (Below.refl _ _).alloc (Nat.le_refl _) _⟩
  · have tab : (nm.toList == name.toList) = false := (Lib.bytes_beq_false_iff nm name).2 h
    have HX := Lib.hid (show decide (nm = name) = false by simp [h])
    clear h
    go_enter Tryz.func53, Tryz.ntmps53
    go_wp2
    go_ret
    exact ⟨ret_bool HX.out.symm, (Below.refl _ _).alloc (Nat.le_refl _) _⟩

set_option maxRecDepth 100000 in
set_option maxHeartbeats 400000 in
theorem idx89 (l : List LoadD) (name : ByteArray) (A : Option Addr) (c g n : Nat) (w : World) (hl : l.length = n) (hr : Reads w w.heap.size 3 A n (cellsBy LoadD.cells l)) (hc : w.cell? ⟨g, 0, none⟩ = some (.string name)) (hn : n ≤ 1000000) :
    Calls Tryz.prog 52 #[.slice A n c, .func (.func 53) #[] #[.pointer (some ⟨g, 0, none⟩)]] w fun e w' => e = .returned (I (nmIdx LoadD.name name l 0)) ∧ Below w.heap.size w w' := by
  subst hl
  have HR := Lib.hid hr
  have HC := Lib.hid hc
  clear hr hc
  go_enter Tryz.func52, Tryz.ntmps52
  go_wp2
  go_loopg [8] (l.length - 0) (fun r v wr => ∃ j : Nat, r = l.length - j ∧ v = I j ∧ j ≤ l.length ∧ Below w.heap.size w wr ∧ Hid (nmIdx LoadD.name name (l.drop j) j = nmIdx LoadD.name name l 0))
  case atStart => exact ⟨0, rfl, rfl, by omega, Below.refl _ _, rfl⟩
  case round =>
    obtain ⟨j, rfl, rfl, hj, hb, HF⟩ := hrel
    obtain ⟨wa, rfl⟩ : ∃ wa : World, wa = wr := ⟨_, rfl⟩
    by_cases hlt : j < l.length
    · obtain ⟨b, off, rfl, hbl', hcs⟩ := reads_by (f := LoadD.cells) (sz := 3) (fun _ => rfl) (by omega) (HR.out.below hb) hlt
      have HF2 := Lib.hid (show (if l[j].name = name then (j : Int) else nmIdx LoadD.name name (l.drop (j + 1)) (j + 1)) = nmIdx LoadD.name name l 0 by
        have := HF.out
        rw [List.drop_eq_getElem_cons hlt, nmIdx] at this
        exact this)
      obtain ⟨s, hs⟩ : ∃ s, l[j] = s := ⟨_, rfl⟩
      rw [hs] at hcs HF2
      clear hs HF
      obtain ⟨nm, nd, de⟩ := s
      have c0 := hcs 0 _ rfl
      have c1 := hcs 1 _ rfl
      have c2 := hcs 2 _ rfl
      simp only [← Nat.add_assoc, Nat.add_zero] at c0 c1 c2
      simp only at HF2
      have hcg : wa.cell? ⟨g, 0, none⟩ = some (.string name) := (hb.cell (p := ⟨g, 0, none⟩) (World.block_lt_of_cell? w _ HC.out)).trans HC.out
      have HCALL := Lib.hid (cl89 nm nd de name g wa hcg)
      have HB := Lib.hid hb
      clear hcs hb hcg
      by_cases h : nm = name
      · have HX := Lib.hid (show nmIdx LoadD.name name l 0 = j by rw [← HF2.out, if_pos h])
        have hd : decide (nm = name) = true := by simp [h]
        rw [hd] at HCALL
        clear h hd HF2
        go_wp2_with (go_at_call 53; refine HCALL.out.mono ?_; rintro e w2 ⟨rfl, hb2⟩; have HB2 := Lib.hid hb2; clear hb2)
        go_ret
        exact ⟨ret_int HX.out.symm, HB.out.trans (HB2.out.mono HB.out.size)⟩
      · have HX := Lib.hid (show nmIdx LoadD.name name (l.drop (j + 1)) (j + 1) = nmIdx LoadD.name name l 0 by rw [← HF2.out, if_neg h])
        have hd : decide (nm = name) = false := by simp [h]
        rw [hd] at HCALL
        clear h hd HF2
        go_wp2_with (go_at_call 53; refine HCALL.out.mono ?_; rintro e w2 ⟨rfl, hb2⟩; have HB2 := Lib.hid hb2; clear hb2)
        go_roundg (l.length - (j + 1))
        case measure => omega
        case rel => exact ⟨j + 1, rfl, by go_num, by omega, HB.out.trans (HB2.out.mono HB.out.size), HX⟩
    · obtain rfl : j = l.length := by omega
      have HX := Lib.hid (show nmIdx LoadD.name name l 0 = -1 by rw [← HF.out, List.drop_of_length_le (Nat.le_refl _), nmIdx])
      have HB := Lib.hid hb
      clear hb
      go_wp2
      go_ret
      exact ⟨ret_int HX.out.symm, HB.out⟩

set_option maxRecDepth 100000 in
set_option maxHeartbeats 400000 in
theorem cl91 (nm : ByteArray) (nd : ByteArray) (ch : Int) (di : Int) (ca : Int) (name : ByteArray) (g : Nat) (w : World) (hc : w.cell? ⟨g, 0, none⟩ = some (.string name)) :
    Calls Tryz.prog 55 #[.agg #[.string nm, .string nd, I ch, I di, I ca], .pointer (some ⟨g, 0, none⟩)] w fun e w' => e = .returned (.bool (decide (nm = name))) ∧ Below w.heap.size w w' := by
  have hlt := World.block_lt_of_cell? w _ hc
  by_cases h : nm = name
  · subst h
    have HX := Lib.hid (show decide (nm = nm) = true by simp)
    go_enter Tryz.func55, Tryz.ntmps55
    go_wp2
    go_ret
    exact ⟨ret_bool HX.out.symm, (Below.refl _ _).alloc (Nat.le_refl _) _⟩
  · have tab : (nm.toList == name.toList) = false := (Lib.bytes_beq_false_iff nm name).2 h
    have HX := Lib.hid (show decide (nm = name) = false by simp [h])
    clear h
    go_enter Tryz.func55, Tryz.ntmps55
    go_wp2
    go_ret
    exact ⟨ret_bool HX.out.symm, (Below.refl _ _).alloc (Nat.le_refl _) _⟩

set_option maxRecDepth 100000 in
set_option maxHeartbeats 400000 in
theorem idx91 (l : List StoreD) (name : ByteArray) (A : Option Addr) (c g n : Nat) (w : World) (hl : l.length = n) (hr : Reads w w.heap.size 5 A n (cellsBy StoreD.cells l)) (hc : w.cell? ⟨g, 0, none⟩ = some (.string name)) (hn : n ≤ 1000000) :
    Calls Tryz.prog 54 #[.slice A n c, .func (.func 55) #[] #[.pointer (some ⟨g, 0, none⟩)]] w fun e w' => e = .returned (I (nmIdx StoreD.name name l 0)) ∧ Below w.heap.size w w' := by
  subst hl
  have HR := Lib.hid hr
  have HC := Lib.hid hc
  clear hr hc
  go_enter Tryz.func54, Tryz.ntmps54
  go_wp2
  go_loopg [8] (l.length - 0) (fun r v wr => ∃ j : Nat, r = l.length - j ∧ v = I j ∧ j ≤ l.length ∧ Below w.heap.size w wr ∧ Hid (nmIdx StoreD.name name (l.drop j) j = nmIdx StoreD.name name l 0))
  case atStart => exact ⟨0, rfl, rfl, by omega, Below.refl _ _, rfl⟩
  case round =>
    obtain ⟨j, rfl, rfl, hj, hb, HF⟩ := hrel
    obtain ⟨wa, rfl⟩ : ∃ wa : World, wa = wr := ⟨_, rfl⟩
    by_cases hlt : j < l.length
    · obtain ⟨b, off, rfl, hbl', hcs⟩ := reads_by (f := StoreD.cells) (sz := 5) (fun _ => rfl) (by omega) (HR.out.below hb) hlt
      have HF2 := Lib.hid (show (if l[j].name = name then (j : Int) else nmIdx StoreD.name name (l.drop (j + 1)) (j + 1)) = nmIdx StoreD.name name l 0 by
        have := HF.out
        rw [List.drop_eq_getElem_cons hlt, nmIdx] at this
        exact this)
      obtain ⟨s, hs⟩ : ∃ s, l[j] = s := ⟨_, rfl⟩
      rw [hs] at hcs HF2
      clear hs HF
      obtain ⟨nm, nd, ch, di, ca⟩ := s
      have c0 := hcs 0 _ rfl
      have c1 := hcs 1 _ rfl
      have c2 := hcs 2 _ rfl
      have c3 := hcs 3 _ rfl
      have c4 := hcs 4 _ rfl
      simp only [← Nat.add_assoc, Nat.add_zero] at c0 c1 c2 c3 c4
      simp only at HF2
      have hcg : wa.cell? ⟨g, 0, none⟩ = some (.string name) := (hb.cell (p := ⟨g, 0, none⟩) (World.block_lt_of_cell? w _ HC.out)).trans HC.out
      have HCALL := Lib.hid (cl91 nm nd ch di ca name g wa hcg)
      have HB := Lib.hid hb
      clear hcs hb hcg
      by_cases h : nm = name
      · have HX := Lib.hid (show nmIdx StoreD.name name l 0 = j by rw [← HF2.out, if_pos h])
        have hd : decide (nm = name) = true := by simp [h]
        rw [hd] at HCALL
        clear h hd HF2
        go_wp2_with (go_at_call 55; refine HCALL.out.mono ?_; rintro e w2 ⟨rfl, hb2⟩; have HB2 := Lib.hid hb2; clear hb2)
        go_ret
        exact ⟨ret_int HX.out.symm, HB.out.trans (HB2.out.mono HB.out.size)⟩
      · have HX := Lib.hid (show nmIdx StoreD.name name (l.drop (j + 1)) (j + 1) = nmIdx StoreD.name name l 0 by rw [← HF2.out, if_neg h])
        have hd : decide (nm = name) = false := by simp [h]
        rw [hd] at HCALL
        clear h hd HF2
        go_wp2_with (go_at_call 55; refine HCALL.out.mono ?_; rintro e w2 ⟨rfl, hb2⟩; have HB2 := Lib.hid hb2; clear hb2)
        go_roundg (l.length - (j + 1))
        case measure => omega
        case rel => exact ⟨j + 1, rfl, by go_num, by omega, HB.out.trans (HB2.out.mono HB.out.size), HX⟩
    · obtain rfl : j = l.length := by omega
      have HX := Lib.hid (show nmIdx StoreD.name name l 0 = -1 by rw [← HF.out, List.drop_of_length_le (Nat.le_refl _), nmIdx])
      have HB := Lib.hid hb
      clear hb
      go_wp2
      go_ret
      exact ⟨ret_int HX.out.symm, HB.out⟩

end Go.Proofs.YtglbelmljdgaoaaGreatDoor
