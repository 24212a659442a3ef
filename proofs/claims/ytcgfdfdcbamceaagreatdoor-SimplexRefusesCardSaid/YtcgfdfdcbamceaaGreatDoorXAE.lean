/- The table of powers of ten in memory. Numbers in 32-bit words, the lowest one first: plain facts. No program here. large.addWords. large.subWords, large.cmpWords. Integers in memory; large.norm. -/
import Derived.Test.YtcgfdfdcbamceaaGreatDoorXAD
import Derived.Test.YtcgfdfdcbamceaaGreatDoorXG
import Derived.Lib.AppendIntMem
import Derived.WalkKit
import Derived.Test.YtcgfdfdcbamceaaGreatDoorProg
import Derived.Deep.LoopGhost
import Derived.IntWalk
import Derived.Deep.QuietTactic
import Derived.BigQuiet
import Derived.Deep.Draws
namespace Go.Proofs.YtcgfdfdcbamceaaGreatDoor
open Go.RowKit Go.Shelf Go.Sort
theorem below_grow (w : World) (k : Nat) (os : Array Obj) : Below w.heap.size w (grow (w.drewN k) os) := by
 refine ⟨rfl, rfl, rfl, ?_, fun b hb => ?_⟩
 ·simp [grow]
 ·simp only [grow, World.heap_drewN]
  rw [Array.getElem?_append_left hb]
abbrev Tab (w : World) : Prop := Lib.TabIs Tryz.prog w "internal/strconv.uint64pow10" .u64 Lib.pow10Tab
theorem tab_below {w w' : World} (h : Tab w) (hb : Below w.heap.size w w') : Tab w' := by
 unfold Tab Lib.TabIs World.var? at *
 cases hg : Tryz.prog.globalNamed "internal/strconv.uint64pow10" with
 | none => simp [hg] at h
 | some g =>
  simp only [hg, Option.bind_some] at h ⊢
  have hlt : g < w.heap.size := by
   rcases Nat.lt_or_ge g w.heap.size with h' | h'
   ·exact h'
   ·rw [Array.getElem?_eq_none h'] at h; simp at h
  rw [hb.block g hlt]
  exact h
theorem below_drewT (w : World) (q : Nat) : Below w.heap.size w (w.drewN q) := ⟨rfl, rfl, rfl, Nat.le_refl _, fun _ _ => rfl⟩
end Go.Proofs.YtcgfdfdcbamceaaGreatDoor
namespace Go.Proofs.YtcgfdfdcbamceaaGreatDoor
def P32 (i : Nat) : Int := 4294967296 ^ i
theorem P32_zero : P32 0 = 1 := rfl
theorem P32_succ (i : Nat) : P32 (i + 1) = 4294967296 * P32 i := by unfold P32; rw [Int.pow_succ, Int.mul_comm]
theorem P32_pos (i : Nat) : 0 < P32 i := by
 induction i with
 | zero => decide
 | succ i ih => rw [P32_succ]; omega
theorem P32_add (i j : Nat) : P32 (i + j) = P32 i * P32 j := by unfold P32; exact Int.pow_add _ _ _
theorem P32_mono {i j : Nat} (h : i ≤ j) : P32 i ≤ P32 j := by
 obtain ⟨k, rfl⟩ := Nat.le.dest h
 clear h
 induction k with
 | zero => exact Int.le_refl _
 | succ k ih => rw [show i + (k + 1) = (i + k) + 1 from rfl, P32_succ]; have := P32_pos (i + k); omega
def val : List Int → Int
 | [] => 0
 | x :: xs => x + 4294967296 * val xs
def Ok (l : List Int) : Prop := ∀ x ∈ l, 0 ≤ x ∧ x < 4294967296
theorem Ok.nil : Ok [] := fun x h => by simp at h
theorem Ok.tail {x : Int} {l : List Int} (h : Ok (x :: l)) : Ok l := fun y hy => h y (List.mem_cons_of_mem _ hy)
theorem Ok.head {x : Int} {l : List Int} (h : Ok (x :: l)) : 0 ≤ x ∧ x < 4294967296 := h x List.mem_cons_self
theorem Ok.take {l : List Int} (h : Ok l) (k : Nat) : Ok (l.take k) := fun x hx => h x (List.mem_of_mem_take hx)
theorem Ok.drop {l : List Int} (h : Ok l) (k : Nat) : Ok (l.drop k) := fun x hx => h x (List.mem_of_mem_drop hx)
theorem Ok.at_ {l : List Int} (h : Ok l) (i : Nat) : 0 ≤ l.getD i 0 ∧ l.getD i 0 < 4294967296 := by
 rw [List.getD_eq_getElem?_getD]
 by_cases hi : i < l.length
 ·rw [List.getElem?_eq_getElem hi]; exact h _ (List.getElem_mem hi)
 ·rw [List.getElem?_eq_none (by omega)]; exact ⟨by decide, by decide⟩
theorem Ok.set {l : List Int} (h : Ok l) (i : Nat) {x : Int} (hx : 0 ≤ x ∧ x < 4294967296) : Ok (l.set i x) := by
 intro y hy
 rcases List.mem_or_eq_of_mem_set hy with h1 | h1
 ·exact h y h1
 ·rw [h1]; exact hx
theorem Ok.replicate (n : Nat) : Ok (List.replicate n 0) := fun x hx => by rw [(List.mem_replicate.1 hx).2]; decide
theorem val_append (l m : List Int) : val (l ++ m) = val l + P32 l.length * val m := by
 induction l with
 | nil => simp [val, P32_zero]
 | cons x l ih =>
  simp only [List.cons_append, val, List.length_cons, ih, P32_succ]
  rw [Int.mul_add, Int.mul_assoc]
  omega
theorem val_nonneg {l : List Int} (h : Ok l) : 0 ≤ val l := by
 induction l with
 | nil => exact Int.le_refl _
 | cons x l ih => have := ih h.tail; have := h.head; simp only [val]; omega
theorem val_lt {l : List Int} (h : Ok l) : val l < P32 l.length := by
 induction l with
 | nil => decide
 | cons x l ih => have := ih h.tail; have := h.head; simp only [val, List.length_cons, P32_succ]; omega
theorem val_replicate (n : Nat) : val (List.replicate n 0) = 0 := by
 induction n with
 | zero => rfl
 | succ n ih => simp [List.replicate_succ, val, ih]
theorem take_succ_getD (l : List Int) (i : Nat) (h : i < l.length) : l.take (i + 1) = l.take i ++ [l.getD i 0] := by
 rw [List.take_succ_eq_append_getElem h, List.getD_eq_getElem?_getD, List.getElem?_eq_getElem h]; rfl
theorem val_take_succ (l : List Int) (i : Nat) : val (l.take (i + 1)) = val (l.take i) + P32 i * l.getD i 0 := by
 by_cases h : i < l.length
 ·rw [take_succ_getD l i h, val_append, List.length_take, Nat.min_eq_left (by omega)]
  simp [val]
 ·rw [List.take_of_length_le (by omega), List.take_of_length_le (by omega), List.getD_eq_getElem?_getD, List.getElem?_eq_none (by omega)]
  simp
theorem val_take_drop (l : List Int) (i : Nat) : val l = val (l.take i) + P32 i * val (l.drop i) := by
 by_cases h : i ≤ l.length
 ·have := val_append (l.take i) (l.drop i)
  rw [List.take_append_drop, List.length_take, Nat.min_eq_left h] at this
  exact this
 ·rw [List.take_of_length_le (by omega), List.drop_of_length_le (by omega)]; simp [val]
theorem val_set_take (l : List Int) (i : Nat) (x : Int) (h : i < l.length) : val ((l.set i x).take (i + 1)) = val (l.take i) + P32 i * x := by
 rw [val_take_succ, List.take_set_of_le (Nat.le_refl i)]
 simp [h]
theorem getD_set_ne (l : List Int) {i j : Nat} (x : Int) (h : i ≠ j) : (l.set i x).getD j 0 = l.getD j 0 := by
 simp [List.getD_eq_getElem?_getD, List.getElem?_set_ne h]
theorem mul_split (p c : Int) : p * (c % 4294967296) + (4294967296 * p) * (c / 4294967296) = p * c := by
 have h := Int.emod_add_mul_ediv c 4294967296
 have : p * c = p * (c % 4294967296 + 4294967296 * (c / 4294967296)) := by rw [h]
 rw [this, Int.mul_add, Int.mul_comm 4294967296 p, Int.mul_assoc]
def Nm (l : List Int) : Prop := ∀ h : l ≠ [], l.getLast h ≠ 0
def cutLen (l : List Int) : Nat → Nat
 | 0 => 0
 | k + 1 => if l.getD k 0 = 0 then cutLen l k else k + 1
theorem cutLen_le (l : List Int) : ∀ k, cutLen l k ≤ k
 | 0 => Nat.le_refl _
 | k + 1 => by
  rw [cutLen]
  split
  ·have := cutLen_le l k; omega
  ·omega
theorem val_cut (l : List Int) : ∀ k, val (l.take (cutLen l k)) = val (l.take k)
 | 0 => by simp [cutLen]
 | k + 1 => by
  rw [cutLen]
  split
  ·rename_i h
   rw [val_cut l k, val_take_succ, h]; simp
  ·rfl
theorem nm_cut (l : List Int) : ∀ k, k ≤ l.length → Nm (l.take (cutLen l k))
 | 0, _ => by simp [cutLen, Nm]
 | k + 1, hk => by
  rw [cutLen]
  split
  ·exact nm_cut l k (by omega)
  ·rename_i h
   intro hne
   rw [List.getLast_eq_getElem]
   have hl : (l.take (k + 1)).length = k + 1 := by rw [List.length_take]; omega
   have : (l.take (k + 1))[(l.take (k + 1)).length - 1]'(by omega) = l.getD k 0 := by
    simp only [List.getElem_take, hl]
    rw [List.getD_eq_getElem?_getD, List.getElem?_eq_getElem (by omega)]
    simp
   rw [this]; exact h
theorem nm_low {l : List Int} (h : Ok l) (hn : Nm l) (k : Nat) (hk : l.length = k + 1) : P32 k ≤ val l := by
 have hne : l ≠ [] := by intro e; rw [e] at hk; simp at hk
 have h1 := val_take_succ l k
 rw [List.take_of_length_le (by omega)] at h1
 have h2 := val_nonneg (h.take k)
 have h3 := h.at_ k
 have h4 : l.getD k 0 ≠ 0 := by
  have := hn hne
  rw [List.getLast_eq_getElem] at this
  rw [List.getD_eq_getElem?_getD, List.getElem?_eq_getElem (by omega)]
  simp only [hk] at this
  simpa using this
 have h5 := P32_pos k
 have h6 : P32 k * 1 ≤ P32 k * l.getD k 0 := Int.mul_le_mul_of_nonneg_left (by omega) (by omega)
 omega
theorem nm_len {l : List Int} (h : Ok l) (hn : Nm l) {k : Nat} (hv : val l < P32 k) : l.length ≤ k := by
 rcases Nat.lt_or_ge k l.length with h1 | h1
 ·have h2 := nm_low h hn (l.length - 1) (by omega)
  have h3 := P32_mono (i := k) (j := l.length - 1) (by omega)
  omega
 ·exact h1
theorem nm_zero {l : List Int} (h : Ok l) (hn : Nm l) : l = [] ↔ val l = 0 := by
 constructor
 ·rintro rfl; rfl
 ·intro e
  have := nm_len h hn (k := 0) (by rw [e]; decide)
  exact List.eq_nil_of_length_eq_zero (by omega)
end Go.Proofs.YtcgfdfdcbamceaaGreatDoor
namespace Go.Proofs.YtcgfdfdcbamceaaGreatDoor
open Go.RowKit
abbrev U (x : Int) : Value := .int .u32 x
theorem info_u32 : (Tryz.prog.info? 139).map (fun i => (i.zero, i.size, i.bytes)) = some (some (.int .u32 0), 1, 4) := by kernel_rfl
theorem made_u32 (n : Nat) : madeCells (Value.int .u32 0).cells (n * 1) = Array.replicate n (U 0) := by
 apply Array.ext
 ·simp [size_madeCells]
 ·intro i h1 h2
  simp [madeCells, Value.cells, Nat.mod_one]
theorem make_u32 (n : Nat) (hn : n ≤ 1099511627776) (W : World) :
  (Instr.makeSlice 67 (.int .i64 (n : Int)) (.int .i64 (n : Int))).run Tryz.prog W = .ok (.slice (some ⟨W.heap.size, 0, none⟩) n n) (W.alloc (.cells (Array.replicate n (U 0)) 139)) := by
 obtain ⟨i, hi, hz0, hz1, hz2⟩ := info_parts info_u32
 have := run_make (P := Tryz.prog) W 67 139 i _ Tryz.underlying67 hi hz0 .i64 .i64 n n (by omega) (by omega) (by rw [hz2]; omega) (by omega)
 rw [this, Int.toNat_natCast, hz1, made_u32]
structure Wrd (w : World) (g n : Nat) (o : List Int) (wr : World) : Prop where
 len : o.length = n
 ok : Ok o
 blk : Blk wr g 139 (o.map U).toArray
 below : Below w.heap.size w wr
section
variable {w : World} {g n : Nat} {o : List Int} {wr w2 : World}
theorem Wrd.set (h : Wrd w g n o wr) (i : Nat) {x : Int} (hx : 0 ≤ x ∧ x < 4294967296) (hg : w.heap.size ≤ g) : Wrd w g n (o.set i x) (wr.setCell ⟨g, i, none⟩ (U x)) := by
 refine ⟨by simpa using h.len, h.ok.set i hx, ?_, h.below.setCell hg _⟩
 have := h.blk.set_ i (U x)
 simpa [List.map_set] using this
theorem Wrd.alloc (h : Wrd w g n o wr) (ob : Obj) : Wrd w g n o (wr.alloc ob) := ⟨h.len, h.ok, h.blk.alloc _, h.below.alloc h.below.size _⟩
theorem Wrd.cell (h : Wrd w g n o wr) {i : Nat} (hi : i < n) : wr.cell? ⟨g, i, none⟩ = some (U (o.getD i 0)) := by
 rw [h.blk.cell]; have := h.len; simp [hi, this]
theorem Wrd.row (h : Wrd w g n o wr) (hg : w.heap.size ≤ g) (hn : n ≤ maxLen) : Row wr w.heap.size 139 1 (.slice (some ⟨g, 0, none⟩) n n) o.length (o.map U) := by
 have hl := h.len
 refine ⟨by simp, .inr ⟨g, 0, n, _, by rw [hl], hg, h.blk, by omega, hn, by simp [hl], ?_⟩⟩
 simp only [List.drop_zero, Nat.mul_one]
 rw [List.take_of_length_le (by simp)]
theorem Wrd.reads (h : Wrd w g n o wr) : Reads wr wr.heap.size 1 (some ⟨g, 0, none⟩) o.length (o.map U) := by
 refine ⟨by simp, fun _ => ⟨g, 0, rfl, h.blk.lt, fun j u hu => ?_⟩⟩
 rw [h.blk.cell, Nat.zero_add]
 simpa using hu
theorem Wrd.start (w : World) (n : Nat) : Wrd w w.heap.size n (List.replicate n 0) (w.alloc (.cells (Array.replicate n (U 0)) 139)) :=
 ⟨by simp, Ok.replicate n, by have := Blk.new w 139 (Array.replicate n (U 0)); simpa using this, (Below.refl _ _).alloc (Nat.le_refl _) _⟩
end
theorem Reads.word {w : World} {B n : Nat} {A : Option Addr} {xs : List Int} (h : Reads w B 1 A n (xs.map U)) {k : Nat} (hk : k < n) : ∃ b off, A = some ⟨b, off, none⟩ ∧ b < B ∧ w.cell? ⟨b, off + k, none⟩ = some (U (xs.getD k 0)) := by
 obtain ⟨b, off, u, e, hb, hu, hc⟩ := h.at1 hk
 refine ⟨b, off, e, hb, ?_⟩
 have hl : k < xs.length := by have := h.1; simp at this; omega
 rw [hc]
 simp [hl] at hu ⊢
 exact hu.symm
def RetW (w : World) (P : List Int → Prop) (e : Ending) (w' : World) : Prop := ∃ v o, e = .returned v ∧ Row w' w.heap.size 139 1 v o.length (o.map U) ∧ Ok o ∧ P o ∧ Below w.heap.size w w'
structure AddI (w : World) (g : Nat) (a b : List Int) (i : Nat) (c : Int) (o : List Int) (wr : World) : Prop where
 wrd : Wrd w g (a.length + 1) o wr
 hi : i ≤ a.length
 hc : 0 ≤ c ∧ c ≤ 1
 sum : val (o.take i) + P32 i * c = val (a.take i) + val (b.take i)
theorem AddI.step {w : World} {g : Nat} {a b : List Int} {i : Nat} {c : Int} {o : List Int} {wr : World} (h : AddI w g a b i c o wr) (oa : Ok a) (ob : Ok b) (hlt : i < a.length) (hg : w.heap.size ≤ g) {s : Int} (hs : s = c + a.getD i 0 + b.getD i 0) :
  AddI w g a b (i + 1) (s / 4294967296) (o.set i (s % 4294967296)) (wr.setCell ⟨g, i, none⟩ (U (s % 4294967296))) := by
 have h1 := oa.at_ i
 have h2 := ob.at_ i
 have h3 := h.hc
 refine ⟨h.wrd.set i (by omega) hg, by omega, by omega, ?_⟩
 have hl := h.wrd.len
 rw [val_set_take o i _ (by omega), val_take_succ, val_take_succ, P32_succ]
 have h4 := h.sum
 have h5 := mul_split (P32 i) s
 rw [hs] at h5 ⊢
 rw [Int.mul_add, Int.mul_add] at h5
 omega
set_option maxRecDepth 100000 in
set_option maxHeartbeats 1000000 in
theorem addW_ord (a b : List Int) (A B : Option Addr) (ca cb : Nat) (w : World) (hA : Reads w w.heap.size 1 A a.length (a.map U)) (hB : Reads w w.heap.size 1 B b.length (b.map U)) (oa : Ok a) (ob : Ok b) (hl : a.length ≤ 1000000000) (hab : b.length ≤ a.length) :
  Calls Tryz.prog 101 #[.slice A a.length ca, .slice B b.length cb] w (RetW w fun o => val o = val a + val b ∧ o.length = a.length + 1) := by
 have hmk := make_u32 (a.length + 1) (by omega)
 have e1 : ((a.length + 1 : Nat) : Int) = (a.length : Int) + 1 := by omega
 rw [e1] at hmk
 have HE := Lib.hid e1
 clear e1
 have HW := Lib.hid (Wrd.start w (a.length + 1))
 go_enter Tryz.func101, Tryz.ntmps101
 have tab : decide (a.length < b.length) = false := decide_eq_false (by omega)
 go_wp2
 go_loopg [6, 21] (a.length - 0) (fun r cv iv wr => ∃ (i : Nat) (c : Int) (o : List Int), r = a.length - i ∧ cv = .int .u64 c ∧ iv = I i ∧ AddI w w.heap.size a b i c o wr)
 case atStart => exact ⟨0, 0, _, rfl, rfl, rfl, HW.out, by omega, by omega, by simp [val]⟩
 case round =>
  clear HW hmk
  obtain ⟨i, c, o, rfl, rfl, rfl, hI⟩ := hrel
  obtain ⟨hc0, hc1⟩ := hI.hc
  have hi := hI.hi
  by_cases hlt : i < a.length
  ·obtain ⟨ba, offa, rfl, hba, hca⟩ := (hA.below hI.wrd.below).word hlt
   have hx := oa.at_ i
   have HX : ∃ x, a.getD i 0 = x := ⟨_, rfl⟩
   obtain ⟨x, hxe⟩ := HX
   rw [hxe] at hca hx
   have HXE := Lib.hid hxe
   clear hxe
   obtain ⟨hx0, hx1⟩ := hx
   have hf : wr.frozen? ⟨w.heap.size, i, none⟩ = false := hI.wrd.blk.frozen _
   have hco := hI.wrd.cell (i := i) (by omega)
   have hlo := hI.wrd.blk.lt
   by_cases hbl : i < b.length
   ·obtain ⟨bb, offb, rfl, hbb, hcb⟩ := (hB.below hI.wrd.below).word hbl
    have hy := ob.at_ i
    obtain ⟨y, hye⟩ : ∃ y, b.getD i 0 = y := ⟨_, rfl⟩
    rw [hye] at hcb hy
    have HYE := Lib.hid hye
    clear hye
    obtain ⟨hy0, hy1⟩ := hy
    have hN := hI.step oa ob hlt (Nat.le_refl _) (s := c + x + y) (by rw [HXE.out, HYE.out])
    have HN := Lib.hid hN
    clear hN hI
    go_wp2
    go_roundg (a.length - (i + 1))
    case measure => omega
    case rel => exact ⟨i + 1, _, _, rfl, rfl, by go_num, HN.out⟩
   ·have hN := hI.step oa ob hlt (Nat.le_refl _) (s := c + x) (by rw [HXE.out, List.getD_eq_getElem?_getD, List.getElem?_eq_none (by omega)]; simp)
    have HN := Lib.hid hN
    clear hN hI
    go_wp2
    go_roundg (a.length - (i + 1))
    case measure => omega
    case rel => exact ⟨i + 1, _, _, rfl, rfl, by go_num, HN.out⟩
  ·obtain rfl : i = a.length := by omega
   have hf : wr.frozen? ⟨w.heap.size, a.length, none⟩ = false := hI.wrd.blk.frozen _
   have hco := hI.wrd.cell (i := a.length) (by omega)
   have hlo := hI.wrd.blk.lt
   have hF := hI.wrd.set a.length (x := c) (by omega) (Nat.le_refl _)
   have hV : val (o.set a.length c) = val a + val b := by
    have h1 := val_set_take o a.length c (by rw [hI.wrd.len]; omega)
    rw [List.take_of_length_le (by rw [List.length_set, hI.wrd.len]; omega)] at h1
    rw [h1, hI.sum, List.take_of_length_le (Nat.le_refl _), List.take_of_length_le hab]
   have HF := Lib.hid hF
   have HV := Lib.hid hV
   clear hF hV hI
   go_wp2
   go_ret
   exact ⟨_, _, rfl, HF.out.row (Nat.le_refl _) (by unfold maxLen; omega), HF.out.ok, ⟨HV.out, HF.out.len⟩, HF.out.below⟩
set_option maxRecDepth 100000 in
set_option maxHeartbeats 1000000 in
theorem addW_swp (a b : List Int) (A B : Option Addr) (ca cb : Nat) (w : World) (hA : Reads w w.heap.size 1 A a.length (a.map U)) (hB : Reads w w.heap.size 1 B b.length (b.map U)) (oa : Ok a) (ob : Ok b) (hl : a.length ≤ 1000000000) (hab : b.length < a.length) :
  Calls Tryz.prog 101 #[.slice B b.length cb, .slice A a.length ca] w (RetW w fun o => val o = val a + val b ∧ o.length = a.length + 1) := by
 have hmk := make_u32 (a.length + 1) (by omega)
 have e1 : ((a.length + 1 : Nat) : Int) = (a.length : Int) + 1 := by omega
 rw [e1] at hmk
 have HE := Lib.hid e1
 clear e1
 have HW := Lib.hid (Wrd.start w (a.length + 1))
 go_enter Tryz.func101, Tryz.ntmps101
 have tab : decide (b.length < a.length) = true := decide_eq_true hab
 go_wp2
 go_loopg [6, 21] (a.length - 0) (fun r cv iv wr => ∃ (i : Nat) (c : Int) (o : List Int), r = a.length - i ∧ cv = .int .u64 c ∧ iv = I i ∧ AddI w w.heap.size a b i c o wr)
 case atStart => exact ⟨0, 0, _, rfl, rfl, rfl, HW.out, by omega, by omega, by simp [val]⟩
 case round =>
  clear HW hmk
  obtain ⟨i, c, o, rfl, rfl, rfl, hI⟩ := hrel
  obtain ⟨hc0, hc1⟩ := hI.hc
  have hi := hI.hi
  by_cases hlt : i < a.length
  ·obtain ⟨ba, offa, rfl, hba, hca⟩ := (hA.below hI.wrd.below).word hlt
   have hx := oa.at_ i
   have HX : ∃ x, a.getD i 0 = x := ⟨_, rfl⟩
   obtain ⟨x, hxe⟩ := HX
   rw [hxe] at hca hx
   have HXE := Lib.hid hxe
   clear hxe
   obtain ⟨hx0, hx1⟩ := hx
   have hf : wr.frozen? ⟨w.heap.size, i, none⟩ = false := hI.wrd.blk.frozen _
   have hco := hI.wrd.cell (i := i) (by omega)
   have hlo := hI.wrd.blk.lt
   by_cases hbl : i < b.length
   ·obtain ⟨bb, offb, rfl, hbb, hcb⟩ := (hB.below hI.wrd.below).word hbl
    have hy := ob.at_ i
    obtain ⟨y, hye⟩ : ∃ y, b.getD i 0 = y := ⟨_, rfl⟩
    rw [hye] at hcb hy
    have HYE := Lib.hid hye
    clear hye
    obtain ⟨hy0, hy1⟩ := hy
    have hN := hI.step oa ob hlt (Nat.le_refl _) (s := c + x + y) (by rw [HXE.out, HYE.out])
    have HN := Lib.hid hN
    clear hN hI
    go_wp2
    go_roundg (a.length - (i + 1))
    case measure => omega
    case rel => exact ⟨i + 1, _, _, rfl, rfl, by go_num, HN.out⟩
   ·have hN := hI.step oa ob hlt (Nat.le_refl _) (s := c + x) (by rw [HXE.out, List.getD_eq_getElem?_getD, List.getElem?_eq_none (by omega)]; simp)
    have HN := Lib.hid hN
    clear hN hI
    go_wp2
    go_roundg (a.length - (i + 1))
    case measure => omega
    case rel => exact ⟨i + 1, _, _, rfl, rfl, by go_num, HN.out⟩
  ·obtain rfl : i = a.length := by omega
   have hf : wr.frozen? ⟨w.heap.size, a.length, none⟩ = false := hI.wrd.blk.frozen _
   have hco := hI.wrd.cell (i := a.length) (by omega)
   have hlo := hI.wrd.blk.lt
   have hF := hI.wrd.set a.length (x := c) (by omega) (Nat.le_refl _)
   have hV : val (o.set a.length c) = val a + val b := by
    have h1 := val_set_take o a.length c (by rw [hI.wrd.len]; omega)
    rw [List.take_of_length_le (by rw [List.length_set, hI.wrd.len]; omega)] at h1
    rw [h1, hI.sum, List.take_of_length_le (Nat.le_refl _), List.take_of_length_le (by omega)]
   have HF := Lib.hid hF
   have HV := Lib.hid hV
   clear hF hV hI
   go_wp2
   go_ret
   exact ⟨_, _, rfl, HF.out.row (Nat.le_refl _) (by unfold maxLen; omega), HF.out.ok, ⟨HV.out, HF.out.len⟩, HF.out.below⟩
theorem addW_any (a b : List Int) (A B : Option Addr) (ca cb : Nat) (w : World) (hA : Reads w w.heap.size 1 A a.length (a.map U)) (hB : Reads w w.heap.size 1 B b.length (b.map U)) (oa : Ok a) (ob : Ok b) (hl : a.length ≤ 1000000000) (hm : b.length ≤ 1000000000) :
  Calls Tryz.prog 101 #[.slice A a.length ca, .slice B b.length cb] w (RetW w fun o => val o = val a + val b ∧ o.length = max a.length b.length + 1) := by
 by_cases h : a.length < b.length
 ·refine (addW_swp b a B A cb ca w hB hA ob oa hm h).mono ?_
  rintro e w' ⟨v, o, h1, h2, h3, ⟨h4, h5⟩, h6⟩
  exact ⟨v, o, h1, h2, h3, ⟨by omega, by omega⟩, h6⟩
 ·refine (addW_ord a b A B ca cb w hA hB oa ob hl (by omega)).mono ?_
  rintro e w' ⟨v, o, h1, h2, h3, ⟨h4, h5⟩, h6⟩
  exact ⟨v, o, h1, h2, h3, ⟨h4, by omega⟩, h6⟩
structure SubI (w : World) (g : Nat) (a b : List Int) (i : Nat) (c : Int) (o : List Int) (wr : World) : Prop where
 wrd : Wrd w g a.length o wr
 hi : i ≤ a.length
 hc : -1 ≤ c ∧ c ≤ 0
 sum : val (o.take i) + P32 i * c = val (a.take i) - val (b.take i)
theorem SubI.step {w : World} {g : Nat} {a b : List Int} {i : Nat} {c : Int} {o : List Int} {wr : World} (h : SubI w g a b i c o wr) (oa : Ok a) (ob : Ok b) (hlt : i < a.length) (hg : w.heap.size ≤ g) {s : Int} (hs : s = c + a.getD i 0 - b.getD i 0) :
  SubI w g a b (i + 1) (s / 4294967296) (o.set i (s % 4294967296)) (wr.setCell ⟨g, i, none⟩ (U (s % 4294967296))) := by
 have h1 := oa.at_ i
 have h2 := ob.at_ i
 have h3 := h.hc
 refine ⟨h.wrd.set i (by omega) hg, by omega, by omega, ?_⟩
 have hl := h.wrd.len
 rw [val_set_take o i _ (by omega), val_take_succ, val_take_succ, P32_succ]
 have h4 := h.sum
 have h5 := mul_split (P32 i) s
 rw [hs] at h5 ⊢
 rw [Int.mul_sub, Int.mul_add] at h5
 omega
theorem sub_end {n : Nat} {c d : Int} {o : List Int} (ho : Ok o) (hl : o.length = n) (hc : -1 ≤ c ∧ c ≤ 0) (hd : 0 ≤ d) (h : val o + P32 n * c = d) : c = 0 ∧ val o = d := by
 have h1 := val_lt ho
 rw [hl] at h1
 have : c = 0 := by
  rcases (show c = -1 ∨ c = 0 by omega) with e | e
  ·rw [e] at h; omega
  ·exact e
 rw [this] at h
 exact ⟨this, by omega⟩
set_option maxRecDepth 100000 in
set_option maxHeartbeats 1000000 in
theorem subW_any (a b : List Int) (A B : Option Addr) (ca cb : Nat) (w : World) (hA : Reads w w.heap.size 1 A a.length (a.map U)) (hB : Reads w w.heap.size 1 B b.length (b.map U)) (oa : Ok a) (ob : Ok b) (hl : a.length ≤ 1000000000) (hab : b.length ≤ a.length) (hle : val b ≤ val a) :
  Calls Tryz.prog 103 #[.slice A a.length ca, .slice B b.length cb] w (RetW w fun o => val o = val a - val b ∧ o.length = a.length) := by
 have hmk := make_u32 a.length (by omega)
 have HW := Lib.hid (Wrd.start w a.length)
 have HLE := Lib.hid hle
 clear hle
 go_enter Tryz.func103, Tryz.ntmps103
 go_wp2
 go_loopg [6, 13] (a.length - 0) (fun r cv iv wr => ∃ (i : Nat) (c : Int) (o : List Int), r = a.length - i ∧ cv = .int .i64 c ∧ iv = I i ∧ SubI w w.heap.size a b i c o wr)
 case atStart => exact ⟨0, 0, _, rfl, rfl, rfl, HW.out, by omega, by omega, by simp [val]⟩
 case round =>
  clear HW hmk
  obtain ⟨i, c, o, rfl, rfl, rfl, hI⟩ := hrel
  obtain ⟨hc0, hc1⟩ := hI.hc
  have hi := hI.hi
  by_cases hlt : i < a.length
  ·obtain ⟨ba, offa, rfl, hba, hca⟩ := (hA.below hI.wrd.below).word hlt
   have hx := oa.at_ i
   obtain ⟨x, hxe⟩ : ∃ x, a.getD i 0 = x := ⟨_, rfl⟩
   rw [hxe] at hca hx
   have HXE := Lib.hid hxe
   clear hxe
   obtain ⟨hx0, hx1⟩ := hx
   have hf : wr.frozen? ⟨w.heap.size, i, none⟩ = false := hI.wrd.blk.frozen _
   have hco := hI.wrd.cell (i := i) (by omega)
   have hlo := hI.wrd.blk.lt
   by_cases hbl : i < b.length
   ·obtain ⟨bb, offb, rfl, hbb, hcb⟩ := (hB.below hI.wrd.below).word hbl
    have hy := ob.at_ i
    obtain ⟨y, hye⟩ : ∃ y, b.getD i 0 = y := ⟨_, rfl⟩
    rw [hye] at hcb hy
    have HYE := Lib.hid hye
    clear hye
    obtain ⟨hy0, hy1⟩ := hy
    have hN := hI.step oa ob hlt (Nat.le_refl _) (s := c + x - y) (by rw [HXE.out, HYE.out])
    have HN := Lib.hid hN
    clear hN hI
    go_wp2
    go_roundg (a.length - (i + 1))
    case measure => omega
    case rel => exact ⟨i + 1, _, _, rfl, rfl, by go_num, HN.out⟩
   ·have hN := hI.step oa ob hlt (Nat.le_refl _) (s := c + x) (by rw [HXE.out, List.getD_eq_getElem?_getD (l := b), List.getElem?_eq_none (by omega)]; simp)
    have HN := Lib.hid hN
    clear hN hI
    go_wp2
    go_roundg (a.length - (i + 1))
    case measure => omega
    case rel => exact ⟨i + 1, _, _, rfl, rfl, by go_num, HN.out⟩
  ·obtain rfl : i = a.length := by omega
   have hs := hI.sum
   rw [List.take_of_length_le (Nat.le_of_eq hI.wrd.len), List.take_of_length_le (Nat.le_refl _), List.take_of_length_le hab] at hs
   have hE := sub_end hI.wrd.ok hI.wrd.len hI.hc (by have := HLE.out; omega) hs
   have HF := Lib.hid hI.wrd
   have HV := Lib.hid hE.2
   clear hE hI hs
   go_wp2
   go_ret
   exact ⟨_, _, rfl, HF.out.row (Nat.le_refl _) (by unfold maxLen; omega), HF.out.ok, ⟨HV.out, HF.out.len⟩, HF.out.below⟩
theorem val_eq_at {a b : List Int} {i : Nat} (h : val (a.drop (i + 1)) = val (b.drop (i + 1))) (e : a.getD i 0 = b.getD i 0) (ha : i < a.length) (hb : i < b.length) : val (a.drop i) = val (b.drop i) := by
 rw [List.drop_eq_getElem_cons ha, List.drop_eq_getElem_cons hb]
 simp only [val]
 rw [List.getD_eq_getElem?_getD, List.getD_eq_getElem?_getD, List.getElem?_eq_getElem ha, List.getElem?_eq_getElem hb] at e
 simp only [Option.getD_some] at e
 rw [e, h]
theorem val_lt_at {a b : List Int} {i : Nat} (oa : Ok a) (h : val (a.drop (i + 1)) = val (b.drop (i + 1))) (ob : Ok b) (e : a.getD i 0 < b.getD i 0) (ha : i < a.length) (_hb : i < b.length) : val a < val b := by
 have h1 := val_take_drop a (i + 1)
 have h2 := val_take_drop b (i + 1)
 rw [val_take_succ] at h1 h2
 rw [h] at h1
 have h3 := val_lt (oa.take i)
 have h4 := val_nonneg (ob.take i)
 rw [List.length_take, Nat.min_eq_left (by omega)] at h3
 have h5 : P32 i * (a.getD i 0 + 1) ≤ P32 i * b.getD i 0 := Int.mul_le_mul_of_nonneg_left (by omega) (by have := P32_pos i; omega)
 rw [Int.mul_add, Int.mul_one] at h5
 omega
def CmpR (x y r : Int) : Prop := (r < 0 ↔ x < y) ∧ (0 < r ↔ y < x) ∧ -1000000000 ≤ r ∧ r ≤ 1000000000
def RetCmp (w : World) (x y : Int) (e : Ending) (w' : World) : Prop := ∃ r, e = .returned (I r) ∧ CmpR x y r ∧ Below w.heap.size w w'
set_option maxRecDepth 100000 in
set_option maxHeartbeats 1000000 in
theorem cmpW_any (a b : List Int) (A B : Option Addr) (ca cb : Nat) (w : World) (hA : Reads w w.heap.size 1 A a.length (a.map U)) (hB : Reads w w.heap.size 1 B b.length (b.map U)) (oa : Ok a) (ob : Ok b) (na : Nm a) (nb : Nm b) (hl : a.length ≤ 1000000000) (hm : b.length ≤ 1000000000) :
  Calls Tryz.prog 102 #[.slice A a.length ca, .slice B b.length cb] w (RetCmp w (val a) (val b)) := by
 by_cases hab : a.length = b.length
 ·have t0 : ((a.length : Int) != b.length) = false := by rw [hab]; simp
  have t1 : (a.length != b.length) = false := by rw [hab]; simp
  rw [← hab] at hB t0 t1 ⊢
  have HAB := Lib.hid hab
  have HA := Lib.hid hA
  have HB := Lib.hid hB
  clear hab hA hB hm
  go_enter Tryz.func102, Tryz.ntmps102
  go_wp2
  go_loopg [5] a.length (fun r iv wr => ∃ q : Nat, r ≤ a.length ∧ iv = I ((r : Int) - 1) ∧ wr = w.drewN q ∧ val (a.drop r) = val (b.drop r))
  case atStart => exact ⟨0, Nat.le_refl _, rfl, rfl, by rw [List.drop_of_length_le (Nat.le_refl _), List.drop_of_length_le (by have := HAB.out; omega)]⟩
  case round =>
   obtain ⟨q, hi, rfl, rfl, hv⟩ := hrel
   rcases gk with _ | k
   ·have e0 : (((0 : Nat) : Int) - 1) = -1 := by omega
    rw [e0]
    have hE : CmpR (val a) (val b) 0 := by
     simp only [List.drop_zero] at hv
     rw [hv]
     exact ⟨by omega, by omega, by omega, by omega⟩
    have HE := Lib.hid hE
    clear hE hv e0
    go_wp2
    go_ret
    exact ⟨_, rfl, HE.out, below_drewN (Below.refl _ _) q⟩
   ·have e0 : (((k + 1 : Nat) : Int) - 1) = k := by omega
    rw [e0]
    clear e0
    obtain ⟨ba, offa, hAe, hba, hca⟩ := HA.out.word (k := k) (by omega)
    obtain ⟨bb, offb, hBe, hbb, hcb⟩ := HB.out.word (k := k) (by omega)
    subst hAe hBe
    have hx := oa.at_ k
    have hy := ob.at_ k
    obtain ⟨x, hxe⟩ : ∃ x, a.getD k 0 = x := ⟨_, rfl⟩
    obtain ⟨y, hye⟩ : ∃ y, b.getD k 0 = y := ⟨_, rfl⟩
    rw [hxe] at hca hx
    rw [hye] at hcb hy
    have hk1 : (0 : Int) ≤ (k : Int) := by omega
    have hk2 : (k : Int) < (a.length : Int) := by omega
    have hk3 : k < a.length := by omega
    by_cases hxy : x = y
    ·have t2 : (x != y) = false := by rw [hxy]; simp
     have hN := val_eq_at hv (by rw [hxe, hye, hxy]) (by omega) (by have := HAB.out; omega)
     have HN := Lib.hid hN
     clear hN hv hxe hye hxy
     go_wp2
     go_quiet (fail)
     go_wp2
     go_roundg k
     case measure => omega
     case rel => exact ⟨_, by omega, by go_num, rfl, HN.out⟩
    ·have t2 : (x != y) = true := by rw [bne_iff_ne]; exact hxy
     by_cases hlt : x < y
     ·have hR : CmpR (val a) (val b) (-1) := by
       have := val_lt_at oa hv ob (by omega) (by omega) (by have := HAB.out; omega)
       exact ⟨by omega, by omega, by omega, by omega⟩
      have HR := Lib.hid hR
      have t3 : decide (x < y) = true := decide_eq_true hlt
      clear hR hv hxe hye hxy
      go_wp2
      go_quiet (fail)
      go_wp2
      go_quiet (fail)
      go_wp2
      go_ret
      exact ⟨_, rfl, HR.out, by first | exact below_drewN (Below.refl _ _) _ | exact below_drewN (below_drewN (Below.refl _ _) _) _ | exact below_drewN (below_drewN (below_drewN (Below.refl _ _) _) _) _⟩
     ·have hR : CmpR (val a) (val b) 1 := by
       have := val_lt_at ob hv.symm oa (by omega) (by have := HAB.out; omega) (by omega)
       exact ⟨by omega, by omega, by omega, by omega⟩
      have HR := Lib.hid hR
      have t3 : decide (x < y) = false := decide_eq_false hlt
      clear hR hv hxe hye hxy
      go_wp2
      go_quiet (fail)
      go_wp2
      go_quiet (fail)
      go_wp2
      go_ret
      exact ⟨_, rfl, HR.out, by first | exact below_drewN (Below.refl _ _) _ | exact below_drewN (below_drewN (Below.refl _ _) _) _ | exact below_drewN (below_drewN (below_drewN (Below.refl _ _) _) _) _⟩
 ·have t0 : ((a.length : Int) != b.length) = true := by rw [bne_iff_ne]; omega
  have t1 : (a.length != b.length) = true := by rw [bne_iff_ne]; exact hab
  have hR : CmpR (val a) (val b) ((a.length : Int) - b.length) := by
   have h1 := val_lt oa
   have h2 := val_lt ob
   rcases Nat.lt_or_ge a.length b.length with h | h
   ·have h3 := nm_low ob nb (b.length - 1) (by omega)
    have h4 := P32_mono (i := a.length) (j := b.length - 1) (by omega)
    exact ⟨by omega, by omega, by omega, by omega⟩
   ·have h3 := nm_low oa na (a.length - 1) (by omega)
    have h4 := P32_mono (i := b.length) (j := a.length - 1) (by omega)
    exact ⟨by omega, by omega, by omega, by omega⟩
  have HR := Lib.hid hR
  clear hR hab
  go_enter Tryz.func102, Tryz.ntmps102
  go_wp2
  go_ret
  exact ⟨_, rfl, HR.out, Below.refl _ _⟩
def Big (w : World) (v : Value) (z : Int) : Prop :=
 ∃ A c ws, v = .agg #[.bool (decide (z < 0)), .slice A ws.length c] ∧ Reads w w.heap.size 1 A ws.length (ws.map U) ∧ (ws.length ≤ c ∧ c ≤ maxLen) ∧ Ok ws ∧ Nm ws ∧ val ws = (z.natAbs : Int)
theorem Big.ext {w w' : World} {v : Value} {z : Int} (h : Big w v z) (hb : Below w.heap.size w w') : Big w' v z := by
 obtain ⟨A, c, ws, h1, h2, h3⟩ := h
 exact ⟨A, c, ws, h1, (h2.below hb).more hb.size, h3⟩
def RetBig (w : World) (z : Int) (e : Ending) (w' : World) : Prop := ∃ v, e = .returned v ∧ Big w' v z ∧ Below w.heap.size w w'
theorem ret_big {w : World} {v : Value} {z : Int} (h : Big w v z) (o : Obj) : RetBig w z (.returned v) (w.alloc o) :=
 ⟨_, rfl, h.ext ((Below.refl _ _).alloc (Nat.le_refl _) _), (Below.refl _ _).alloc (Nat.le_refl _) _⟩
def Fits (n : Nat) (z : Int) : Prop := (z.natAbs : Int) < P32 n
theorem Fits.mono {n m : Nat} {z : Int} (h : Fits n z) (hm : n ≤ m) : Fits m z := Int.lt_of_lt_of_le h (P32_mono hm)
theorem Fits.len {n : Nat} {z : Int} {ws : List Int} (h : Fits n z) (ho : Ok ws) (hn : Nm ws) (hv : val ws = (z.natAbs : Int)) : ws.length ≤ n := nm_len ho hn (by rw [hv]; exact h)
theorem fits_zero (n : Nat) : Fits n 0 := P32_pos n
theorem Fits.neg {n : Nat} {z : Int} (h : Fits n z) : Fits n (-z) := by unfold Fits at *; rw [Int.natAbs_neg]; exact h
theorem Fits.add {n : Nat} {a b : Int} (ha : Fits n a) (hb : Fits n b) : Fits (n + 1) (a + b) := by
 unfold Fits at *
 have := P32_pos n
 rw [P32_succ]; omega
theorem Fits.mul {n m : Nat} {a b : Int} (ha : Fits n a) (hb : Fits m b) : Fits (n + m) (a * b) := by
 unfold Fits at *
 rw [Int.natAbs_mul, P32_add, Int.natCast_mul]
 have h1 := P32_pos m
 exact Int.lt_of_le_of_lt (Int.mul_le_mul_of_nonneg_left (Int.le_of_lt hb) (by omega)) (Int.mul_lt_mul_of_pos_right ha h1)
def sgn (m : Bool) (n : Int) : Int := if m = true then -n else n
theorem sgn_abs (m : Bool) {n : Int} (h : 0 ≤ n) : ((sgn m n).natAbs : Int) = n := by cases m <;> simp [sgn] <;> omega
theorem big_norm {w : World} {A : Option Addr} {c : Nat} {ws : List Int} (m : Bool) (hr : Reads w w.heap.size 1 A ws.length (ws.map U)) (hc : ws.length ≤ c) (hcm : c ≤ maxLen) (ho : Ok ws) :
  Big w (.agg #[.bool (m && decide (0 < cutLen ws ws.length)), .slice A (cutLen ws ws.length) c]) (sgn m (val ws)) := by
 have hle := cutLen_le ws ws.length
 have hv := val_cut ws ws.length
 rw [List.take_of_length_le (Nat.le_refl _)] at hv
 have hn := nm_cut ws ws.length (Nat.le_refl _)
 have hok := ho.take (cutLen ws ws.length)
 have hl : (ws.take (cutLen ws ws.length)).length = cutLen ws ws.length := by rw [List.length_take]; omega
 have h0 := val_nonneg ho
 refine ⟨A, c, ws.take (cutLen ws ws.length), ?_, ?_, ⟨by omega, hcm⟩, hok, hn, by rw [hv, sgn_abs m h0]⟩
 ·rw [hl]
  congr 3
  have hz := nm_zero hok hn
  rw [hv] at hz
  have hiff : 0 < cutLen ws ws.length ↔ 0 < val ws := by
   constructor
   ·intro h
    have : ws.take (cutLen ws ws.length) ≠ [] := by intro e; rw [e] at hl; simp at hl; omega
    have := mt hz.2 this
    omega
   ·intro h
    rcases Nat.eq_zero_or_pos (cutLen ws ws.length) with e | e
    ·have : ws.take (cutLen ws ws.length) = [] := by rw [e]; rfl
     have := hz.1 this
     omega
    ·exact e
  cases m
  ·simp [sgn]; omega
  ·simp only [Bool.true_and, sgn, if_true]
   congr 2
   rw [eq_iff_iff]
   omega
 ·have := hr.take hle
  rw [Nat.mul_one, ← List.map_take] at this
  rw [hl]; exact this
set_option maxRecDepth 100000 in
set_option maxHeartbeats 1000000 in
theorem norm_any (m : Bool) (ws : List Int) (A : Option Addr) (c : Nat) (w : World) (hr : Reads w w.heap.size 1 A ws.length (ws.map U)) (hc : ws.length ≤ c) (hcm : c ≤ maxLen) (ho : Ok ws) :
  Calls Tryz.prog 91 #[.bool m, .slice A ws.length c] w (RetBig w (sgn m (val ws))) := by
 have HB := Lib.hid (big_norm m hr hc hcm ho)
 unfold maxLen at hcm
 go_enter Tryz.func91, Tryz.ntmps91
 go_wp2
 go_loopg [1] ws.length (fun r sv wr => r ≤ ws.length ∧ sv = .slice A r c ∧ wr = w.alloc (.cells #[.bool false, .slice none 0 0] 69) ∧ Hid (cutLen ws ws.length = cutLen ws r))
 case atStart => exact ⟨Nat.le_refl _, rfl, rfl, Lib.hid rfl⟩
 case round =>
  obtain ⟨hi, rfl, rfl, HC⟩ := hrel
  rcases gk with _ | k
  ·have hE := HB.out
   rw [HC.out, cutLen] at hE
   have HE : Hid (Big w (.agg #[.bool false, .slice A 0 c]) (sgn m (val ws))) := Lib.hid (by simpa using hE)
   clear hE HB HC
   cases m
   all_goals
    go_wp2
    exact bodyPost_ret (v := .agg #[.bool false, .slice A 0 c]) (by simp [results, Tryz.results91, go_sem]) rfl (ret_big HE.out _)
  ·obtain ⟨b, off, hAe, hb, hcl⟩ := hr.word (k := k) (by omega)
   subst hAe
   obtain ⟨x, hx⟩ : ∃ x, ws.getD k 0 = x := ⟨_, rfl⟩
   rw [hx] at hcl
   have hk1 : (0 : Int) ≤ (k : Int) := by omega
   by_cases h0 : x = 0
   ·have HN : Hid (cutLen ws ws.length = cutLen ws k) := Lib.hid (by rw [HC.out, cutLen, if_pos (by rw [hx, h0])])
    have t0 : (x == 0) = true := beq_iff_eq.2 h0
    clear hx h0 HC
    go_wp2
    go_roundg k
    case measure => omega
    case rel => exact ⟨by omega, rfl, rfl, HN⟩
   ·have t0 : (x == 0) = false := beq_eq_false_iff_ne.2 h0
    have hE := HB.out
    rw [HC.out, cutLen, if_neg (by rw [hx]; exact h0)] at hE
    have HE : Hid (Big w (.agg #[.bool m, .slice (some ⟨b, off, none⟩) (k + 1) c]) (sgn m (val ws))) := Lib.hid (by simpa using hE)
    clear hE HB HC hx h0
    cases m
    ·go_wp2
     exact bodyPost_ret (v := .agg #[.bool false, .slice (some ⟨b, off, none⟩) (k + 1) c]) (by simp [results, Tryz.results91, go_sem]) rfl (ret_big HE.out _)
    ·go_wp2
     exact bodyPost_ret (v := .agg #[.bool true, .slice (some ⟨b, off, none⟩) (k + 1) c]) (by simp [results, Tryz.results91, go_sem]) rfl (ret_big HE.out _)
end Go.Proofs.YtcgfdfdcbamceaaGreatDoor
