/- large.addWords. -/
import Derived.Test.YtpbdlmjfjkfphaaGreatDoorProg
import Derived.Test.YtpbdlmjfjkfphaaGreatDoorMem
import Derived.Test.YtpbdlmjfjkfphaaGreatDoorWords
import Derived.Deep.LoopGhost
import Derived.IntWalk
namespace Go.Proofs.YtpbdlmjfjkfphaaGreatDoor
open Go.RowKit

abbrev U (x : Int) : Value := .int .u32 x
theorem info_u32 : (Tryz.prog.info? 78).map (fun i => (i.zero, i.size, i.bytes)) = some (some (.int .u32 0), 1, 4) := by kernel_rfl
theorem size_u32 : (Tryz.prog.info? 78).map (·.size) = some 1 := by kernel_rfl
theorem made_u32 (n : Nat) : madeCells (Value.int .u32 0).cells (n * 1) = Array.replicate n (U 0) := by
  apply Array.ext
  · simp [size_madeCells]
  · intro i h1 h2
    simp [madeCells, Value.cells, Nat.mod_one]
theorem make_u32 (n : Nat) (hn : n ≤ 1099511627776) (W : World) :
    (Instr.makeSlice 43 (.int .i64 (n : Int)) (.int .i64 (n : Int))).run Tryz.prog W = .ok (.slice (some ⟨W.heap.size, 0, none⟩) n n) (W.alloc (.cells (Array.replicate n (U 0)) 78)) := by
  obtain ⟨i, hi, hz0, hz1, hz2⟩ := info_parts info_u32
  have := run_make (P := Tryz.prog) W 43 78 i _ Tryz.underlying43 hi hz0 .i64 .i64 n n (by omega) (by omega) (by rw [hz2]; omega) (by omega)
  rw [this, Int.toNat_natCast, hz1, made_u32]

/-- the words o lie in block g, that the call made -/
structure Wrd (w : World) (g n : Nat) (o : List Int) (wr : World) : Prop where
  len : o.length = n
  ok : Ok o
  blk : Blk wr g 78 (o.map U).toArray
  below : Below w.heap.size w wr
section
variable {w : World} {g n : Nat} {o : List Int} {wr w2 : World}
theorem Wrd.set (h : Wrd w g n o wr) (i : Nat) {x : Int} (hx : 0 ≤ x ∧ x < 4294967296) (hg : w.heap.size ≤ g) : Wrd w g n (o.set i x) (wr.setCell ⟨g, i, none⟩ (U x)) := by
  refine ⟨by simpa using h.len, h.ok.set i hx, ?_, h.below.setCell hg _⟩
  have := h.blk.set_ i (U x)
  simpa [List.map_set] using this
theorem Wrd.alloc (h : Wrd w g n o wr) (ob : Obj) : Wrd w g n o (wr.alloc ob) := ⟨h.len, h.ok, h.blk.alloc _, h.below.alloc h.below.size _⟩
theorem Wrd.cell (h : Wrd w g n o wr) {i : Nat} (hi : i < n) : wr.cell? ⟨g, i, none⟩ = some (U (o.getD i 0)) := by
  rw [h.blk.cell]; have := h.len; simp [hi, this]
theorem Wrd.row (h : Wrd w g n o wr) (hg : w.heap.size ≤ g) (hn : n ≤ maxLen) : Row wr w.heap.size 78 1 (.slice (some ⟨g, 0, none⟩) n n) o.length (o.map U) := by
  have hl := h.len
  refine ⟨by simp, .inr ⟨g, 0, n, _, by rw [hl], hg, h.blk, by omega, hn, by simp [hl], ?_⟩⟩
  simp only [List.drop_zero, Nat.mul_one]
  rw [List.take_of_length_le (by simp)]
theorem Wrd.reads (h : Wrd w g n o wr) : Reads wr wr.heap.size 1 (some ⟨g, 0, none⟩) o.length (o.map U) := by
  refine ⟨by simp, fun _ => ⟨g, 0, rfl, h.blk.lt, fun j u hu => ?_⟩⟩
  rw [h.blk.cell, Nat.zero_add]
  simpa using hu
theorem Wrd.start (w : World) (n : Nat) : Wrd w w.heap.size n (List.replicate n 0) (w.alloc (.cells (Array.replicate n (U 0)) 78)) :=
  ⟨by simp, Ok.replicate n, by have := Blk.new w 78 (Array.replicate n (U 0)); simpa using this, (Below.refl _ _).alloc (Nat.le_refl _) _⟩
end
theorem Reads.word {w : World} {B n : Nat} {A : Option Addr} {xs : List Int} (h : Reads w B 1 A n (xs.map U)) {k : Nat} (hk : k < n) : ∃ b off, A = some ⟨b, off, none⟩ ∧ b < B ∧ w.cell? ⟨b, off + k, none⟩ = some (U (xs.getD k 0)) := by
  obtain ⟨b, off, u, e, hb, hu, hc⟩ := h.at1 hk
  refine ⟨b, off, e, hb, ?_⟩
  have hl : k < xs.length := by have := h.1; simp at this; omega
  rw [hc]
  simp [hl] at hu ⊢
  exact hu.symm
/-- a call that returns new words -/
def RetW (w : World) (P : List Int → Prop) (e : Ending) (w' : World) : Prop := ∃ v o, e = .returned v ∧ Row w' w.heap.size 78 1 v o.length (o.map U) ∧ Ok o ∧ P o ∧ Below w.heap.size w w'

structure AddI (w : World) (g : Nat) (a b : List Int) (i : Nat) (c : Int) (o : List Int) (wr : World) : Prop where
  wrd : Wrd w g (a.length + 1) o wr
  hi : i ≤ a.length
  hc : 0 ≤ c ∧ c ≤ 1
  sum : val (o.take i) + P32 i * c = val (a.take i) + val (b.take i)

theorem AddI.step {w : World} {g : Nat} {a b : List Int} {i : Nat} {c : Int} {o : List Int} {wr : World} (h : AddI w g a b i c o wr) (oa : Ok a) (ob : Ok b) (hlt : i < a.length) (hg : w.heap.size ≤ g) {s : Int} (hs : s = c + a.getD i 0 + b.getD i 0) :
    AddI w g a b (i + 1) (s / 4294967296) (o.set i (s % 4294967296)) (wr.setCell ⟨g, i, none⟩ (U (s % 4294967296))) := by
  have h1 := oa.at_ i
  have h2 := ob.at_ i
  have h3 := h.hc
  refine ⟨h.wrd.set i (by omega) hg, by omega, by omega, ?_⟩
  have hl := h.wrd.len
  rw [val_set_take o i _ (by omega), val_take_succ, val_take_succ, P32_succ]
  have h4 := h.sum
  have h5 := mul_split (P32 i) s
  rw [hs] at h5 ⊢
  rw [Int.mul_add, Int.mul_add] at h5
  omega

set_option maxRecDepth 100000 in
set_option maxHeartbeats 1000000 in
theorem addW_ord (a b : List Int) (A B : Option Addr) (ca cb : Nat) (w : World) (hA : Reads w w.heap.size 1 A a.length (a.map U)) (hB : Reads w w.heap.size 1 B b.length (b.map U)) (oa : Ok a) (ob : Ok b) (hl : a.length ≤ 1000000) (hab : b.length ≤ a.length) :
    Calls Tryz.prog 69 #[.slice A a.length ca, .slice B b.length cb] w (RetW w fun o => val o = val a + val b ∧ o.length = a.length + 1) := by
  have hmk := make_u32 (a.length + 1) (by omega)
  have e1 : ((a.length + 1 : Nat) : Int) = (a.length : Int) + 1 := by omega
  rw [e1] at hmk
  have HE := Lib.hid e1
  clear e1
  have HW := Lib.hid (Wrd.start w (a.length + 1))
  go_enter Tryz.func69, Tryz.ntmps69
  have tab : decide (a.length < b.length) = false := decide_eq_false (by omega)
  go_wp2
  go_loopg [6, 21] (a.length - 0) (fun r cv iv wr => ∃ (i : Nat) (c : Int) (o : List Int), r = a.length - i ∧ cv = .int .u64 c ∧ iv = I i ∧ AddI w w.heap.size a b i c o wr)
  case atStart => exact ⟨0, 0, _, rfl, rfl, rfl, HW.out, by omega, by omega, by simp [val]⟩
  case round =>
    clear HW hmk
    obtain ⟨i, c, o, rfl, rfl, rfl, hI⟩ := hrel
    obtain ⟨hc0, hc1⟩ := hI.hc
    have hi := hI.hi
    by_cases hlt : i < a.length
    · obtain ⟨ba, offa, rfl, hba, hca⟩ := (hA.below hI.wrd.below).word hlt
      have hx := oa.at_ i
      have HX : ∃ x, a.getD i 0 = x := ⟨_, rfl⟩
      obtain ⟨x, hxe⟩ := HX
      rw [hxe] at hca hx
      have HXE := Lib.hid hxe
      clear hxe
      obtain ⟨hx0, hx1⟩ := hx
      have hf : wr.frozen? ⟨w.heap.size, i, none⟩ = false := hI.wrd.blk.frozen _
      have hco := hI.wrd.cell (i := i) (by omega)
      have hlo := hI.wrd.blk.lt
      by_cases hbl : i < b.length
      · obtain ⟨bb, offb, rfl, hbb, hcb⟩ := (hB.below hI.wrd.below).word hbl
        have hy := ob.at_ i
        obtain ⟨y, hye⟩ : ∃ y, b.getD i 0 = y := ⟨_, rfl⟩
        rw [hye] at hcb hy
        have HYE := Lib.hid hye
        clear hye
        obtain ⟨hy0, hy1⟩ := hy
        have hN := hI.step oa ob hlt (Nat.le_refl _) (s := c + x + y) (by rw [HXE.out, HYE.out])
        have HN := Lib.hid hN
        clear hN hI
        go_wp2
        go_roundg (a.length - (i + 1))
        case measure => omega
        case rel => exact ⟨i + 1, _, _, rfl, rfl, by go_num, HN.out⟩
      · have hN := hI.step oa ob hlt (Nat.le_refl _) (s := c + x) (by rw [HXE.out, List.getD_eq_getElem?_getD, List.getElem?_eq_none (by omega)]; simp)
        have HN := Lib.hid hN
        clear hN hI
        go_wp2
        go_roundg (a.length - (i + 1))
        case measure => omega
        case rel => exact ⟨i + 1, _, _, rfl, rfl, by go_num, HN.out⟩
    · obtain rfl : i = a.length := by omega
      have hf : wr.frozen? ⟨w.heap.size, a.length, none⟩ = false := hI.wrd.blk.frozen _
      have hco := hI.wrd.cell (i := a.length) (by omega)
      have hlo := hI.wrd.blk.lt
      have hF := hI.wrd.set a.length (x := c) (by omega) (Nat.le_refl _)
      have hV : val (o.set a.length c) = val a + val b := by
        have h1 := val_set_take o a.length c (by rw [hI.wrd.len]; omega)
        rw [List.take_of_length_le (by rw [List.length_set, hI.wrd.len]; omega)] at h1
        rw [h1, hI.sum, List.take_of_length_le (Nat.le_refl _), List.take_of_length_le hab]
      have HF := Lib.hid hF
      have HV := Lib.hid hV
      clear hF hV hI
      go_wp2
      go_ret
      exact ⟨_, _, rfl, HF.out.row (Nat.le_refl _) (by unfold maxLen; omega), HF.out.ok, ⟨HV.out, HF.out.len⟩, HF.out.below⟩
set_option maxRecDepth 100000 in
set_option maxHeartbeats 1000000 in
theorem addW_swp (a b : List Int) (A B : Option Addr) (ca cb : Nat) (w : World) (hA : Reads w w.heap.size 1 A a.length (a.map U)) (hB : Reads w w.heap.size 1 B b.length (b.map U)) (oa : Ok a) (ob : Ok b) (hl : a.length ≤ 1000000) (hab : b.length < a.length) :
    Calls Tryz.prog 69 #[.slice B b.length cb, .slice A a.length ca] w (RetW w fun o => val o = val a + val b ∧ o.length = a.length + 1) := by
  have hmk := make_u32 (a.length + 1) (by omega)
  have e1 : ((a.length + 1 : Nat) : Int) = (a.length : Int) + 1 := by omega
  rw [e1] at hmk
  have HE := Lib.hid e1
  clear e1
  have HW := Lib.hid (Wrd.start w (a.length + 1))
  go_enter Tryz.func69, Tryz.ntmps69
  have tab : decide (b.length < a.length) = true := decide_eq_true hab
  go_wp2
  go_loopg [6, 21] (a.length - 0) (fun r cv iv wr => ∃ (i : Nat) (c : Int) (o : List Int), r = a.length - i ∧ cv = .int .u64 c ∧ iv = I i ∧ AddI w w.heap.size a b i c o wr)
  case atStart => exact ⟨0, 0, _, rfl, rfl, rfl, HW.out, by omega, by omega, by simp [val]⟩
  case round =>
    clear HW hmk
    obtain ⟨i, c, o, rfl, rfl, rfl, hI⟩ := hrel
    obtain ⟨hc0, hc1⟩ := hI.hc
    have hi := hI.hi
    by_cases hlt : i < a.length
    · obtain ⟨ba, offa, rfl, hba, hca⟩ := (hA.below hI.wrd.below).word hlt
      have hx := oa.at_ i
      have HX : ∃ x, a.getD i 0 = x := ⟨_, rfl⟩
      obtain ⟨x, hxe⟩ := HX
      rw [hxe] at hca hx
      have HXE := Lib.hid hxe
      clear hxe
      obtain ⟨hx0, hx1⟩ := hx
      have hf : wr.frozen? ⟨w.heap.size, i, none⟩ = false := hI.wrd.blk.frozen _
      have hco := hI.wrd.cell (i := i) (by omega)
      have hlo := hI.wrd.blk.lt
      by_cases hbl : i < b.length
      · obtain ⟨bb, offb, rfl, hbb, hcb⟩ := (hB.below hI.wrd.below).word hbl
        have hy := ob.at_ i
        obtain ⟨y, hye⟩ : ∃ y, b.getD i 0 = y := ⟨_, rfl⟩
        rw [hye] at hcb hy
        have HYE := Lib.hid hye
        clear hye
        obtain ⟨hy0, hy1⟩ := hy
        have hN := hI.step oa ob hlt (Nat.le_refl _) (s := c + x + y) (by rw [HXE.out, HYE.out])
        have HN := Lib.hid hN
        clear hN hI
        go_wp2
        go_roundg (a.length - (i + 1))
        case measure => omega
        case rel => exact ⟨i + 1, _, _, rfl, rfl, by go_num, HN.out⟩
      · have hN := hI.step oa ob hlt (Nat.le_refl _) (s := c + x) (by rw [HXE.out, List.getD_eq_getElem?_getD, List.getElem?_eq_none (by omega)]; simp)
        have HN := Lib.hid hN
        clear hN hI
        go_wp2
        go_roundg (a.length - (i + 1))
        case measure => omega
        case rel => exact ⟨i + 1, _, _, rfl, rfl, by go_num, HN.out⟩
    · obtain rfl : i = a.length := by omega
      have hf : wr.frozen? ⟨w.heap.size, a.length, none⟩ = false := hI.wrd.blk.frozen _
      have hco := hI.wrd.cell (i := a.length) (by omega)
      have hlo := hI.wrd.blk.lt
      have hF := hI.wrd.set a.length (x := c) (by omega) (Nat.le_refl _)
      have hV : val (o.set a.length c) = val a + val b := by
        have h1 := val_set_take o a.length c (by rw [hI.wrd.len]; omega)
        rw [List.take_of_length_le (by rw [List.length_set, hI.wrd.len]; omega)] at h1
        rw [h1, hI.sum, List.take_of_length_le (Nat.le_refl _), List.take_of_length_le (by omega)]
      have HF := Lib.hid hF
      have HV := Lib.hid hV
      clear hF hV hI
      go_wp2
      go_ret
      exact ⟨_, _, rfl, HF.out.row (Nat.le_refl _) (by unfold maxLen; omega), HF.out.ok, ⟨HV.out, HF.out.len⟩, HF.out.below⟩
theorem addW_any (a b : List Int) (A B : Option Addr) (ca cb : Nat) (w : World) (hA : Reads w w.heap.size 1 A a.length (a.map U)) (hB : Reads w w.heap.size 1 B b.length (b.map U)) (oa : Ok a) (ob : Ok b) (hl : a.length ≤ 1000000) (hm : b.length ≤ 1000000) :
    Calls Tryz.prog 69 #[.slice A a.length ca, .slice B b.length cb] w (RetW w fun o => val o = val a + val b ∧ o.length = max a.length b.length + 1) := by
  by_cases h : a.length < b.length
  · refine (addW_swp b a B A cb ca w hB hA ob oa hm h).mono ?_
    rintro e w' ⟨v, o, h1, h2, h3, ⟨h4, h5⟩, h6⟩
    exact ⟨v, o, h1, h2, h3, ⟨by omega, by omega⟩, h6⟩
  · refine (addW_ord a b A B ca cb w hA hB oa ob hl (by omega)).mono ?_
    rintro e w' ⟨v, o, h1, h2, h3, ⟨h4, h5⟩, h6⟩
    exact ⟨v, o, h1, h2, h3, ⟨h4, by omega⟩, h6⟩
end Go.Proofs.YtpbdlmjfjkfphaaGreatDoor
