/- large.subWords, large.cmpWords. -/
import Derived.Test.YtpbdlmjfjkfphaaGreatDoorAddW
import Derived.Deep.QuietTactic
import Derived.BigQuiet
import Derived.Deep.Draws
namespace Go.Proofs.YtpbdlmjfjkfphaaGreatDoor
open Go.RowKit

structure SubI (w : World) (g : Nat) (a b : List Int) (i : Nat) (c : Int) (o : List Int) (wr : World) : Prop where
  wrd : Wrd w g a.length o wr
  hi : i ≤ a.length
  hc : -1 ≤ c ∧ c ≤ 0
  sum : val (o.take i) + P32 i * c = val (a.take i) - val (b.take i)
theorem SubI.step {w : World} {g : Nat} {a b : List Int} {i : Nat} {c : Int} {o : List Int} {wr : World} (h : SubI w g a b i c o wr) (oa : Ok a) (ob : Ok b) (hlt : i < a.length) (hg : w.heap.size ≤ g) {s : Int} (hs : s = c + a.getD i 0 - b.getD i 0) :
    SubI w g a b (i + 1) (s / 4294967296) (o.set i (s % 4294967296)) (wr.setCell ⟨g, i, none⟩ (U (s % 4294967296))) := by
  have h1 := oa.at_ i
  have h2 := ob.at_ i
  have h3 := h.hc
  refine ⟨h.wrd.set i (by omega) hg, by omega, by omega, ?_⟩
  have hl := h.wrd.len
  rw [val_set_take o i _ (by omega), val_take_succ, val_take_succ, P32_succ]
  have h4 := h.sum
  have h5 := mul_split (P32 i) s
  rw [hs] at h5 ⊢
  rw [Int.mul_sub, Int.mul_add] at h5
  omega
theorem sub_end {n : Nat} {c d : Int} {o : List Int} (ho : Ok o) (hl : o.length = n) (hc : -1 ≤ c ∧ c ≤ 0) (hd : 0 ≤ d) (h : val o + P32 n * c = d) : c = 0 ∧ val o = d := by
  have h1 := val_lt ho
  rw [hl] at h1
  have : c = 0 := by
    rcases (show c = -1 ∨ c = 0 by omega) with e | e
    · rw [e] at h; omega
    · exact e
  rw [this] at h
  exact ⟨this, by omega⟩
set_option maxRecDepth 100000 in
set_option maxHeartbeats 1000000 in
theorem subW_any (a b : List Int) (A B : Option Addr) (ca cb : Nat) (w : World) (hA : Reads w w.heap.size 1 A a.length (a.map U)) (hB : Reads w w.heap.size 1 B b.length (b.map U)) (oa : Ok a) (ob : Ok b) (hl : a.length ≤ 1000000) (hab : b.length ≤ a.length) (hle : val b ≤ val a) :
    Calls Tryz.prog 71 #[.slice A a.length ca, .slice B b.length cb] w (RetW w fun o => val o = val a - val b ∧ o.length = a.length) := by
  have hmk := make_u32 a.length (by omega)
  have HW := Lib.hid (Wrd.start w a.length)
  have HLE := Lib.hid hle
  clear hle
  go_enter Tryz.func71, Tryz.ntmps71
  go_wp2
  go_loopg [6, 13] (a.length - 0) (fun r cv iv wr => ∃ (i : Nat) (c : Int) (o : List Int), r = a.length - i ∧ cv = .int .i64 c ∧ iv = I i ∧ SubI w w.heap.size a b i c o wr)
  case atStart => exact ⟨0, 0, _, rfl, rfl, rfl, HW.out, by omega, by omega, by simp [val]⟩
  case round =>
    clear HW hmk
    obtain ⟨i, c, o, rfl, rfl, rfl, hI⟩ := hrel
    obtain ⟨hc0, hc1⟩ := hI.hc
    have hi := hI.hi
    by_cases hlt : i < a.length
    · obtain ⟨ba, offa, rfl, hba, hca⟩ := (hA.below hI.wrd.below).word hlt
      have hx := oa.at_ i
      obtain ⟨x, hxe⟩ : ∃ x, a.getD i 0 = x := ⟨_, rfl⟩
      rw [hxe] at hca hx
      have HXE := Lib.hid hxe
      clear hxe
      obtain ⟨hx0, hx1⟩ := hx
      have hf : wr.frozen? ⟨w.heap.size, i, none⟩ = false := hI.wrd.blk.frozen _
      have hco := hI.wrd.cell (i := i) (by omega)
      have hlo := hI.wrd.blk.lt
      by_cases hbl : i < b.length
      · obtain ⟨bb, offb, rfl, hbb, hcb⟩ := (hB.below hI.wrd.below).word hbl
        have hy := ob.at_ i
        obtain ⟨y, hye⟩ : ∃ y, b.getD i 0 = y := ⟨_, rfl⟩
        rw [hye] at hcb hy
        have HYE := Lib.hid hye
        clear hye
        obtain ⟨hy0, hy1⟩ := hy
        have hN := hI.step oa ob hlt (Nat.le_refl _) (s := c + x - y) (by rw [HXE.out, HYE.out])
        have HN := Lib.hid hN
        clear hN hI
        go_wp2
        go_roundg (a.length - (i + 1))
        case measure => omega
        case rel => exact ⟨i + 1, _, _, rfl, rfl, by go_num, HN.out⟩
      · have hN := hI.step oa ob hlt (Nat.le_refl _) (s := c + x) (by rw [HXE.out, List.getD_eq_getElem?_getD (l := b), List.getElem?_eq_none (by omega)]; simp)
        have HN := Lib.hid hN
        clear hN hI
        go_wp2
        go_roundg (a.length - (i + 1))
        case measure => omega
        case rel => exact ⟨i + 1, _, _, rfl, rfl, by go_num, HN.out⟩
    · obtain rfl : i = a.length := by omega
      have hs := hI.sum
      rw [List.take_of_length_le (Nat.le_of_eq hI.wrd.len), List.take_of_length_le (Nat.le_refl _), List.take_of_length_le hab] at hs
      have hE := sub_end hI.wrd.ok hI.wrd.len hI.hc (by have := HLE.out; omega) hs
      have HF := Lib.hid hI.wrd
      have HV := Lib.hid hE.2
      clear hE hI hs
      go_wp2
      go_ret
      exact ⟨_, _, rfl, HF.out.row (Nat.le_refl _) (by unfold maxLen; omega), HF.out.ok, ⟨HV.out, HF.out.len⟩, HF.out.below⟩

/-! ### cmpWords -/
theorem val_eq_at {a b : List Int} {i : Nat} (h : val (a.drop (i + 1)) = val (b.drop (i + 1))) (e : a.getD i 0 = b.getD i 0) (ha : i < a.length) (hb : i < b.length) : val (a.drop i) = val (b.drop i) := by
  rw [List.drop_eq_getElem_cons ha, List.drop_eq_getElem_cons hb]
  simp only [val]
  rw [List.getD_eq_getElem?_getD, List.getD_eq_getElem?_getD, List.getElem?_eq_getElem ha, List.getElem?_eq_getElem hb] at e
  simp only [Option.getD_some] at e
  rw [e, h]
theorem val_lt_at {a b : List Int} {i : Nat} (oa : Ok a) (h : val (a.drop (i + 1)) = val (b.drop (i + 1))) (ob : Ok b) (e : a.getD i 0 < b.getD i 0) (ha : i < a.length) (_hb : i < b.length) : val a < val b := by
  have h1 := val_take_drop a (i + 1)
  have h2 := val_take_drop b (i + 1)
  rw [val_take_succ] at h1 h2
  rw [h] at h1
  have h3 := val_lt (oa.take i)
  have h4 := val_nonneg (ob.take i)
  rw [List.length_take, Nat.min_eq_left (by omega)] at h3
  have h5 : P32 i * (a.getD i 0 + 1) ≤ P32 i * b.getD i 0 := Int.mul_le_mul_of_nonneg_left (by omega) (by have := P32_pos i; omega)
  rw [Int.mul_add, Int.mul_one] at h5
  omega
/-- the sign of a comparison -/
def CmpR (x y r : Int) : Prop := (r < 0 ↔ x < y) ∧ (0 < r ↔ y < x) ∧ -1000000 ≤ r ∧ r ≤ 1000000
def RetCmp (w : World) (x y : Int) (e : Ending) (w' : World) : Prop := ∃ r, e = .returned (I r) ∧ CmpR x y r ∧ Below w.heap.size w w'
set_option maxRecDepth 100000 in
set_option maxHeartbeats 1000000 in
theorem cmpW_any (a b : List Int) (A B : Option Addr) (ca cb : Nat) (w : World) (hA : Reads w w.heap.size 1 A a.length (a.map U)) (hB : Reads w w.heap.size 1 B b.length (b.map U)) (oa : Ok a) (ob : Ok b) (na : Nm a) (nb : Nm b) (hl : a.length ≤ 1000000) (hm : b.length ≤ 1000000) :
    Calls Tryz.prog 70 #[.slice A a.length ca, .slice B b.length cb] w (RetCmp w (val a) (val b)) := by
  by_cases hab : a.length = b.length
  · have t0 : ((a.length : Int) != b.length) = false := by rw [hab]; simp
    have t1 : (a.length != b.length) = false := by rw [hab]; simp
    rw [← hab] at hB t0 t1 ⊢
    have HAB := Lib.hid hab
    have HA := Lib.hid hA
    have HB := Lib.hid hB
    clear hab hA hB hm
    go_enter Tryz.func70, Tryz.ntmps70
    go_wp2
    go_loopg [5] a.length (fun r iv wr => ∃ q : Nat, r ≤ a.length ∧ iv = I ((r : Int) - 1) ∧ wr = w.drewN q ∧ val (a.drop r) = val (b.drop r))
    case atStart => exact ⟨0, Nat.le_refl _, rfl, rfl, by rw [List.drop_of_length_le (Nat.le_refl _), List.drop_of_length_le (by have := HAB.out; omega)]⟩
    case round =>
      obtain ⟨q, hi, rfl, rfl, hv⟩ := hrel
      rcases gk with _ | k
      · have e0 : (((0 : Nat) : Int) - 1) = -1 := by omega
        rw [e0]
        have hE : CmpR (val a) (val b) 0 := by
          simp only [List.drop_zero] at hv
          rw [hv]
          exact ⟨by omega, by omega, by omega, by omega⟩
        have HE := Lib.hid hE
        clear hE hv e0
        go_wp2
        go_ret
        exact ⟨_, rfl, HE.out, below_drewN (Below.refl _ _) q⟩
      · have e0 : (((k + 1 : Nat) : Int) - 1) = k := by omega
        rw [e0]
        clear e0
        obtain ⟨ba, offa, hAe, hba, hca⟩ := HA.out.word (k := k) (by omega)
        obtain ⟨bb, offb, hBe, hbb, hcb⟩ := HB.out.word (k := k) (by omega)
        subst hAe hBe
        have hx := oa.at_ k
        have hy := ob.at_ k
        obtain ⟨x, hxe⟩ : ∃ x, a.getD k 0 = x := ⟨_, rfl⟩
        obtain ⟨y, hye⟩ : ∃ y, b.getD k 0 = y := ⟨_, rfl⟩
        rw [hxe] at hca hx
        rw [hye] at hcb hy
        have hk1 : (0 : Int) ≤ (k : Int) := by omega
        have hk2 : (k : Int) < (a.length : Int) := by omega
        have hk3 : k < a.length := by omega
        by_cases hxy : x = y
        · have t2 : (x != y) = false := by rw [hxy]; simp
          have hN := val_eq_at hv (by rw [hxe, hye, hxy]) (by omega) (by have := HAB.out; omega)
          have HN := Lib.hid hN
          clear hN hv hxe hye hxy
          go_wp2
          go_quiet (fail)
          go_wp2
          go_roundg k
          case measure => omega
          case rel => exact ⟨_, by omega, by go_num, rfl, HN.out⟩
        · have t2 : (x != y) = true := by rw [bne_iff_ne]; exact hxy
          by_cases hlt : x < y
          · have hR : CmpR (val a) (val b) (-1) := by
              have := val_lt_at oa hv ob (by omega) (by omega) (by have := HAB.out; omega)
              exact ⟨by omega, by omega, by omega, by omega⟩
            have HR := Lib.hid hR
            have t3 : decide (x < y) = true := decide_eq_true hlt
            clear hR hv hxe hye hxy
            go_wp2
            go_quiet (fail)
            go_wp2
            go_quiet (fail)
            go_wp2
            go_ret
            exact ⟨_, rfl, HR.out, by first | exact below_drewN (Below.refl _ _) _ | exact below_drewN (below_drewN (Below.refl _ _) _) _ | exact below_drewN (below_drewN (below_drewN (Below.refl _ _) _) _) _⟩
          · have hR : CmpR (val a) (val b) 1 := by
              have := val_lt_at ob hv.symm oa (by omega) (by have := HAB.out; omega) (by omega)
              exact ⟨by omega, by omega, by omega, by omega⟩
            have HR := Lib.hid hR
            have t3 : decide (x < y) = false := decide_eq_false hlt
            clear hR hv hxe hye hxy
            go_wp2
            go_quiet (fail)
            go_wp2
            go_quiet (fail)
            go_wp2
            go_ret
            exact ⟨_, rfl, HR.out, by first | exact below_drewN (Below.refl _ _) _ | exact below_drewN (below_drewN (Below.refl _ _) _) _ | exact below_drewN (below_drewN (below_drewN (Below.refl _ _) _) _) _⟩
  · have t0 : ((a.length : Int) != b.length) = true := by rw [bne_iff_ne]; omega
    have t1 : (a.length != b.length) = true := by rw [bne_iff_ne]; exact hab
    have hR : CmpR (val a) (val b) ((a.length : Int) - b.length) := by
      have h1 := val_lt oa
      have h2 := val_lt ob
      rcases Nat.lt_or_ge a.length b.length with h | h
      · have h3 := nm_low ob nb (b.length - 1) (by omega)
        have h4 := P32_mono (i := a.length) (j := b.length - 1) (by omega)
        exact ⟨by omega, by omega, by omega, by omega⟩
      · have h3 := nm_low oa na (a.length - 1) (by omega)
        have h4 := P32_mono (i := b.length) (j := a.length - 1) (by omega)
        exact ⟨by omega, by omega, by omega, by omega⟩
    have HR := Lib.hid hR
    clear hR hab
    go_enter Tryz.func70, Tryz.ntmps70
    go_wp2
    go_ret
    exact ⟨_, rfl, HR.out, Below.refl _ _⟩
end Go.Proofs.YtpbdlmjfjkfphaaGreatDoor
