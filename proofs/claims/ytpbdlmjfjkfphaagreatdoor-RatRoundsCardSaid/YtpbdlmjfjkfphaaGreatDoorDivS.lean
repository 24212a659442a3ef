/- large.shortDiv, large.shifted. -/
import Derived.Test.YtpbdlmjfjkfphaaGreatDoorMul
import Derived.Laws.BitsAllLaws
namespace Go.Proofs.YtpbdlmjfjkfphaaGreatDoor
open Go.RowKit

theorem or_hi {m x : Int} (hm : 0 ≤ m ∧ m < 4294967296) (hx : 0 ≤ x ∧ x < 4294967296) : bits BinOp.or IntKind.u64 (m * 4294967296) x = m * 4294967296 + x := by
  rw [u64_or _ _ (by omega) (by omega) (by omega) (by omega), nat_join 32 _ _ (by omega) (by omega)]
  omega
theorem ret_two {v : Value} {m m' : Int} (h : m = m') : Ending.returned (.tuple #[v, U m]) = .returned (.tuple #[v, U m']) := by rw [h]
structure SdI (w : World) (g : Nat) (a : List Int) (d : Int) (r : Nat) (m : Int) (o : List Int) (wr : World) : Prop where
  wrd : Wrd w g a.length o wr
  hr : r ≤ a.length
  hm : 0 ≤ m ∧ m < d
  eq : val (a.drop r) = d * val (o.drop r) + m
theorem SdI.step {w : World} {g : Nat} {a : List Int} {d : Int} {k : Nat} {m : Int} {o : List Int} {wr : World} (h : SdI w g a d (k + 1) m o wr) (_oa : Ok a) (hd : 1 ≤ d) (hg : w.heap.size ≤ g) {s : Int} (hs : s = m * 4294967296 + a.getD k 0) (hs0 : 0 ≤ s) (hs1 : s < d * 4294967296) :
    SdI w g a d k (s % d) (o.set k (s / d)) (wr.setCell ⟨g, k, none⟩ (U (s / d))) := by
  have hr := h.hr
  have hq : 0 ≤ s / d ∧ s / d < 4294967296 := ⟨Int.ediv_nonneg hs0 (by omega), Int.ediv_lt_of_lt_mul (by omega) (by rw [Int.mul_comm]; exact hs1)⟩
  refine ⟨h.wrd.set k hq hg, by omega, ⟨Int.emod_nonneg _ (by omega), Int.emod_lt_of_pos _ (by omega)⟩, ?_⟩
  have hl := h.wrd.len
  have e1 : a.drop k = a.getD k 0 :: a.drop (k + 1) := by rw [List.drop_eq_getElem_cons (by omega), List.getD_eq_getElem?_getD, List.getElem?_eq_getElem (by omega)]; rfl
  have e2 : (o.set k (s / d)).drop k = (s / d) :: o.drop (k + 1) := by
    rw [List.drop_eq_getElem_cons (by simp; omega)]
    simp [List.drop_set_of_lt]
  rw [e1, e2]
  simp only [val]
  rw [h.eq]
  have h1 := Int.emod_add_mul_ediv s d
  have e3 : d * (s / d + 4294967296 * val (o.drop (k + 1))) = d * (s / d) + 4294967296 * (d * val (o.drop (k + 1))) := by rw [Int.mul_add, Int.mul_left_comm]
  rw [e3]
  omega
set_option maxRecDepth 100000 in
set_option maxHeartbeats 1000000 in
theorem shortDiv_any (a : List Int) (A : Option Addr) (ca : Nat) (d : Int) (w : World) (hA : Reads w w.heap.size 1 A a.length (a.map U)) (oa : Ok a) (hl : a.length ≤ 1000000) (hd0 : 1 ≤ d) (hd1 : d < 4294967296) :
    Calls Tryz.prog 80 #[.slice A a.length ca, U d] w fun e w' => ∃ v o, e = .returned (.tuple #[v, U (val a % d)]) ∧ Row w' w.heap.size 78 1 v o.length (o.map U) ∧ Ok o ∧ val o = val a / d ∧ o.length = a.length ∧ Below w.heap.size w w' := by
  have hmk := make_u32 a.length (by omega)
  have HW := Lib.hid (Wrd.start w a.length)
  go_enter Tryz.func80, Tryz.ntmps80
  go_wp2
  go_loopg [7, 8] a.length (fun r mv iv wr => ∃ (m : Int) (o : List Int), mv = .int .u64 m ∧ iv = I ((r : Int) - 1) ∧ SdI w w.heap.size a d r m o wr)
  case atStart => exact ⟨0, _, rfl, rfl, HW.out, by omega, by omega, by rw [List.drop_of_length_le (Nat.le_refl _), List.drop_of_length_le (by simp)]; simp [val]⟩
  case round =>
    clear HW hmk
    obtain ⟨m, o, rfl, rfl, hI⟩ := hrel
    obtain ⟨hm0, hm1⟩ := hI.hm
    have hr := hI.hr
    rcases gk with _ | k
    · have e0 : (((0 : Nat) : Int) - 1) = -1 := by omega
      rw [e0]
      have hE := hI.eq
      simp only [List.drop_zero] at hE
      have hq : val o = val a / d ∧ m = val a % d := by
        have h1 := Int.emod_add_mul_ediv (val a) d
        have h2 := Int.emod_nonneg (val a) (show d ≠ 0 by omega)
        have h3 := Int.emod_lt_of_pos (val a) (show 0 < d by omega)
        have h4 : val a / d = val o := by
          rw [hE, Int.add_comm, Int.add_mul_ediv_left _ _ (by omega), Int.ediv_eq_zero_of_lt hm0 hm1]; omega
        refine ⟨h4.symm, ?_⟩
        rw [h4] at h1
        omega
      obtain ⟨hq1, hq2⟩ := hq
      have HQ1 := Lib.hid hq1
      have HQ2 := Lib.hid hq2
      have HF := Lib.hid hI.wrd
      clear hq1 hq2 hI hE e0
      go_wp2
      go_ret2
      exact ⟨_, o, ret_two HQ2.out, HF.out.row (Nat.le_refl _) (by unfold maxLen; omega), HF.out.ok, HQ1.out, HF.out.len, HF.out.below⟩
    · have e0 : (((k + 1 : Nat) : Int) - 1) = k := by omega
      rw [e0]
      clear e0
      obtain ⟨ba, offa, hAe, hba, hca⟩ := (hA.below hI.wrd.below).word (k := k) (by omega)
      subst hAe
      have hx := oa.at_ k
      obtain ⟨x, hxe⟩ : ∃ x, a.getD k 0 = x := ⟨_, rfl⟩
      rw [hxe] at hca hx
      obtain ⟨hx0, hx1⟩ := hx
      have hs1 : m * 4294967296 + x < d * 4294967296 := by omega
      have hN := hI.step oa hd0 (Nat.le_refl _) (s := m * 4294967296 + x) (by rw [hxe]) (by omega) hs1
      have hq : 0 ≤ (m * 4294967296 + x) / d ∧ (m * 4294967296 + x) / d < 4294967296 := ⟨Int.ediv_nonneg (by omega) (by omega), Int.ediv_lt_of_lt_mul (by omega) (by omega)⟩
      obtain ⟨hq0, hq1⟩ := hq
      have hor := or_hi (m := m) (x := x) (by omega) (by omega)
      have hf : wr.frozen? ⟨w.heap.size, k, none⟩ = false := hI.wrd.blk.frozen _
      have hco := hI.wrd.cell (i := k) (by omega)
      have hlo := hI.wrd.blk.lt
      have HN := Lib.hid hN
      clear hN hI hxe
      go_wp2
      go_roundg k
      case measure => omega
      case rel => exact ⟨_, _, rfl, by go_num, HN.out⟩
end Go.Proofs.YtpbdlmjfjkfphaaGreatDoor
