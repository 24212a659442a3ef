/- Integers in memory; large.norm. -/
import Derived.Test.YtpbdlmjfjkfphaaGreatDoorSubW
namespace Go.Proofs.YtpbdlmjfjkfphaaGreatDoor
open Go.RowKit

/-- value v is the integer z -/
def Big (w : World) (v : Value) (z : Int) : Prop :=
  ∃ A c ws, v = .agg #[.bool (decide (z < 0)), .slice A ws.length c] ∧ Reads w w.heap.size 1 A ws.length (ws.map U) ∧ (ws.length ≤ c ∧ c ≤ maxLen) ∧ Ok ws ∧ Nm ws ∧ val ws = (z.natAbs : Int)
theorem Big.ext {w w' : World} {v : Value} {z : Int} (h : Big w v z) (hb : Below w.heap.size w w') : Big w' v z := by
  obtain ⟨A, c, ws, h1, h2, h3⟩ := h
  exact ⟨A, c, ws, h1, (h2.below hb).more hb.size, h3⟩
def RetBig (w : World) (z : Int) (e : Ending) (w' : World) : Prop := ∃ v, e = .returned v ∧ Big w' v z ∧ Below w.heap.size w w'
theorem ret_big {w : World} {v : Value} {z : Int} (h : Big w v z) (o : Obj) : RetBig w z (.returned v) (w.alloc o) :=
  ⟨_, rfl, h.ext ((Below.refl _ _).alloc (Nat.le_refl _) _), (Below.refl _ _).alloc (Nat.le_refl _) _⟩
/-- how many words a number takes -/
def Fits (n : Nat) (z : Int) : Prop := (z.natAbs : Int) < P32 n
theorem Fits.mono {n m : Nat} {z : Int} (h : Fits n z) (hm : n ≤ m) : Fits m z := Int.lt_of_lt_of_le h (P32_mono hm)
theorem Fits.len {n : Nat} {z : Int} {ws : List Int} (h : Fits n z) (ho : Ok ws) (hn : Nm ws) (hv : val ws = (z.natAbs : Int)) : ws.length ≤ n := nm_len ho hn (by rw [hv]; exact h)
theorem fits_zero (n : Nat) : Fits n 0 := P32_pos n
theorem Fits.neg {n : Nat} {z : Int} (h : Fits n z) : Fits n (-z) := by unfold Fits at *; rw [Int.natAbs_neg]; exact h
theorem Fits.add {n : Nat} {a b : Int} (ha : Fits n a) (hb : Fits n b) : Fits (n + 1) (a + b) := by
  unfold Fits at *
  have := P32_pos n
  rw [P32_succ]; omega
theorem Fits.mul {n m : Nat} {a b : Int} (ha : Fits n a) (hb : Fits m b) : Fits (n + m) (a * b) := by
  unfold Fits at *
  rw [Int.natAbs_mul, P32_add, Int.natCast_mul]
  have h1 := P32_pos m
  exact Int.lt_of_le_of_lt (Int.mul_le_mul_of_nonneg_left (Int.le_of_lt hb) (by omega)) (Int.mul_lt_mul_of_pos_right ha h1)
/-- the number of words with a sign -/
def sgn (m : Bool) (n : Int) : Int := if m = true then -n else n
theorem sgn_abs (m : Bool) {n : Int} (h : 0 ≤ n) : ((sgn m n).natAbs : Int) = n := by cases m <;> simp [sgn] <;> omega
/-- a slice that reads as words becomes a number -/
theorem big_norm {w : World} {A : Option Addr} {c : Nat} {ws : List Int} (m : Bool) (hr : Reads w w.heap.size 1 A ws.length (ws.map U)) (hc : ws.length ≤ c) (hcm : c ≤ maxLen) (ho : Ok ws) :
    Big w (.agg #[.bool (m && decide (0 < cutLen ws ws.length)), .slice A (cutLen ws ws.length) c]) (sgn m (val ws)) := by
  have hle := cutLen_le ws ws.length
  have hv := val_cut ws ws.length
  rw [List.take_of_length_le (Nat.le_refl _)] at hv
  have hn := nm_cut ws ws.length (Nat.le_refl _)
  have hok := ho.take (cutLen ws ws.length)
  have hl : (ws.take (cutLen ws ws.length)).length = cutLen ws ws.length := by rw [List.length_take]; omega
  have h0 := val_nonneg ho
  refine ⟨A, c, ws.take (cutLen ws ws.length), ?_, ?_, ⟨by omega, hcm⟩, hok, hn, by rw [hv, sgn_abs m h0]⟩
  · rw [hl]
    congr 3
    have hz := nm_zero hok hn
    rw [hv] at hz
    have hiff : 0 < cutLen ws ws.length ↔ 0 < val ws := by
      constructor
      · intro h
        have : ws.take (cutLen ws ws.length) ≠ [] := by intro e; rw [e] at hl; simp at hl; omega
        have := mt hz.2 this
        omega
      · intro h
        rcases Nat.eq_zero_or_pos (cutLen ws ws.length) with e | e
        · have : ws.take (cutLen ws ws.length) = [] := by rw [e]; rfl
          have := hz.1 this
          omega
        · exact e
    cases m
    · simp [sgn]; omega
    · simp only [Bool.true_and, sgn, if_true]
      congr 2
      rw [eq_iff_iff]
      omega
  · have := hr.take hle
    rw [Nat.mul_one, ← List.map_take] at this
    rw [hl]; exact this
set_option maxRecDepth 100000 in
set_option maxHeartbeats 1000000 in
theorem norm_any (m : Bool) (ws : List Int) (A : Option Addr) (c : Nat) (w : World) (hr : Reads w w.heap.size 1 A ws.length (ws.map U)) (hc : ws.length ≤ c) (hcm : c ≤ maxLen) (ho : Ok ws) :
    Calls Tryz.prog 68 #[.bool m, .slice A ws.length c] w (RetBig w (sgn m (val ws))) := by
  have HB := Lib.hid (big_norm m hr hc hcm ho)
  unfold maxLen at hcm
  go_enter Tryz.func68, Tryz.ntmps68
  go_wp2
  go_loopg [1] ws.length (fun r sv wr => r ≤ ws.length ∧ sv = .slice A r c ∧ wr = w.alloc (.cells #[.bool false, .slice none 0 0] 45) ∧ Hid (cutLen ws ws.length = cutLen ws r))
  case atStart => exact ⟨Nat.le_refl _, rfl, rfl, Lib.hid rfl⟩
  case round =>
    obtain ⟨hi, rfl, rfl, HC⟩ := hrel
    rcases gk with _ | k
    · have hE := HB.out
      rw [HC.out, cutLen] at hE
      have HE : Hid (Big w (.agg #[.bool false, .slice A 0 c]) (sgn m (val ws))) := Lib.hid (by simpa using hE)
      clear hE HB HC
      cases m
      all_goals
        go_wp2
        exact bodyPost_ret (v := .agg #[.bool false, .slice A 0 c]) (by simp [results, Tryz.results68, go_sem]) rfl (ret_big HE.out _)
    · obtain ⟨b, off, hAe, hb, hcl⟩ := hr.word (k := k) (by omega)
      subst hAe
      obtain ⟨x, hx⟩ : ∃ x, ws.getD k 0 = x := ⟨_, rfl⟩
      rw [hx] at hcl
      have hk1 : (0 : Int) ≤ (k : Int) := by omega
      by_cases h0 : x = 0
      · have HN : Hid (cutLen ws ws.length = cutLen ws k) := Lib.hid (by rw [HC.out, cutLen, if_pos (by rw [hx, h0])])
        have t0 : (x == 0) = true := beq_iff_eq.2 h0
        clear hx h0 HC
        go_wp2
        go_roundg k
        case measure => omega
        case rel => exact ⟨by omega, rfl, rfl, HN⟩
      · have t0 : (x == 0) = false := beq_eq_false_iff_ne.2 h0
        have hE := HB.out
        rw [HC.out, cutLen, if_neg (by rw [hx]; exact h0)] at hE
        have HE : Hid (Big w (.agg #[.bool m, .slice (some ⟨b, off, none⟩) (k + 1) c]) (sgn m (val ws))) := Lib.hid (by simpa using hE)
        clear hE HB HC hx h0
        cases m
        · go_wp2
          exact bodyPost_ret (v := .agg #[.bool false, .slice (some ⟨b, off, none⟩) (k + 1) c]) (by simp [results, Tryz.results68, go_sem]) rfl (ret_big HE.out _)
        · go_wp2
          exact bodyPost_ret (v := .agg #[.bool true, .slice (some ⟨b, off, none⟩) (k + 1) c]) (by simp [results, Tryz.results68, go_sem]) rfl (ret_big HE.out _)
end Go.Proofs.YtpbdlmjfjkfphaaGreatDoor
