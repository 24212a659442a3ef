/- netmodel.Name and netmodel.out. -/
import Derived.Test.YtglbelmljdgaoaaGreatDoorMem
import Derived.Test.YtglbelmljdgaoaaGreatDoorNetPlain
import Derived.Test.YtglbelmljdgaoaaGreatDoorProg
import Derived.Deep.LoopGhost
import Derived.Lib.ConvBytes
namespace Go.Proofs.YtglbelmljdgaoaaGreatDoor
open Go.RowKit

set_option maxRecDepth 100000 in
set_option maxHeartbeats 400000 in
theorem out_any (n a b : Int) (w : World) : Calls Tryz.prog 40 #[I n, I a, I b] w fun e w' => e = .returned (.bool (outB n a b)) ∧ w = w' := by
  have H := Lib.hid (show outB n a b = (decide (n < a) || decide (b < n)) by simp [outB])
  go_enter Tryz.func40, Tryz.ntmps40
  by_cases h1 : n < a
  · have H2 := Lib.hid (show outB n a b = true by rw [H.out]; simp [h1])
    go_wp2
    go_ret
    exact ⟨ret_bool H2.out.symm, rfl⟩
  · by_cases h2 : b < n
    · have H2 := Lib.hid (show outB n a b = true by rw [H.out]; simp [h2])
      go_wp2
      go_ret
      exact ⟨ret_bool H2.out.symm, rfl⟩
    · have H2 := Lib.hid (show outB n a b = false by rw [H.out]; simp; omega)
      go_wp2
      go_ret
      exact ⟨ret_bool H2.out.symm, rfl⟩

theorem nbyte_lt (s : ByteArray) (k : Nat) : (s.data.toList.getD k 0).toNat < 256 := UInt8.toNat_lt _

set_option maxRecDepth 100000 in
set_option maxHeartbeats 400000 in
theorem name_any (s : ByteArray) (w : World) (hs : s.size ≤ 9223372036854775807) : Calls Tryz.prog 18 #[.string s] w fun e w' => e = .returned (.bool (nameOk s)) ∧ Below w.heap.size w w' := by
  have hcv := Lib.run_convert_string_bytes (P := Tryz.prog) w 9 88 5 s Tryz.underlying9 Tryz.underlying88 Tryz.underlying5
  go_enter Tryz.func18, Tryz.ntmps18
  go_wp2
  have HB : Hid (Below w.heap.size w (Lib.bytesWorld w 5 s)) := ⟨rfl, rfl, rfl, by rw [Lib.bytesWorld_size]; omega, fun j hj => Lib.bytesWorld_at_old w 5 s j hj⟩
  have HC := Lib.hid (fun j hj => Lib.bytesWorld_cell w 5 s j hj)
  have hl : s.data.toList.length = s.size := by simp
  have HL := Lib.hid hl
  clear hcv hl
  generalize Lib.bytesWorld w 5 s = wb at *
  generalize grownCap w s.size 0 5 = gc at *
  go_loopg [8] (s.size - 0) (fun r v wr => ∃ k : Nat, r = s.size - k ∧ v = I k ∧ k ≤ s.size ∧ wb = wr ∧ Hid (okBytes 0 s.data.toList = okBytes k (s.data.toList.drop k)))
  case atStart => exact ⟨0, rfl, rfl, by omega, rfl, rfl⟩
  case round =>
    obtain ⟨k, rfl, rfl, hk, rfl, HO⟩ := hrel
    by_cases hlt : k < s.size
    · have hc := HC.out k hlt
      have hb := nbyte_lt s k
      have HO2 := Lib.hid (show okBytes 0 s.data.toList = (okByte k (s.data.toList.getD k 0).toNat && okBytes (k + 1) (s.data.toList.drop (k + 1))) by
        have hk' : k < s.data.toList.length := by rw [HL.out]; exact hlt
        rw [HO.out, List.drop_eq_getElem_cons hk', okBytes, List.getD_eq_getElem?_getD, List.getElem?_eq_getElem hk']
        rfl)
      obtain ⟨x, hx⟩ : ∃ x, (s.data.toList.getD k 0).toNat = x := ⟨_, rfl⟩
      rw [hx] at hc hb HO2
      clear hx HO
      by_cases hok : okByte k x = true
      · have HO3 := Lib.hid (show okBytes 0 s.data.toList = okBytes (k + 1) (s.data.toList.drop (k + 1)) by rw [HO2.out, hok, Bool.true_and])
        have hcase : (65 ≤ x ∧ x ≤ 90) ∨ (¬ (65 ≤ x ∧ x ≤ 90) ∧ 0 < k ∧ 48 ≤ x ∧ x ≤ 57) := by
          simp only [okByte, Bool.or_eq_true, Bool.and_eq_true, decide_eq_true_eq] at hok
          by_cases h : 65 ≤ x ∧ x ≤ 90
          · exact .inl h
          · exact .inr ⟨h, by omega⟩
        clear hok
        rcases hcase with ⟨h1, h2⟩ | ⟨h1, h2, h3, h4⟩
        · go_wp2
          go_roundg (s.size - (k + 1))
          case measure => omega
          case rel => exact ⟨k + 1, rfl, by go_num, by omega, rfl, HO3⟩
        · have h5 : x < 65 := by omega
          have t57 : decide ((x : Int) ≤ 57) = true := by simp; omega
          clear h1
          go_wp2
          go_roundg (s.size - (k + 1))
          case measure => omega
          case rel => exact ⟨k + 1, rfl, by go_num, by omega, rfl, HO3⟩
      · have HN := Lib.hid (show nameOk s = false by rw [nameOk, HO2.out, Bool.eq_false_iff.2 hok]; simp)
        have hcase : ¬ (65 ≤ x ∧ x ≤ 90) ∧ ¬ (0 < k ∧ 48 ≤ x ∧ x ≤ 57) := by
          simp only [okByte, Bool.or_eq_true, Bool.and_eq_true, decide_eq_true_eq] at hok
          omega
        clear hok
        rcases Nat.lt_or_ge x 48 with hA | hA
        · clear hcase
          go_wp2
          all_goals (go_ret; exact ⟨ret_bool HN.out.symm, HB.out⟩)
        · rcases Nat.lt_or_ge x 65 with hB | hB
          · rcases Nat.eq_zero_or_pos k with hC | hC
            · subst hC
              clear hcase
              go_wp2
              all_goals (go_ret; exact ⟨ret_bool HN.out.symm, HB.out⟩)
            · have t57 : decide ((x : Int) ≤ 57) = false := by simp; omega
              clear hcase
              go_wp2
              all_goals (go_ret; exact ⟨ret_bool HN.out.symm, HB.out⟩)
          · have t90 : decide ((x : Int) ≤ 90) = false := by simp; omega
            have t57 : decide ((x : Int) ≤ 57) = false := by simp; omega
            clear hcase
            go_wp2
            all_goals (go_ret; exact ⟨ret_bool HN.out.symm, HB.out⟩)
    · have HN := Lib.hid (show nameOk s = decide (1 ≤ s.size ∧ s.size ≤ 8) by
        have hk' : s.data.toList.drop k = [] := List.drop_of_length_le (by rw [HL.out]; omega)
        rw [nameOk, HO.out, hk', okBytes, Bool.true_and])
      by_cases h1 : 1 ≤ s.size
      · by_cases h2 : s.size ≤ 8
        · have HN2 := Lib.hid (show nameOk s = true by rw [HN.out]; simp [h1, h2])
          go_wp2
          go_ret
          exact ⟨ret_bool (by rw [HN2.out]; simp; omega), HB.out⟩
        · have HN2 := Lib.hid (show nameOk s = false by rw [HN.out]; simp [h2])
          go_wp2
          go_ret
          exact ⟨ret_bool (by rw [HN2.out]; simp; omega), HB.out⟩
      · have HN2 := Lib.hid (show nameOk s = false by rw [HN.out]; simp [h1])
        go_wp2
        go_ret
        exact ⟨ret_bool HN2.out.symm, HB.out⟩
end Go.Proofs.YtglbelmljdgaoaaGreatDoor
