/- strings.Cut at "/". -/
import Derived.Test.YtpbdlmjfjkfphaaGreatDoorRPl
import Derived.Test.YtpbdlmjfjkfphaaGreatDoorTwo
import Derived.Test.YtpbdlmjfjkfphaaGreatDoorShelf
import Derived.OwnWalk
namespace Go.Proofs.YtpbdlmjfjkfphaaGreatDoor
open Go.RowKit

theorem ext_take (s : ByteArray) (k : Nat) : s.extract 0 k = ⟨((SL s).take k).toArray⟩ := SL_inj (by rw [SL_mk]; simp [SL])
theorem ext_drop (s : ByteArray) (k : Nat) : s.extract k s.size = ⟨((SL s).drop k).toArray⟩ := SL_inj (by
  rw [SL_mk]
  show (s.extract k s.size).data.toList = _
  rw [ByteArray.data_extract, Array.toList_extract, List.extract_eq_take_drop]
  exact List.take_of_length_le (by rw [List.length_drop, Array.length_toList]; exact Nat.le_refl _))
def CutR (w : World) (s : ByteArray) (e : Ending) (w' : World) : Prop := e = .returned (.tuple #[.string ⟨(cutA (SL s)).toArray⟩, .string ⟨(cutD (SL s)).toArray⟩, .bool (cutI (SL s))]) ∧ ∃ n, w' = w.drewN n
set_option maxRecDepth 100000 in
set_option maxHeartbeats 1000000 in
theorem scut_any (s : ByteArray) (w : World) (hs : s.size ≤ 9223372036854775807) : Calls Tryz.prog 60 #[.string s, .string ⟨#[47]⟩] w (CutR w s) := by
  have HI := Lib.hid (Tryz.stringslite_Index_one s 47 w)
  have hge := Lib.indexByte_ge s.data.toList 47
  have h1 : ∀ k : Nat, Lib.indexByte s.data.toList 47 = k → CutR w s (.returned (.tuple #[.string (s.extract 0 k), .string (s.extract (k + 1) s.size), .bool true])) w := fun k h => by
    obtain ⟨a, b, c, _⟩ := cut_some (SL s) k h
    refine ⟨?_, 0, rfl⟩
    rw [ext_take, ext_drop, a, b, c]
  have h0 : Lib.indexByte s.data.toList 47 = -1 → CutR w s (.returned (.tuple #[.string s, .string ⟨#[]⟩, .bool false])) w := fun h => by
    obtain ⟨a, b, c⟩ := cut_none (SL s) h
    refine ⟨?_, 0, rfl⟩
    rw [a, b, c]
    rfl
  have h2 : ∀ k : Nat, Lib.indexByte s.data.toList 47 = k → k < s.size := fun k h => by
    have := (cut_some (SL s) k h).2.2.2
    rwa [SL_len] at this
  have H1 := Lib.hid h1
  have H0 := Lib.hid h0
  clear h0 h1
  generalize Lib.indexByte s.data.toList 47 = i at *
  go_enter Tryz.func60, Tryz.ntmps60
  go_wp2_with fail
  refine HI.out.mono ?_
  rintro e w1 ⟨rfl, rfl⟩
  clear HI
  by_cases hi : i < 0
  · obtain rfl : i = -1 := by omega
    have HQ := Lib.hid (H0.out rfl)
    clear H0 H1 h2 hge hi
    go_wp2
    go_ret3
    exact HQ.out
  · obtain ⟨k, rfl⟩ : ∃ k : Nat, i = k := ⟨i.toNat, by omega⟩
    have hk := h2 k rfl
    have HQ := Lib.hid (H1.out k rfl)
    clear H0 H1 h2 hge hi
    have c1 : (0 : Int) ≤ (k : Int) := by omega
    have c2 : (k : Int) ≤ (s.size : Int) := by omega
    have c3 : (0 : Int) ≤ (k : Int) + 1 := by omega
    have c4 : (k : Int) + 1 ≤ (s.size : Int) := by omega
    have ew : IntKind.i64.wrap ((k : Int) + 1) = (k : Int) + 1 := IntWalk.i64_in _ (by omega)
    have et : ((k : Int) + 1).toNat = k + 1 := by omega
    have mixed : Tryz.prog.follows .mixedOrders = true := by kernel_rfl
    go_wp2
    go_region_o
    go_wp2
    go_ret3
    exact ⟨HQ.out.1, 1, rfl⟩
theorem cut_any (s : ByteArray) (w : World) (hs : s.size ≤ 9223372036854775807) : Calls Tryz.prog 40 #[.string s, .string ⟨#[47]⟩] w (CutR w s) := by
  go_enter Tryz.func40, Tryz.ntmps40
  go_wp2_with (go_at_call 60; refine (scut_any s _ hs).mono ?_; rintro e w' ⟨rfl, n, rfl⟩)
  go_ret3
  exact ⟨rfl, n, rfl⟩
end Go.Proofs.YtpbdlmjfjkfphaaGreatDoor
