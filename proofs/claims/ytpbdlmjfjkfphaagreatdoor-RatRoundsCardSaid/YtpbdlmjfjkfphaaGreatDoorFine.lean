/- fine: are there no errors? -/
import Derived.Test.YtpbdlmjfjkfphaaGreatDoorAddW
import Derived.Deep.LoopGhost
namespace Go.Proofs.YtpbdlmjfjkfphaaGreatDoor
open Go.RowKit

def fineB (es : List Int) : Bool := es.all fun e => e == 0
theorem fineB_iff (es : List Int) : fineB es = true ↔ ∀ e ∈ es, e = 0 := by simp [fineB]
theorem reads_lits (w : World) (t : TypeId) (xs : List Value) : Reads (w.alloc (.cells xs.toArray t)) (w.heap.size + 1) 1 (some ⟨w.heap.size, 0, none⟩) xs.length xs := by
  refine ⟨by simp, fun _ => ⟨_, _, rfl, by omega, fun j u hu => ?_⟩⟩
  rw [(Blk.new w t xs.toArray).cell]
  simpa using hu
set_option maxRecDepth 100000 in
set_option maxHeartbeats 400000 in
theorem nz_any (x : Int) (w : World) : Calls Tryz.prog 30 #[I x] w fun e w' => e = .returned (.bool (x != 0)) ∧ w = w' := by
  go_enter Tryz.func30, Tryz.ntmps30
  go_wp2
  go_ret
  exact ⟨rfl, rfl⟩
set_option maxRecDepth 100000 in
set_option maxHeartbeats 400000 in
theorem idxnz_any (es : List Int) (n : Nat) (A : Option Addr) (c : Nat) (w : World) (B : Nat) (hr : Reads w B 1 A n (es.map I)) (hn : n ≤ 1000000) :
    Calls Tryz.prog 51 #[.slice A n c, .func (.func 30) #[] #[]] w fun e w' => (∃ r, e = .returned (I r) ∧ decide (0 ≤ r) = !fineB es) ∧ w = w' := by
  have hl : es.length = n := by have := hr.1; simpa using this
  go_enter Tryz.func51, Tryz.ntmps51
  go_wp2
  go_loopg [8] (n - 0) (fun r v wr => ∃ k : Nat, r = n - k ∧ v = I k ∧ k ≤ n ∧ w = wr ∧ Hid (fineB es = fineB (es.drop k)))
  case atStart => exact ⟨0, rfl, rfl, by omega, rfl, rfl⟩
  case round =>
    obtain ⟨k, rfl, rfl, hk, rfl, HO⟩ := hrel
    by_cases hlt : k < n
    · obtain ⟨b, off, u, rfl, _, hu, hc⟩ := hr.at1 hlt
      obtain ⟨x, hx⟩ : ∃ x, es.getD k 0 = x := ⟨_, rfl⟩
      have hx2 : es[k]'(by omega) = x := by rw [← hx, List.getD_eq_getElem?_getD, List.getElem?_eq_getElem (by omega)]; rfl
      obtain rfl : u = I x := by
        rw [List.getElem?_map, List.getElem?_eq_getElem (by omega), hx2] at hu
        simpa using hu.symm
      have HO2 := Lib.hid (show fineB es = ((x == 0) && fineB (es.drop (k + 1))) by
        rw [HO.out, List.drop_eq_getElem_cons (by omega), hx2]
        rfl)
      have HL := Lib.hid hl
      clear hu hr hx hx2 HO hl
      by_cases h0 : x = 0
      · have tb : (x != 0) = false := by rw [h0]; rfl
        have HO3 := Lib.hid (show fineB es = fineB (es.drop (k + 1)) by rw [HO2.out, h0]; rfl)
        clear h0
        go_wp2_with (go_at_call 30; refine (nz_any x _).mono ?_; rintro e w' ⟨rfl, rfl⟩)
        go_roundg (n - (k + 1))
        case measure => omega
        case rel => exact ⟨k + 1, rfl, by go_num, by omega, rfl, HO3⟩
      · have tb : (x != 0) = true := bne_iff_ne.2 h0
        have HF := Lib.hid (show decide (0 ≤ (k : Int)) = !fineB es by
          rw [HO2.out, beq_eq_false_iff_ne.2 h0, decide_eq_true (by omega)]; rfl)
        clear h0
        go_wp2_with (go_at_call 30; refine (nz_any x _).mono ?_; rintro e w' ⟨rfl, rfl⟩)
        go_ret
        exact ⟨⟨_, rfl, HF.out⟩, rfl⟩
    · have HF := Lib.hid (show decide (0 ≤ (-1 : Int)) = !fineB es by
        rw [HO.out, List.drop_of_length_le (by omega)]; rfl)
      clear HO
      go_wp2
      go_ret
      exact ⟨⟨_, rfl, HF.out⟩, rfl⟩
set_option maxRecDepth 100000 in
set_option maxHeartbeats 400000 in
theorem fine_any (es : List Int) (n : Nat) (A : Option Addr) (c : Nat) (w : World) (B : Nat) (hr : Reads w B 1 A n (es.map I)) (hn : n ≤ 1000000) :
    Calls Tryz.prog 12 #[.slice A n c] w fun e w' => e = .returned (.bool (fineB es)) ∧ w = w' := by
  have h41 : ∀ w, Reads w B 1 A n (es.map I) → Calls Tryz.prog 29 #[.slice A n c, .func (.func 30) #[] #[]] w fun e w' => e = .returned (.bool (!fineB es)) ∧ w = w' := by
    intro w hr
    have HX := Lib.hid (idxnz_any es n A c w B hr hn)
    clear hr
    go_enter Tryz.func29, Tryz.ntmps29
    go_wp2_with fail
    refine HX.out.mono ?_
    rintro e w1 ⟨⟨r, rfl, hr⟩, rfl⟩
    have HR := Lib.hid hr
    clear hr HX
    go_wp2
    go_ret
    exact ⟨congrArg (fun b => Ending.returned (.bool b)) HR.out, rfl⟩
  have H41 := Lib.hid (h41 w hr)
  clear h41 hr
  go_enter Tryz.func12, Tryz.ntmps12
  go_wp2_with fail
  refine H41.out.mono ?_
  rintro e w1 ⟨rfl, rfl⟩
  go_wp2
  go_ret
  exact ⟨by simp, rfl⟩
end Go.Proofs.YtpbdlmjfjkfphaaGreatDoor
