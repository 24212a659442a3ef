/- ShiftBack returns true for every input: a transfer back has the opposite effect, and transfers from a to b and from b to c have that of one from a to c. No conditions: the row and the card. -/
import Derived.Test.YtenbglfkdldheaaGreatDoorBack
import Derived.Test.YtenbglfkdldheaaGreatDoorCards
import Derived.Test.YtenbglfkdldheaaGreatDoorTie
set_option maxRecDepth 100000
set_option maxHeartbeats 16000000
namespace Go.Proofs.YtenbglfkdldheaaGreatDoor
open Go.ChangeShapes Go.WideShapes Go.ChangeAt Go.RowKit Go.ChangeMaps
theorem rA : joinedFacts Tryz.pinned.checked.prog 10 Tryz.f10 Rows.shiftBackSpec Rows.shiftBackRow = true := by
 unfold joinedFacts
 repeat' (with_reducible refine (Bool.and_eq_true _ _).mpr ⟨?_, ?_⟩)
 all_goals decide +kernel
theorem vH : Rows.ShiftBackSaid :=
 OpenClaim.holds_of_wide 10 Tryz.f10 rfl rfl rfl rfl rfl rfl rfl ⟨rfl, rfl, rfl, rfl, rfl⟩ rfl rfl rfl rfl rfl (by kernel_rfl) Tryz.func10 rA
  (of_decide_eq_true (by kernel_rfl)) (by unfold Func.isWrapper; first | (rw [if_pos (by decide +kernel)]; kernel_rfl) | (rw [if_neg (by decide +kernel)]; exact ⟨rfl, rfl⟩))
  (fun os started H enc _ => qZ os started H enc)
theorem rT (f : FuncId) (fn : Func) (hf : Tryz.pinned.checked.prog.funcNamed "gridhall/gridhallkeep1.ShiftBack" = some f) (hfn : Tryz.pinned.checked.prog.funcs[f]? = some fn) :
  true = Tryz.pinned.checked.prog.looks [] ∧ ∀ (j : Nat) t, fn.params[j]? = some t → Tryz.pinned.checked.prog.wantsStandIn t = false := by
 obtain rfl : f = 10 := Option.some.inj ((show Tryz.prog.funcNamed "gridhall/gridhallkeep1.ShiftBack" = some 10 by kernel_rfl).symm.trans hf) |>.symm
 obtain rfl : fn = Tryz.f10 := (Option.some.inj (Tryz.func10.symm.trans hfn)).symm
 refine ⟨by kernel_rfl, fun j t ht => ?_⟩
 rw [Tryz.params10] at ht
 have hm : t ∈ [29, 9] := by
  have := Array.mem_of_getElem? ht
  clear ht hf hfn
  revert this
  revert t
  simp
 have hall : ([29, 9].all fun u => !Tryz.prog.wantsStandIn u) = true := by kernel_rfl
 exact (show Tryz.prog.wantsStandIn t = false by simpa using List.all_eq_true.1 hall t hm)
theorem shiftBack_card : Rows.ShiftBackCardSaid :=
 Claim7.holds_tied_plain_at .later [] _ _ _ _ vH (fun _ h => by cases h) (by kernel_rfl) (fun _ h => by cases h) shiftBack_row_tie rfl ⟨rfl, rfl⟩ (by kernel_rfl) rfl rT (by kernel_rfl)
#print axioms shiftBack_card
end Go.Proofs.YtenbglfkdldheaaGreatDoor
