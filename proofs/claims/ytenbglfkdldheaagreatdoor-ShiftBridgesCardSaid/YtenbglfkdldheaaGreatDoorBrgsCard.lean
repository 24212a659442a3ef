/- ShiftBridges returns true for every input: there are outage factors exactly for branches that are no bridges. No conditions: the row and the card. -/
import Derived.Test.YtenbglfkdldheaaGreatDoorBrgs
import Derived.Test.YtenbglfkdldheaaGreatDoorCards
import Derived.Test.YtenbglfkdldheaaGreatDoorTie
set_option maxRecDepth 100000
set_option maxHeartbeats 16000000
namespace Go.Proofs.YtenbglfkdldheaaGreatDoor
open Go.ChangeShapes Go.WideShapes Go.ChangeAt Go.RowKit Go.ChangeMaps
theorem lW : joinedFacts Tryz.pinned.checked.prog 3 Tryz.f3 Rows.shiftBridgesSpec Rows.shiftBridgesRow = true := by
 unfold joinedFacts
 repeat' (with_reducible refine (Bool.and_eq_true _ _).mpr ⟨?_, ?_⟩)
 all_goals decide +kernel
theorem nS : Rows.ShiftBridgesSaid :=
 OpenClaim.holds_of_wide 3 Tryz.f3 rfl rfl rfl rfl rfl rfl rfl ⟨rfl, rfl, rfl, rfl, rfl⟩ rfl rfl rfl rfl rfl (by kernel_rfl) Tryz.func3 lW
  (of_decide_eq_true (by kernel_rfl)) (by unfold Func.isWrapper; first | (rw [if_pos (by decide +kernel)]; kernel_rfl) | (rw [if_neg (by decide +kernel)]; exact ⟨rfl, rfl⟩))
  (fun os started H enc _ => lV os started H enc)
theorem mW (f : FuncId) (fn : Func) (hf : Tryz.pinned.checked.prog.funcNamed "gridhall/gridhallkeep1.ShiftBridges" = some f) (hfn : Tryz.pinned.checked.prog.funcs[f]? = some fn) :
  true = Tryz.pinned.checked.prog.looks [] ∧ ∀ (j : Nat) t, fn.params[j]? = some t → Tryz.pinned.checked.prog.wantsStandIn t = false := by
 obtain rfl : f = 3 := Option.some.inj ((show Tryz.prog.funcNamed "gridhall/gridhallkeep1.ShiftBridges" = some 3 by kernel_rfl).symm.trans hf) |>.symm
 obtain rfl : fn = Tryz.f3 := (Option.some.inj (Tryz.func3.symm.trans hfn)).symm
 refine ⟨by kernel_rfl, fun j t ht => ?_⟩
 rw [Tryz.params3] at ht
 have hm : t ∈ [29, 3] := by
  have := Array.mem_of_getElem? ht
  clear ht hf hfn
  revert this
  revert t
  simp
 have hall : ([29, 3].all fun u => !Tryz.prog.wantsStandIn u) = true := by kernel_rfl
 exact (show Tryz.prog.wantsStandIn t = false by simpa using List.all_eq_true.1 hall t hm)
theorem shiftBridges_card : Rows.ShiftBridgesCardSaid :=
 Claim7.holds_tied_plain_at .later [] _ _ _ _ nS (fun _ h => by cases h) (by kernel_rfl) (fun _ h => by cases h) shiftBridges_row_tie rfl ⟨rfl, rfl⟩ (by kernel_rfl) rfl mW (by kernel_rfl)
#print axioms shiftBridges_card
end Go.Proofs.YtenbglfkdldheaaGreatDoor
