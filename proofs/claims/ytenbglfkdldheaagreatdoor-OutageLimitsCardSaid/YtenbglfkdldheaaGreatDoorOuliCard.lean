/- OutageLimits returns true for every input: with greater limits no outage has more overloads. No conditions: the row and the card. -/
import Derived.Test.YtenbglfkdldheaaGreatDoorOuli
import Derived.Test.YtenbglfkdldheaaGreatDoorCards
import Derived.Test.YtenbglfkdldheaaGreatDoorTie
set_option maxRecDepth 100000
set_option maxHeartbeats 16000000
namespace Go.Proofs.YtenbglfkdldheaaGreatDoor
open Go.ChangeShapes Go.WideShapes Go.ChangeAt Go.RowKit Go.ChangeMaps
theorem lP : joinedFacts Tryz.pinned.checked.prog 4 Tryz.f4 Rows.outageLimitsSpec Rows.outageLimitsRow = true := by
 unfold joinedFacts
 repeat' (with_reducible refine (Bool.and_eq_true _ _).mpr ⟨?_, ?_⟩)
 all_goals decide +kernel
theorem nZ : Rows.OutageLimitsSaid :=
 OpenClaim.holds_of_wide 4 Tryz.f4 rfl rfl rfl rfl rfl rfl rfl ⟨rfl, rfl, rfl, rfl, rfl⟩ rfl rfl rfl rfl rfl (by kernel_rfl) Tryz.func4 lP
  (of_decide_eq_true (by kernel_rfl)) (by unfold Func.isWrapper; first | (rw [if_pos (by decide +kernel)]; kernel_rfl) | (rw [if_neg (by decide +kernel)]; exact ⟨rfl, rfl⟩))
  (fun os started H enc _ => lO os started H enc)
theorem mT (f : FuncId) (fn : Func) (hf : Tryz.pinned.checked.prog.funcNamed "gridhall/gridhallkeep1.OutageLimits" = some f) (hfn : Tryz.pinned.checked.prog.funcs[f]? = some fn) :
  true = Tryz.pinned.checked.prog.looks [] ∧ ∀ (j : Nat) t, fn.params[j]? = some t → Tryz.pinned.checked.prog.wantsStandIn t = false := by
 obtain rfl : f = 4 := Option.some.inj ((show Tryz.prog.funcNamed "gridhall/gridhallkeep1.OutageLimits" = some 4 by kernel_rfl).symm.trans hf) |>.symm
 obtain rfl : fn = Tryz.f4 := (Option.some.inj (Tryz.func4.symm.trans hfn)).symm
 refine ⟨by kernel_rfl, fun j t ht => ?_⟩
 rw [Tryz.params4] at ht
 have hm : t ∈ [31, 29, 3] := by
  have := Array.mem_of_getElem? ht
  clear ht hf hfn
  revert this
  revert t
  simp
 have hall : ([31, 29, 3].all fun u => !Tryz.prog.wantsStandIn u) = true := by kernel_rfl
 exact (show Tryz.prog.wantsStandIn t = false by simpa using List.all_eq_true.1 hall t hm)
theorem outageLimits_card : Rows.OutageLimitsCardSaid :=
 Claim7.holds_tied_plain_at .later [] _ _ _ _ nZ (fun _ h => by cases h) (by kernel_rfl) (fun _ h => by cases h) outageLimits_row_tie rfl ⟨rfl, rfl⟩ (by kernel_rfl) rfl mT (by kernel_rfl)
#print axioms outageLimits_card
end Go.Proofs.YtenbglfkdldheaaGreatDoor
