/- FlowAdds returns true for every input: without phase shifts the flows of added injections are added. No conditions: the row and the card. -/
import Derived.Test.YtenbglfkdldheaaGreatDoorAdds
import Derived.Test.YtenbglfkdldheaaGreatDoorCards
import Derived.Test.YtenbglfkdldheaaGreatDoorTie
set_option maxRecDepth 100000
set_option maxHeartbeats 16000000
namespace Go.Proofs.YtenbglfkdldheaaGreatDoor
open Go.ChangeShapes Go.WideShapes Go.ChangeAt Go.RowKit Go.ChangeMaps
theorem flowAdds_closed : joinedFacts Tryz.pinned.checked.prog 9 Tryz.f9 Rows.flowAddsSpec Rows.flowAddsRow = true := by
 unfold joinedFacts
 repeat' (with_reducible refine (Bool.and_eq_true _ _).mpr ⟨?_, ?_⟩)
 all_goals decide +kernel
theorem flowAdds_said : Rows.FlowAddsSaid :=
 OpenClaim.holds_of_wide 9 Tryz.f9 rfl rfl rfl rfl rfl rfl rfl ⟨rfl, rfl, rfl, rfl, rfl⟩ rfl rfl rfl rfl rfl (by kernel_rfl) Tryz.func9 flowAdds_closed
  (of_decide_eq_true (by kernel_rfl)) (by unfold Func.isWrapper; first | (rw [if_pos (by decide +kernel)]; kernel_rfl) | (rw [if_neg (by decide +kernel)]; exact ⟨rfl, rfl⟩))
  (fun os started H enc _ => flowAdds_lifted os started H enc)
theorem flowAdds_plain (f : FuncId) (fn : Func) (hf : Tryz.pinned.checked.prog.funcNamed "gridhall/gridhallkeep1.FlowAdds" = some f) (hfn : Tryz.pinned.checked.prog.funcs[f]? = some fn) :
  true = Tryz.pinned.checked.prog.looks [] ∧ ∀ (j : Nat) t, fn.params[j]? = some t → Tryz.pinned.checked.prog.wantsStandIn t = false := by
 obtain rfl : f = 9 := Option.some.inj ((show Tryz.prog.funcNamed "gridhall/gridhallkeep1.FlowAdds" = some 9 by kernel_rfl).symm.trans hf) |>.symm
 obtain rfl : fn = Tryz.f9 := (Option.some.inj (Tryz.func9.symm.trans hfn)).symm
 refine ⟨by kernel_rfl, fun j t ht => ?_⟩
 rw [Tryz.params9] at ht
 have hm : t ∈ [31, 29] := by
  have := Array.mem_of_getElem? ht
  clear ht hf hfn
  revert this
  revert t
  simp
 have hall : ([31, 29].all fun u => !Tryz.prog.wantsStandIn u) = true := by kernel_rfl
 exact (show Tryz.prog.wantsStandIn t = false by simpa using List.all_eq_true.1 hall t hm)
theorem flowAdds_card : Rows.FlowAddsCardSaid :=
 Claim7.holds_tied_plain_at .later [] _ _ _ _ flowAdds_said (fun _ h => by cases h) (by kernel_rfl) (fun _ h => by cases h) flowAdds_row_tie rfl ⟨rfl, rfl⟩ (by kernel_rfl) rfl flowAdds_plain (by kernel_rfl)
#print axioms flowAdds_card
end Go.Proofs.YtenbglfkdldheaaGreatDoor
