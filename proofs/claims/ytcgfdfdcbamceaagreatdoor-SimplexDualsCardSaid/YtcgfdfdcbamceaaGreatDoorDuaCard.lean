/- SimplexDuals returns true for every input: the dual problem has the opposite value, or one of both has no solution. No conditions: the row and the card. -/
import Derived.Test.YtcgfdfdcbamceaaGreatDoorDua
import Derived.Test.YtcgfdfdcbamceaaGreatDoorCards
import Derived.Test.YtcgfdfdcbamceaaGreatDoorTie
namespace Go.Proofs.YtcgfdfdcbamceaaGreatDoor
open Go.ChangeShapes Go.WideShapes Go.ChangeAt Go.RowKit Go.ChangeMaps
set_option maxHeartbeats 16000000 in
set_option maxRecDepth 100000 in
theorem simplexDuals_closed : joinedFacts Tryz.pinned.checked.prog 6 Tryz.f6 Rows.simplexDualsSpec Rows.simplexDualsRow = true := by
 unfold joinedFacts
 repeat' (with_reducible refine (Bool.and_eq_true _ _).mpr ⟨?_, ?_⟩)
 all_goals decide +kernel
theorem simplexDuals_said : Rows.SimplexDualsSaid :=
 OpenClaim.holds_of_wide 6 Tryz.f6 rfl rfl rfl rfl rfl rfl rfl ⟨rfl, rfl, rfl, rfl, rfl⟩ rfl rfl rfl rfl rfl (by kernel_rfl) Tryz.func6 simplexDuals_closed
  (of_decide_eq_true (by kernel_rfl)) (by unfold Func.isWrapper; first | (rw [if_pos (by decide +kernel)]; kernel_rfl) | (rw [if_neg (by decide +kernel)]; exact ⟨rfl, rfl⟩))
  (fun os started H enc _ => simplexDuals_lifted os started H enc)
theorem simplexDuals_plain (f : FuncId) (fn : Func) (hf : Tryz.pinned.checked.prog.funcNamed "gridhall/gridhallkeep1.SimplexDuals" = some f) (hfn : Tryz.pinned.checked.prog.funcs[f]? = some fn) :
  true = Tryz.pinned.checked.prog.looks [] ∧ ∀ (j : Nat) t, fn.params[j]? = some t → Tryz.pinned.checked.prog.wantsStandIn t = false := by
 obtain rfl : f = 6 := Option.some.inj ((show Tryz.prog.funcNamed "gridhall/gridhallkeep1.SimplexDuals" = some 6 by kernel_rfl).symm.trans hf) |>.symm
 obtain rfl : fn = Tryz.f6 := (Option.some.inj (Tryz.func6.symm.trans hfn)).symm
 refine ⟨by kernel_rfl, fun j t ht => ?_⟩
 rw [Tryz.params6] at ht
 have hm : t ∈ [27] := by
  have := Array.mem_of_getElem? ht
  clear ht hf hfn
  revert this
  revert t
  simp
 have hall : ([27].all fun u => !Tryz.prog.wantsStandIn u) = true := by kernel_rfl
 exact (show Tryz.prog.wantsStandIn t = false by simpa using List.all_eq_true.1 hall t hm)
theorem simplexDuals_card : Rows.SimplexDualsCardSaid :=
 Claim7.holds_tied_plain_at .later [] _ _ _ _ simplexDuals_said (fun _ h => by cases h) (by kernel_rfl) (fun _ h => by cases h) simplexDuals_row_tie rfl ⟨rfl, rfl⟩ (by kernel_rfl) rfl simplexDuals_plain (by kernel_rfl)
#print axioms simplexDuals_card
end Go.Proofs.YtcgfdfdcbamceaaGreatDoor
