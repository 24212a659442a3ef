/- SimplexRefuses returns true for every input: a result of another kind, with another value, or with a negative element is refused. No conditions: the row and the card. -/
import Derived.Test.YtcgfdfdcbamceaaGreatDoorRef
import Derived.Test.YtcgfdfdcbamceaaGreatDoorCards
import Derived.Test.YtcgfdfdcbamceaaGreatDoorTie
namespace Go.Proofs.YtcgfdfdcbamceaaGreatDoor
open Go.ChangeShapes Go.WideShapes Go.ChangeAt Go.RowKit Go.ChangeMaps
set_option maxHeartbeats 16000000 in
set_option maxRecDepth 100000 in
theorem simplexRefuses_closed : joinedFacts Tryz.pinned.checked.prog 4 Tryz.f4 Rows.simplexRefusesSpec Rows.simplexRefusesRow = true := by
 unfold joinedFacts
 repeat' (with_reducible refine (Bool.and_eq_true _ _).mpr ⟨?_, ?_⟩)
 all_goals decide +kernel
theorem simplexRefuses_said : Rows.SimplexRefusesSaid :=
 OpenClaim.holds_of_wide 4 Tryz.f4 rfl rfl rfl rfl rfl rfl rfl ⟨rfl, rfl, rfl, rfl, rfl⟩ rfl rfl rfl rfl rfl (by kernel_rfl) Tryz.func4 simplexRefuses_closed
  (of_decide_eq_true (by kernel_rfl)) (by unfold Func.isWrapper; first | (rw [if_pos (by decide +kernel)]; kernel_rfl) | (rw [if_neg (by decide +kernel)]; exact ⟨rfl, rfl⟩))
  (fun os started H enc _ => simplexRefuses_lifted os started H enc)
theorem simplexRefuses_plain (f : FuncId) (fn : Func) (hf : Tryz.pinned.checked.prog.funcNamed "gridhall/gridhallkeep1.SimplexRefuses" = some f) (hfn : Tryz.pinned.checked.prog.funcs[f]? = some fn) :
  true = Tryz.pinned.checked.prog.looks [] ∧ ∀ (j : Nat) t, fn.params[j]? = some t → Tryz.pinned.checked.prog.wantsStandIn t = false := by
 obtain rfl : f = 4 := Option.some.inj ((show Tryz.prog.funcNamed "gridhall/gridhallkeep1.SimplexRefuses" = some 4 by kernel_rfl).symm.trans hf) |>.symm
 obtain rfl : fn = Tryz.f4 := (Option.some.inj (Tryz.func4.symm.trans hfn)).symm
 refine ⟨by kernel_rfl, fun j t ht => ?_⟩
 rw [Tryz.params4] at ht
 have hm : t ∈ [27, 3] := by
  have := Array.mem_of_getElem? ht
  clear ht hf hfn
  revert this
  revert t
  simp
 have hall : ([27, 3].all fun u => !Tryz.prog.wantsStandIn u) = true := by kernel_rfl
 exact (show Tryz.prog.wantsStandIn t = false by simpa using List.all_eq_true.1 hall t hm)
theorem simplexRefuses_card : Rows.SimplexRefusesCardSaid :=
 Claim7.holds_tied_plain_at .later [] _ _ _ _ simplexRefuses_said (fun _ h => by cases h) (by kernel_rfl) (fun _ h => by cases h) simplexRefuses_row_tie rfl ⟨rfl, rfl⟩ (by kernel_rfl) rfl simplexRefuses_plain (by kernel_rfl)
#print axioms simplexRefuses_card
end Go.Proofs.YtcgfdfdcbamceaaGreatDoor
