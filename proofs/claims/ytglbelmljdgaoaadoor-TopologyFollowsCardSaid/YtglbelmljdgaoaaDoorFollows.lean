/- TopologyFollows returns true for every input: a follower has the topology of its network after any switching. No conditions: the row and the card. -/
import Derived.Test.YtglbelmljdgaoaaDoorTFX
import Derived.Test.YtglbelmljdgaoaaDoorCards
import Derived.Test.YtglbelmljdgaoaaDoorTie
namespace Go.Proofs.YtglbelmljdgaoaaDoor
open Go.ChangeShapes Go.WideShapes Go.ChangeAt Go.RowKit Go.ChangeMaps

set_option maxHeartbeats 16000000 in
set_option maxRecDepth 100000 in
theorem topologyFollows_closed : joinedFacts Tryd.pinned.checked.prog 3 Tryd.f3 Rows.topologyFollowsSpec Rows.topologyFollowsRow = true := by
  unfold joinedFacts
  repeat' (with_reducible refine (Bool.and_eq_true _ _).mpr ⟨?_, ?_⟩)
  all_goals decide +kernel
theorem topologyFollows_said : Rows.TopologyFollowsSaid :=
  OpenClaim.holds_of_wide 3 Tryd.f3 rfl rfl rfl rfl rfl rfl rfl ⟨rfl, rfl, rfl, rfl, rfl⟩ rfl rfl rfl rfl rfl (by kernel_rfl) Tryd.func3 topologyFollows_closed
    (of_decide_eq_true (by kernel_rfl)) (by unfold Func.isWrapper; first | (rw [if_pos (by decide +kernel)]; kernel_rfl) | (rw [if_neg (by decide +kernel)]; exact ⟨rfl, rfl⟩))
    (fun os started H enc _ => topologyFollows_lifted os started H enc)
theorem topologyFollows_plain (f : FuncId) (fn : Func) (hf : Tryd.pinned.checked.prog.funcNamed "gridhall/gridhallkeep1.TopologyFollows" = some f) (hfn : Tryd.pinned.checked.prog.funcs[f]? = some fn) :
    true = Tryd.pinned.checked.prog.looks [] ∧ ∀ (j : Nat) t, fn.params[j]? = some t → Tryd.pinned.checked.prog.wantsStandIn t = false := by
  obtain rfl : f = 3 := Option.some.inj ((show Tryd.prog.funcNamed "gridhall/gridhallkeep1.TopologyFollows" = some 3 by kernel_rfl).symm.trans hf) |>.symm
  obtain rfl : fn = Tryd.f3 := (Option.some.inj (Tryd.func3.symm.trans hfn)).symm
  refine ⟨by kernel_rfl, fun j t ht => ?_⟩
  rw [Tryd.params3] at ht
  have hm : t ∈ [30, 29] := by
    have := Array.mem_of_getElem? ht
    clear ht hf hfn
    revert this
    revert t
    simp
  have hall : ([30, 29].all fun u => !Tryd.prog.wantsStandIn u) = true := by kernel_rfl
  exact (show Tryd.prog.wantsStandIn t = false by simpa using List.all_eq_true.1 hall t hm)
theorem topologyFollows_card : Rows.TopologyFollowsCardSaid :=
  Claim7.holds_tied_plain_at .later [] _ _ _ _ topologyFollows_said (fun _ h => by cases h) (by kernel_rfl) (fun _ h => by cases h) topologyFollows_row_tie rfl ⟨rfl, rfl⟩ (by kernel_rfl) rfl topologyFollows_plain (by kernel_rfl)
#print axioms topologyFollows_card
end Go.Proofs.YtglbelmljdgaoaaDoor
