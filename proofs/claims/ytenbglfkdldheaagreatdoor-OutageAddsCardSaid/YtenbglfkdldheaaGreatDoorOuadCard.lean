/- OutageAdds returns true for every input: the flows after an outage are the flows before, and the outage factors times the flow of the branch. No conditions: the row and the card. -/
import Derived.Test.YtenbglfkdldheaaGreatDoorOuad
import Derived.Test.YtenbglfkdldheaaGreatDoorCards
import Derived.Test.YtenbglfkdldheaaGreatDoorTie
set_option maxRecDepth 100000
set_option maxHeartbeats 16000000
namespace Go.Proofs.YtenbglfkdldheaaGreatDoor
open Go.ChangeShapes Go.WideShapes Go.ChangeAt Go.RowKit Go.ChangeMaps
theorem rV:joinedFacts Tryz.pinned.checked.prog 13 Tryz.f13 Rows.outageAddsSpec Rows.outageAddsRow=true:=by
 unfold joinedFacts;repeat' (with_reducible refine(Bool.and_eq_true _ _).mpr ⟨?_,?_⟩)
 all_goals decide+kernel
theorem tU:Rows.OutageAddsSaid:=OpenClaim.holds_of_wide 13 Tryz.f13 rfl rfl rfl rfl rfl rfl rfl ⟨rfl,rfl,rfl,rfl,rfl⟩ rfl rfl rfl rfl rfl (by kernel_rfl) Tryz.func13 rV (of_decide_eq_true (by kernel_rfl)) (by unfold Func.isWrapper;first|(rw[if_pos (by decide+kernel)];kernel_rfl)|(rw[if_neg (by decide+kernel)];exact⟨rfl,rfl⟩))
  (fun os started H enc _=>rU os started H enc)
theorem sX(f:FuncId)(fn:Func)(hf:Tryz.pinned.checked.prog.funcNamed "gridhall/gridhallkeep1.OutageAdds" =some f) (hfn:Tryz.pinned.checked.prog.funcs[f]?=some fn): true=Tryz.pinned.checked.prog.looks []∧∀(j:Nat) t,fn.params[j]?=some t→Tryz.pinned.checked.prog.wantsStandIn t=false:=by
 obtain rfl:f=13:=Option.some.inj ((show Tryz.prog.funcNamed "gridhall/gridhallkeep1.OutageAdds" =some 13 by kernel_rfl).symm.trans hf)|>.symm;obtain rfl:fn=Tryz.f13:=(Option.some.inj (Tryz.func13.symm.trans hfn)).symm;refine⟨by kernel_rfl,fun j t ht=>?_⟩;rw[Tryz.params13]at ht;have hm:t∈[31,29,3]:=by
  have:=Array.mem_of_getElem? ht;clear ht hf hfn;revert this;revert t;simp
 have hall:([31,29,3].all fun u=> !Tryz.prog.wantsStandIn u)=true:=by kernel_rfl
 exact(show Tryz.prog.wantsStandIn t=false by simpa using List.all_eq_true.1 hall t hm)
theorem outageAdds_card:Rows.OutageAddsCardSaid:=Claim7.holds_tied_plain_at .later [] _ _ _ _ tU (fun _ h=>by cases h) (by kernel_rfl) (fun _ h=>by cases h) outageAdds_row_tie rfl ⟨rfl,rfl⟩ (by kernel_rfl) rfl sX (by kernel_rfl)
#print axioms outageAdds_card
end Go.Proofs.YtenbglfkdldheaaGreatDoor
