/- DoubleBounds returns true for every input: no branch carries more than its bound after the outage of two branches. No conditions: the row and the card. -/
import Derived.Test.YtenbglfkdldheaaGreatDoorDbbd
import Derived.Test.YtenbglfkdldheaaGreatDoorCards
import Derived.Test.YtenbglfkdldheaaGreatDoorTie
set_option maxRecDepth 100000
set_option maxHeartbeats 16000000
namespace Go.Proofs.YtenbglfkdldheaaGreatDoor
open Go.ChangeShapes Go.WideShapes Go.ChangeAt Go.RowKit Go.ChangeMaps
theorem qC:joinedFacts Tryz.pinned.checked.prog 11 Tryz.f11 Rows.doubleBoundsSpec Rows.doubleBoundsRow=true:=by
 unfold joinedFacts;repeat' (with_reducible refine(Bool.and_eq_true _ _).mpr ⟨?_,?_⟩)
 all_goals decide+kernel
theorem tF:Rows.DoubleBoundsSaid:=OpenClaim.holds_of_wide 11 Tryz.f11 rfl rfl rfl rfl rfl rfl rfl ⟨rfl,rfl,rfl,rfl,rfl⟩ rfl rfl rfl rfl rfl (by kernel_rfl) Tryz.func11 qC (of_decide_eq_true (by kernel_rfl)) (by unfold Func.isWrapper;first|(rw[if_pos (by decide+kernel)];kernel_rfl)|(rw[if_neg (by decide+kernel)];exact⟨rfl,rfl⟩))
  (fun os started H enc _=>qA os started H enc)
theorem rJ(f:FuncId)(fn:Func)(hf:Tryz.pinned.checked.prog.funcNamed "gridhall/gridhallkeep1.DoubleBounds" =some f) (hfn:Tryz.pinned.checked.prog.funcs[f]?=some fn): true=Tryz.pinned.checked.prog.looks []∧∀(j:Nat) t,fn.params[j]?=some t→Tryz.pinned.checked.prog.wantsStandIn t=false:=by
 obtain rfl:f=11:=Option.some.inj ((show Tryz.prog.funcNamed "gridhall/gridhallkeep1.DoubleBounds" =some 11 by kernel_rfl).symm.trans hf)|>.symm;obtain rfl:fn=Tryz.f11:=(Option.some.inj (Tryz.func11.symm.trans hfn)).symm;refine⟨by kernel_rfl,fun j t ht=>?_⟩;rw[Tryz.params11]at ht;have hm:t∈[31,29,3]:=by
  have:=Array.mem_of_getElem? ht;clear ht hf hfn;revert this;revert t;simp
 have hall:([31,29,3].all fun u=> !Tryz.prog.wantsStandIn u)=true:=by kernel_rfl
 exact(show Tryz.prog.wantsStandIn t=false by simpa using List.all_eq_true.1 hall t hm)
theorem doubleBounds_card:Rows.DoubleBoundsCardSaid:=Claim7.holds_tied_plain_at .later [] _ _ _ _ tF (fun _ h=>by cases h) (by kernel_rfl) (fun _ h=>by cases h) doubleBounds_row_tie rfl ⟨rfl,rfl⟩ (by kernel_rfl) rfl rJ (by kernel_rfl)
#print axioms doubleBounds_card
end Go.Proofs.YtenbglfkdldheaaGreatDoor
