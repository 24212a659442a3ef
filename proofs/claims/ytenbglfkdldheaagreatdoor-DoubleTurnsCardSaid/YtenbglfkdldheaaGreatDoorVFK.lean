/- flow.Solve. -/
import Derived.Test.YtenbglfkdldheaaGreatDoorVFI
namespace Go.Proofs.YtenbglfkdldheaaGreatDoor
open Go.RowKit
theorem fF{n:NetD}{inj:List Int}(h:aR n inj=0):aW n=0∧inj.length=n.nodes.length∧∀i,-100000≤inj.getD i 0∧inj.getD i 0≤100000:=by
 unfold aR at h;by_cases h1:aW n=0
 ·rw[if_neg (fun k=>k h1)]at h;by_cases h2:inj.length=n.nodes.length
  ·rw[if_neg (fun k=>k h2)]at h;refine⟨h1,h2,fun i=>?_⟩;split at h
   ·omega
   ·rename_i h3;rw[gD];cases e:inj[i]? with
    |none=>simp
    |some p=>
     have h4:¬vO p=true:=fun k=>h3 (List.any_eq_true.2 ⟨p,List.mem_of_getElem? e,k⟩);simp only[vO,Bool.or_eq_true,decide_eq_true_eq]at h4;simp only[Option.getD_some];omega
  ·rw[if_pos h2]at h;omega
 ·rw[if_pos h1]at h;exact absurd h h1
theorem aBz(n:NetD)(r:List Rat):(aJm n r).length=nbN n:=nY _ _ _ _ _
theorem aRj(n:NetD)(th:List Rat):(flN n th).length=n.branches.length:=aHf _ _ _ _ _ _
def aXq(n:NetD)(inj:List Int):List Rat:=aJm n (smN n inj)
def iN(n:NetD)(inj:List Int):List Rat:=flN n (aXq n inj)
end Go.Proofs.YtenbglfkdldheaaGreatDoor
