/- flow.Solve. -/
import Derived.Test.YtenbglfkdldheaaGreatDoorYFI
namespace Go.Proofs.YtenbglfkdldheaaGreatDoor
open Go.RowKit
theorem gI{n:NetD}{inj:List Int}(h:bD n inj=0):bI n=0∧inj.length=n.nodes.length∧∀i,-100000≤inj.getD i 0∧inj.getD i 0≤100000:=by
 unfold bD at h;by_cases h1:bI n=0
 ·rw[if_neg (fun k=>k h1)]at h;by_cases h2:inj.length=n.nodes.length
  ·rw[if_neg (fun k=>k h2)]at h;refine⟨h1,h2,fun i=>?_⟩;split at h
   ·omega
   ·rename_i h3;rw[gD];cases e:inj[i]? with
    |none=>simp
    |some p=>
     have h4:¬xD p=true:=fun k=>h3 (List.any_eq_true.2 ⟨p,List.mem_of_getElem? e,k⟩);simp only[xD,Bool.or_eq_true,decide_eq_true_eq]at h4;simp only[Option.getD_some];omega
  ·rw[if_pos h2]at h;omega
 ·rw[if_pos h1]at h;exact absurd h h1
theorem aWd(n:NetD)(inj:List Int):(smN n inj).length=nbN n:=by simp[smN,smQ,pI]
theorem aEb(n:NetD)(r:List Rat):(aHx n r).length=nbN n:=pH _ _ _ _ _
theorem aWe(n:NetD)(th:List Rat):(flN n th).length=n.branches.length:=aKm _ _ _ _ _ _
def bBu(n:NetD)(inj:List Int):List Rat:=aHx n (smN n inj)
def eL(n:NetD)(inj:List Int):List Rat:=flN n (bBu n inj)
end Go.Proofs.YtenbglfkdldheaaGreatDoor
