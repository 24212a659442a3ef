/- flow.Solve. -/
import Derived.Test.YtenbglfkdldheaaGreatDoorOFI
namespace Go.Proofs.YtenbglfkdldheaaGreatDoor
open Go.RowKit
theorem gY {n : NetD} {inj : List Int} (h : aM n inj = 0) : bJ n = 0 ∧ inj.length = n.nodes.length ∧ ∀ i, -100000 ≤ inj.getD i 0 ∧ inj.getD i 0 ≤ 100000 := by
 unfold aM at h
 by_cases h1 : bJ n = 0
 ·rw [if_neg (fun k => k h1)] at h
  by_cases h2 : inj.length = n.nodes.length
  ·rw [if_neg (fun k => k h2)] at h
   refine ⟨h1, h2, fun i => ?_⟩
   split at h
   ·omega
   ·rename_i h3
    rw [gD]
    cases e : inj[i]? with
    | none => simp
    | some p =>
     have h4 : ¬ rI p = true := fun k => h3 (List.any_eq_true.2 ⟨p, List.mem_of_getElem? e, k⟩)
     simp only [rI, Bool.or_eq_true, decide_eq_true_eq] at h4
     simp only [Option.getD_some]
     omega
  ·rw [if_pos h2] at h
   omega
 ·rw [if_pos h1] at h
  exact absurd h h1
theorem aGu (n : NetD) (r : List Rat) : (aGs n r).length = nbN n := vD _ _ _ _ _
theorem aLb (n : NetD) (th : List Rat) : (flN n th).length = n.branches.length := aBj _ _ _ _ _ _
def aPq (n : NetD) (inj : List Int) : List Rat := aGs n (smN n inj)
def rC (n : NetD) (inj : List Int) : List Rat := flN n (aPq n inj)
end Go.Proofs.YtenbglfkdldheaaGreatDoor
