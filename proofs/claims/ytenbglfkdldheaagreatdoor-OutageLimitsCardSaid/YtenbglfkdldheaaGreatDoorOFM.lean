/- Integers of at most so many digits; solutions of systems of whole numbers are quotients of determinants. Plain facts. No program here. Power flows: the sizes of angles and flows, and the sum of flows at a bus. Plain facts. No program here. Power flows: a network's angles solve its equations; the sizes of its numbers. Plain facts. Power flows: the sizes of angles and flows of a small network. Plain facts. Power flows: the plain laws of FlowProves, FlowRefuses and FlowSwitches. Power flows: sums of injections and of numbers, number by number; what is linear. Plain facts. -/
import Derived.Test.YtenbglfkdldheaaGreatDoorOFL
namespace Go.Proofs.YtenbglfkdldheaaGreatDoor
def IB (B : Nat) (x : Rat) : Prop := ∃ z : Int, x = (z : Rat) ∧ z.natAbs ≤ B
def Ten (k : Nat) (x : Rat) : Prop := IB (10 ^ k) x
def Ov (k : Nat) (e f : Rat) : Prop := Ten k (f * e)
def thN (n : NetD) (r : List Rat) : List Rat := thQ (nbN n) (bE n) (pP n) r
def tN (n : NetD) : Bool := decide (8 < n.nodes.length) || decide (10 < n.branches.length) || decide (10 < n.switches.length)
theorem aGv {n : NetD} (h : tN n = false) : n.nodes.length ≤ 8 ∧ n.branches.length ≤ 10 ∧ n.switches.length ≤ 10 := by
 unfold tN at h
 simp only [Bool.or_eq_false_iff, decide_eq_false_iff_not] at h
 omega
def DN (n : NetD) : Rat := ((eO (bLQ n) : Nat) : Rat)
def Small (n : NetD) (r : List Rat) : Prop := ∀ i, IB (10 ^ 91) (1000 * (DN n * r.getD i 0))
structure Scale (n : NetD) (e : Rat) : Prop where
 ne : e ≠ 0
 sz : Ten 830 e
 th : ∀ r, Small n r → ∀ v, Ov 828 e ((thN n r).getD v 0)
 df : ∀ r, Small n r → ∀ b ∈ n.branches, ∀ u v, Ov 828 e (bQ b * ((thN n r).getD u 0 - (thN n r).getD v 0))
 cc : ∀ b ∈ n.branches, Ov 828 e (cQ b)
theorem nC (n : NetD) (inj : List Int) : (rC n inj).length = n.branches.length := aLb _ _
end Go.Proofs.YtenbglfkdldheaaGreatDoor
