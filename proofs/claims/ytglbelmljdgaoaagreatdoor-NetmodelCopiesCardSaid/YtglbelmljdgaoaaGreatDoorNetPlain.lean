/- The plain functions of package netmodel. No program here. -/
import Derived.WalkKit
import Derived.Lib.SlicesS
namespace Go.Proofs.YtglbelmljdgaoaaGreatDoor

def okByte (i : Nat) (c : Nat) : Bool := decide (65 ≤ c ∧ c ≤ 90) || (decide (0 < i) && decide (48 ≤ c ∧ c ≤ 57))
def okBytes : Nat → List UInt8 → Bool
  | _, [] => true
  | i, c :: cs => okByte i c.toNat && okBytes (i + 1) cs
def nameOk (s : ByteArray) : Bool := okBytes 0 s.data.toList && decide (1 ≤ s.size ∧ s.size ≤ 8)

structure SwitchD where
  name : ByteArray
  a : ByteArray
  b : ByteArray
  breaker : Bool
  opn : Bool
structure BranchD where
  name : ByteArray
  src : ByteArray
  dst : ByteArray
  x : Int
  tap : Int
  shift : Int
  limit : Int
  short : Int
  hold : Int
structure GenD where
  name : ByteArray
  node : ByteArray
  least : Int
  most : Int
  ramp : Int
structure LoadD where
  name : ByteArray
  node : ByteArray
  demand : Int
structure StoreD where
  name : ByteArray
  node : ByteArray
  charge : Int
  discharge : Int
  capacity : Int
structure NetD where
  nodes : List ByteArray
  switches : List SwitchD
  branches : List BranchD
  gens : List GenD
  loads : List LoadD
  stores : List StoreD

def outB (n low high : Int) : Bool := decide (n < low ∨ high < n)
def branchOk (b : BranchD) : Bool := !(outB b.x 1 10000 || outB b.tap 500 1500 || outB b.shift (-1000) 1000 || outB b.limit 0 100000 || outB b.short b.limit 100000 || outB b.hold 0 200000)
def genOk (g : GenD) : Bool := !outB g.least 0 100000 && !outB g.most g.least 100000 && !outB g.ramp 0 100000
def loadOk (l : LoadD) : Bool := !outB l.demand 0 100000
def storeOk (s : StoreD) : Bool := !outB s.charge 0 100000 && !outB s.discharge 0 100000 && !outB s.capacity 0 100000

/-- two nodes that are one -/
def sameTwo : List ByteArray → Bool
  | [a, b] => decide (a = b)
  | _ => false
/-- one name with its nodes: the error, and the names seen -/
def deviceL (nodes seen : List ByteArray) (name : ByteArray) (ends : List ByteArray) : Int × List ByteArray :=
  if nameOk name = false then (5, seen)
  else if Lib.containsS seen name = true then (7, seen)
  else if (ends.all fun e => Lib.containsS nodes e) = false then (6, name :: seen)
  else if sameTwo ends = true then (3, name :: seen)
  else (0, name :: seen)
/-- names one after the other, each with a test of its numbers -/
def devs (nodes : List ByteArray) : List (ByteArray × List ByteArray × Bool) → List ByteArray → Int
  | [], _ => 0
  | (name, ends, ok) :: rest, seen =>
    if (deviceL nodes seen name ends).1 = 0 then
      if ok = true then devs nodes rest (deviceL nodes seen name ends).2 else 4
    else (deviceL nodes seen name ends).1
def NetD.items (n : NetD) : List (ByteArray × List ByteArray × Bool) :=
  n.nodes.map (fun s => (s, [], true)) ++ (n.switches.map (fun s => (s.name, [s.a, s.b], true)) ++ (n.branches.map (fun b => (b.name, [b.src, b.dst], branchOk b)) ++
    (n.gens.map (fun g => (g.name, [g.node], genOk g)) ++ (n.loads.map (fun l => (l.name, [l.node], loadOk l)) ++ n.stores.map fun s => (s.name, [s.node], storeOk s)))))
def checkN (n : NetD) : Int :=
  if 24 < n.nodes.length ∨ 32 < n.switches.length ∨ 24 < n.branches.length ∨ 10 < n.gens.length ∨ 12 < n.loads.length ∨ 4 < n.stores.length then 2
  else devs n.nodes n.items []
end Go.Proofs.YtglbelmljdgaoaaGreatDoor
