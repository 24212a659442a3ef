/- The plain functions of package netmodel. No program here. What a valid network is: plain facts. No program here. rating: the plain functions and the plain laws of RatingSplits, RatingLefts and RatingRests. No program here. -/
import Derived.WalkKit
import Derived.Lib.SlicesS
namespace Go.Proofs.YtfigffaghaaaoaaGreatDoor

def okByte (i : Nat) (c : Nat) : Bool := decide (65 ≤ c ∧ c ≤ 90) || (decide (0 < i) && decide (48 ≤ c ∧ c ≤ 57))
def okBytes : Nat → List UInt8 → Bool
  | _, [] => true
  | i, c :: cs => okByte i c.toNat && okBytes (i + 1) cs
def nameOk (s : ByteArray) : Bool := okBytes 0 s.data.toList && decide (1 ≤ s.size ∧ s.size ≤ 8)

structure SwitchD where
  name : ByteArray
  a : ByteArray
  b : ByteArray
  breaker : Bool
  opn : Bool
structure BranchD where
  name : ByteArray
  src : ByteArray
  dst : ByteArray
  x : Int
  tap : Int
  shift : Int
  limit : Int
  short : Int
  hold : Int
structure GenD where
  name : ByteArray
  node : ByteArray
  least : Int
  most : Int
  ramp : Int
structure LoadD where
  name : ByteArray
  node : ByteArray
  demand : Int
structure StoreD where
  name : ByteArray
  node : ByteArray
  charge : Int
  discharge : Int
  capacity : Int
structure NetD where
  nodes : List ByteArray
  switches : List SwitchD
  branches : List BranchD
  gens : List GenD
  loads : List LoadD
  stores : List StoreD

def outB (n low high : Int) : Bool := decide (n < low ∨ high < n)
def branchOk (b : BranchD) : Bool := !(outB b.x 1 10000 || outB b.tap 500 1500 || outB b.shift (-1000) 1000 || outB b.limit 0 100000 || outB b.short b.limit 100000 || outB b.hold 0 200000)
def genOk (g : GenD) : Bool := !outB g.least 0 100000 && !outB g.most g.least 100000 && !outB g.ramp 0 100000
def loadOk (l : LoadD) : Bool := !outB l.demand 0 100000
def storeOk (s : StoreD) : Bool := !outB s.charge 0 100000 && !outB s.discharge 0 100000 && !outB s.capacity 0 100000

/-- two nodes that are one -/
def sameTwo : List ByteArray → Bool
  | [a, b] => decide (a = b)
  | _ => false
/-- one name with its nodes: the error, and the names seen -/
def deviceL (nodes seen : List ByteArray) (name : ByteArray) (ends : List ByteArray) : Int × List ByteArray :=
  if nameOk name = false then (5, seen)
  else if Lib.containsS seen name = true then (7, seen)
  else if (ends.all fun e => Lib.containsS nodes e) = false then (6, name :: seen)
  else if sameTwo ends = true then (3, name :: seen)
  else (0, name :: seen)
/-- names one after the other, each with a test of its numbers -/
def devs (nodes : List ByteArray) : List (ByteArray × List ByteArray × Bool) → List ByteArray → Int
  | [], _ => 0
  | (name, ends, ok) :: rest, seen =>
    if (deviceL nodes seen name ends).1 = 0 then
      if ok = true then devs nodes rest (deviceL nodes seen name ends).2 else 4
    else (deviceL nodes seen name ends).1
def NetD.items (n : NetD) : List (ByteArray × List ByteArray × Bool) :=
  n.nodes.map (fun s => (s, [], true)) ++ (n.switches.map (fun s => (s.name, [s.a, s.b], true)) ++ (n.branches.map (fun b => (b.name, [b.src, b.dst], branchOk b)) ++
    (n.gens.map (fun g => (g.name, [g.node], genOk g)) ++ (n.loads.map (fun l => (l.name, [l.node], loadOk l)) ++ n.stores.map fun s => (s.name, [s.node], storeOk s)))))
def checkN (n : NetD) : Int :=
  if 24 < n.nodes.length ∨ 32 < n.switches.length ∨ 24 < n.branches.length ∨ 10 < n.gens.length ∨ 12 < n.loads.length ∨ 4 < n.stores.length then 2
  else devs n.nodes n.items []
end Go.Proofs.YtfigffaghaaaoaaGreatDoor
namespace Go.Proofs.YtfigffaghaaaoaaGreatDoor

abbrev Item := ByteArray × List ByteArray × Bool
theorem device_ok {nodes seen : List ByteArray} {name : ByteArray} {ends : List ByteArray} (h : (deviceL nodes seen name ends).1 = 0) :
    nameOk name = true ∧ name ∉ seen ∧ (∀ e ∈ ends, e ∈ nodes) ∧ sameTwo ends = false ∧ (deviceL nodes seen name ends).2 = name :: seen := by
  have ho : deviceL nodes seen name ends = if nameOk name = false then (5, seen) else if Lib.containsS seen name = true then (7, seen) else if (ends.all fun e => Lib.containsS nodes e) = false then (6, name :: seen) else if sameTwo ends = true then (3, name :: seen) else (0, name :: seen) := rfl
  rw [ho] at h ⊢
  by_cases h1 : nameOk name = false
  · rw [if_pos h1] at h; cases h
  · rw [if_neg h1] at h ⊢
    by_cases h2 : Lib.containsS seen name = true
    · rw [if_pos h2] at h; cases h
    · rw [if_neg h2] at h ⊢
      by_cases h3 : (ends.all fun e => Lib.containsS nodes e) = false
      · rw [if_pos h3] at h; cases h
      · rw [if_neg h3] at h ⊢
        by_cases h4 : sameTwo ends = true
        · rw [if_pos h4] at h; cases h
        · rw [if_neg h4]
          refine ⟨by simpa using h1, fun hm => h2 ((Lib.containsS_iff _ _).2 hm), fun e he => ?_, by simpa using h4, rfl⟩
          have h5 : (ends.all fun e => Lib.containsS nodes e) = true := by simpa using h3
          exact (Lib.containsS_iff _ _).1 (List.all_eq_true.1 h5 e he)
theorem devs_ok {nodes : List ByteArray} : ∀ {items : List Item} {seen : List ByteArray}, devs nodes items seen = 0 →
    (∀ it ∈ items, nameOk it.1 = true ∧ it.1 ∉ seen ∧ (∀ e ∈ it.2.1, e ∈ nodes) ∧ sameTwo it.2.1 = false ∧ it.2.2 = true) ∧ (items.map (·.1)).Nodup
  | [], _, _ => ⟨by simp, by simp⟩
  | (name, ends, ok) :: rest, seen, h => by
    rw [devs] at h
    by_cases h0 : (deviceL nodes seen name ends).1 = 0
    · rw [if_pos h0] at h
      by_cases h1 : ok = true
      · rw [if_pos h1] at h
        obtain ⟨k1, k2, k3, k4, k5⟩ := device_ok h0
        rw [k5] at h
        obtain ⟨i1, i2⟩ := devs_ok h
        refine ⟨fun it hit => ?_, ?_⟩
        · rcases List.mem_cons.1 hit with rfl | hit
          · exact ⟨k1, k2, k3, k4, h1⟩
          · obtain ⟨j1, j2, j3⟩ := i1 it hit
            exact ⟨j1, fun hm => j2 (List.mem_cons_of_mem _ hm), j3⟩
        · rw [List.map_cons, List.nodup_cons]
          refine ⟨fun hm => ?_, i2⟩
          obtain ⟨it, hit, e⟩ := List.mem_map.1 hm
          obtain ⟨_, j2, _⟩ := i1 it hit
          exact j2 (by rw [e]; exact List.mem_cons_self)
      · rw [if_neg h1] at h; cases h
    · rw [if_neg h0] at h; exact absurd h h0

/-- what a valid network is -/
structure VNet (n : NetD) : Prop where
  hn : n.nodes.length ≤ 24
  hw : n.switches.length ≤ 32
  hb : n.branches.length ≤ 24
  hg : n.gens.length ≤ 10
  hl : n.loads.length ≤ 12
  hs : n.stores.length ≤ 4
  sw : ∀ s ∈ n.switches, s.a ∈ n.nodes ∧ s.b ∈ n.nodes ∧ s.a ≠ s.b ∧ nameOk s.name = true
  br : ∀ b ∈ n.branches, b.src ∈ n.nodes ∧ b.dst ∈ n.nodes ∧ b.src ≠ b.dst ∧ branchOk b = true
  ge : ∀ g ∈ n.gens, g.node ∈ n.nodes ∧ genOk g = true
  lo : ∀ g ∈ n.loads, g.node ∈ n.nodes ∧ loadOk g = true
  st : ∀ g ∈ n.stores, g.node ∈ n.nodes ∧ storeOk g = true
  nodup : (n.items.map (·.1)).Nodup
theorem checkN_devs {n : NetD} (h : checkN n = 0) : ¬ (24 < n.nodes.length ∨ 32 < n.switches.length ∨ 24 < n.branches.length ∨ 10 < n.gens.length ∨ 12 < n.loads.length ∨ 4 < n.stores.length) ∧ devs n.nodes n.items [] = 0 := by
  rw [checkN] at h
  by_cases h1 : 24 < n.nodes.length ∨ 32 < n.switches.length ∨ 24 < n.branches.length ∨ 10 < n.gens.length ∨ 12 < n.loads.length ∨ 4 < n.stores.length
  · rw [if_pos h1] at h; cases h
  · rw [if_neg h1] at h; exact ⟨h1, h⟩
theorem vnet {n : NetD} (h : checkN n = 0) : VNet n := by
  obtain ⟨h1, h2⟩ := checkN_devs h
  obtain ⟨i1, i2⟩ := devs_ok h2
  have mem : ∀ it : Item, it ∈ n.items ↔ it ∈ n.nodes.map (fun s => (s, [], true)) ∨ it ∈ n.switches.map (fun s => (s.name, [s.a, s.b], true)) ∨ it ∈ n.branches.map (fun b => (b.name, [b.src, b.dst], branchOk b)) ∨ it ∈ n.gens.map (fun g => (g.name, [g.node], genOk g)) ∨ it ∈ n.loads.map (fun l => (l.name, [l.node], loadOk l)) ∨ it ∈ n.stores.map fun s => (s.name, [s.node], storeOk s) := by
    intro it
    simp only [NetD.items, List.mem_append]
  refine ⟨by omega, by omega, by omega, by omega, by omega, by omega, fun s hs => ?_, fun b hb => ?_, fun g hg => ?_, fun g hg => ?_, fun g hg => ?_, i2⟩
  · obtain ⟨k1, _, k3, k4, _⟩ := i1 _ ((mem _).2 (.inr (.inl (List.mem_map.2 ⟨s, hs, rfl⟩))))
    exact ⟨k3 s.a (by simp), k3 s.b (by simp), by simpa [sameTwo] using k4, k1⟩
  · obtain ⟨k1, _, k3, k4, k5⟩ := i1 _ ((mem _).2 (.inr (.inr (.inl (List.mem_map.2 ⟨b, hb, rfl⟩)))))
    exact ⟨k3 b.src (by simp), k3 b.dst (by simp), by simpa [sameTwo] using k4, k5⟩
  · obtain ⟨k1, _, k3, k4, k5⟩ := i1 _ ((mem _).2 (.inr (.inr (.inr (.inl (List.mem_map.2 ⟨g, hg, rfl⟩))))))
    exact ⟨k3 g.node (by simp), k5⟩
  · obtain ⟨k1, _, k3, k4, k5⟩ := i1 _ ((mem _).2 (.inr (.inr (.inr (.inr (.inl (List.mem_map.2 ⟨g, hg, rfl⟩)))))))
    exact ⟨k3 g.node (by simp), k5⟩
  · obtain ⟨k1, _, k3, k4, k5⟩ := i1 _ ((mem _).2 (.inr (.inr (.inr (.inr (.inr (List.mem_map.2 ⟨g, hg, rfl⟩)))))))
    exact ⟨k3 g.node (by simp), k5⟩
end Go.Proofs.YtfigffaghaaaoaaGreatDoor
namespace Go.Proofs.YtfigffaghaaaoaaGreatDoor

/-- a branch's state: its flow, the seconds above its limit, exceeded -/
structure RtB where
  f : Rat
  a : Int
  o : Bool
def absQ (q : Rat) : Rat := if q.num < 0 then -q else q
/-- a number is greater than a whole one -/
def gtI (f : Rat) (k : Int) : Bool := decide (0 < (f.num * ((k : Rat).den : Int) - (k : Rat).num * (f.den : Int)).sign)
def rtStep (b : BranchD) (q : Rat) (s : Int) (x : RtB) : RtB :=
  if gtI (absQ q) b.limit = true then ⟨absQ q, x.a + s, x.o || (decide (b.hold < x.a + s) || gtI (absQ q) b.short)⟩ else ⟨absQ q, 0, false⟩
def leftB (b : BranchD) (x : RtB) : Int := if x.o = true then 0 else if gtI x.f b.limit = true then b.hold - x.a else -1
def stepL : List BranchD → List Rat → Int → List RtB → List RtB
  | b :: bs, q :: qs, s, x :: xs => rtStep b q s x :: stepL bs qs s xs
  | _, _, _, _ => []
def overL : List BranchD → List RtB → List ByteArray
  | b :: bs, x :: xs => if x.o = true then b.name :: overL bs xs else overL bs xs
  | _, _ => []
def leftL : List BranchD → List RtB → List (ByteArray × Int)
  | b :: bs, x :: xs => (b.name, leftB b x) :: leftL bs xs
  | _, _ => []
def rt0 : RtB := ⟨0, 0, false⟩
theorem rtStep_split (b : BranchD) (q : Rat) (s t : Int) (ht : 0 ≤ t) (x : RtB) : rtStep b q t (rtStep b q s x) = rtStep b q (s + t) x := by
  by_cases h : gtI (absQ q) b.limit = true
  · simp only [rtStep, if_pos h]
    have e : x.a + s + t = x.a + (s + t) := by omega
    rw [e]
    congr 1
    cases x.o <;> cases gtI (absQ q) b.short <;> simp
    omega
  · simp only [rtStep, if_neg h]
theorem stepL_split : ∀ (bs : List BranchD) (qs : List Rat) (s t : Int) (_ : 0 ≤ t) (xs : List RtB), stepL bs qs t (stepL bs qs s xs) = stepL bs qs (s + t) xs
  | b :: bs, q :: qs, s, t, ht, x :: xs => by
    rw [stepL, stepL, stepL, rtStep_split b q s t ht x, stepL_split bs qs s t ht xs]
  | [], _, _, _, _, _ => by simp [stepL]
  | _ :: _, [], _, _, _, _ => by simp [stepL]
  | _ :: _, _ :: _, _, _, _, [] => by simp [stepL]
theorem stepL_len : ∀ (bs : List BranchD) (qs : List Rat) (s : Int) (xs : List RtB), qs.length = bs.length → xs.length = bs.length → (stepL bs qs s xs).length = bs.length
  | b :: bs, q :: qs, s, x :: xs, h1, h2 => by
    rw [stepL, List.length_cons, List.length_cons, stepL_len bs qs s xs (by simpa using h1) (by simpa using h2)]
  | [], _, _, _, _, _ => by simp [stepL]
  | _ :: _, [], _, _, h, _ => by simp at h
  | _ :: _, _ :: _, _, [], _, h => by simp at h
/-- a branch can carry its flow as long as Left tells -/
theorem rtStep_left (b : BranchD) (q : Rat) (s m : Int) (h1 : 1 ≤ leftB b (rtStep b q s rt0)) (h0 : 0 ≤ m) : (rtStep b q (leftB b (rtStep b q s rt0) + m) (rtStep b q s rt0)).o = decide (0 < m) := by
  by_cases h : gtI (absQ q) b.limit = true
  · have e : rtStep b q s rt0 = ⟨absQ q, 0 + s, false || (decide (b.hold < 0 + s) || gtI (absQ q) b.short)⟩ := by rw [rtStep, if_pos h]; rfl
    rw [e] at h1 ⊢
    rw [leftB] at h1 ⊢
    simp only at h1 ⊢
    by_cases ho : (false || (decide (b.hold < 0 + s) || gtI (absQ q) b.short)) = true
    · rw [if_pos ho] at h1; omega
    · rw [if_neg ho, if_pos h] at h1 ⊢
      have hs : gtI (absQ q) b.short = false := by
        cases hh : gtI (absQ q) b.short
        · rfl
        · rw [hh] at ho; simp at ho
      rw [rtStep, if_pos h, hs]
      simp only [Bool.or_false, Bool.false_or]
      rw [hs] at ho
      simp only [Bool.or_false, Bool.false_or, decide_eq_true_eq] at ho
      rw [Bool.eq_iff_iff]
      simp only [Bool.or_eq_true, decide_eq_true_eq]
      omega
  · have e : rtStep b q s rt0 = ⟨absQ q, 0, false⟩ := by rw [rtStep, if_neg h]
    rw [e, leftB] at h1
    simp only at h1
    rw [if_neg (by decide), if_neg h] at h1
    omega
theorem gtI_zero {k : Int} (h : 0 ≤ k) : gtI (absQ 0) k = false := by
  have e : absQ 0 = 0 := by decide
  rw [e, gtI]
  have e1 : (0 : Rat).num = 0 := rfl
  have e2 : (0 : Rat).den = 1 := rfl
  have e3 : (k : Rat).num = k := by simp
  rw [e1, e2, e3]
  obtain ⟨n, rfl⟩ := Int.eq_ofNat_of_zero_le h
  rw [decide_eq_false_iff_not]
  cases n with
  | zero => decide
  | succ n =>
    rw [Int.zero_mul, show (0 : Int) - ((n + 1 : Nat) : Int) * ((1 : Nat) : Int) = Int.negSucc n by omega]
    show ¬ (0 : Int) < -1
    decide
theorem rtStep_rest (b : BranchD) (h : 0 ≤ b.limit) (s : Int) (x : RtB) : rtStep b 0 s x = ⟨absQ 0, 0, false⟩ ∧ leftB b ⟨absQ 0, 0, false⟩ = -1 := by
  have e := gtI_zero h
  refine ⟨by rw [rtStep, if_neg (by rw [e]; decide)], ?_⟩
  rw [leftB]
  simp only
  rw [if_neg (by decide), if_neg (by rw [e]; decide)]
end Go.Proofs.YtfigffaghaaaoaaGreatDoor
