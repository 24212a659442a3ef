/- netmodel.find and netmodel.Find. -/
import Derived.Test.YtglbelmljdgaoaaGreatDoorIdx
namespace Go.Proofs.YtglbelmljdgaoaaGreatDoor
open Go.RowKit

def findE (r0 r1 r2 r3 r4 r5 : Int) : ByteArray × Int :=
  if 0 ≤ r0 then (⟨#[110, 111, 100, 101]⟩, r0)
  else if 0 ≤ r1 then (⟨#[115, 119, 105, 116, 99, 104]⟩, r1)
  else if 0 ≤ r2 then (⟨#[98, 114, 97, 110, 99, 104]⟩, r2)
  else if 0 ≤ r3 then (⟨#[103, 101, 110]⟩, r3)
  else if 0 ≤ r4 then (⟨#[108, 111, 97, 100]⟩, r4)
  else if 0 ≤ r5 then (⟨#[115, 116, 111, 114, 101]⟩, r5)
  else (⟨#[]⟩, -1)
def findL (n : NetD) (x : ByteArray) : ByteArray × Int := findE (Lib.idxOfS n.nodes x) (nmIdx SwitchD.name x n.switches 0) (nmIdx BranchD.name x n.branches 0) (nmIdx GenD.name x n.gens 0) (nmIdx LoadD.name x n.loads 0) (nmIdx StoreD.name x n.stores 0)

def RetFind (w : World) (r : ByteArray × Int) (e : Ending) (w' : World) : Prop := e = .returned (.tuple #[.string r.1, I r.2]) ∧ Below w.heap.size w w'

/-- what find holds on to -/
structure Finding (w : World) (nb : Array Value) (x : ByteArray) (w' : World) : Prop where
  below : Below w.heap.size w w'
  box : Blk w' w.heap.size 29 nb
  name : w'.cell? ⟨w.heap.size + 1, 0, none⟩ = some (.string x)
  lt : w.heap.size + 1 < w'.heap.size
theorem Finding.step {w w0 w1 : World} {nb : Array Value} {x : ByteArray} (h : Finding w nb x w0) (hb : Below w0.heap.size w0 w1) : Finding w nb x w1 :=
  ⟨h.below.trans (hb.mono h.below.size), h.box.below hb h.box.lt, (hb.cell (p := ⟨w.heap.size + 1, 0, none⟩) h.lt).trans h.name, Nat.lt_of_lt_of_le h.lt hb.size⟩
theorem Finding.read {w w' : World} {nb : Array Value} {x : ByteArray} (h : Finding w nb x w') {sz n : Nat} {A : Option Addr} {xs : List Value} (hr : Reads w w.heap.size sz A n xs) : Reads w' w'.heap.size sz A n xs := (hr.below h.below).more h.below.size

set_option maxRecDepth 100000 in
set_option maxHeartbeats 2000000 in
theorem find_any (n : NetD) (v : NetV) (x : ByteArray) (w : World) (hN : NetIn w n v) (hl : NetLe n 1000000) : Calls Tryz.prog 28 #[v.val n, .string x] w (RetFind w (findL n x)) := by
  have HN := Lib.hid hN
  have HL := Lib.hid hl
  have HD := Lib.hid (show findL n x = findE (Lib.idxOfS n.nodes x) (nmIdx SwitchD.name x n.switches 0) (nmIdx BranchD.name x n.branches 0) (nmIdx GenD.name x n.gens 0) (nmIdx LoadD.name x n.loads 0) (nmIdx StoreD.name x n.stores 0) from rfl)
  have HF0 : Hid (Finding w (v.parts n) x ((w.alloc (.cells (v.parts n) 29)).alloc (.cells #[.string x] 9))) :=
    ⟨below2 w _ _, (Blk.new w 29 _).alloc _, by have := (Blk.new (w.alloc (.cells (v.parts n) 29)) 9 #[.string x]).cell 0; rw [World.size_alloc w] at this; exact this, by simp⟩
  clear hN hl
  unfold NetV.val NetV.parts at *
  go_enter Tryz.func28, Tryz.ntmps28
  go_wp2_with fail
  refine (idxS_any n.nodes _ v.na v.nc x _ _ rfl (HF0.out.read HN.out.nodes) HL.out.l1).mono ?_
  rintro e w' ⟨rfl, rfl⟩
  generalize ((w.alloc (.cells #[Value.slice v.na n.nodes.length v.nc, Value.slice v.sa n.switches.length v.sc, Value.slice v.ba n.branches.length v.bc, Value.slice v.ga n.gens.length v.gc, Value.slice v.la n.loads.length v.lc, Value.slice v.ta n.stores.length v.tc] 29)).alloc (.cells #[.string x] 9)) = W0 at *
  have hF := HF0.out
  clear HF0
  obtain ⟨r0, hr0⟩ : ∃ r, Lib.idxOfS n.nodes x = r := ⟨_, rfl⟩
  rw [hr0] at HD ⊢
  clear hr0
  have HFI := Lib.hid hF
  clear hF
  by_cases h0 : 0 ≤ r0
  · have HX := Lib.hid (show findL n x = (⟨#[110, 111, 100, 101]⟩, r0) by rw [HD.out, findE, if_pos h0])
    go_wp2
    go_ret2
    rw [HX.out]
    exact ⟨rfl, HFI.out.below⟩
  have hF := HFI.out
  clear HFI
  have cb : W0.cell? ⟨w.heap.size, 1, none⟩ = some (.slice v.sa n.switches.length v.sc) := hF.box.cell 1
  have cn := hF.name
  have ln := hF.lt
  have ln2 : w.heap.size < W0.heap.size := by omega
  go_wp2_with fail
  refine (idx83 n.switches x _ _ _ _ _ rfl (hF.read HN.out.switches) hF.name HL.out.l2).mono ?_
  rintro e w1 ⟨rfl, hb⟩
  replace hF := hF.step hb
  clear hb
  obtain ⟨r1, hr1⟩ : ∃ r, nmIdx SwitchD.name x n.switches 0 = r := ⟨_, rfl⟩
  rw [hr1] at HD ⊢
  clear hr1
  have HFI := Lib.hid hF
  clear hF
  by_cases h1 : 0 ≤ r1
  · have HX := Lib.hid (show findL n x = (⟨#[115, 119, 105, 116, 99, 104]⟩, r1) by rw [HD.out, findE, if_neg (by omega), if_pos h1])
    go_wp2
    go_ret2
    rw [HX.out]
    exact ⟨rfl, HFI.out.below⟩
  have hF := HFI.out
  clear HFI
  have cb : w1.cell? ⟨w.heap.size, 2, none⟩ = some (.slice v.ba n.branches.length v.bc) := hF.box.cell 2
  have cn := hF.name
  have ln := hF.lt
  have ln2 : w.heap.size < w1.heap.size := by omega
  go_wp2_with fail
  refine (idx85 n.branches x _ _ _ _ _ rfl (hF.read HN.out.branches) hF.name HL.out.l3).mono ?_
  rintro e w2 ⟨rfl, hb⟩
  replace hF := hF.step hb
  clear hb
  obtain ⟨r2, hr2⟩ : ∃ r, nmIdx BranchD.name x n.branches 0 = r := ⟨_, rfl⟩
  rw [hr2] at HD ⊢
  clear hr2
  have HFI := Lib.hid hF
  clear hF
  by_cases h2 : 0 ≤ r2
  · have HX := Lib.hid (show findL n x = (⟨#[98, 114, 97, 110, 99, 104]⟩, r2) by rw [HD.out, findE, if_neg (by omega), if_neg (by omega), if_pos h2])
    go_wp2
    go_ret2
    rw [HX.out]
    exact ⟨rfl, HFI.out.below⟩
  have hF := HFI.out
  clear HFI
  have cb : w2.cell? ⟨w.heap.size, 3, none⟩ = some (.slice v.ga n.gens.length v.gc) := hF.box.cell 3
  have cn := hF.name
  have ln := hF.lt
  have ln2 : w.heap.size < w2.heap.size := by omega
  go_wp2_with fail
  refine (idx87 n.gens x _ _ _ _ _ rfl (hF.read HN.out.gens) hF.name HL.out.l4).mono ?_
  rintro e w3 ⟨rfl, hb⟩
  replace hF := hF.step hb
  clear hb
  obtain ⟨r3, hr3⟩ : ∃ r, nmIdx GenD.name x n.gens 0 = r := ⟨_, rfl⟩
  rw [hr3] at HD ⊢
  clear hr3
  have HFI := Lib.hid hF
  clear hF
  by_cases h3 : 0 ≤ r3
  · have HX := Lib.hid (show findL n x = (⟨#[103, 101, 110]⟩, r3) by rw [HD.out, findE, if_neg (by omega), if_neg (by omega), if_neg (by omega), if_pos h3])
    go_wp2
    go_ret2
    rw [HX.out]
    exact ⟨rfl, HFI.out.below⟩
  have hF := HFI.out
  clear HFI
  have cb : w3.cell? ⟨w.heap.size, 4, none⟩ = some (.slice v.la n.loads.length v.lc) := hF.box.cell 4
  have cn := hF.name
  have ln := hF.lt
  have ln2 : w.heap.size < w3.heap.size := by omega
  go_wp2_with fail
  refine (idx89 n.loads x _ _ _ _ _ rfl (hF.read HN.out.loads) hF.name HL.out.l5).mono ?_
  rintro e w4 ⟨rfl, hb⟩
  replace hF := hF.step hb
  clear hb
  obtain ⟨r4, hr4⟩ : ∃ r, nmIdx LoadD.name x n.loads 0 = r := ⟨_, rfl⟩
  rw [hr4] at HD ⊢
  clear hr4
  have HFI := Lib.hid hF
  clear hF
  by_cases h4 : 0 ≤ r4
  · have HX := Lib.hid (show findL n x = (⟨#[108, 111, 97, 100]⟩, r4) by rw [HD.out, findE, if_neg (by omega), if_neg (by omega), if_neg (by omega), if_neg (by omega), if_pos h4])
    go_wp2
    go_ret2
    rw [HX.out]
    exact ⟨rfl, HFI.out.below⟩
  have hF := HFI.out
  clear HFI
  have cb : w4.cell? ⟨w.heap.size, 5, none⟩ = some (.slice v.ta n.stores.length v.tc) := hF.box.cell 5
  have cn := hF.name
  have ln := hF.lt
  have ln2 : w.heap.size < w4.heap.size := by omega
  go_wp2_with fail
  refine (idx91 n.stores x _ _ _ _ _ rfl (hF.read HN.out.stores) hF.name HL.out.l6).mono ?_
  rintro e w5 ⟨rfl, hb⟩
  replace hF := hF.step hb
  clear hb
  obtain ⟨r5, hr5⟩ : ∃ r, nmIdx StoreD.name x n.stores 0 = r := ⟨_, rfl⟩
  rw [hr5] at HD ⊢
  clear hr5
  have HFI := Lib.hid hF
  clear hF
  by_cases h5 : 0 ≤ r5
  · have HX := Lib.hid (show findL n x = (⟨#[115, 116, 111, 114, 101]⟩, r5) by rw [HD.out, findE, if_neg (by omega), if_neg (by omega), if_neg (by omega), if_neg (by omega), if_neg (by omega), if_pos h5])
    go_wp2
    go_ret2
    rw [HX.out]
    exact ⟨rfl, HFI.out.below⟩
  have hF := HFI.out
  clear HFI
  have HFI := Lib.hid hF
  clear hF
  go_wp2
  go_ret2
  rw [HD.out, findE, if_neg (by omega), if_neg (by omega), if_neg (by omega), if_neg (by omega), if_neg (by omega), if_neg (by omega)]
  exact ⟨rfl, HFI.out.below⟩
end Go.Proofs.YtglbelmljdgaoaaGreatDoor
