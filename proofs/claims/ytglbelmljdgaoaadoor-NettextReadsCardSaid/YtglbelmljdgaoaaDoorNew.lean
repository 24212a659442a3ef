/- topology.New. -/
import Derived.Test.YtglbelmljdgaoaaDoorSetSw
namespace Go.Proofs.YtglbelmljdgaoaaDoor
open Go.RowKit

/-- a follower in memory -/
structure FollIn (w : World) (base g : Nat) (n : NetD) (v : NetV) (bus isl : List Int) (bA : Option Addr) (bc : Nat) (iA : Option Addr) (ic : Nat) : Prop where
  blk : Blk w g 66 #[.slice v.na n.nodes.length v.nc, .slice v.sa n.switches.length v.sc, .slice v.ba n.branches.length v.bc, .slice v.ga n.gens.length v.gc, .slice v.la n.loads.length v.lc, .slice v.ta n.stores.length v.tc, .slice bA bus.length bc, .slice iA isl.length ic]
  net : NetIn w n v
  sw : 0 < n.switches.length → Row w base 40 5 (.slice v.sa n.switches.length v.sc) n.switches.length (cellsBy SwitchD.cells n.switches)
  bus : Row w base 3 1 (.slice bA bus.length bc) bus.length (bus.map I)
  isl : Row w base 3 1 (.slice iA isl.length ic) isl.length (isl.map I)
  hb : base ≤ g
theorem FollIn.below {w w' : World} {base g : Nat} {n : NetD} {v : NetV} {bus isl : List Int} {bA iA : Option Addr} {bc ic : Nat} (h : FollIn w base g n v bus isl bA bc iA ic) (hb : Below w.heap.size w w') : FollIn w' base g n v bus isl bA bc iA ic :=
  ⟨h.blk.below hb h.blk.lt, h.net.below hb, fun hp => (h.sw hp).call hb, h.bus.call hb, h.isl.call hb, h.hb⟩

theorem hold8 {w' : World} {a b : Nat} {x0 x1 x2 x3 x4 x5 y0 y1 : Value} {t u : TypeId} (h : Blk w' a t #[x0, x1, x2, x3, x4, x5]) (k : Blk w' b u #[y0, y1]) :
    w'.cell? ⟨a, 0, none⟩ = some x0 ∧ w'.cell? ⟨a, 1, none⟩ = some x1 ∧ w'.cell? ⟨a, 2, none⟩ = some x2 ∧ w'.cell? ⟨a, 3, none⟩ = some x3 ∧ w'.cell? ⟨a, 4, none⟩ = some x4 ∧ w'.cell? ⟨a, 5, none⟩ = some x5 ∧ w'.cell? ⟨b, 0, none⟩ = some y0 ∧ w'.cell? ⟨b, 1, none⟩ = some y1 :=
  ⟨h.cell 0, h.cell 1, h.cell 2, h.cell 3, h.cell 4, h.cell 5, k.cell 0, k.cell 1⟩
theorem Blk.drew {w : World} {g : Nat} {t : TypeId} {cs : Array Value} (h : Blk w g t cs) : Blk w.drew g t cs := h
theorem NetIn.drew {w : World} {n : NetD} {v : NetV} (h : NetIn w n v) : NetIn w.drew n v := ⟨h.nodes.drew, h.switches.drew, h.branches.drew, h.gens.drew, h.loads.drew, h.stores.drew⟩

def RetNew (w : World) (n : NetD) (e : Ending) (w' : World) : Prop :=
  (checkN n = 0 ∧ ∃ g v bA bc iA ic, e = .returned (.tuple #[.pointer (some ⟨g, 0, none⟩), I 0]) ∧ FollIn w' w.heap.size g n v (busesL n) (islandsL n) bA bc iA ic ∧ Below w.heap.size w w') ∨
  (checkN n ≠ 0 ∧ e = .returned (.tuple #[.pointer none, I (checkN n)]) ∧ Below w.heap.size w w')

set_option maxRecDepth 100000 in
set_option maxHeartbeats 2000000 in
theorem new_any (n : NetD) (v : NetV) (w : World) (hN : Net w n v) : Calls Tryd.prog 7 #[v.val n] w (RetNew w n) := by
  have hb0 : Below w.heap.size w (w.alloc (Obj.cells (v.parts n) 29)) := (Below.refl _ w).alloc (Nat.le_refl _) _
  have HO := Lib.hid (topOf_any n v _ (hN.below hb0))
  have HB0 := Lib.hid hb0
  have HN := Lib.hid hN
  have HBX := Lib.hid (Blk.new w 29 (v.parts n))
  have HD := Lib.hid (show ofL n = if checkN n = 0 then ((busesL n, islandsL n), 0) else (([], []), checkN n) from rfl)
  have HLE := Lib.hid (@small_le n)
  have HCP := Lib.hid (fun w hn hl => copy_any n v w hn hl)
  clear hb0 hN
  unfold NetV.val NetV.parts at *
  by_cases h0 : checkN n = 0
  · have HX := Lib.hid (show ofL n = ((busesL n, islandsL n), 0) by rw [HD.out, if_pos h0])
    rw [HX.out] at HO
    have HL := Lib.hid (HLE.out h0)
    have HR : Hid (∀ e w', (∃ g v bA bc iA ic, e = .returned (.tuple #[.pointer (some ⟨g, 0, none⟩), I 0]) ∧ FollIn w' w.heap.size g n v (busesL n) (islandsL n) bA bc iA ic ∧ Below w.heap.size w w') → RetNew w n e w') := fun e w' h => .inl ⟨h0, h⟩
    clear h0 HLE HD HX
    generalize busesL n = bus at *
    generalize islandsL n = isl at *
    go_enter Tryd.func7, Tryd.ntmps7
    go_wp2_with fail
    refine HO.out.mono ?_
    rintro e w1 ⟨bv, iv, rfl, hr1, hr2, hb1⟩
    obtain ⟨bA, bc, rfl⟩ := hr1.val
    obtain ⟨iA, ic, rfl⟩ := hr2.val
    have hz1 : w.heap.size + 1 ≤ w1.heap.size := by have := hb1.size; simpa using this
    have hBX := HBX.out.below hb1 (by simp)
    have HB1 := Lib.hid (HB0.out.trans (hb1.mono HB0.out.size))
    have HR1 := Lib.hid (hr1.less (base' := w.heap.size) (by simp))
    have HR2 := Lib.hid (hr2.less (base' := w.heap.size) (by simp))
    have HBX1 := Lib.hid hBX
    clear hr1 hr2 hb1 hBX HO HBX HB0
    simp only at HR1 HR2 ⊢
    go_wp2
    have hal := (Below.refl _ w1).alloc (Nat.le_refl _) (Obj.cells #[Value.slice bA bus.length bc, Value.slice iA isl.length ic] 37)
    have HA := Lib.hid (HBX1.out.below hal HBX1.out.lt)
    have HT := Lib.hid (Blk.new w1 37 #[Value.slice bA bus.length bc, Value.slice iA isl.length ic])
    have HB2 := Lib.hid (HB1.out.trans (hal.mono HB1.out.size))
    have HR12 := Lib.hid (HR1.out.call hal)
    have HR22 := Lib.hid (HR2.out.call hal)
    generalize w1.alloc (Obj.cells #[Value.slice bA bus.length bc, Value.slice iA isl.length ic] 37) = W2 at *
    clear hal HBX1 HB1 HR1 HR2
    have HIN := Lib.hid ((HN.out.net.below HB2.out))
    go_region_held3 (fun w' => w'.cell? ⟨w.heap.size, 0, none⟩ = some (Value.slice v.na n.nodes.length v.nc) ∧ w'.cell? ⟨w.heap.size, 1, none⟩ = some (Value.slice v.sa n.switches.length v.sc) ∧ w'.cell? ⟨w.heap.size, 2, none⟩ = some (Value.slice v.ba n.branches.length v.bc) ∧ w'.cell? ⟨w.heap.size, 3, none⟩ = some (Value.slice v.ga n.gens.length v.gc) ∧ w'.cell? ⟨w.heap.size, 4, none⟩ = some (Value.slice v.la n.loads.length v.lc) ∧ w'.cell? ⟨w.heap.size, 5, none⟩ = some (Value.slice v.ta n.stores.length v.tc) ∧ w'.cell? ⟨w1.heap.size, 0, none⟩ = some (Value.slice bA bus.length bc) ∧ w'.cell? ⟨w1.heap.size, 1, none⟩ = some (Value.slice iA isl.length ic))
      (first | (with_reducible exact hold8 HA.out HT.out) | (with_reducible exact hold8 HA.out.drew HT.out.drew) | (with_reducible exact hold8 HA3.out HT3.out) | (with_reducible exact hold8 (HA3.out.alloc _) (HT3.out.alloc _)))
      (first | (go_at_call 23; refine (HCP.out _ HIN.out.drew HL.out).mono ?_; rintro e w3 ⟨v3, rfl, hin, hrow, hb3⟩; unfold NetV.val NetV.parts; have HA3 := Lib.hid (HA.out.drew.below hb3 HA.out.lt); have HT3 := Lib.hid (HT.out.drew.below hb3 HT.out.lt)))
    have hz2 := HB2.out.size
    have hz3 : W2.heap.size ≤ w3.heap.size := hb3.size
    have hb3' : Below W2.heap.size W2 w3 := ⟨hb3.os, hb3.tape, hb3.output, hb3.size, hb3.block⟩
    have hal := (Below.refl _ w3).alloc (Nat.le_refl _) (Obj.cells #[Value.slice v3.na n.nodes.length v3.nc, Value.slice v3.sa n.switches.length v3.sc, Value.slice v3.ba n.branches.length v3.bc, Value.slice v3.ga n.gens.length v3.gc, Value.slice v3.la n.loads.length v3.lc, Value.slice v3.ta n.stores.length v3.tc, Value.slice bA bus.length bc, Value.slice iA isl.length ic] 66)
    have HF : Hid (FollIn (w3.alloc (Obj.cells #[Value.slice v3.na n.nodes.length v3.nc, Value.slice v3.sa n.switches.length v3.sc, Value.slice v3.ba n.branches.length v3.bc, Value.slice v3.ga n.gens.length v3.gc, Value.slice v3.la n.loads.length v3.lc, Value.slice v3.ta n.stores.length v3.tc, Value.slice bA bus.length bc, Value.slice iA isl.length ic] 66)) w.heap.size w3.heap.size n v3 bus isl bA bc iA ic) :=
      ⟨Blk.new w3 66 _, hin.below hal, fun hp => ((hrow hp).less (base' := w.heap.size) (by show w.heap.size ≤ W2.heap.size; omega)).call hal, (HR12.out.call hb3').call hal, (HR22.out.call hb3').call hal, by omega⟩
    have HBF := Lib.hid ((HB2.out.trans (hb3'.mono HB2.out.size)).alloc (by omega) (Obj.cells #[Value.slice v3.na n.nodes.length v3.nc, Value.slice v3.sa n.switches.length v3.sc, Value.slice v3.ba n.branches.length v3.bc, Value.slice v3.ga n.gens.length v3.gc, Value.slice v3.la n.loads.length v3.lc, Value.slice v3.ta n.stores.length v3.tc, Value.slice bA bus.length bc, Value.slice iA isl.length ic] 66))
    clear hin hrow hb3 hb3' hal
    go_wp2
    go_ret2
    exact HR.out _ _ ⟨_, v3, bA, bc, iA, ic, rfl, HF.out, HBF.out⟩
  · have HX := Lib.hid (show ofL n = (([], []), checkN n) by rw [HD.out, if_neg h0])
    rw [HX.out] at HO
    have HR : Hid (∀ e w', e = .returned (.tuple #[.pointer none, I (checkN n)]) → Below w.heap.size w w' → RetNew w n e w') := fun e w' h1 h2 => .inr ⟨h0, h1, h2⟩
    obtain ⟨er, her⟩ : ∃ er, checkN n = er := ⟨_, rfl⟩
    rw [her] at HO h0 HR
    have t1 : (er == 0) = false := beq_eq_false_iff_ne.2 h0
    have t2 : (er != 0) = true := by rw [bne_iff_ne]; exact h0
    clear h0 HLE HD HX her
    go_enter Tryd.func7, Tryd.ntmps7
    go_wp2_with fail
    refine HO.out.mono ?_
    rintro e w1 ⟨bv, iv, rfl, hr1, hr2, hb1⟩
    obtain ⟨bA, bc, rfl⟩ := hr1.val
    obtain ⟨iA, ic, rfl⟩ := hr2.val
    have HB1 := Lib.hid (HB0.out.trans (hb1.mono HB0.out.size))
    clear hr1 hr2 hb1 HO HBX HB0
    go_wp2
    go_ret2
    exact HR.out _ _ rfl (HB1.out.alloc HB1.out.size _)
end Go.Proofs.YtglbelmljdgaoaaDoor
