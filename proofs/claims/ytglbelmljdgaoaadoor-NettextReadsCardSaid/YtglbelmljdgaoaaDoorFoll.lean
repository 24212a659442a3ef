/- The follower's Network and Topology. -/
import Derived.Test.YtglbelmljdgaoaaDoorNew
namespace Go.Proofs.YtglbelmljdgaoaaDoor
open Go.RowKit

set_option maxRecDepth 100000 in
set_option maxHeartbeats 1000000 in
theorem network_any {base g : Nat} {n : NetD} {v : NetV} {bus isl : List Int} {bA iA : Option Addr} {bc ic : Nat} (w : World) (h : FollIn w base g n v bus isl bA bc iA ic) (hl : NetLe n 1000000) :
    Calls Tryd.prog 15 #[.pointer (some ⟨g, 0, none⟩)] w (CopyOf w n) := by
  have hal := (Below.refl _ w).alloc (Nat.le_refl _) (Obj.cells nils 29)
  have HCP := Lib.hid (copy_any n v (w.alloc (Obj.cells nils 29)) (h.net.below hal) hl)
  have HR := Lib.hid (Blk.new w 29 nils)
  have HB := Lib.hid hal
  have hg := h.blk.lt
  have x0 := h.blk.cell 0
  have x1 := h.blk.cell 1
  have x2 := h.blk.cell 2
  have x3 := h.blk.cell 3
  have x4 := h.blk.cell 4
  have x5 := h.blk.cell 5
  have HH := Lib.hid h
  clear h hal hl
  unfold NetV.val NetV.parts at HCP
  go_enter Tryd.func15, Tryd.ntmps15
  go_wp2_with fail
  refine HCP.out.mono ?_
  rintro e w2 ⟨v2, rfl, hin, hrow, hb2⟩
  unfold NetV.val NetV.parts
  have HR2 := Lib.hid (HR.out.below hb2 HR.out.lt)
  have hz2 : w.heap.size + 1 ≤ w2.heap.size := by have := hb2.size; simpa using this
  have HB2 := Lib.hid (HB.out.trans (hb2.mono HB.out.size))
  have HIN := Lib.hid hin
  have HROW := Lib.hid hrow
  clear hin hrow hb2 HCP HR x0 x1 x2 x3 x4 x5
  have f0 := HR2.out.frozen 0
  have f1 := HR2.out.frozen 1
  have f2 := HR2.out.frozen 2
  have f3 := HR2.out.frozen 3
  have f4 := HR2.out.frozen 4
  have f5 := HR2.out.frozen 5
  have y0 := HR2.out.cell 0
  have y1 := HR2.out.cell 1
  have y2 := HR2.out.cell 2
  have y3 := HR2.out.cell 3
  have y4 := HR2.out.cell 4
  have y5 := HR2.out.cell 5
  go_wp2
  rw [← set6_def]
  have hin3 := HIN.out.set6 HR2.out (Value.slice v2.na n.nodes.length v2.nc) (Value.slice v2.sa n.switches.length v2.sc) (Value.slice v2.ba n.branches.length v2.bc) (Value.slice v2.ga n.gens.length v2.gc) (Value.slice v2.la n.loads.length v2.lc) (Value.slice v2.ta n.stores.length v2.tc)
  have hB3 := set6_blk HR2.out rfl (Value.slice v2.na n.nodes.length v2.nc) (Value.slice v2.sa n.switches.length v2.sc) (Value.slice v2.ba n.branches.length v2.bc) (Value.slice v2.ga n.gens.length v2.gc) (Value.slice v2.la n.loads.length v2.lc) (Value.slice v2.ta n.stores.length v2.tc)
  have hbe := HB2.out.trans (set6_below w2 w.heap.size w.heap.size (Value.slice v2.na n.nodes.length v2.nc) (Value.slice v2.sa n.switches.length v2.sc) (Value.slice v2.ba n.branches.length v2.bc) (Value.slice v2.ga n.gens.length v2.gc) (Value.slice v2.la n.loads.length v2.lc) (Value.slice v2.ta n.stores.length v2.tc) (Nat.le_refl _))
  have hro : 0 < n.switches.length → Row (set6 w2 w.heap.size (Value.slice v2.na n.nodes.length v2.nc) (Value.slice v2.sa n.switches.length v2.sc) (Value.slice v2.ba n.branches.length v2.bc) (Value.slice v2.ga n.gens.length v2.gc) (Value.slice v2.la n.loads.length v2.lc) (Value.slice v2.ta n.stores.length v2.tc)) w.heap.size 40 5 (.slice v2.sa n.switches.length v2.sc) n.switches.length (cellsBy SwitchD.cells n.switches) :=
    fun hp => ((HROW.out hp).set6 (Below.refl _ _) (by simp) _ _ _ _ _ _).less (by simp)
  generalize set6 w2 w.heap.size (Value.slice v2.na n.nodes.length v2.nc) (Value.slice v2.sa n.switches.length v2.sc) (Value.slice v2.ba n.branches.length v2.bc) (Value.slice v2.ga n.gens.length v2.gc) (Value.slice v2.la n.loads.length v2.lc) (Value.slice v2.ta n.stores.length v2.tc) = W at *
  have z0 := hB3.cell 0
  have z1 := hB3.cell 1
  have z2 := hB3.cell 2
  have z3 := hB3.cell 3
  have z4 := hB3.cell 4
  have z5 := hB3.cell 5
  refine bodyPost_ret (v := .agg #[Value.slice v2.na n.nodes.length v2.nc, Value.slice v2.sa n.switches.length v2.sc, Value.slice v2.ba n.branches.length v2.bc, Value.slice v2.ga n.gens.length v2.gc, Value.slice v2.la n.loads.length v2.lc, Value.slice v2.ta n.stores.length v2.tc]) (by simp [results, go_sem, z0, z1, z2, z3, z4, z5]) rfl ?_
  exact ⟨v2, rfl, hin3, hro, hbe⟩

/-- a topology that is read -/
def RetTopoR (w : World) (bus isl : List Int) (e : Ending) (w' : World) : Prop :=
  ∃ bA bc iA ic, e = .returned (.agg #[.slice bA bus.length bc, .slice iA isl.length ic]) ∧ Reads w' w'.heap.size 1 bA bus.length (bus.map I) ∧ Reads w' w'.heap.size 1 iA isl.length (isl.map I) ∧ Below w.heap.size w w'
theorem oneI (l : List Int) : ∀ u ∈ l.map I, u.oneCell' = true := by
  intro u hu
  obtain ⟨x, _, rfl⟩ := List.mem_map.1 hu
  rfl

theorem topo_hold {w' : World} {g r : Nat} {x0 x1 x2 x3 x4 x5 x6 x7 : Value} {ds : Array Value} (h : Blk w' g 66 #[x0, x1, x2, x3, x4, x5, x6, x7]) (k : Blk w' r 37 ds) (hd : ds.size = 2) :
    w'.cell? ⟨g, 6, none⟩ = some x6 ∧ w'.cell? ⟨g, 7, none⟩ = some x7 ∧ w'.frozen? ⟨r, 0, none⟩ = false ∧ w'.frozen? ⟨r, 1, none⟩ = false ∧ w'.cell? ⟨r, 0, none⟩ = some (oldCell w' ⟨r, 0, none⟩) ∧ w'.cell? ⟨r, 1, none⟩ = some (oldCell w' ⟨r, 1, none⟩) := by
  refine ⟨h.cell 6, h.cell 7, k.frozen 0, k.frozen 1, ?_, ?_⟩
  · exact old_of (u := ds[0]'(by omega)) (by rw [k.cell]; exact Array.getElem?_eq_getElem (by omega))
  · exact old_of (u := ds[1]'(by omega)) (by rw [k.cell]; exact Array.getElem?_eq_getElem (by omega))

set_option maxRecDepth 100000 in
set_option maxHeartbeats 1000000 in
theorem topology_any {base g : Nat} {n : NetD} {v : NetV} {bus isl : List Int} {bA iA : Option Addr} {bc ic : Nat} (w : World) (h : FollIn w base g n v bus isl bA bc iA ic) (h1 : bus.length ≤ 1000000) (h2 : isl.length ≤ 1000000) :
    Calls Tryd.prog 8 #[.pointer (some ⟨g, 0, none⟩)] w (RetTopoR w bus isl) := by
  have hal := (Below.refl _ w).alloc (Nat.le_refl _) (Obj.cells #[Value.slice none 0 0, Value.slice none 0 0] 37)
  have hg := h.blk.lt
  have HR := Lib.hid (Blk.new w 37 #[Value.slice none 0 0, Value.slice none 0 0])
  have HB := Lib.hid hal
  have HF := Lib.hid (h.below hal)
  clear h hal
  have HC1 : Hid (∀ W, Reads W W.heap.size 1 bA bus.length (bus.map I) → Calls Tryd.prog 24 #[.slice bA bus.length bc] W (CloneOf W 3 1 bus.length (bus.map I))) := fun W hr => clone67 bA bus.length bc (bus.map I) W hr (oneI _) h1
  have HC2 : Hid (∀ W, Reads W W.heap.size 1 iA isl.length (isl.map I) → Calls Tryd.prog 24 #[.slice iA isl.length ic] W (CloneOf W 3 1 isl.length (isl.map I))) := fun W hr => clone67 iA isl.length ic (isl.map I) W hr (oneI _) h2
  go_enter Tryd.func8, Tryd.ntmps8
  go_wp2
  generalize w.alloc (Obj.cells #[Value.slice none 0 0, Value.slice none 0 0] 37) = W0 at *
  have hrg : ¬ g = w.heap.size := by omega
  have tok : True := trivial
  go_region_held3 (fun w' => w'.cell? ⟨g, 6, none⟩ = some (.slice bA bus.length bc) ∧ w'.cell? ⟨g, 7, none⟩ = some (.slice iA isl.length ic) ∧ w'.frozen? ⟨w.heap.size, 0, none⟩ = false ∧ w'.frozen? ⟨w.heap.size, 1, none⟩ = false ∧ w'.cell? ⟨w.heap.size, 0, none⟩ = some (oldCell w' ⟨w.heap.size, 0, none⟩) ∧ w'.cell? ⟨w.heap.size, 1, none⟩ = some (oldCell w' ⟨w.heap.size, 1, none⟩))
    (first | (with_reducible exact topo_hold HF.out.blk HR.out rfl) | (with_reducible exact topo_hold HF.out.blk.drew HR.out.drew rfl) | (with_reducible exact topo_hold HF1.out HR1.out rfl) | (with_reducible exact topo_hold HF2.out HR2.out rfl) | (with_reducible exact topo_hold HF3.out HR3.out rfl))
    (first | (have _t := tok; go_at_call 24; (with_reducible refine (HC1.out _ HF.out.bus.reads.drew).mono ?_); clear tok; rintro e w1 ⟨A1, c1, rfl, hr1, ho1, hb1⟩; have HF1 := Lib.hid (HF.out.blk.drew.below hb1 HF.out.blk.lt); have HR1 := Lib.hid (HR.out.drew.below hb1 HR.out.lt); have HI1 := Lib.hid ((HF.out.isl.reads.drew.below hb1).more hb1.size)) | (go_at_call 24; (with_reducible refine (HC2.out _ HI1.out).mono ?_); rintro e w2 ⟨A2, c2, rfl, hr2, ho2, hb2⟩; have HF2 := Lib.hid (HF1.out.below hb2 HF1.out.lt); have HR2 := Lib.hid (HR1.out.below hb2 HR1.out.lt); have HF3 := Lib.hid ((HF2.out.far (p := ⟨w.heap.size, 0, none⟩) hrg (.slice A1 bus.length c1)).far (p := ⟨w.heap.size, 1, none⟩) hrg (.slice A2 isl.length c2)); have HR3 := Lib.hid ((HR2.out.set_ 0 (.slice A1 bus.length c1)).set_ 1 (.slice A2 isl.length c2))))
  have hb1' : Below W0.heap.size W0 w1 := ⟨hb1.os, hb1.tape, hb1.output, hb1.size, hb1.block⟩
  have hbe := (HB.out.trans (hb1'.mono HB.out.size)).trans (hb2.mono (Nat.le_trans HB.out.size hb1'.size))
  have hz1 := hb1'.size
  have hz2 := hb2.size
  have hz0 := HR.out.lt
  have far : ∀ {A : Option Addr} {m c B : Nat} {xs : List Value} {W : World}, (0 < m → Row W B 3 1 (.slice A m c) m xs) → w.heap.size < B → Reads w2 w2.heap.size 1 A m xs → Reads ((w2.setCell ⟨w.heap.size, 0, none⟩ (.slice A1 bus.length c1)).setCell ⟨w.heap.size, 1, none⟩ (.slice A2 isl.length c2)) ((w2.setCell ⟨w.heap.size, 0, none⟩ (.slice A1 bus.length c1)).setCell ⟨w.heap.size, 1, none⟩ (.slice A2 isl.length c2)).heap.size 1 A m xs := by
    intro A m c B xs W ho hB hr
    refine ⟨hr.1, fun hm => ?_⟩
    obtain ⟨b, off, e, hb, hc⟩ := hr.2 hm
    have hne := Row.away ho hB hm b off e
    refine ⟨b, off, e, by simpa [World.setCell] using hb, fun j u hu => ?_⟩
    exact cell_set_far (p := ⟨w.heap.size, 1, none⟩) (cell_set_far (p := ⟨w.heap.size, 0, none⟩) (hc j u hu) hne) hne
  have HQ : Hid (RetTopoR w bus isl (.returned (.agg #[.slice A1 bus.length c1, .slice A2 isl.length c2])) ((w2.setCell ⟨w.heap.size, 0, none⟩ (.slice A1 bus.length c1)).setCell ⟨w.heap.size, 1, none⟩ (.slice A2 isl.length c2))) :=
    ⟨A1, c1, A2, c2, rfl, far ho1 hz0 ((hr1.below hb2).more hb2.size), far ho2 (by omega) hr2, (hbe.setCell (by simp) _).setCell (by simp) _⟩
  have y0 := HR3.out.cell 0
  have y1 := HR3.out.cell 1
  generalize (w2.setCell ⟨w.heap.size, 0, none⟩ (.slice A1 bus.length c1)).setCell ⟨w.heap.size, 1, none⟩ (.slice A2 isl.length c2) = W at *
  clear far hbe hb1 hb1' hb2 hr1 hr2 ho1 ho2
  go_wp2
  exact bodyPost_ret (v := .agg #[.slice A1 bus.length c1, .slice A2 isl.length c2]) (by simp [results, go_sem, y0, y1]) rfl HQ.out
end Go.Proofs.YtglbelmljdgaoaaDoor
