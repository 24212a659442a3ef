/- topology.Live at the network of the facts. -/
import Derived.Test.YtglbelmljdgaoaaDoorPair
import Derived.LoopN
namespace Go.Proofs.YtglbelmljdgaoaaDoor
open Go.RowKit

theorem make80 (W : World) : (Instr.makeSlice 60 (I 1) (I 1)).run Tryd.prog W = .ok (.slice (some ⟨W.heap.size, 0, none⟩) 1 1) (W.alloc (.cells #[.bool false] 4)) := by kernel_rfl

theorem Row.int_cells {w : World} {base : Nat} {e : TypeId} {A : Option Addr} {c n : Nat} {xs : List Int} (h : Row w base e 1 (.slice A n c) n (xs.map I)) (hn : 0 < n) :
    ∃ b off, A = some ⟨b, off, none⟩ ∧ base ≤ b ∧ b < w.heap.size ∧ ∀ i, i < n → w.cell? ⟨b, off + i, none⟩ = some (I (xs.getD i 0)) := by
  obtain ⟨b, off, cap, hv, hb, hnc, hc⟩ := h.ints hn
  injection hv with hA
  refine ⟨b, off, hA, ?_, hb, hc⟩
  exact (h.own_block (g := b) (by rw [hA]; rfl)).1

theorem old_of {w : World} {p : Addr} {u : Value} (h : w.cell? p = some u) : w.cell? p = some (oldCell w p) := by rw [oldCell, h]; rfl
abbrev Live1S (gO gT gN og bb boff bc ib ioff ic nc : Nat) (na : Option Addr) (w' : World) : Prop := w'.cell? ⟨gO, 0, none⟩ = some (.slice (some ⟨og, 0, none⟩) 1 1) ∧ w'.cell? ⟨gT, 0, none⟩ = some (.slice (some ⟨bb, boff, none⟩) 3 bc) ∧ w'.cell? ⟨gT, 1, none⟩ = some (.slice (some ⟨ib, ioff, none⟩) 2 ic) ∧ w'.cell? ⟨gN, 0, none⟩ = some (.slice na 3 nc) ∧ w'.cell? ⟨bb, boff + 1, none⟩ = some (I 0) ∧ w'.cell? ⟨ib, ioff, none⟩ = some (I 0) ∧ w'.frozen? ⟨og, 0, none⟩ = false ∧ w'.cell? ⟨og, 0, none⟩ = some (oldCell w' ⟨og, 0, none⟩)
theorem cell_set_far {w : World} {p : Addr} {u v : Value} {g o : Nat} (h : w.cell? ⟨g, o, none⟩ = some v) (hg : g ≠ p.block) : (w.setCell p u).cell? ⟨g, o, none⟩ = some v := by
  have := Below.heap_setCell w p u g hg
  simp only [World.cell?] at h ⊢
  rw [this]
  exact h
theorem Live1S.set {gO gT gN og bb boff bc ib ioff ic nc : Nat} {na : Option Addr} {w' : World} (h : Live1S gO gT gN og bb boff bc ib ioff ic nc na w') (n1 : gO ≠ og) (n2 : gT ≠ og) (n3 : gN ≠ og) (n4 : bb ≠ og) (n5 : ib ≠ og) (u : Value) : Live1S gO gT gN og bb boff bc ib ioff ic nc na (w'.setCell ⟨og, 0, none⟩ u) := by
  obtain ⟨h1, h2, h3, h4, h5, h6, h7, h8⟩ := h
  have far : ∀ {g o : Nat} {v : Value}, w'.cell? ⟨g, o, none⟩ = some v → g ≠ og → (w'.setCell ⟨og, 0, none⟩ u).cell? ⟨g, o, none⟩ = some v := fun hc hg => cell_set_far (p := ⟨og, 0, none⟩) hc hg
  refine ⟨far h1 n1, far h2 n2, far h3 n2, far h4 n3, far h5 n4, far h6 n5, ?_, ?_⟩
  · simpa using h7
  · exact old_of (World.cell?_setCell_same _ _ _ h8)

set_option maxRecDepth 100000 in
set_option maxHeartbeats 1000000 in
theorem live1 (W : World) (gO gT gN og bb boff bc ib ioff ic nc : Nat) (na : Option Addr) (x : Bool) (hO : W.cell? ⟨gO, 0, none⟩ = some (.slice (some ⟨og, 0, none⟩) 1 1)) (hT0 : W.cell? ⟨gT, 0, none⟩ = some (.slice (some ⟨bb, boff, none⟩) 3 bc)) (hT1 : W.cell? ⟨gT, 1, none⟩ = some (.slice (some ⟨ib, ioff, none⟩) 2 ic))
    (hN0 : W.cell? ⟨gN, 0, none⟩ = some (.slice na 3 nc)) (hR : Reads W W.heap.size 1 na 3 ((pairN false).nodes.map S)) (hb : W.cell? ⟨bb, boff + 1, none⟩ = some (I 0)) (hi : W.cell? ⟨ib, ioff, none⟩ = some (I 0)) (hG : Blk W og 4 #[.bool x]) (n1 : gO ≠ og) (n2 : gT ≠ og) (n3 : gN ≠ og) (n4 : bb ≠ og) (n5 : ib ≠ og) :
    Calls Tryd.prog 39 #[.string ⟨#[66]⟩, .pointer (some ⟨gO, 0, none⟩), .pointer (some ⟨gT, 0, none⟩), .pointer (some ⟨gN, 0, none⟩)] W fun e w' => e = .returned (.tuple #[]) ∧ w' = (W.setCell ⟨og, 0, none⟩ (.bool true)).drew := by
  have HR := Lib.hid hR
  have hc := hG.cell 0
  have hf := hG.frozen 0
  have HI : Hid (Lib.idxOfS (pairN false).nodes ⟨#[66]⟩ = 1) := by show Lib.idxOfS (pairN false).nodes ⟨#[66]⟩ = 1; decide +kernel
  have HCALL : Hid (∀ w, Reads w w.heap.size 1 na 3 ((pairN false).nodes.map S) → Calls Tryd.prog 40 #[.slice na 3 nc, .string ⟨#[66]⟩] w fun e w' => e = .returned (I 1) ∧ w = w') := by
    intro w hr
    have := idxS_any (pairN false).nodes 3 na nc ⟨#[66]⟩ w _ rfl hr (by omega)
    rw [HI.out] at this
    exact this
  clear hR hG
  go_enter Tryd.func39, Tryd.ntmps39
  go_wp2
  have HW0 := Lib.hid (show Live1S gO gT gN og bb boff bc ib ioff ic nc na W from ⟨hO, hT0, hT1, hN0, hb, hi, hf, old_of hc⟩)
  have HW1 := Lib.hid (show Live1S gO gT gN og bb boff bc ib ioff ic nc na W.drew from ⟨hO, hT0, hT1, hN0, hb, hi, hf, old_of (w := W.drew) hc⟩)
  have HW2 := Lib.hid (show Live1S gO gT gN og bb boff bc ib ioff ic nc na (W.setCell ⟨og, 0, none⟩ (.bool true)).drew from (HW0.out.set n1 n2 n3 n4 n5 (.bool true)))
  go_region_held3 (fun w' => w'.cell? ⟨gO, 0, none⟩ = some (.slice (some ⟨og, 0, none⟩) 1 1) ∧ w'.cell? ⟨gT, 0, none⟩ = some (.slice (some ⟨bb, boff, none⟩) 3 bc) ∧ w'.cell? ⟨gT, 1, none⟩ = some (.slice (some ⟨ib, ioff, none⟩) 2 ic) ∧ w'.cell? ⟨gN, 0, none⟩ = some (.slice na 3 nc) ∧ w'.cell? ⟨bb, boff + 1, none⟩ = some (I 0) ∧ w'.cell? ⟨ib, ioff, none⟩ = some (I 0) ∧ w'.frozen? ⟨og, 0, none⟩ = false ∧ w'.cell? ⟨og, 0, none⟩ = some (oldCell w' ⟨og, 0, none⟩))
    (first | (with_reducible exact HW0.out) | (with_reducible exact HW1.out) | (with_reducible exact HW2.out))
    (first | (go_at_call 40; refine (HCALL.out _ HR.out.drew).mono ?_; rintro e w' ⟨rfl, rfl⟩))
  exact bodyPost_end (v := .tuple #[]) (by simp [results, go_sem]) rfl ⟨rfl, rfl⟩

/-- four new blocks -/
structure Chain4 (w : World) (o1 o2 o3 : Obj) (W : World) : Prop where
  a1 : W.heap[w.heap.size]? = some o1
  a2 : W.heap[w.heap.size + 1]? = some o2
  a3 : W.heap[w.heap.size + 1 + 1]? = some o3
  below : Below w.heap.size w W
theorem chain4 (w : World) (o1 o2 o3 o4 : Obj) : Chain4 w o1 o2 o3 ((((w.alloc o1).alloc o2).alloc o3).alloc o4) := by
  refine ⟨?_, ?_, ?_, ?_⟩
  · have := heap_alloc_new w o1
    rw [Below.heap_alloc _ _ _ (by simp only [World.size_alloc]; omega), Below.heap_alloc _ _ _ (by simp only [World.size_alloc]; omega), Below.heap_alloc _ _ _ (by simp only [World.size_alloc]; omega)]
    exact this
  · have := heap_alloc_new (w.alloc o1) o2
    simp only [World.size_alloc] at this
    rw [Below.heap_alloc _ _ _ (by simp only [World.size_alloc]; omega), Below.heap_alloc _ _ _ (by simp only [World.size_alloc]; omega)]
    exact this
  · have := heap_alloc_new ((w.alloc o1).alloc o2) o3
    simp only [World.size_alloc] at this
    rw [Below.heap_alloc _ _ _ (by simp only [World.size_alloc]; omega)]
    exact this
  · have h := Below.refl w.heap.size w
    exact (((h.alloc (Nat.le_refl _) o1).alloc (by simp only [World.size_alloc]; omega) o2).alloc (by simp only [World.size_alloc]; omega) o3).alloc (by simp only [World.size_alloc]; omega) o4

def RetLive (w : World) (e : Ending) (w' : World) : Prop := ∃ g, e = .returned (.tuple #[.slice (some ⟨g, 0, none⟩) 1 1, I 0]) ∧ Blk w' g 4 #[.bool true] ∧ Below w.heap.size w w'

set_option maxRecDepth 100000 in
set_option maxHeartbeats 2000000 in
theorem live_pair (v : NetV) (w : World) (hN : NetIn w (pairN false) v) : Calls Tryd.prog 21 #[v.val (pairN false)] w (RetLive w) := by
  have hb0 : Below w.heap.size w (w.alloc (Obj.cells (v.parts (pairN false)) 29)) := (Below.refl _ w).alloc (Nat.le_refl _) _
  have HO := Lib.hid (topOf_any (pairN false) v _ (pair_net (hN.below hb0)))
  rw [pair_of] at HO
  have HB0 := Lib.hid hb0
  have HN := Lib.hid hN
  have HBX := Lib.hid (Blk.new w 29 (v.parts (pairN false)))
  obtain ⟨gb, goff, hga, hglt, hgc⟩ := reads_by (f := GenD.cells) (sz := 5) (fun _ => rfl) (by omega) hN.gens (k := 0) (by simp [pairN])
  have HGC := Lib.hid hgc
  clear hb0 hN hgc
  unfold NetV.val NetV.parts at *
  rw [hga] at HO HB0 HBX ⊢
  clear hga
  simp only [pairN, List.length_cons, List.length_nil, Nat.zero_add] at HO HBX HB0 ⊢
  have hmk := make80
  go_enter Tryd.func21, Tryd.ntmps21
  go_wp2_with fail
  refine HO.out.mono ?_
  rintro e w1 ⟨bv, iv, rfl, hr1, hr2, hb1⟩
  obtain ⟨bA, bc, rfl⟩ := hr1.val
  obtain ⟨iA, ic, rfl⟩ := hr2.val
  obtain ⟨bb, boff, rfl, hbb, hbl, hbc⟩ := hr1.int_cells (by simp)
  obtain ⟨ib, ioff, rfl, hib, hil, hic⟩ := hr2.int_cells (by simp)
  have i0 := hic 0 (by simp)
  have i1 := hic 1 (by simp)
  have HBC := Lib.hid hbc
  simp only [Nat.add_zero] at i0
  have hz1 : w.heap.size + 1 ≤ w1.heap.size := by have := hb1.size; simpa using this
  have hBX := HBX.out.below hb1 (by simp)
  have x3 : w1.cell? ⟨w.heap.size, 3, none⟩ = some (.slice (some ⟨gb, goff, none⟩) 1 v.gc) := hBX.cell 3
  have x5 : w1.cell? ⟨w.heap.size, 5, none⟩ = some (.slice v.ta 0 v.tc) := hBX.cell 5
  have x0 : w1.cell? ⟨w.heap.size, 0, none⟩ = some (.slice v.na 3 v.nc) := hBX.cell 0
  have hlt1 : w.heap.size < w1.heap.size := by omega
  have HB1 := Lib.hid (HB0.out.trans (hb1.mono HB0.out.size))
  clear hic hbc HO hr1 hr2 hb1 hBX
  simp only [List.length_cons, List.length_nil, Nat.zero_add] at *
  have m1 : max (0 : Int) 1 = 1 := by decide
  have m2 : max (1 : Int) 1 = 1 := by decide
  have gcell : ∀ j u, (pairN false).gens[0].cells[j]? = some u → w1.cell? ⟨gb, goff + j, none⟩ = some u := by
    intro j u hu
    have := HGC.out j u hu
    rw [HB1.out.cell (p := ⟨gb, goff + j, none⟩) hglt]
    simpa using this
  have k0 := gcell 0 _ rfl
  have k1 := gcell 1 _ rfl
  have k2 := gcell 2 _ rfl
  have k3 := gcell 3 _ rfl
  have k4 := gcell 4 _ rfl
  simp only [Nat.add_zero] at k0
  have hgl1 : gb < w1.heap.size := by omega
  clear gcell
  have ltn1 : w.heap.size < w1.heap.size + 1 := by omega
  have ltn2 : w.heap.size < w1.heap.size + 1 + 1 := by omega
  have ltn3 : w.heap.size < w1.heap.size + 1 + 1 + 1 := by omega
  have ltg1 : gb < w1.heap.size + 1 := by omega
  have ltg2 : gb < w1.heap.size + 1 + 1 := by omega
  have ltg3 : gb < w1.heap.size + 1 + 1 + 1 := by omega
  have ltb1 : bb < w1.heap.size + 1 := by omega
  have ltb2 : bb < w1.heap.size + 1 + 1 := by omega
  have ltb3 : bb < w1.heap.size + 1 + 1 + 1 := by omega
  have lti1 : ib < w1.heap.size + 1 := by omega
  have lti2 : ib < w1.heap.size + 1 + 1 := by omega
  have lti3 : ib < w1.heap.size + 1 + 1 + 1 := by omega
  go_wp2
  refine wp_loop_rounds 3 ?_
  rw [rounds_succ]
  go_wp2
  rw [rounds_succ]
  go_wp2
  rw [rounds_succ]
  go_wp2
  refine wp_loop_rounds 2 ?_
  rw [rounds_succ]
  go_wp2_with fail
  have hch := chain4 w1 (Obj.cells #[Value.slice (some { block := bb, off := boff }) 3 bc, Value.slice (some { block := ib, off := ioff }) 2 ic] 37) (Obj.cells #[Value.bool false] 4) (Obj.cells #[Value.slice (some { block := w1.heap.size + 1, off := 0 }) 1 1] 60)
    (Obj.cells #[Value.string (pairN false).gens[0].name, Value.string (pairN false).gens[0].node, Value.int IntKind.i64 (pairN false).gens[0].least, Value.int IntKind.i64 (pairN false).gens[0].most, Value.int IntKind.i64 (pairN false).gens[0].ramp] 92)
  generalize (((w1.alloc (Obj.cells #[Value.slice (some { block := bb, off := boff }) 3 bc, Value.slice (some { block := ib, off := ioff }) 2 ic] 37)).alloc (Obj.cells #[Value.bool false] 4)).alloc (Obj.cells #[Value.slice (some { block := w1.heap.size + 1, off := 0 }) 1 1] 60)).alloc
    (Obj.cells #[Value.string (pairN false).gens[0].name, Value.string (pairN false).gens[0].node, Value.int IntKind.i64 (pairN false).gens[0].least, Value.int IntKind.i64 (pairN false).gens[0].most, Value.int IntKind.i64 (pairN false).gens[0].ramp] 92) = W4 at *
  have hb14 := hch.below
  have up : ∀ {g o : Nat} {u : Value}, w1.cell? ⟨g, o, none⟩ = some u → W4.cell? ⟨g, o, none⟩ = some u := fun {g o u} hc => (hb14.cell (p := ⟨g, o, none⟩) (World.block_lt_of_cell? w1 _ hc)).trans hc
  have hA : Blk W4 w1.heap.size 37 _ := hch.a1
  have hB : Blk W4 (w1.heap.size + 1) 4 _ := hch.a2
  have hC : Blk W4 (w1.heap.size + 1 + 1) 60 _ := hch.a3
  have hnod : Reads W4 W4.heap.size 1 v.na 3 ((pairN false).nodes.map S) := ((HN.out.nodes.below HB1.out).below (hb14.mono HB1.out.size)).more (Nat.le_trans HB1.out.size hb14.size)
  have HL := Lib.hid (live1 W4 (w1.heap.size + 1 + 1) w1.heap.size w.heap.size (w1.heap.size + 1) bb boff bc ib ioff ic v.nc v.na false (hC.cell 0) (hA.cell 0) (hA.cell 1) (up x0) hnod (up (HBC.out 1 (by omega))) (up i0) hB (by omega) (by omega) (by omega) (by omega) (by omega))
  have hx5 := up x5
  have hC5 := hC.far (p := ⟨w1.heap.size + 1, 0, none⟩) (by simp) (.bool true)
  have hB5 := hB.set_ 0 (.bool true)
  have HB5 : Hid (Blk (W4.setCell ⟨w1.heap.size + 1, 0, none⟩ (.bool true)).drew (w1.heap.size + 1) 4 #[.bool true]) := hB5
  have y0 : (W4.setCell ⟨w1.heap.size + 1, 0, none⟩ (.bool true)).drew.cell? ⟨w1.heap.size + 1 + 1, 0, none⟩ = some (.slice (some ⟨w1.heap.size + 1, 0, none⟩) 1 1) := hC5.cell 0
  have y5 : (W4.setCell ⟨w1.heap.size + 1, 0, none⟩ (.bool true)).drew.cell? ⟨w.heap.size, 5, none⟩ = some (.slice v.ta 0 v.tc) := cell_set_far (p := ⟨w1.heap.size + 1, 0, none⟩) hx5 (by simp; omega)
  have HBF : Hid (Below w.heap.size w (W4.setCell ⟨w1.heap.size + 1, 0, none⟩ (.bool true)).drew) := ((HB1.out.trans (hb14.mono HB1.out.size)).setCell (by simp; omega) _).drew
  have hzz : (W4.setCell ⟨w1.heap.size + 1, 0, none⟩ (.bool true)).drew.heap.size = W4.heap.size := by simp [World.setCell, World.drew]
  have hsz4 := hb14.size
  have hlt5 : w.heap.size < (W4.setCell ⟨w1.heap.size + 1, 0, none⟩ (.bool true)).drew.heap.size := by omega
  have hlt6 : w1.heap.size + 1 + 1 < (W4.setCell ⟨w1.heap.size + 1, 0, none⟩ (.bool true)).drew.heap.size := by rw [hzz]; exact hC.lt
  refine HL.out.mono ?_
  rintro e W5 ⟨rfl, rfl⟩
  generalize (W4.setCell ⟨w1.heap.size + 1, 0, none⟩ (.bool true)).drew = W5 at *
  clear hzz hsz4 hC5 hB5 hx5 hA hB hC hnod up hb14 hch HL k0 k1 k2 k3 k4 i0 i1 x0 x3 x5 m1 m2 hmk
  go_wp2
  rw [rounds_succ]
  go_wp2
  refine wp_loop_rounds 1 ?_
  rw [rounds_succ]
  go_wp2
  go_ret2
  exact ⟨_, rfl, HB5.out, HBF.out⟩
end Go.Proofs.YtglbelmljdgaoaaDoor
