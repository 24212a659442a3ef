/- Pieces of package loss in memory; (piece).at, through. loss.through. Rows of pieces of package loss in memory; appending a piece. -/
import Derived.Test.YtmnedfkinepnfaaGreatDoorLJA
namespace Go.Proofs.YtmnedfkinepnfaaGreatDoor
open Go.RowKit

abbrev pcT : TypeId := 89
/-- v is the piece p -/
def Pv (w : World) (v : Value) (p : PcQ) : Prop := ∃ x0 x1 x2 x3 x4 x5 x6 x7, v = .agg #[x0, x1, x2, x3, x4, x5, x6, x7] ∧ Rt w (.agg #[x0, x1, x2, x3]) p.1 ∧ Rt w (.agg #[x4, x5, x6, x7]) p.2
theorem Pv.ext {w w' : World} {v : Value} {p : PcQ} (h : Pv w v p) (hb : Below w.heap.size w w') : Pv w' v p := by
  obtain ⟨x0, x1, x2, x3, x4, x5, x6, x7, e, h1, h2⟩ := h
  exact ⟨x0, x1, x2, x3, x4, x5, x6, x7, e, h1.ext hb, h2.ext hb⟩
theorem Pv.form {w : World} {v : Value} {p : PcQ} (h : Pv w v p) : ∃ ab A1 n1 k1 A2 n2 k2 bb B1 m1 j1 B2 m2 j2, v = .agg #[.bool ab, .slice A1 n1 k1, .bool false, .slice A2 n2 k2, .bool bb, .slice B1 m1 j1, .bool false, .slice B2 m2 j2] ∧
    Rt w (.agg #[.bool ab, .slice A1 n1 k1, .bool false, .slice A2 n2 k2]) p.1 ∧ Rt w (.agg #[.bool bb, .slice B1 m1 j1, .bool false, .slice B2 m2 j2]) p.2 := by
  obtain ⟨x0, x1, x2, x3, x4, x5, x6, x7, rfl, h1, h2⟩ := h
  obtain ⟨ab, A1, n1, k1, A2, n2, k2, e1⟩ := h1.bools
  obtain ⟨bb, B1, m1, j1, B2, m2, j2, e2⟩ := h2.bools
  injection e1 with e1
  injection e2 with e2
  obtain ⟨rfl, rfl, rfl, rfl⟩ : x0 = _ ∧ x1 = _ ∧ x2 = _ ∧ x3 = _ := by simpa using e1
  obtain ⟨rfl, rfl, rfl, rfl⟩ : x4 = _ ∧ x5 = _ ∧ x6 = _ ∧ x7 = _ := by simpa using e2
  exact ⟨_, _, _, _, _, _, _, _, _, _, _, _, _, _, rfl, h1, h2⟩
/-- a variable of eight cells at block g -/
structure V8 (w : World) (g : Nat) (x0 x1 x2 x3 x4 x5 x6 x7 : Value) : Prop where
  c0 : w.cell? ⟨g, 0, none⟩ = some x0
  c1 : w.cell? ⟨g, 1, none⟩ = some x1
  c2 : w.cell? ⟨g, 2, none⟩ = some x2
  c3 : w.cell? ⟨g, 3, none⟩ = some x3
  c4 : w.cell? ⟨g, 4, none⟩ = some x4
  c5 : w.cell? ⟨g, 5, none⟩ = some x5
  c6 : w.cell? ⟨g, 6, none⟩ = some x6
  c7 : w.cell? ⟨g, 7, none⟩ = some x7
  f0 : w.frozen? ⟨g, 0, none⟩ = false
  f1 : w.frozen? ⟨g, 1, none⟩ = false
  f2 : w.frozen? ⟨g, 2, none⟩ = false
  f3 : w.frozen? ⟨g, 3, none⟩ = false
  f4 : w.frozen? ⟨g, 4, none⟩ = false
  f5 : w.frozen? ⟨g, 5, none⟩ = false
  f6 : w.frozen? ⟨g, 6, none⟩ = false
  f7 : w.frozen? ⟨g, 7, none⟩ = false
section
variable {w w' : World} {g : Nat} {x0 x1 x2 x3 x4 x5 x6 x7 u0 u1 u2 u3 u4 u5 u6 u7 : Value}
theorem V8.lt (h : V8 w g x0 x1 x2 x3 x4 x5 x6 x7) : g < w.heap.size := World.block_lt_of_cell? w ⟨g, 0, none⟩ h.c0
theorem V8.below (h : V8 w g x0 x1 x2 x3 x4 x5 x6 x7) (hb : Below w.heap.size w w') : V8 w' g x0 x1 x2 x3 x4 x5 x6 x7 :=
  ⟨(hb.cell (p := ⟨g, 0, none⟩) h.lt).trans h.c0, (hb.cell (p := ⟨g, 1, none⟩) h.lt).trans h.c1, (hb.cell (p := ⟨g, 2, none⟩) h.lt).trans h.c2, (hb.cell (p := ⟨g, 3, none⟩) h.lt).trans h.c3, (hb.cell (p := ⟨g, 4, none⟩) h.lt).trans h.c4, (hb.cell (p := ⟨g, 5, none⟩) h.lt).trans h.c5, (hb.cell (p := ⟨g, 6, none⟩) h.lt).trans h.c6, (hb.cell (p := ⟨g, 7, none⟩) h.lt).trans h.c7,
    (hb.frozen (p := ⟨g, 0, none⟩) h.lt).trans h.f0, (hb.frozen (p := ⟨g, 1, none⟩) h.lt).trans h.f1, (hb.frozen (p := ⟨g, 2, none⟩) h.lt).trans h.f2, (hb.frozen (p := ⟨g, 3, none⟩) h.lt).trans h.f3, (hb.frozen (p := ⟨g, 4, none⟩) h.lt).trans h.f4, (hb.frozen (p := ⟨g, 5, none⟩) h.lt).trans h.f5, (hb.frozen (p := ⟨g, 6, none⟩) h.lt).trans h.f6, (hb.frozen (p := ⟨g, 7, none⟩) h.lt).trans h.f7⟩
theorem Blk.v8 {t : TypeId} (h : Blk w g t #[x0, x1, x2, x3, x4, x5, x6, x7]) : V8 w g x0 x1 x2 x3 x4 x5 x6 x7 := ⟨h.cell 0, h.cell 1, h.cell 2, h.cell 3, h.cell 4, h.cell 5, h.cell 6, h.cell 7, h.frozen 0, h.frozen 1, h.frozen 2, h.frozen 3, h.frozen 4, h.frozen 5, h.frozen 6, h.frozen 7⟩
end
def set8 (w : World) (g : Nat) (u0 u1 u2 u3 u4 u5 u6 u7 : Value) : World := (((((((w.setCell ⟨g, 0, none⟩ u0).setCell ⟨g, 1, none⟩ u1).setCell ⟨g, 2, none⟩ u2).setCell ⟨g, 3, none⟩ u3).setCell ⟨g, 4, none⟩ u4).setCell ⟨g, 5, none⟩ u5).setCell ⟨g, 6, none⟩ u6).setCell ⟨g, 7, none⟩ u7
theorem V8.of_blk {w : World} {g : Nat} {t : TypeId} {cs : Array Value} (h : Blk w g t cs) (hs : cs.size = 8) (u0 u1 u2 u3 u4 u5 u6 u7 : Value) : Blk (set8 w g u0 u1 u2 u3 u4 u5 u6 u7) g t #[u0, u1, u2, u3, u4, u5, u6, u7] := by
  have h8 := (((((((h.set_ 0 u0).set_ 1 u1).set_ 2 u2).set_ 3 u3).set_ 4 u4).set_ 5 u5).set_ 6 u6).set_ 7 u7
  have e : (((((((cs.setIfInBounds 0 u0).setIfInBounds 1 u1).setIfInBounds 2 u2).setIfInBounds 3 u3).setIfInBounds 4 u4).setIfInBounds 5 u5).setIfInBounds 6 u6).setIfInBounds 7 u7 = #[u0, u1, u2, u3, u4, u5, u6, u7] := by
    obtain ⟨l⟩ := cs
    have hl : l.length = 8 := hs
    clear hs h8 h
    match l, hl with
    | [a, b, c, d, e, f, g, h], _ => simp only [List.setIfInBounds_toArray, List.set_cons_zero, List.set_cons_succ]
  rw [← e]
  exact h8
theorem set8_other (w : World) {g k : Nat} (u0 u1 u2 u3 u4 u5 u6 u7 : Value) (h : k ≠ g) : (set8 w g u0 u1 u2 u3 u4 u5 u6 u7).heap[k]? = w.heap[k]? := by
  unfold set8
  rw [Below.heap_setCell _ _ _ _ h, Below.heap_setCell _ _ _ _ h, Below.heap_setCell _ _ _ _ h, Below.heap_setCell _ _ _ _ h, Below.heap_setCell _ _ _ _ h, Below.heap_setCell _ _ _ _ h, Below.heap_setCell _ _ _ _ h, Below.heap_setCell _ _ _ _ h]
theorem kw_set8 {w : World} {g : Nat} {t : TypeId} {cs : Array Value} (h : Blk w g t cs) (hn : ∀ u ∈ cs.toList, noWord u) {u0 u1 u2 u3 u4 u5 u6 u7 : Value} (h0 : noWord u0) (h1 : noWord u1) (h2 : noWord u2) (h3 : noWord u3) (h4 : noWord u4) (h5 : noWord u5) (h6 : noWord u6) : Kw w (set8 w g u0 u1 u2 u3 u4 u5 u6 u7) := by
  have k0 := h.set_ 0 u0
  have n0 := all_set hn 0 h0
  have k1 := k0.set_ 1 u1
  have n1 := all_set n0 1 h1
  have k2 := k1.set_ 2 u2
  have n2 := all_set n1 2 h2
  have k3 := k2.set_ 3 u3
  have n3 := all_set n2 3 h3
  have k4 := k3.set_ 4 u4
  have n4 := all_set n3 4 h4
  have k5 := k4.set_ 5 u5
  have n5 := all_set n4 5 h5
  have k6 := k5.set_ 6 u6
  have n6 := all_set n5 6 h6
  exact (((((((kw_nw h hn 0 u0).trans (kw_nw k0 n0 1 u1)).trans (kw_nw k1 n1 2 u2)).trans (kw_nw k2 n2 3 u3)).trans (kw_nw k3 n3 4 u4)).trans (kw_nw k4 n4 5 u5)).trans (kw_nw k5 n5 6 u6)).trans (kw_nw k6 n6 7 u7)
theorem below_set8 {w w' : World} {g : Nat} (hb : Below w.heap.size w w') (hg : w.heap.size ≤ g) (u0 u1 u2 u3 u4 u5 u6 u7 : Value) : Below w.heap.size w (set8 w' g u0 u1 u2 u3 u4 u5 u6 u7) :=
  (((((((hb.setCell (p := ⟨g, 0, none⟩) hg u0).setCell (p := ⟨g, 1, none⟩) hg u1).setCell (p := ⟨g, 2, none⟩) hg u2).setCell (p := ⟨g, 3, none⟩) hg u3).setCell (p := ⟨g, 4, none⟩) hg u4).setCell (p := ⟨g, 5, none⟩) hg u5).setCell (p := ⟨g, 6, none⟩) hg u6).setCell (p := ⟨g, 7, none⟩) hg u7
def RetPv (w : World) (p : PcQ) (e : Ending) (w' : World) : Prop := ∃ v, e = .returned v ∧ Pv w' v p ∧ Below w.heap.size w w'
set_option maxRecDepth 100000 in
set_option maxHeartbeats 4000000 in
theorem pcAt_any (u v : Value) (p : PcQ) (f : Rat) (w : World) (hp : Pv w u p) (hf : Rt w v f) {N : Nat} (hN : N ≤ 10000000) (f1 : FitR N p.1) (f2 : FitR N p.2) (ff : FitR N f) :
    Calls Tryz.prog 60 #[u, v] w (RetRt w (pcAt p f)) := by
  have hN1 : N ≤ 100000000 := by omega
  have hN2 : N + N ≤ 100000000 := by omega
  obtain ⟨ab, A1, n1, k1, A2, n2, k2, bb, B1, m1, j1, B2, m2, j2, rfl, ha, hb⟩ := hp.form
  obtain ⟨fb, F1, q1, p1, F2, q2, p2, rfl⟩ := hf.bools
  have b1 := below_new w (.cells #[.bool ab, .slice A1 n1 k1, .bool false, .slice A2 n2 k2, .bool bb, .slice B1 m1 j1, .bool false, .slice B2 m2 j2] pcT)
  have v1 := (Blk.new w pcT #[.bool ab, .slice A1 n1 k1, .bool false, .slice A2 n2 k2, .bool bb, .slice B1 m1 j1, .bool false, .slice B2 m2 j2]).v8
  have b2 := below_new (w.alloc (.cells #[.bool ab, .slice A1 n1 k1, .bool false, .slice A2 n2 k2, .bool bb, .slice B1 m1 j1, .bool false, .slice B2 m2 j2] pcT)) (.cells #[.bool fb, .slice F1 q1 p1, .bool false, .slice F2 q2 p2] ratT)
  have v2 := (Blk.new (w.alloc (.cells #[.bool ab, .slice A1 n1 k1, .bool false, .slice A2 n2 k2, .bool bb, .slice B1 m1 j1, .bool false, .slice B2 m2 j2] pcT)) ratT #[.bool fb, .slice F1 q1 p1, .bool false, .slice F2 q2 p2]).vr
  have b3 := below_new ((w.alloc (.cells #[.bool ab, .slice A1 n1 k1, .bool false, .slice A2 n2 k2, .bool bb, .slice B1 m1 j1, .bool false, .slice B2 m2 j2] pcT)).alloc (.cells #[.bool fb, .slice F1 q1 p1, .bool false, .slice F2 q2 p2] ratT)) (.cells #[.bool false, .slice none 0 0, .bool false, .slice none 0 0] ratT)
  have v3 := (Blk.new ((w.alloc (.cells #[.bool ab, .slice A1 n1 k1, .bool false, .slice A2 n2 k2, .bool bb, .slice B1 m1 j1, .bool false, .slice B2 m2 j2] pcT)).alloc (.cells #[.bool fb, .slice F1 q1 p1, .bool false, .slice F2 q2 p2] ratT)) ratT #[.bool false, .slice none 0 0, .bool false, .slice none 0 0]).vr
  rw [World.size_alloc w] at v2
  rw [World.size_alloc, World.size_alloc w] at v3
  have hbt := (b1.trans (b2.mono b1.size)).trans (b3.mono (b1.trans (b2.mono b1.size)).size)
  have hd := below_draw (((w.alloc (.cells #[.bool ab, .slice A1 n1 k1, .bool false, .slice A2 n2 k2, .bool bb, .slice B1 m1 j1, .bool false, .slice B2 m2 j2] pcT)).alloc (.cells #[.bool fb, .slice F1 q1 p1, .bool false, .slice F2 q2 p2] ratT)).alloc (.cells #[.bool false, .slice none 0 0, .bool false, .slice none 0 0] ratT))
  have VP := Lib.hid (((v1.below b2).below b3).below hd)
  have VF := Lib.hid ((v2.below b3).below hd)
  have VR := Lib.hid (v3.below hd)
  have HB := Lib.hid (hbt.trans (hd.mono hbt.size))
  have HAQ := Lib.hid (ha.ext HB.out)
  have HBQ := Lib.hid (hb.ext HB.out)
  have HFQ := Lib.hid (hf.ext HB.out)
  have HF1 := Lib.hid f1
  have HF2 := Lib.hid f2
  have HFF := Lib.hid ff
  clear hp hf ha hb b1 b2 b3 v1 v2 v3 hbt hd f1 f2 ff
  unfold ratT pcT at *
  go_enter Tryz.func60, Tryz.ntmps60
  go_upto_region 1 with (fail)
  generalize ((w.alloc (Obj.cells #[Value.bool ab, Value.slice A1 n1 k1, Value.bool false, Value.slice A2 n2 k2, Value.bool bb, Value.slice B1 m1 j1, Value.bool false, Value.slice B2 m2 j2] 89)).alloc (Obj.cells #[Value.bool fb, Value.slice F1 q1 p1, Value.bool false, Value.slice F2 q2 p2] 82)).alloc (Obj.cells #[Value.bool false, Value.slice none 0 0, Value.bool false, Value.slice none 0 0] 82) = W0 at *
  refine wp_region_c (fun w' => w'.cell? ⟨w.heap.size, 0, none⟩ = some (.bool ab) ∧ w'.cell? ⟨w.heap.size, 1, none⟩ = some (.slice A1 n1 k1) ∧ w'.cell? ⟨w.heap.size, 2, none⟩ = some (.bool false) ∧ w'.cell? ⟨w.heap.size, 3, none⟩ = some (.slice A2 n2 k2) ∧ w'.cell? ⟨w.heap.size, 4, none⟩ = some (.bool bb) ∧ w'.cell? ⟨w.heap.size, 5, none⟩ = some (.slice B1 m1 j1) ∧ w'.cell? ⟨w.heap.size, 6, none⟩ = some (.bool false) ∧ w'.cell? ⟨w.heap.size, 7, none⟩ = some (.slice B2 m2 j2) ∧ w'.cell? ⟨w.heap.size + 1, 0, none⟩ = some (.bool fb) ∧ w'.cell? ⟨w.heap.size + 1, 1, none⟩ = some (.slice F1 q1 p1) ∧ w'.cell? ⟨w.heap.size + 1, 2, none⟩ = some (.bool false) ∧ w'.cell? ⟨w.heap.size + 1, 3, none⟩ = some (.slice F2 q2 p2)) 7 (by kernel_rfl) ?_
  generalize W0.drew = W1 at *
  refine wpAnyC_take8 (i := 0) (oi := _) (v := .pointer (some ⟨w.heap.size, 0, none⟩)) rfl (by kernel_rfl) (by kernel_rfl) (by kernel_rfl) (by kernel_rfl) (by kernel_rfl) (by kernel_rfl) (fun _ _ _ h => h) (Or.inl ⟨by rfl, ?_⟩) ⟨VP.out.c0, VP.out.c1, VP.out.c2, VP.out.c3, VP.out.c4, VP.out.c5, VP.out.c6, VP.out.c7, VF.out.c0, VF.out.c1, VF.out.c2, VF.out.c3⟩ ?_
  · intro w hSw
    obtain ⟨s0, s1, s2, s3, s4, s5, s6, s7, s8, s9, s10, s11⟩ := hSw
    go_simp
  try simp only [Act.put, List.setIfInBounds_toArray]
  refine wpAnyC_take8 (i := 1) (oi := _) (v := .agg #[.bool ab, .slice A1 n1 k1, .bool false, .slice A2 n2 k2]) rfl (by kernel_rfl) (by kernel_rfl) (by kernel_rfl) (by kernel_rfl) (by kernel_rfl) (by kernel_rfl) (fun _ _ _ h => h) (Or.inl ⟨by rfl, ?_⟩) ⟨VP.out.c0, VP.out.c1, VP.out.c2, VP.out.c3, VP.out.c4, VP.out.c5, VP.out.c6, VP.out.c7, VF.out.c0, VF.out.c1, VF.out.c2, VF.out.c3⟩ ?_
  · intro w hSw
    obtain ⟨s0, s1, s2, s3, s4, s5, s6, s7, s8, s9, s10, s11⟩ := hSw
    go_simp
  try simp only [Act.put]
  refine wpAnyC_take8 (i := 2) (oi := _) (v := .pointer (some ⟨w.heap.size, 4, none⟩)) rfl (by kernel_rfl) (by kernel_rfl) (by kernel_rfl) (by kernel_rfl) (by kernel_rfl) (by kernel_rfl) (fun _ _ _ h => h) (Or.inl ⟨by rfl, ?_⟩) ⟨VP.out.c0, VP.out.c1, VP.out.c2, VP.out.c3, VP.out.c4, VP.out.c5, VP.out.c6, VP.out.c7, VF.out.c0, VF.out.c1, VF.out.c2, VF.out.c3⟩ ?_
  · intro w hSw
    obtain ⟨s0, s1, s2, s3, s4, s5, s6, s7, s8, s9, s10, s11⟩ := hSw
    go_simp
  try simp only [Act.put]
  refine wpAnyC_take8 (i := 3) (oi := _) (v := .agg #[.bool bb, .slice B1 m1 j1, .bool false, .slice B2 m2 j2]) rfl (by kernel_rfl) (by kernel_rfl) (by kernel_rfl) (by kernel_rfl) (by kernel_rfl) (by kernel_rfl) (fun _ _ _ h => h) (Or.inl ⟨by rfl, ?_⟩) ⟨VP.out.c0, VP.out.c1, VP.out.c2, VP.out.c3, VP.out.c4, VP.out.c5, VP.out.c6, VP.out.c7, VF.out.c0, VF.out.c1, VF.out.c2, VF.out.c3⟩ ?_
  · intro w hSw
    obtain ⟨s0, s1, s2, s3, s4, s5, s6, s7, s8, s9, s10, s11⟩ := hSw
    go_simp
  try simp only [Act.put]
  refine wpAnyC_take8 (i := 4) (oi := _) (v := .agg #[.bool fb, .slice F1 q1 p1, .bool false, .slice F2 q2 p2]) rfl (by kernel_rfl) (by kernel_rfl) (by kernel_rfl) (by kernel_rfl) (by kernel_rfl) (by kernel_rfl) (fun _ _ _ h => h) (Or.inl ⟨by rfl, ?_⟩) ⟨VP.out.c0, VP.out.c1, VP.out.c2, VP.out.c3, VP.out.c4, VP.out.c5, VP.out.c6, VP.out.c7, VF.out.c0, VF.out.c1, VF.out.c2, VF.out.c3⟩ ?_
  · intro w hSw
    obtain ⟨s0, s1, s2, s3, s4, s5, s6, s7, s8, s9, s10, s11⟩ := hSw
    go_simp
  try simp only [Act.put]
  refine wpAnyC_one (i := 5) (by kernel_rfl) rfl (fun K hK => ?_)
  go_simp
  go_at_call 67
  refine (rmul_any _ _ p.2 f _ HBQ.out HFQ.out (N := N) hN1 HF2.out HFF.out).mono ?_
  rintro e w2 ⟨v2, rfl, hv, hb⟩
  have HB2 := Lib.hid (HB.out.trans (hb.mono HB.out.size))
  have VP2 := Lib.hid (VP.out.below hb)
  have VF2 := Lib.hid (VF.out.below hb)
  have VR2 := Lib.hid (VR.out.below hb)
  have HA2 := Lib.hid (HAQ.out.ext hb)
  have HV2 := Lib.hid hv
  clear hb hv
  refine hK.out _ _ (fun _ => ⟨VP2.out.c0, VP2.out.c1, VP2.out.c2, VP2.out.c3, VP2.out.c4, VP2.out.c5, VP2.out.c6, VP2.out.c7, VF2.out.c0, VF2.out.c1, VF2.out.c2, VF2.out.c3⟩) ?_
  clear hK K
  try simp only [Act.put, List.setIfInBounds_toArray, List.set_cons_zero, List.set_cons_succ]
  refine wpAnyC_one (i := 6) (by kernel_rfl) rfl (fun K hK => ?_)
  go_simp
  go_at_call 96
  refine (radd_any _ _ p.1 (p.2 * f) _ HA2.out HV2.out (N := N + N) hN2 (HF1.out.mono (Nat.le_add_right N N)) (fitR_mul HF2.out HFF.out)).mono ?_
  rintro e w3 ⟨v3, rfl, hv, hb⟩
  have HB3 := Lib.hid (HB2.out.trans (hb.mono HB2.out.size))
  have VP3 := Lib.hid (VP2.out.below hb)
  have VF3 := Lib.hid (VF2.out.below hb)
  have VR3 := Lib.hid (VR2.out.below hb)
  have HV3 := Lib.hid hv
  clear hb hv
  refine hK.out _ _ (fun _ => ⟨VP3.out.c0, VP3.out.c1, VP3.out.c2, VP3.out.c3, VP3.out.c4, VP3.out.c5, VP3.out.c6, VP3.out.c7, VF3.out.c0, VF3.out.c1, VF3.out.c2, VF3.out.c3⟩) ?_
  clear hK K
  try simp only [Act.put, List.setIfInBounds_toArray, List.set_cons_zero, List.set_cons_succ]
  obtain ⟨tb, t1, t2, t3, t4, t5, t6, rfl⟩ := HV3.out.bools
  have HR := Lib.hid (ret_rat_set (g := w.heap.size + 1 + 1) HB3.out (by omega) VR3.out HV3.out)
  have HZ := Lib.hid (VR3.out.set (.bool tb) (.slice t1 t2 t3) (.bool false) (.slice t4 t5 t6))
  unfold set4 at HR HZ
  have r0 := VR3.out.c0
  have q0 := VR3.out.f0
  have r1 := VR3.out.c1
  have q1 := VR3.out.f1
  have r2 := VR3.out.c2
  have q2 := VR3.out.f2
  have r3 := VR3.out.c3
  have q3 := VR3.out.f3
  refine wpAnyC_one (i := 7) (by kernel_rfl) rfl (fun K hK => ?_)
  go_simp
  refine hK.out _ _ (fun h => absurd h (by decide)) ?_
  clear hK K
  clear r0 r1 r2 r3 q0 q1 q2 q3
  refine wpAnyC_done (by kernel_rfl) ?_ _
  go_wp2
  have z0 := HZ.out.c0
  have z1 := HZ.out.c1
  have z2 := HZ.out.c2
  have z3 := HZ.out.c3
  generalize (((w3.setCell ⟨w.heap.size + 1 + 1, 0, none⟩ (.bool tb)).setCell ⟨w.heap.size + 1 + 1, 1, none⟩ (.slice t1 t2 t3)).setCell ⟨w.heap.size + 1 + 1, 2, none⟩ (.bool false)).setCell ⟨w.heap.size + 1 + 1, 3, none⟩ (.slice t4 t5 t6) = W at *
  exact bodyPost_ret (v := .agg #[.bool tb, .slice t1 t2 t3, .bool false, .slice t4 t5 t6]) (by simp [results, Tryz.results60, go_sem, z0, z1, z2, z3]) rfl HR.out
end Go.Proofs.YtmnedfkinepnfaaGreatDoor
namespace Go.Proofs.YtmnedfkinepnfaaGreatDoor
open Go.RowKit

theorem zeros_noWord : ∀ u ∈ (#[Value.bool false, Value.slice none 0 0, Value.bool false, Value.slice none 0 0, Value.bool false, Value.slice none 0 0, Value.bool false, Value.slice none 0 0] : Array Value).toList, noWord u := by
  intro u hu
  simp only [List.mem_cons, List.not_mem_nil, or_false] at hu
  rcases hu with rfl | rfl | rfl | rfl | rfl | rfl | rfl | rfl
  all_goals first | exact noWord_bool _ | exact noWord_slice _ _ _
set_option maxRecDepth 100000 in
set_option maxHeartbeats 8000000 in
theorem thru_any (a b c : Value) (x y z : Rat) (w : World) (ha : Rt w a x) (hb : Rt w b y) (hc : Rt w c z) {N : Nat} (hN : N ≤ 10000000) (fx : FitR N x) (fy : FitR N y) (fz : FitR N z) :
    Calls Tryz.prog 62 #[a, b, c] w (RetPv w (thru x y z)) := by
  have h1 : N ≤ 100000000 := by omega
  have h2 : N + N ≤ 100000000 := by omega
  have h3 : N + N + 1 ≤ 100000000 := by omega
  obtain ⟨rb, R1, r1, s1, R2, r2, s2, rfl⟩ := ha.bools
  obtain ⟨pb, P1, p1, t1, P2, p2, t2, rfl⟩ := hb.bools
  obtain ⟨qb, Q1, q1, u1, Q2, q2, u2, rfl⟩ := hc.bools
  obtain ⟨vr, vp, vq, hb0⟩ := boxes3 w (.bool rb) (.slice R1 r1 s1) (.bool false) (.slice R2 r2 s2) (.bool pb) (.slice P1 p1 t1) (.bool false) (.slice P2 p2 t2) (.bool qb) (.slice Q1 q1 u1) (.bool false) (.slice Q2 q2 u2)
  have hb1 := below_new (((w.alloc (.cells #[.bool rb, .slice R1 r1 s1, .bool false, .slice R2 r2 s2] ratT)).alloc (.cells #[.bool pb, .slice P1 p1 t1, .bool false, .slice P2 p2 t2] ratT)).alloc (.cells #[.bool qb, .slice Q1 q1 u1, .bool false, .slice Q2 q2 u2] ratT)) (.cells #[.bool false, .slice none 0 0, .bool false, .slice none 0 0, .bool false, .slice none 0 0, .bool false, .slice none 0 0] pcT)
  have hz := Blk.new (((w.alloc (.cells #[.bool rb, .slice R1 r1 s1, .bool false, .slice R2 r2 s2] ratT)).alloc (.cells #[.bool pb, .slice P1 p1 t1, .bool false, .slice P2 p2 t2] ratT)).alloc (.cells #[.bool qb, .slice Q1 q1 u1, .bool false, .slice Q2 q2 u2] ratT)) pcT #[.bool false, .slice none 0 0, .bool false, .slice none 0 0, .bool false, .slice none 0 0, .bool false, .slice none 0 0]
  rw [World.size_alloc, World.size_alloc, World.size_alloc w] at hz
  have hd := below_draw ((((w.alloc (.cells #[.bool rb, .slice R1 r1 s1, .bool false, .slice R2 r2 s2] ratT)).alloc (.cells #[.bool pb, .slice P1 p1 t1, .bool false, .slice P2 p2 t2] ratT)).alloc (.cells #[.bool qb, .slice Q1 q1 u1, .bool false, .slice Q2 q2 u2] ratT)).alloc (.cells #[.bool false, .slice none 0 0, .bool false, .slice none 0 0, .bool false, .slice none 0 0, .bool false, .slice none 0 0] pcT))
  have VR := Lib.hid ((vr.below hb1).below hd)
  have VP := Lib.hid ((vp.below hb1).below hd)
  have VQ := Lib.hid ((vq.below hb1).below hd)
  have HZB := Lib.hid (hz.below hd hz.lt)
  have hbt := hb0.trans (hb1.mono hb0.size)
  have HB := Lib.hid (hbt.trans (hd.mono hbt.size))
  have HR := Lib.hid (ha.ext HB.out)
  have HP := Lib.hid (hb.ext HB.out)
  have HQ := Lib.hid (hc.ext HB.out)
  have FX := Lib.hid fx
  have FY := Lib.hid fy
  have FZ := Lib.hid fz
  clear ha hb hc vr vp vq hb0 hb1 hz hd hbt fx fy fz
  unfold ratT pcT at *
  go_enter Tryz.func62, Tryz.ntmps62
  go_upto_region 1 with (fail)
  generalize (((w.alloc (Obj.cells #[Value.bool rb, Value.slice R1 r1 s1, Value.bool false, Value.slice R2 r2 s2] 82)).alloc (Obj.cells #[Value.bool pb, Value.slice P1 p1 t1, Value.bool false, Value.slice P2 p2 t2] 82)).alloc (Obj.cells #[Value.bool qb, Value.slice Q1 q1 u1, Value.bool false, Value.slice Q2 q2 u2] 82)).alloc (Obj.cells #[Value.bool false, Value.slice none 0 0, Value.bool false, Value.slice none 0 0, Value.bool false, Value.slice none 0 0, Value.bool false, Value.slice none 0 0] 89) = W0 at *
  refine wp_region_c (fun w' => w'.cell? ⟨w.heap.size, 0, none⟩ = some (.bool rb) ∧ w'.cell? ⟨w.heap.size, 1, none⟩ = some (.slice R1 r1 s1) ∧ w'.cell? ⟨w.heap.size, 2, none⟩ = some (.bool false) ∧ w'.cell? ⟨w.heap.size, 3, none⟩ = some (.slice R2 r2 s2) ∧ w'.cell? ⟨w.heap.size + 1, 0, none⟩ = some (.bool pb) ∧ w'.cell? ⟨w.heap.size + 1, 1, none⟩ = some (.slice P1 p1 t1) ∧ w'.cell? ⟨w.heap.size + 1, 2, none⟩ = some (.bool false) ∧ w'.cell? ⟨w.heap.size + 1, 3, none⟩ = some (.slice P2 p2 t2) ∧ w'.cell? ⟨w.heap.size + 1 + 1, 0, none⟩ = some (.bool qb) ∧ w'.cell? ⟨w.heap.size + 1 + 1, 1, none⟩ = some (.slice Q1 q1 u1) ∧ w'.cell? ⟨w.heap.size + 1 + 1, 2, none⟩ = some (.bool false) ∧ w'.cell? ⟨w.heap.size + 1 + 1, 3, none⟩ = some (.slice Q2 q2 u2)) 12 (by kernel_rfl) ?_
  generalize W0.drew = W1 at *
  refine wpAnyC_take8 (i := 0) (oi := _) (v := .agg #[.bool rb, .slice R1 r1 s1, .bool false, .slice R2 r2 s2]) rfl (by kernel_rfl) (by kernel_rfl) (by kernel_rfl) (by kernel_rfl) (by kernel_rfl) (by kernel_rfl) (fun _ _ _ h => h) (Or.inl ⟨by rfl, ?_⟩) ⟨VR.out.c0, VR.out.c1, VR.out.c2, VR.out.c3, VP.out.c0, VP.out.c1, VP.out.c2, VP.out.c3, VQ.out.c0, VQ.out.c1, VQ.out.c2, VQ.out.c3⟩ ?_
  · intro w hSw
    obtain ⟨s0, s1, s2, s3, s4, s5, s6, s7, s8, s9, s10, s11⟩ := hSw
    go_simp
  try simp only [Act.put, List.setIfInBounds_toArray]
  refine wpAnyC_take8 (i := 1) (oi := _) (v := .agg #[.bool pb, .slice P1 p1 t1, .bool false, .slice P2 p2 t2]) rfl (by kernel_rfl) (by kernel_rfl) (by kernel_rfl) (by kernel_rfl) (by kernel_rfl) (by kernel_rfl) (fun _ _ _ h => h) (Or.inl ⟨by rfl, ?_⟩) ⟨VR.out.c0, VR.out.c1, VR.out.c2, VR.out.c3, VP.out.c0, VP.out.c1, VP.out.c2, VP.out.c3, VQ.out.c0, VQ.out.c1, VQ.out.c2, VQ.out.c3⟩ ?_
  · intro w hSw
    obtain ⟨s0, s1, s2, s3, s4, s5, s6, s7, s8, s9, s10, s11⟩ := hSw
    go_simp
  try simp only [Act.put]
  refine wpAnyC_take8 (i := 3) (oi := _) (v := .agg #[.bool qb, .slice Q1 q1 u1, .bool false, .slice Q2 q2 u2]) rfl (by kernel_rfl) (by kernel_rfl) (by kernel_rfl) (by kernel_rfl) (by kernel_rfl) (by kernel_rfl) (fun _ _ _ h => h) (Or.inl ⟨by rfl, ?_⟩) ⟨VR.out.c0, VR.out.c1, VR.out.c2, VR.out.c3, VP.out.c0, VP.out.c1, VP.out.c2, VP.out.c3, VQ.out.c0, VQ.out.c1, VQ.out.c2, VQ.out.c3⟩ ?_
  · intro w hSw
    obtain ⟨s0, s1, s2, s3, s4, s5, s6, s7, s8, s9, s10, s11⟩ := hSw
    go_simp
  try simp only [Act.put]
  refine wpAnyC_take8 (i := 6) (oi := _) (v := .agg #[.bool rb, .slice R1 r1 s1, .bool false, .slice R2 r2 s2]) rfl (by kernel_rfl) (by kernel_rfl) (by kernel_rfl) (by kernel_rfl) (by kernel_rfl) (by kernel_rfl) (fun _ _ _ h => h) (Or.inl ⟨by rfl, ?_⟩) ⟨VR.out.c0, VR.out.c1, VR.out.c2, VR.out.c3, VP.out.c0, VP.out.c1, VP.out.c2, VP.out.c3, VQ.out.c0, VQ.out.c1, VQ.out.c2, VQ.out.c3⟩ ?_
  · intro w hSw
    obtain ⟨s0, s1, s2, s3, s4, s5, s6, s7, s8, s9, s10, s11⟩ := hSw
    go_simp
  try simp only [Act.put]
  refine wpAnyC_take8 (i := 7) (oi := _) (v := .agg #[.bool pb, .slice P1 p1 t1, .bool false, .slice P2 p2 t2]) rfl (by kernel_rfl) (by kernel_rfl) (by kernel_rfl) (by kernel_rfl) (by kernel_rfl) (by kernel_rfl) (fun _ _ _ h => h) (Or.inl ⟨by rfl, ?_⟩) ⟨VR.out.c0, VR.out.c1, VR.out.c2, VR.out.c3, VP.out.c0, VP.out.c1, VP.out.c2, VP.out.c3, VQ.out.c0, VQ.out.c1, VQ.out.c2, VQ.out.c3⟩ ?_
  · intro w hSw
    obtain ⟨s0, s1, s2, s3, s4, s5, s6, s7, s8, s9, s10, s11⟩ := hSw
    go_simp
  try simp only [Act.put]
  refine wpAnyC_take8 (i := 8) (oi := _) (v := .agg #[.bool qb, .slice Q1 q1 u1, .bool false, .slice Q2 q2 u2]) rfl (by kernel_rfl) (by kernel_rfl) (by kernel_rfl) (by kernel_rfl) (by kernel_rfl) (by kernel_rfl) (fun _ _ _ h => h) (Or.inl ⟨by rfl, ?_⟩) ⟨VR.out.c0, VR.out.c1, VR.out.c2, VR.out.c3, VP.out.c0, VP.out.c1, VP.out.c2, VP.out.c3, VQ.out.c0, VQ.out.c1, VQ.out.c2, VQ.out.c3⟩ ?_
  · intro w hSw
    obtain ⟨s0, s1, s2, s3, s4, s5, s6, s7, s8, s9, s10, s11⟩ := hSw
    go_simp
  try simp only [Act.put]
  refine wpAnyC_one (i := 2) (by kernel_rfl) rfl (fun K hK => ?_)
  go_simp
  go_at_call 67
  refine (rmul_any _ _ x y _ HR.out HP.out (N := N) h1 FX.out FY.out).mono ?_
  rintro e w2 ⟨v2, rfl, hv, hb⟩
  have HB2 := Lib.hid (HB.out.trans (hb.mono HB.out.size))
  have VR2 := Lib.hid (VR.out.below hb)
  have VP2 := Lib.hid (VP.out.below hb)
  have VQ2 := Lib.hid (VQ.out.below hb)
  have HZB2 := Lib.hid (HZB.out.below hb HZB.out.lt)
  have HR2 := Lib.hid (HR.out.ext hb)
  have HP2 := Lib.hid (HP.out.ext hb)
  have HQ2 := Lib.hid (HQ.out.ext hb)
  have V1 := Lib.hid hv
  clear hb hv
  refine hK.out _ _ (fun _ => ⟨VR2.out.c0, VR2.out.c1, VR2.out.c2, VR2.out.c3, VP2.out.c0, VP2.out.c1, VP2.out.c2, VP2.out.c3, VQ2.out.c0, VQ2.out.c1, VQ2.out.c2, VQ2.out.c3⟩) ?_
  clear hK K
  try simp only [Act.put, List.setIfInBounds_toArray, List.set_cons_zero, List.set_cons_succ]
  refine wpAnyC_one (i := 4) (by kernel_rfl) rfl (fun K hK => ?_)
  go_simp
  go_at_call 67
  refine (rmul_any _ _ (x * y) z _ V1.out HQ2.out (N := N + N) h2 (fitR_mul FX.out FY.out) (FZ.out.mono (Nat.le_add_right N N))).mono ?_
  rintro e w3 ⟨v3, rfl, hv, hb⟩
  have HB3 := Lib.hid (HB2.out.trans (hb.mono HB2.out.size))
  have VR3 := Lib.hid (VR2.out.below hb)
  have VP3 := Lib.hid (VP2.out.below hb)
  have VQ3 := Lib.hid (VQ2.out.below hb)
  have HZB3 := Lib.hid (HZB2.out.below hb HZB2.out.lt)
  have HR3 := Lib.hid (HR2.out.ext hb)
  have HP3 := Lib.hid (HP2.out.ext hb)
  have HQ3 := Lib.hid (HQ2.out.ext hb)
  replace V1 := Lib.hid (V1.out.ext hb)
  have V2 := Lib.hid hv
  clear hb hv
  refine hK.out _ _ (fun _ => ⟨VR3.out.c0, VR3.out.c1, VR3.out.c2, VR3.out.c3, VP3.out.c0, VP3.out.c1, VP3.out.c2, VP3.out.c3, VQ3.out.c0, VQ3.out.c1, VQ3.out.c2, VQ3.out.c3⟩) ?_
  clear hK K
  try simp only [Act.put, List.setIfInBounds_toArray, List.set_cons_zero, List.set_cons_succ]
  refine wpAnyC_one (i := 5) (by kernel_rfl) rfl (fun K hK => ?_)
  go_simp
  go_at_call 103
  refine (rneg_any _ (x * y * z) _ V2.out).mono ?_
  rintro e w4 ⟨v4, rfl, hv, hb⟩
  have HB4 := Lib.hid (HB3.out.trans (hb.mono HB3.out.size))
  have VR4 := Lib.hid (VR3.out.below hb)
  have VP4 := Lib.hid (VP3.out.below hb)
  have VQ4 := Lib.hid (VQ3.out.below hb)
  have HZB4 := Lib.hid (HZB3.out.below hb HZB3.out.lt)
  have HR4 := Lib.hid (HR3.out.ext hb)
  have HP4 := Lib.hid (HP3.out.ext hb)
  have HQ4 := Lib.hid (HQ3.out.ext hb)
  replace V1 := Lib.hid (V1.out.ext hb)
  replace V2 := Lib.hid (V2.out.ext hb)
  have V3 := Lib.hid hv
  clear hb hv
  refine hK.out _ _ (fun _ => ⟨VR4.out.c0, VR4.out.c1, VR4.out.c2, VR4.out.c3, VP4.out.c0, VP4.out.c1, VP4.out.c2, VP4.out.c3, VQ4.out.c0, VQ4.out.c1, VQ4.out.c2, VQ4.out.c3⟩) ?_
  clear hK K
  try simp only [Act.put, List.setIfInBounds_toArray, List.set_cons_zero, List.set_cons_succ]
  refine wpAnyC_one (i := 9) (by kernel_rfl) rfl (fun K hK => ?_)
  go_simp
  go_at_call 96
  refine (radd_any _ _ y z _ HP4.out HQ4.out (N := N) h1 FY.out FZ.out).mono ?_
  rintro e w5 ⟨v5, rfl, hv, hb⟩
  have HB5 := Lib.hid (HB4.out.trans (hb.mono HB4.out.size))
  have VR5 := Lib.hid (VR4.out.below hb)
  have VP5 := Lib.hid (VP4.out.below hb)
  have VQ5 := Lib.hid (VQ4.out.below hb)
  have HZB5 := Lib.hid (HZB4.out.below hb HZB4.out.lt)
  have HR5 := Lib.hid (HR4.out.ext hb)
  have HP5 := Lib.hid (HP4.out.ext hb)
  have HQ5 := Lib.hid (HQ4.out.ext hb)
  replace V1 := Lib.hid (V1.out.ext hb)
  replace V2 := Lib.hid (V2.out.ext hb)
  replace V3 := Lib.hid (V3.out.ext hb)
  have V4 := Lib.hid hv
  clear hb hv
  refine hK.out _ _ (fun _ => ⟨VR5.out.c0, VR5.out.c1, VR5.out.c2, VR5.out.c3, VP5.out.c0, VP5.out.c1, VP5.out.c2, VP5.out.c3, VQ5.out.c0, VQ5.out.c1, VQ5.out.c2, VQ5.out.c3⟩) ?_
  clear hK K
  try simp only [Act.put, List.setIfInBounds_toArray, List.set_cons_zero, List.set_cons_succ]
  refine wpAnyC_one (i := 10) (by kernel_rfl) rfl (fun K hK => ?_)
  go_simp
  go_at_call 67
  refine (rmul_any _ _ x (y + z) _ HR5.out V4.out (N := N + N + 1) h3 (FX.out.mono (by rw [Nat.add_assoc]; exact Nat.le_add_right N (N + 1))) (fitR_add FY.out FZ.out)).mono ?_
  rintro e w6 ⟨v6, rfl, hv, hb⟩
  have HB6 := Lib.hid (HB5.out.trans (hb.mono HB5.out.size))
  have VR6 := Lib.hid (VR5.out.below hb)
  have VP6 := Lib.hid (VP5.out.below hb)
  have VQ6 := Lib.hid (VQ5.out.below hb)
  have HZB6 := Lib.hid (HZB5.out.below hb HZB5.out.lt)
  have HR6 := Lib.hid (HR5.out.ext hb)
  have HP6 := Lib.hid (HP5.out.ext hb)
  have HQ6 := Lib.hid (HQ5.out.ext hb)
  replace V1 := Lib.hid (V1.out.ext hb)
  replace V2 := Lib.hid (V2.out.ext hb)
  replace V3 := Lib.hid (V3.out.ext hb)
  replace V4 := Lib.hid (V4.out.ext hb)
  have V5 := Lib.hid hv
  clear hb hv
  refine hK.out _ _ (fun _ => ⟨VR6.out.c0, VR6.out.c1, VR6.out.c2, VR6.out.c3, VP6.out.c0, VP6.out.c1, VP6.out.c2, VP6.out.c3, VQ6.out.c0, VQ6.out.c1, VQ6.out.c2, VQ6.out.c3⟩) ?_
  clear hK K
  try simp only [Act.put, List.setIfInBounds_toArray, List.set_cons_zero, List.set_cons_succ]
  obtain ⟨ab, A1, n1, k1, A2, n2, k2, rfl⟩ := V3.out.bools
  obtain ⟨bb, B1, m1, j1, B2, m2, j2, rfl⟩ := V5.out.bools
  refine wpAnyC_take8 (i := 11) (oi := _) (v := .agg #[.bool ab, .slice A1 n1 k1, .bool false, .slice A2 n2 k2, .bool bb, .slice B1 m1 j1, .bool false, .slice B2 m2 j2]) rfl (by kernel_rfl) (by kernel_rfl) (by kernel_rfl) (by kernel_rfl) (by kernel_rfl) (by kernel_rfl) (fun _ _ _ h => h) (Or.inl ⟨by rfl, ?_⟩) ⟨VR6.out.c0, VR6.out.c1, VR6.out.c2, VR6.out.c3, VP6.out.c0, VP6.out.c1, VP6.out.c2, VP6.out.c3, VQ6.out.c0, VQ6.out.c1, VQ6.out.c2, VQ6.out.c3⟩ ?_
  · intro w hSw
    obtain ⟨s0, s1, s2, s3, s4, s5, s6, s7, s8, s9, s10, s11⟩ := hSw
    go_simp
  try simp only [Act.put, List.setIfInBounds_toArray]
  have HN := Lib.hid (V8.of_blk HZB6.out rfl (.bool ab) (.slice A1 n1 k1) (.bool false) (.slice A2 n2 k2) (.bool bb) (.slice B1 m1 j1) (.bool false) (.slice B2 m2 j2))
  have HKW := Lib.hid (kw_set8 HZB6.out zeros_noWord (u7 := .slice B2 m2 j2) (noWord_bool ab) (noWord_slice A1 n1 k1) (noWord_bool false) (noWord_slice A2 n2 k2) (noWord_bool bb) (noWord_slice B1 m1 j1) (noWord_bool false))
  have HRES := Lib.hid (show RetPv w (thru x y z) (.returned (.agg #[.bool ab, .slice A1 n1 k1, .bool false, .slice A2 n2 k2, .bool bb, .slice B1 m1 j1, .bool false, .slice B2 m2 j2])) _ from ⟨_, rfl, ⟨_, _, _, _, _, _, _, _, rfl, V3.out.kw HKW.out, V5.out.kw HKW.out⟩, below_set8 HB6.out (g := w.heap.size + 1 + 1 + 1) (by omega) (.bool ab) (.slice A1 n1 k1) (.bool false) (.slice A2 n2 k2) (.bool bb) (.slice B1 m1 j1) (.bool false) (.slice B2 m2 j2)⟩)
  have HV8 := Lib.hid HN.out.v8
  have hz8 := HZB6.out.v8
  have e0 := hz8.c0
  have f0 := hz8.f0
  have e1 := hz8.c1
  have f1 := hz8.f1
  have e2 := hz8.c2
  have f2 := hz8.f2
  have e3 := hz8.c3
  have f3 := hz8.f3
  have e4 := hz8.c4
  have f4 := hz8.f4
  have e5 := hz8.c5
  have f5 := hz8.f5
  have e6 := hz8.c6
  have f6 := hz8.f6
  have e7 := hz8.c7
  have f7 := hz8.f7
  unfold set8 at HRES HV8
  clear hz8 HKW HN
  refine wpAnyC_one (i := 12) (by kernel_rfl) rfl (fun K hK => ?_)
  go_simp
  refine hK.out _ _ (fun h => absurd h (by decide)) ?_
  clear hK K
  clear e0 f0 e1 f1 e2 f2 e3 f3 e4 f4 e5 f5 e6 f6 e7 f7
  refine wpAnyC_done (by kernel_rfl) ?_ _
  go_wp2
  have z0 := HV8.out.c0
  have z1 := HV8.out.c1
  have z2 := HV8.out.c2
  have z3 := HV8.out.c3
  have z4 := HV8.out.c4
  have z5 := HV8.out.c5
  have z6 := HV8.out.c6
  have z7 := HV8.out.c7
  generalize (((((((w6.setCell ⟨w.heap.size + 1 + 1 + 1, 0, none⟩ (.bool ab)).setCell ⟨w.heap.size + 1 + 1 + 1, 1, none⟩ (.slice A1 n1 k1)).setCell ⟨w.heap.size + 1 + 1 + 1, 2, none⟩ (.bool false)).setCell ⟨w.heap.size + 1 + 1 + 1, 3, none⟩ (.slice A2 n2 k2)).setCell ⟨w.heap.size + 1 + 1 + 1, 4, none⟩ (.bool bb)).setCell ⟨w.heap.size + 1 + 1 + 1, 5, none⟩ (.slice B1 m1 j1)).setCell ⟨w.heap.size + 1 + 1 + 1, 6, none⟩ (.bool false)).setCell ⟨w.heap.size + 1 + 1 + 1, 7, none⟩ (.slice B2 m2 j2) = W at *
  exact bodyPost_ret (v := .agg #[.bool ab, .slice A1 n1 k1, .bool false, .slice A2 n2 k2, .bool bb, .slice B1 m1 j1, .bool false, .slice B2 m2 j2]) (by simp [results, Tryz.results62, go_sem, z0, z1, z2, z3, z4, z5, z6, z7]) rfl HRES.out
end Go.Proofs.YtmnedfkinepnfaaGreatDoor
namespace Go.Proofs.YtmnedfkinepnfaaGreatDoor
open Go.RowKit

abbrev pcsT_ : TypeId := 86
/-- the numbers of pieces, one behind the other -/
def flat (ps : List PcQ) : List Rat := ps.flatMap fun p => [p.1, p.2]
theorem flat_len (ps : List PcQ) : (flat ps).length = ps.length * 2 := by
  induction ps with
  | nil => rfl
  | cons p ps ih => simp only [flat, List.flatMap_cons, List.length_append, List.length_cons, List.length_nil] at ih ⊢; omega
theorem flat_app (ps qs : List PcQ) : flat (ps ++ qs) = flat ps ++ flat qs := by simp [flat]
theorem RtL.flat {w : World} {xs ys : List Value} {ps qs : List PcQ} (h : RtL w xs (Proofs.YtmnedfkinepnfaaGreatDoor.flat ps)) (k : RtL w ys (Proofs.YtmnedfkinepnfaaGreatDoor.flat qs)) : RtL w (xs ++ ys) (Proofs.YtmnedfkinepnfaaGreatDoor.flat (ps ++ qs)) := by rw [flat_app]; exact h.append k
theorem flat_at {w : World} : ∀ {ps : List PcQ} {xs : List Value} (k : Nat) (p : PcQ), RtL w xs (flat ps) → ps[k]? = some p →
    ∃ x0 x1 x2 x3 x4 x5 x6 x7, xs[k * 8]? = some x0 ∧ xs[k * 8 + 1]? = some x1 ∧ xs[k * 8 + 2]? = some x2 ∧ xs[k * 8 + 3]? = some x3 ∧ xs[k * 8 + 4]? = some x4 ∧ xs[k * 8 + 5]? = some x5 ∧ xs[k * 8 + 6]? = some x6 ∧ xs[k * 8 + 7]? = some x7 ∧
      Rt w (.agg #[x0, x1, x2, x3]) p.1 ∧ Rt w (.agg #[x4, x5, x6, x7]) p.2 := by
  intro ps xs k p h hp
  have hl : k < ps.length := (List.getElem?_eq_some_iff.1 hp).1
  have e : ∀ (ps : List PcQ) (k : Nat) (p : PcQ), ps[k]? = some p → (flat ps)[k * 2]? = some p.1 ∧ (flat ps)[k * 2 + 1]? = some p.2 := by
    intro ps
    induction ps with
    | nil => intro k p h; simp at h
    | cons q ps ih =>
      intro k p h
      cases k with
      | zero => simp at h; subst h; exact ⟨rfl, rfl⟩
      | succ k =>
        have := ih k p (by simpa using h)
        rw [show (k + 1) * 2 = k * 2 + 2 by omega]
        exact this
  obtain ⟨e1, e2⟩ := e ps k p hp
  obtain ⟨x0, x1, x2, x3, a0, a1, a2, a3, r1⟩ := h.at_ _ _ e1
  obtain ⟨x4, x5, x6, x7, b0, b1, b2, b3, r2⟩ := h.at_ _ _ e2
  rw [show k * 2 * 4 = k * 8 by omega] at a0 a1 a2 a3
  rw [show (k * 2 + 1) * 4 = k * 8 + 4 by omega] at b0 b1 b2 b3
  exact ⟨x0, x1, x2, x3, x4, x5, x6, x7, a0, a1, a2, a3, b0, b1, b2, b3, r1, r2⟩
theorem info_pc : (Tryz.prog.info? pcT).map (fun i => (i.zero, i.size, i.bytes)) = some (some (.agg #[.bool false, .slice none 0 0, .bool false, .slice none 0 0, .bool false, .slice none 0 0, .bool false, .slice none 0 0]), 8, 128) := by kernel_rfl
/-- a row of numbers that the call owns; its block holds no words -/
structure PRow (w : World) (base : Nat) (v : Value) (qs : List PcQ) : Prop where
  row : ∃ xs, Row w base pcT 8 v qs.length xs ∧ RtL w xs (flat qs)
  nw : ∀ g o n, v.ownBlock = some g → w.cell? ⟨g, o, none⟩ ≠ some (U n)
theorem PRow.nil (w : World) (base : Nat) : PRow w base (.slice none 0 0) [] := ⟨⟨[], Row.nil _ _ _ _, rfl⟩, fun g o n h => by cases h⟩
theorem PRow.call {w w' : World} {base : Nat} {v : Value} {qs : List PcQ} (h : PRow w base v qs) (hb : Below w.heap.size w w') : PRow w' base v qs := by
  obtain ⟨⟨xs, h1, h2⟩, h3⟩ := h
  refine ⟨⟨xs, h1.call hb, h2.kw (kw_below hb)⟩, fun g o n hg => ?_⟩
  rw [hb.cell (p := ⟨g, o, none⟩) (own_lt h1 hg).2.1]
  exact h3 g o n hg
theorem PRow.less {w : World} {base base' : Nat} {v : Value} {qs : List PcQ} (h : PRow w base v qs) (hb : base' ≤ base) : PRow w base' v qs := by
  obtain ⟨⟨xs, h1, h2⟩, h3⟩ := h
  exact ⟨⟨xs, h1.less hb, h2⟩, h3⟩
theorem PRow.val {w : World} {base : Nat} {v : Value} {qs : List PcQ} (h : PRow w base v qs) : ∃ A c, v = .slice A qs.length c := by
  obtain ⟨⟨xs, h1, h2⟩, _⟩ := h
  exact h1.val
abbrev zPc : Array Value := #[.bool false, .slice none 0 0, .bool false, .slice none 0 0, .bool false, .slice none 0 0, .bool false, .slice none 0 0]
theorem zero8_noWord (n : Nat) : ∀ u ∈ (Builtin.zeroCells zPc n).toList, noWord u := by
  intro u hu
  unfold Builtin.zeroCells at hu
  rw [Array.toList_map, List.mem_map] at hu
  obtain ⟨i, _, rfl⟩ := hu
  have h4 : i % 8 < 8 := Nat.mod_lt _ (by decide)
  show noWord (zPc[i % 8]!)
  generalize i % 8 = j at h4
  match j, h4 with
  | 0, _ => exact noWord_bool _
  | 1, _ => exact noWord_slice _ _ _
  | 2, _ => exact noWord_bool _
  | 3, _ => exact noWord_slice _ _ _
  | 4, _ => exact noWord_bool _
  | 5, _ => exact noWord_slice _ _ _
  | 6, _ => exact noWord_bool _
  | 7, _ => exact noWord_slice _ _ _
/-- what is known behind an append of numbers -/
structure PApd (w : World) (base : Nat) (v : Value) (qs : List PcQ) (v' : Value) (w' : World) : Prop where
  row : PRow w' base v' qs
  kw : Kw w w'
  grown : w.grownBy w' v.ownBlock
  own : ∀ g, v'.ownBlock = some g → v.ownBlock = some g ∨ w.heap.size ≤ g
theorem run_append_pcs {P : Program} (w : World) (base : Nat) (t ty : TypeId) (i : TypeInfo) (z : Value) (bytes : Nat) (ht : P.underlying t = some (.slice pcT)) (hi : P.info? pcT = some i) (hz : i.zero = some z)
    (hsize : i.size = 8) (hby : i.bytes = bytes) (hzc : z.cells = zPc) (v : Value) (qs : List PcQ) (hr : PRow w base v qs)
    (B : Nat) (A : Option Addr) (m c : Nat) (news : List Value) (rs : List PcQ) (hs : Reads w B 8 A m news) (hl : RtL w news (flat rs))
    (h63 : qs.length + m ≤ maxLen) (hbytes : (qs.length + m) * bytes ≤ 140737488355328) (hbase : base ≤ w.heap.size) :
    ∃ v' w', (Builtin.append_ #[t, t] ty #[v, .slice A m c]).run P w = .ok v' w' ∧ PApd w base v (qs ++ rs) v' w' := by
  have hrl : rs.length = m := by have := hs.1; have := hl.len; rw [flat_len] at this; omega
  have h1 : ∀ u ∈ news, u.oneCell' = true := fun u hu => (hl.noWord u hu).2
  have h1w : ∀ u ∈ news, noWord u := fun u hu => (hl.noWord u hu).1
  obtain ⟨⟨xs, hrow, hxs⟩, hnw⟩ := id hr
  rcases A with _ | ad
  · have hm : m = 0 := by
      rcases Nat.eq_zero_or_pos m with h0 | h0
      · exact h0
      · obtain ⟨b, off, h, _⟩ := hs.2 h0
        cases h
    have hn : rs = [] := List.eq_nil_of_length_eq_zero (by omega)
    subst hm hn
    exact ⟨v, w, run_append_nothing w base t ty pcT i ht hi 8 qs.length v xs hrow c, by rw [List.append_nil]; exact hr, Kw.refl w, ⟨rfl, rfl, rfl, Nat.le_refl _, fun _ _ _ => rfl⟩, fun g h => .inl h⟩
  · have hcells : ∀ j u, news[j]? = some u → w.cell? (ad.add j) = some u := by
      intro j u hu
      rcases Nat.eq_zero_or_pos m with h0 | h0
      · subst h0
        have hn : news = [] := List.eq_nil_of_length_eq_zero (by simpa using hs.1)
        subst hn
        simp at hu
      · obtain ⟨b, off, h, _, hc⟩ := hs.2 h0
        injection h with h
        subst h
        rw [Addr.add_lit]
        exact hc j u hu
    have hlen : (xs ++ news).length = (qs ++ rs).length * 8 := by rw [List.length_append, hrow.1, hs.1, List.length_append, hrl, Nat.add_mul]
    have hql : (qs ++ rs).length = qs.length + m := by rw [List.length_append, hrl]
    have fresh : ∀ cap, qs.length + m ≤ cap → cap ≤ maxLen → ∀ zs : Array Value, zs.size = (cap - (qs.length + m)) * 8 → (∀ u ∈ zs.toList, noWord u) →
        PApd w base v (qs ++ rs) (.slice (some ⟨w.heap.size, 0, none⟩) (qs.length + m) cap) (w.drew.alloc (.cells ((xs ++ news).toArray ++ zs) pcT)) := by
      intro cap hc1 hc2 zs hzs hzw
      have hb : Below w.heap.size w (w.drew.alloc (.cells ((xs ++ news).toArray ++ zs) pcT)) := (Below.refl w.heap.size w).drew.alloc (Nat.le_refl _) _
      have hk := kw_below hb
      have hB : Blk (w.drew.alloc (.cells ((xs ++ news).toArray ++ zs) pcT)) w.heap.size pcT ((xs ++ news).toArray ++ zs) := heap_alloc_new w.drew _
      refine ⟨⟨⟨xs ++ news, ⟨hlen, .inr ⟨w.heap.size, 0, cap, _, by rw [hql], hbase, hB, by rw [hql]; exact hc1, hc2, ?_, ?_⟩⟩, (hxs.flat hl).kw hk⟩, ?_⟩, hk, ⟨rfl, rfl, rfl, by simp, fun k hk _ => Below.heap_alloc w.drew _ k hk⟩, fun g hg => .inr ?_⟩
      · rw [Array.size_append, hzs, List.size_toArray, hlen, hql, ← Nat.add_mul]
        have : qs.length + m + (cap - (qs.length + m)) = cap := by omega
        rw [this]; omega
      · rw [List.drop_zero, Array.toList_append, List.take_append_of_le_length (by rw [hlen]; exact Nat.le_refl _), List.take_of_length_le (by rw [hlen]; exact Nat.le_refl _)]
      · intro g o n hg
        have hg : w.heap.size = g := by simpa [Value.ownBlock] using hg
        subst hg
        refine blk_noWord hB (fun u hu => ?_) o n
        rw [Array.toList_append, List.mem_append] at hu
        rcases hu with hu | hu
        · simp only [List.mem_append] at hu
          rcases hu with hu | hu
          · exact (hxs.noWord u hu).1
          · exact h1w u hu
        · exact hzw u hu
      · have hg : w.heap.size = g := by simpa [Value.ownBlock] using hg
        omega
    have zsz : ∀ k, (Builtin.zeroCells z.cells k).size = k * 8 := fun k => by rw [size_zeroCells, hzc]; rfl
    rcases Nat.eq_zero_or_pos m with hm0 | hm0
    · have hn : rs = [] := List.eq_nil_of_length_eq_zero (by omega)
      have hnews : news = [] := List.eq_nil_of_length_eq_zero (by have := hs.1; omega)
      subst hm0 hn hnews
      have hf := run_firstCells_some (P := P) w i.size 0 ad 0 c [] (by simp) (by simp)
      have hrun : (Builtin.append_ #[t, t] ty #[v, .slice (some ad) 0 c]).run P w = .ok v w := by
        rcases hrow.2 with ⟨rfl, h0⟩ | ⟨g, off, cap, cur, rfl, hbg, hg, hnc, hcm, hcs, htake⟩
        · simp [Builtin.append_, run_underlying ht, sizeOf, typeInfo, hi, Builtin.lenOf, hf]
        · simp [Builtin.append_, run_underlying ht, sizeOf, typeInfo, hi, Builtin.lenOf, hf, hnc, storeCells]
      exact ⟨_, _, hrun, by rw [List.append_nil]; exact hr, Kw.refl _, ⟨rfl, rfl, rfl, Nat.le_refl _, fun _ _ _ => rfl⟩, fun g h => .inl h⟩
    rcases hrow.2 with ⟨rfl, h0⟩ | ⟨g, off, cap, cur, rfl, hbg, hg, hnc, hcm, hcs, htake⟩
    · have hx : xs = [] := List.eq_nil_of_length_eq_zero (by have := hrow.1; omega)
      have hq : qs = [] := List.eq_nil_of_length_eq_zero h0
      subst hx hq
      have hrun := run_append_nil (P := P) w t ty pcT i z ht hi hz ad m c news (by rw [hsize]; exact hs.1) hcells hm0 (by simp only [maxLen, List.length_nil] at h63; omega) (by rw [hby]; simp only [List.length_nil, Nat.zero_add] at hbytes; omega)
      have hge := grownCap_ge w m 0 pcT
      have hcm := grownCap_le_maxLen w m 0 pcT (by simpa using h63)
      refine ⟨_, _, hrun, ?_⟩
      have := fresh (grownCap w m 0 pcT) (by simpa using hge) hcm (Builtin.zeroCells z.cells (grownCap w m 0 pcT - m)) (by rw [zsz]; simp) (by rw [hzc]; exact zero8_noWord _)
      simpa using this
    · by_cases hroom : qs.length + m ≤ cap
      · have hle : (qs.length + m) * 8 ≤ cap * 8 := Nat.mul_le_mul_right _ hroom
        rw [Nat.add_mul] at hle
        have hln := hs.1
        have hfit : off + qs.length * i.size + news.length ≤ cur.size := by rw [hsize]; omega
        have hrun := run_append_room_off (P := P) w t ty pcT i ht hi g off qs.length cap cur hg ad m c news (by rw [hsize]; exact hs.1) hcells h1 hroom hfit
        rw [hsize] at hrun
        have hcw := noWord_of hg (fun o n => hnw g o n (by simp [Value.ownBlock]))
        have hB : Blk (w.setRow g (cur.toList.take (off + qs.length * 8) ++ news ++ cur.toList.drop (off + qs.length * 8 + news.length)).toArray) g pcT (cur.toList.take (off + qs.length * 8) ++ news ++ cur.toList.drop (off + qs.length * 8 + news.length)).toArray := setRow_heap w g cur _ pcT _ hg
        have hk : Kw w (w.setRow g (cur.toList.take (off + qs.length * 8) ++ news ++ cur.toList.drop (off + qs.length * 8 + news.length)).toArray) := by
          refine ⟨by simp [World.setRow], fun p n e => ?_⟩
          have hpb : p.block ≠ g := by
            intro hpg
            have hpl := World.cell?_of_block (w := w) (w' := w) (a := p) rfl
            cases p with
            | mk pb po ps =>
              simp only at hpg
              subst hpg
              cases ps with
              | none => exact hnw pb po n (by simp [Value.ownBlock]) e
              | some s =>
                unfold Blk at hg
                simp [World.cell?, hg] at e
          rw [World.cell?_of_block (a := p) (setRow_other w g p.block _ hpb)]
          exact e
        refine ⟨_, _, hrun, ⟨⟨⟨xs ++ news, ⟨hlen, .inr ⟨g, off, cap, _, by rw [hql], hbg, hB, by rw [hql]; exact hroom, hcm, ?_, ?_⟩⟩, (hxs.flat hl).kw hk⟩, ?_⟩, hk, ?_, fun g' hg' => .inl (by simpa [Value.ownBlock] using hg')⟩⟩
        · simp only [List.size_toArray, List.length_append, List.length_take, List.length_drop, Array.length_toList]
          omega
        · simp only
          rw [hql, Nat.add_mul, ← hln]
          exact room_list (m := news.length) htake hrow.1 rfl (by simp only [Array.length_toList]; omega)
        · intro g' o n hg'
          have hg' : g = g' := by simpa [Value.ownBlock] using hg'
          subst hg'
          refine blk_noWord hB (fun u hu => ?_) o n
          simp only [List.mem_append] at hu
          rcases hu with (hu | hu) | hu
          · exact hcw u (List.mem_of_mem_take hu)
          · exact h1w u hu
          · exact hcw u (List.mem_of_mem_drop hu)
        · exact ⟨rfl, rfl, rfl, by simp [World.setRow], fun k _ hk => setRow_other w g k _ (fun e => hk (by simp [Value.ownBlock, e]))⟩
      · have holds : ∀ j u, xs[j]? = some u → w.cell? ((⟨g, off, none⟩ : Addr).add j) = some u := by
          intro j u hu
          rw [Addr.add_lit, hg.cell]
          rw [← htake, List.getElem?_take] at hu
          split at hu
          · simpa using hu
          · cases hu
        have hrun := run_append_grow (P := P) w t ty pcT i z ht hi hz ⟨g, off, none⟩ qs.length cap xs (by rw [hsize]; exact hrow.1) holds ad m c news (by rw [hsize]; exact hs.1) hcells (by omega) (by simp only [maxLen] at h63; omega) (growslice_fits (by omega) (by rw [hby]; exact hbytes))
        have hge := grownCap_ge w (qs.length + m) cap pcT
        have hcm2 := grownCap_le_maxLen w (qs.length + m) cap pcT h63
        refine ⟨_, _, hrun, ?_⟩
        have := fresh (grownCap w (qs.length + m) cap pcT) hge hcm2 (Builtin.zeroCells z.cells (grownCap w (qs.length + m) cap pcT - (qs.length + m))) (zsz _) (by rw [hzc]; exact zero8_noWord _)
        simpa using this
/-- the step of a walk that appends one number to a row -/
theorem step_appP {w : World} {ops : Array Oper} {o : Oper} {a : Act} {K : Act → World → Prop} {Q : Exit → Act → World → Prop} {E : Prop} (hgd : o.guard = none) (s x : Operand)
    (ho : o.op = .call { callee := .builtin .append, args := #[s, x], argTypes := #[pcsT_, pcsT_] }) (base : Nat) (v : Value) (qs : List PcQ) (hsv : a.eval s = v) (hr : PRow w base v qs)
    (g : Nat) (hx : a.eval x = .slice (some ⟨g, 0, none⟩) 1 1) {x0 x1 x2 x3 x4 x5 x6 x7 : Value} (hB : Blk w g pcT #[x0, x1, x2, x3, x4, x5, x6, x7]) {q : PcQ} (hq : Rt w (.agg #[x0, x1, x2, x3]) q.1 ∧ Rt w (.agg #[x4, x5, x6, x7]) q.2) (hl : qs.length ≤ 1000000) (hbase : base ≤ w.heap.size)
    (h : ∀ v' w', PApd w base v (qs ++ [q]) v' w' → K (a.put o.dst v') w') : if Region.wanted o (yielded ops a.tmps) = true then Oper.wp Tryz.prog o a w K Q else E := by
  have hw : Region.wanted o (yielded ops a.tmps) = true := by simp [Region.wanted, hgd]
  rw [if_pos hw]
  obtain ⟨i, hi, hz0, hz1, hz2⟩ := info_parts info_pc
  have hs : Reads w w.heap.size 8 (some ⟨g, 0, none⟩) 1 [x0, x1, x2, x3, x4, x5, x6, x7] := ⟨rfl, fun _ => ⟨g, 0, rfl, hB.lt, fun j u hu => by
    rw [Nat.zero_add, hB.cell]
    simpa using hu⟩⟩
  obtain ⟨v', w', hrun, hap⟩ := run_append_pcs (P := Tryz.prog) w base pcsT_ o.type i _ 128 Tryz.underlying86 hi hz0 hz1 hz2 rfl v qs hr w.heap.size (some ⟨g, 0, none⟩) 1 1 [x0, x1, x2, x3, x4, x5, x6, x7] [q] hs (RtL.mk hq.1 (RtL.mk hq.2 rfl)) (by unfold maxLen; omega) (by omega) hbase
  unfold Oper.wp execOp
  simp only [ho, resolve, invoke, builtin, Sem.run_bind, Sem.run_pure, Result.andThen_ok, List.map_toArray, List.map_cons, List.map_nil, hsv, hx, hrun]
  exact h v' w' hap
/-- the same in a region without an order of its own -/
theorem wpList_appP {w : World} {ops : Array Oper} {rest : List Oper} {o : Oper} {a : Act} {Q : Exit → Act → World → Prop} (hgd : o.guard = none) (s x : Operand)
    (ho : o.op = .call { callee := .builtin .append, args := #[s, x], argTypes := #[pcsT_, pcsT_] }) (base : Nat) (v : Value) (qs : List PcQ) (hsv : a.eval s = v) (hr : PRow w base v qs)
    (g : Nat) (hx : a.eval x = .slice (some ⟨g, 0, none⟩) 1 1) {x0 x1 x2 x3 x4 x5 x6 x7 : Value} (hB : Blk w g pcT #[x0, x1, x2, x3, x4, x5, x6, x7]) {q : PcQ} (hq : Rt w (.agg #[x0, x1, x2, x3]) q.1 ∧ Rt w (.agg #[x4, x5, x6, x7]) q.2) (hl : qs.length ≤ 1000000) (hbase : base ≤ w.heap.size)
    (h : ∀ v' w', PApd w base v (qs ++ [q]) v' w' → wpList Tryz.prog ops Q rest (a.put o.dst v') w') : wpList Tryz.prog ops Q (o :: rest) a w := by
  refine wpList_plain hgd fun K hK => ?_
  obtain ⟨i, hi, hz0, hz1, hz2⟩ := info_parts info_pc
  have hs : Reads w w.heap.size 8 (some ⟨g, 0, none⟩) 1 [x0, x1, x2, x3, x4, x5, x6, x7] := ⟨rfl, fun _ => ⟨g, 0, rfl, hB.lt, fun j u hu => by
    rw [Nat.zero_add, hB.cell]
    simpa using hu⟩⟩
  obtain ⟨v', w', hrun, hap⟩ := run_append_pcs (P := Tryz.prog) w base pcsT_ o.type i _ 128 Tryz.underlying86 hi hz0 hz1 hz2 rfl v qs hr w.heap.size (some ⟨g, 0, none⟩) 1 1 [x0, x1, x2, x3, x4, x5, x6, x7] [q] hs (RtL.mk hq.1 (RtL.mk hq.2 rfl)) (by unfold maxLen; omega) (by omega) hbase
  unfold Oper.wp execOp
  simp only [ho, resolve, invoke, builtin, Sem.run_bind, Sem.run_pure, Result.andThen_ok, List.map_toArray, List.map_cons, List.map_nil, hsv, hx, hrun]
  exact hK _ _ (h v' w' hap)
theorem PApd.below {w w' : World} {base : Nat} {v v' : Value} {qs qs' : List PcQ} (h : PApd w base v qs' v' w') (hr : PRow w base v qs) (hb : base ≤ w.heap.size) : Below base w w' := by
  obtain ⟨xs, hrow, _⟩ := hr.row
  exact hrow.belowG h.grown hb
end Go.Proofs.YtmnedfkinepnfaaGreatDoor
