/- nettext.add: the walks. nettext.add: the kinds with numbers. nettext.add: lines of no kind; all together. -/
import Derived.Test.YtglbelmljdgaoaaGreatDoorNF
namespace Go.Proofs.YtglbelmljdgaoaaGreatDoor
open Go.RowKit

theorem key_t {x : ByteArray} {l : List UInt8} (h : x = ⟨⟨l⟩⟩) : (x.toList == l) = true := by rw [h, Lib.toList_data]; exact beq_iff_eq.2 rfl
theorem key_f {x : ByteArray} {l : List UInt8} (h : x ≠ ⟨⟨l⟩⟩) : (x.toList == l) = false := by
  rw [Lib.toList_data, beq_eq_false_iff_ne]
  intro e
  apply h
  obtain ⟨⟨y⟩⟩ := x
  rw [show y = l from e]
theorem key_d (x y : ByteArray) {l : List UInt8} (h : y = ⟨⟨l⟩⟩) : (x.toList == l) = decide (x = y) := by
  by_cases e : x = y
  · rw [decide_eq_true e]; exact key_t (e.trans h)
  · rw [decide_eq_false e]; exact key_f fun k => e (k.trans h.symm)
theorem cell_below {w w' : World} {p : Addr} {u : Value} (h : w.cell? p = some u) (hb : Below w.heap.size w w') : w'.cell? p = some u := (hb.cell (World.block_lt_of_cell? w _ h)).trans h
theorem below_drawF (w : World) : Below w.heap.size w w.drew := ⟨rfl, rfl, rfl, Nat.le_refl _, fun _ _ => rfl⟩
theorem below_newF (w : World) (o : Obj) : Below w.heap.size w (w.alloc o) := (Below.refl _ w).alloc (Nat.le_refl _) _
set_option maxRecDepth 100000 in
set_option maxHeartbeats 4000000 in
theorem addNode {base g : Nat} {n : NetD} {v0 v1 v2 v3 v4 v5 : Value} (x0 x1 : ByteArray) (A : Option Addr) (c : Nat) (w : World) (hk : NMk w base g n v0 v1 v2 v3 v4 v5) (hl : Reads w w.heap.size 1 A 2 ([x0, x1].map S)) (hb0 : base ≤ w.heap.size) (hf : n.nodes.length ≤ 10000) (h0 : x0 = kNode) :
    Calls Tryz.prog 44 #[.pointer (some ⟨g, 0, none⟩), .slice A 2 c] w fun e w' => e = .returned (.bool true) ∧ ∃ v, NMk w' base g { n with nodes := n.nodes ++ [x1] } v v1 v2 v3 v4 v5 ∧ Below base w w' := by
  have HF := Lib.hid hf
  have HGB := Lib.hid hk.hb
  clear hf
  obtain ⟨wb, wo, rfl, hwb, hcw⟩ := hl.2 (by decide)
  have c0 := Lib.hid (show w.cell? ⟨wb, wo, none⟩ = some (.string x0) from hcw 0 _ rfl)
  have c1 := Lib.hid (show w.cell? ⟨wb, wo + 1, none⟩ = some (.string x1) from hcw 1 _ rfl)
  clear hcw hl
  have t_x0_node : (x0.toList == [110, 111, 100, 101]) = true := key_t h0
  clear h0
  go_enter Tryz.func44, Tryz.ntmps44
  have d0 := c0.out
  go_upto_region 2 with (fail)
  clear d0
  have hd := below_drawF w
  have HK := Lib.hid hk
  have HB := Lib.hid hb0
  have HB0 := Lib.hid hb0
  have HW := Lib.hid (Below.refl w.heap.size w)
  clear hk hb0
  replace HB := Lib.hid (Nat.le_trans HB.out hd.size)
  replace HW := Lib.hid (HW.out.trans hd)
  replace HK := Lib.hid (HK.out.call hd)
  replace c0 := Lib.hid (cell_below c0.out hd)
  replace c1 := Lib.hid (cell_below c1.out hd)
  clear hd
  have HBASE := Lib.hid HB0.out
  refine wp_region_c (fun w' => w'.cell? ⟨g, 0, none⟩ = some v0 ∧ w'.cell? ⟨wb, wo + 1, none⟩ = some (.string x1)) 9 (by kernel_rfl) ?_
  generalize w.drew = W1 at *
  refine wpAnyC_take8 (i := 1) (oi := _) (v := .pointer (some ⟨g, 0, none⟩)) rfl (by kernel_rfl) (by kernel_rfl) (by kernel_rfl) (by kernel_rfl) (by kernel_rfl) (by kernel_rfl) (fun _ _ _ h => h) (Or.inl ⟨by rfl, ?_⟩) ⟨HK.out.blk.cell 0, c1.out⟩ ?_
  · intro w hSw
    obtain ⟨s0, s1⟩ := hSw
    go_simp
  try simp only [Act.put, List.setIfInBounds_toArray]
  refine wpAnyC_take8 (i := 2) (oi := _) (v := .pointer (some ⟨g, 0, none⟩)) rfl (by kernel_rfl) (by kernel_rfl) (by kernel_rfl) (by kernel_rfl) (by kernel_rfl) (by kernel_rfl) (fun _ _ _ h => h) (Or.inl ⟨by rfl, ?_⟩) ⟨HK.out.blk.cell 0, c1.out⟩ ?_
  · intro w hSw
    obtain ⟨s0, s1⟩ := hSw
    go_simp
  try simp only [Act.put]
  refine wpAnyC_take8 (i := 3) (oi := _) (v := .pointer (some ⟨g, 0, none⟩)) rfl (by kernel_rfl) (by kernel_rfl) (by kernel_rfl) (by kernel_rfl) (by kernel_rfl) (by kernel_rfl) (fun _ _ _ h => h) (Or.inl ⟨by rfl, ?_⟩) ⟨HK.out.blk.cell 0, c1.out⟩ ?_
  · intro w hSw
    obtain ⟨s0, s1⟩ := hSw
    go_simp
  try simp only [Act.put]
  refine wpAnyC_take8 (i := 4) (oi := _) (v := v0) rfl (by kernel_rfl) (by kernel_rfl) (by kernel_rfl) (by kernel_rfl) (by kernel_rfl) (by kernel_rfl) (fun _ _ _ h => h) (Or.inl ⟨by rfl, ?_⟩) ⟨HK.out.blk.cell 0, c1.out⟩ ?_
  · intro w hSw
    obtain ⟨s0, s1⟩ := hSw
    go_simp
  try simp only [Act.put]
  refine wpAnyC_take8 (i := 5) (oi := _) (v := .slice (some ⟨wb, wo, none⟩) 2 c) rfl (by kernel_rfl) (by kernel_rfl) (by kernel_rfl) (by kernel_rfl) (by kernel_rfl) (by kernel_rfl) (fun _ _ _ h => h) (Or.inl ⟨by rfl, ?_⟩) ⟨HK.out.blk.cell 0, c1.out⟩ ?_
  · intro w hSw
    obtain ⟨s0, s1⟩ := hSw
    go_simp
  try simp only [Act.put]
  refine wpAnyC_take8 (i := 6) (oi := _) (v := .pointer (some ⟨wb, wo + 1, none⟩)) rfl (by kernel_rfl) (by kernel_rfl) (by kernel_rfl) (by kernel_rfl) (by kernel_rfl) (by kernel_rfl) (fun _ _ _ h => h) (Or.inl ⟨by rfl, ?_⟩) ⟨HK.out.blk.cell 0, c1.out⟩ ?_
  · intro w hSw
    obtain ⟨s0, s1⟩ := hSw
    go_simp
  try simp only [Act.put]
  refine wpAnyC_take8 (i := 7) (oi := _) (v := .string x1) rfl (by kernel_rfl) (by kernel_rfl) (by kernel_rfl) (by kernel_rfl) (by kernel_rfl) (by kernel_rfl) (fun _ _ _ h => h) (Or.inl ⟨by rfl, ?_⟩) ⟨HK.out.blk.cell 0, c1.out⟩ ?_
  · intro w hSw
    obtain ⟨s0, s1⟩ := hSw
    go_simp
  try simp only [Act.put]
  refine wpAnyC_takeP (i := 0) (oi := _) (v := .pointer (some ⟨g, 0, none⟩)) rfl (by kernel_rfl) (by kernel_rfl) (by kernel_rfl) (by kernel_rfl) (fun _ _ _ h => h) (Or.inl ⟨by rfl, ?_⟩) ⟨HK.out.blk.cell 0, c1.out⟩ ?_
  · intro w _
    go_simp
  try simp only [Act.put]
  refine wpAnyC_one (i := 8) (by kernel_rfl) rfl (fun K hK => ?_)
  go_simp
  have hz := below_newF W1 (Obj.cells #[.string x1] 9)
  have HX := Lib.hid (Blk.new W1 9 #[.string x1])
  replace HB := Lib.hid (Nat.le_trans HB.out hz.size)
  replace HW := Lib.hid (HW.out.trans (hz.mono HW.out.size))
  replace HK := Lib.hid (HK.out.call hz)
  replace c0 := Lib.hid (cell_below c0.out hz)
  replace c1 := Lib.hid (cell_below c1.out hz)
  clear hz
  refine hK.out _ _ (fun _ => ⟨HK.out.blk.cell 0, c1.out⟩) ?_
  clear hK K
  try simp only [Act.put, List.setIfInBounds_toArray, List.set_cons_zero, List.set_cons_succ]
  generalize W1.heap.size = gx at *
  generalize W1.alloc (Obj.cells #[.string x1] 9) = W2 at *
  refine wpAnyC_one (i := 9) (by kernel_rfl) rfl (fun K hK => ?_)
  refine step_appE (by rfl) _ _ appE0 (by rfl) base v0 n.nodes.length (n.nodes.map S) (by kernel_rfl) HK.out.r0 (some ⟨gx, 0, none⟩) 1 1 [.string x1] (by kernel_rfl) (reads_blkE HX.out rfl) (by simp [Value.oneCell']) (by have := HF.out; omega) HB.out ?_
  intro v W3 hr hgr
  obtain ⟨vA, vc, rfl⟩ := hr.val
  have hkk := HK.out.blk.apart HK.out.r0 (by decide) hgr
  have hfc := hkk.frozen 0
  have hcc := hkk.cell 0
  have HR := Lib.hid (HK.out.app0 x1 hr hgr)
  replace HW := Lib.hid ((HW.out.mono HBASE.out).trans (HK.out.r0.belowG hgr HB.out))
  clear hr hgr hkk HK HX
  refine hK.out _ _ (fun h => absurd h (by decide)) ?_
  clear hK K
  try simp only [Act.put, List.setIfInBounds_toArray]
  refine wpAnyC_one (i := 10) (by kernel_rfl) rfl (fun K hK => ?_)
  go_simp
  refine hK.out _ _ (fun h => absurd h (by decide)) ?_
  clear hK K
  try simp only [Act.put, List.setIfInBounds_toArray, List.set_cons_zero, List.set_cons_succ]
  refine wpAnyC_one (i := 11) (by kernel_rfl) rfl (fun K hK => ?_)
  go_simp
  refine hK.out _ _ (fun h => absurd h (by decide)) ?_
  clear hK K
  try simp only [Act.put, List.setIfInBounds_toArray, List.set_cons_zero, List.set_cons_succ]
  refine wpAnyC_one (i := 12) (by kernel_rfl) rfl (fun K hK => ?_)
  go_simp
  refine hK.out _ _ (fun h => absurd h (by decide)) ?_
  clear hK K
  try simp only [Act.put, List.setIfInBounds_toArray, List.set_cons_zero, List.set_cons_succ]
  refine wpAnyC_done (by kernel_rfl) ?_ _
  go_wp2
  go_ret
  exact ⟨rfl, _, HR.out, HW.out.setCell (p := ⟨g, 0, none⟩) HGB.out _⟩
set_option maxRecDepth 100000 in
set_option maxHeartbeats 4000000 in
theorem addSwitch {base g : Nat} {n : NetD} {v0 v1 v2 v3 v4 v5 : Value} (x0 x1 x2 x3 x4 : ByteArray) (A : Option Addr) (c : Nat) (w : World) (hk : NMk w base g n v0 v1 v2 v3 v4 v5) (hl : Reads w w.heap.size 1 A 5 ([x0, x1, x2, x3, x4].map S)) (hb0 : base ≤ w.heap.size) (hf : n.switches.length ≤ 10000) (h0 : x0 = kSwitch) (h4 : x4 = kOpen ∨ x4 = kClosed) :
    Calls Tryz.prog 44 #[.pointer (some ⟨g, 0, none⟩), .slice A 5 c] w fun e w' => e = .returned (.bool true) ∧ ∃ v, NMk w' base g { n with switches := n.switches ++ [⟨x1, x2, x3, false, decide (x4 = kOpen)⟩] } v0 v v2 v3 v4 v5 ∧ Below base w w' := by
  have HF := Lib.hid hf
  have HGB := Lib.hid hk.hb
  clear hf
  obtain ⟨wb, wo, rfl, hwb, hcw⟩ := hl.2 (by decide)
  have c0 := Lib.hid (show w.cell? ⟨wb, wo, none⟩ = some (.string x0) from hcw 0 _ rfl)
  have c1 := Lib.hid (show w.cell? ⟨wb, wo + 1, none⟩ = some (.string x1) from hcw 1 _ rfl)
  have c2 := Lib.hid (show w.cell? ⟨wb, wo + 2, none⟩ = some (.string x2) from hcw 2 _ rfl)
  have c3 := Lib.hid (show w.cell? ⟨wb, wo + 3, none⟩ = some (.string x3) from hcw 3 _ rfl)
  have c4 := Lib.hid (show w.cell? ⟨wb, wo + 4, none⟩ = some (.string x4) from hcw 4 _ rfl)
  clear hcw hl
  have t_x0_node : (x0.toList == [110, 111, 100, 101]) = false := key_f (by rw [h0]; decide)
  have t_x0_switch : (x0.toList == [115, 119, 105, 116, 99, 104]) = true := key_t h0
  have t_x0_breaker : (x0.toList == [98, 114, 101, 97, 107, 101, 114]) = false := key_f (by rw [h0]; decide)
  have h4o : (x4.toList == [111, 112, 101, 110]) = decide (x4 = kOpen) := key_d _ _ rfl
  have h4c : (x4.toList == [99, 108, 111, 115, 101, 100]) = decide (x4 = kClosed) := key_d _ _ rfl
  have HX4 := Lib.hid (show (x4.toList == [111, 112, 101, 110]) = decide (x4 = kOpen) from h4o)
  cases ho : decide (x4 = kOpen) with
  | true =>
    rw [ho] at h4o
    clear h4c
    clear h0 h4 HX4 ho
    go_enter Tryz.func44, Tryz.ntmps44
    have d0 := c0.out
    have d4 := c4.out
    go_upto_region 5 with (fail)
    clear d0 d4
    have hd := below_drawF w
    have HK := Lib.hid hk
    have HB := Lib.hid hb0
    have HB0 := Lib.hid hb0
    have HW := Lib.hid (Below.refl w.heap.size w)
    clear hk hb0
    replace HB := Lib.hid (Nat.le_trans HB.out hd.size)
    replace HW := Lib.hid (HW.out.trans hd)
    replace HK := Lib.hid (HK.out.call hd)
    replace c0 := Lib.hid (cell_below c0.out hd)
    replace c1 := Lib.hid (cell_below c1.out hd)
    replace c2 := Lib.hid (cell_below c2.out hd)
    replace c3 := Lib.hid (cell_below c3.out hd)
    replace c4 := Lib.hid (cell_below c4.out hd)
    clear hd
    have HBASE := Lib.hid HB0.out
    refine wp_region_c (fun w' => w'.cell? ⟨g, 1, none⟩ = some v1 ∧ w'.cell? ⟨wb, wo, none⟩ = some (.string x0) ∧ w'.cell? ⟨wb, wo + 1, none⟩ = some (.string x1) ∧ w'.cell? ⟨wb, wo + 2, none⟩ = some (.string x2) ∧ w'.cell? ⟨wb, wo + 3, none⟩ = some (.string x3) ∧ w'.cell? ⟨wb, wo + 4, none⟩ = some (.string x4)) 24 (by kernel_rfl) ?_
    generalize w.drew = W1 at *
    refine wpAnyC_take8 (i := 1) (oi := _) (v := .pointer (some ⟨g, 0, none⟩)) rfl (by kernel_rfl) (by kernel_rfl) (by kernel_rfl) (by kernel_rfl) (by kernel_rfl) (by kernel_rfl) (fun _ _ _ h => h) (Or.inl ⟨by rfl, ?_⟩) ⟨HK.out.blk.cell 1, c0.out, c1.out, c2.out, c3.out, c4.out⟩ ?_
    · intro w hSw
      obtain ⟨s0, s1, s2, s3, s4, s5⟩ := hSw
      go_simp
    try simp only [Act.put, List.setIfInBounds_toArray]
    refine wpAnyC_take8 (i := 2) (oi := _) (v := .pointer (some ⟨g, 0, none⟩)) rfl (by kernel_rfl) (by kernel_rfl) (by kernel_rfl) (by kernel_rfl) (by kernel_rfl) (by kernel_rfl) (fun _ _ _ h => h) (Or.inl ⟨by rfl, ?_⟩) ⟨HK.out.blk.cell 1, c0.out, c1.out, c2.out, c3.out, c4.out⟩ ?_
    · intro w hSw
      obtain ⟨s0, s1, s2, s3, s4, s5⟩ := hSw
      go_simp
    try simp only [Act.put]
    refine wpAnyC_take8 (i := 3) (oi := _) (v := .pointer (some ⟨g, 1, none⟩)) rfl (by kernel_rfl) (by kernel_rfl) (by kernel_rfl) (by kernel_rfl) (by kernel_rfl) (by kernel_rfl) (fun _ _ _ h => h) (Or.inl ⟨by rfl, ?_⟩) ⟨HK.out.blk.cell 1, c0.out, c1.out, c2.out, c3.out, c4.out⟩ ?_
    · intro w hSw
      obtain ⟨s0, s1, s2, s3, s4, s5⟩ := hSw
      go_simp
    try simp only [Act.put]
    refine wpAnyC_take8 (i := 4) (oi := _) (v := v1) rfl (by kernel_rfl) (by kernel_rfl) (by kernel_rfl) (by kernel_rfl) (by kernel_rfl) (by kernel_rfl) (fun _ _ _ h => h) (Or.inl ⟨by rfl, ?_⟩) ⟨HK.out.blk.cell 1, c0.out, c1.out, c2.out, c3.out, c4.out⟩ ?_
    · intro w hSw
      obtain ⟨s0, s1, s2, s3, s4, s5⟩ := hSw
      go_simp
    try simp only [Act.put]
    refine wpAnyC_take8 (i := 5) (oi := _) (v := .slice (some ⟨wb, wo, none⟩) 5 c) rfl (by kernel_rfl) (by kernel_rfl) (by kernel_rfl) (by kernel_rfl) (by kernel_rfl) (by kernel_rfl) (fun _ _ _ h => h) (Or.inl ⟨by rfl, ?_⟩) ⟨HK.out.blk.cell 1, c0.out, c1.out, c2.out, c3.out, c4.out⟩ ?_
    · intro w hSw
      obtain ⟨s0, s1, s2, s3, s4, s5⟩ := hSw
      go_simp
    try simp only [Act.put]
    refine wpAnyC_take8 (i := 6) (oi := _) (v := .pointer (some ⟨wb, wo + 1, none⟩)) rfl (by kernel_rfl) (by kernel_rfl) (by kernel_rfl) (by kernel_rfl) (by kernel_rfl) (by kernel_rfl) (fun _ _ _ h => h) (Or.inl ⟨by rfl, ?_⟩) ⟨HK.out.blk.cell 1, c0.out, c1.out, c2.out, c3.out, c4.out⟩ ?_
    · intro w hSw
      obtain ⟨s0, s1, s2, s3, s4, s5⟩ := hSw
      go_simp
    try simp only [Act.put]
    refine wpAnyC_take8 (i := 7) (oi := _) (v := .string x1) rfl (by kernel_rfl) (by kernel_rfl) (by kernel_rfl) (by kernel_rfl) (by kernel_rfl) (by kernel_rfl) (fun _ _ _ h => h) (Or.inl ⟨by rfl, ?_⟩) ⟨HK.out.blk.cell 1, c0.out, c1.out, c2.out, c3.out, c4.out⟩ ?_
    · intro w hSw
      obtain ⟨s0, s1, s2, s3, s4, s5⟩ := hSw
      go_simp
    try simp only [Act.put]
    refine wpAnyC_take8 (i := 8) (oi := _) (v := .slice (some ⟨wb, wo, none⟩) 5 c) rfl (by kernel_rfl) (by kernel_rfl) (by kernel_rfl) (by kernel_rfl) (by kernel_rfl) (by kernel_rfl) (fun _ _ _ h => h) (Or.inl ⟨by rfl, ?_⟩) ⟨HK.out.blk.cell 1, c0.out, c1.out, c2.out, c3.out, c4.out⟩ ?_
    · intro w hSw
      obtain ⟨s0, s1, s2, s3, s4, s5⟩ := hSw
      go_simp
    try simp only [Act.put]
    refine wpAnyC_take8 (i := 9) (oi := _) (v := .pointer (some ⟨wb, wo + 2, none⟩)) rfl (by kernel_rfl) (by kernel_rfl) (by kernel_rfl) (by kernel_rfl) (by kernel_rfl) (by kernel_rfl) (fun _ _ _ h => h) (Or.inl ⟨by rfl, ?_⟩) ⟨HK.out.blk.cell 1, c0.out, c1.out, c2.out, c3.out, c4.out⟩ ?_
    · intro w hSw
      obtain ⟨s0, s1, s2, s3, s4, s5⟩ := hSw
      go_simp
    try simp only [Act.put]
    refine wpAnyC_take8 (i := 10) (oi := _) (v := .string x2) rfl (by kernel_rfl) (by kernel_rfl) (by kernel_rfl) (by kernel_rfl) (by kernel_rfl) (by kernel_rfl) (fun _ _ _ h => h) (Or.inl ⟨by rfl, ?_⟩) ⟨HK.out.blk.cell 1, c0.out, c1.out, c2.out, c3.out, c4.out⟩ ?_
    · intro w hSw
      obtain ⟨s0, s1, s2, s3, s4, s5⟩ := hSw
      go_simp
    try simp only [Act.put]
    refine wpAnyC_take8 (i := 11) (oi := _) (v := .slice (some ⟨wb, wo, none⟩) 5 c) rfl (by kernel_rfl) (by kernel_rfl) (by kernel_rfl) (by kernel_rfl) (by kernel_rfl) (by kernel_rfl) (fun _ _ _ h => h) (Or.inl ⟨by rfl, ?_⟩) ⟨HK.out.blk.cell 1, c0.out, c1.out, c2.out, c3.out, c4.out⟩ ?_
    · intro w hSw
      obtain ⟨s0, s1, s2, s3, s4, s5⟩ := hSw
      go_simp
    try simp only [Act.put]
    refine wpAnyC_take8 (i := 12) (oi := _) (v := .pointer (some ⟨wb, wo + 3, none⟩)) rfl (by kernel_rfl) (by kernel_rfl) (by kernel_rfl) (by kernel_rfl) (by kernel_rfl) (by kernel_rfl) (fun _ _ _ h => h) (Or.inl ⟨by rfl, ?_⟩) ⟨HK.out.blk.cell 1, c0.out, c1.out, c2.out, c3.out, c4.out⟩ ?_
    · intro w hSw
      obtain ⟨s0, s1, s2, s3, s4, s5⟩ := hSw
      go_simp
    try simp only [Act.put]
    refine wpAnyC_take8 (i := 13) (oi := _) (v := .string x3) rfl (by kernel_rfl) (by kernel_rfl) (by kernel_rfl) (by kernel_rfl) (by kernel_rfl) (by kernel_rfl) (fun _ _ _ h => h) (Or.inl ⟨by rfl, ?_⟩) ⟨HK.out.blk.cell 1, c0.out, c1.out, c2.out, c3.out, c4.out⟩ ?_
    · intro w hSw
      obtain ⟨s0, s1, s2, s3, s4, s5⟩ := hSw
      go_simp
    try simp only [Act.put]
    refine wpAnyC_take8 (i := 14) (oi := _) (v := .slice (some ⟨wb, wo, none⟩) 5 c) rfl (by kernel_rfl) (by kernel_rfl) (by kernel_rfl) (by kernel_rfl) (by kernel_rfl) (by kernel_rfl) (fun _ _ _ h => h) (Or.inl ⟨by rfl, ?_⟩) ⟨HK.out.blk.cell 1, c0.out, c1.out, c2.out, c3.out, c4.out⟩ ?_
    · intro w hSw
      obtain ⟨s0, s1, s2, s3, s4, s5⟩ := hSw
      go_simp
    try simp only [Act.put]
    refine wpAnyC_take8 (i := 15) (oi := _) (v := .pointer (some ⟨wb, wo, none⟩)) rfl (by kernel_rfl) (by kernel_rfl) (by kernel_rfl) (by kernel_rfl) (by kernel_rfl) (by kernel_rfl) (fun _ _ _ h => h) (Or.inl ⟨by rfl, ?_⟩) ⟨HK.out.blk.cell 1, c0.out, c1.out, c2.out, c3.out, c4.out⟩ ?_
    · intro w hSw
      obtain ⟨s0, s1, s2, s3, s4, s5⟩ := hSw
      go_simp
    try simp only [Act.put]
    refine wpAnyC_take8 (i := 16) (oi := _) (v := .string x0) rfl (by kernel_rfl) (by kernel_rfl) (by kernel_rfl) (by kernel_rfl) (by kernel_rfl) (by kernel_rfl) (fun _ _ _ h => h) (Or.inl ⟨by rfl, ?_⟩) ⟨HK.out.blk.cell 1, c0.out, c1.out, c2.out, c3.out, c4.out⟩ ?_
    · intro w hSw
      obtain ⟨s0, s1, s2, s3, s4, s5⟩ := hSw
      go_simp
    try simp only [Act.put]
    refine wpAnyC_take8 (i := 17) (oi := _) (v := .bool false) rfl (by kernel_rfl) (by kernel_rfl) (by kernel_rfl) (by kernel_rfl) (by kernel_rfl) (by kernel_rfl) (fun _ _ _ h => h) (Or.inl ⟨by rfl, ?_⟩) ⟨HK.out.blk.cell 1, c0.out, c1.out, c2.out, c3.out, c4.out⟩ ?_
    · intro w hSw
      obtain ⟨s0, s1, s2, s3, s4, s5⟩ := hSw
      go_simp
    try simp only [Act.put]
    refine wpAnyC_take8 (i := 18) (oi := _) (v := .slice (some ⟨wb, wo, none⟩) 5 c) rfl (by kernel_rfl) (by kernel_rfl) (by kernel_rfl) (by kernel_rfl) (by kernel_rfl) (by kernel_rfl) (fun _ _ _ h => h) (Or.inl ⟨by rfl, ?_⟩) ⟨HK.out.blk.cell 1, c0.out, c1.out, c2.out, c3.out, c4.out⟩ ?_
    · intro w hSw
      obtain ⟨s0, s1, s2, s3, s4, s5⟩ := hSw
      go_simp
    try simp only [Act.put]
    refine wpAnyC_take8 (i := 19) (oi := _) (v := .pointer (some ⟨wb, wo + 4, none⟩)) rfl (by kernel_rfl) (by kernel_rfl) (by kernel_rfl) (by kernel_rfl) (by kernel_rfl) (by kernel_rfl) (fun _ _ _ h => h) (Or.inl ⟨by rfl, ?_⟩) ⟨HK.out.blk.cell 1, c0.out, c1.out, c2.out, c3.out, c4.out⟩ ?_
    · intro w hSw
      obtain ⟨s0, s1, s2, s3, s4, s5⟩ := hSw
      go_simp
    try simp only [Act.put]
    refine wpAnyC_take8 (i := 20) (oi := _) (v := .string x4) rfl (by kernel_rfl) (by kernel_rfl) (by kernel_rfl) (by kernel_rfl) (by kernel_rfl) (by kernel_rfl) (fun _ _ _ h => h) (Or.inl ⟨by rfl, ?_⟩) ⟨HK.out.blk.cell 1, c0.out, c1.out, c2.out, c3.out, c4.out⟩ ?_
    · intro w hSw
      obtain ⟨s0, s1, s2, s3, s4, s5⟩ := hSw
      go_simp
    try simp only [Act.put]
    refine wpAnyC_take8 (i := 21) (oi := _) (v := .bool true) rfl (by kernel_rfl) (by kernel_rfl) (by kernel_rfl) (by kernel_rfl) (by kernel_rfl) (by kernel_rfl) (fun _ _ _ h => h) (Or.inl ⟨by rfl, ?_⟩) ⟨HK.out.blk.cell 1, c0.out, c1.out, c2.out, c3.out, c4.out⟩ ?_
    · intro w hSw
      obtain ⟨s0, s1, s2, s3, s4, s5⟩ := hSw
      go_simp
    try simp only [Act.put]
    refine wpAnyC_take8 (i := 22) (oi := _) (v := .agg #[.string x1, .string x2, .string x3, .bool false, .bool true]) rfl (by kernel_rfl) (by kernel_rfl) (by kernel_rfl) (by kernel_rfl) (by kernel_rfl) (by kernel_rfl) (fun _ _ _ h => h) (Or.inl ⟨by rfl, ?_⟩) ⟨HK.out.blk.cell 1, c0.out, c1.out, c2.out, c3.out, c4.out⟩ ?_
    · intro w hSw
      obtain ⟨s0, s1, s2, s3, s4, s5⟩ := hSw
      go_simp
    try simp only [Act.put]
    refine wpAnyC_takeP (i := 0) (oi := _) (v := .pointer (some ⟨g, 0, none⟩)) rfl (by kernel_rfl) (by kernel_rfl) (by kernel_rfl) (by kernel_rfl) (fun _ _ _ h => h) (Or.inl ⟨by rfl, ?_⟩) ⟨HK.out.blk.cell 1, c0.out, c1.out, c2.out, c3.out, c4.out⟩ ?_
    · intro w _
      go_simp
    try simp only [Act.put]
    refine wpAnyC_one (i := 23) (by kernel_rfl) rfl (fun K hK => ?_)
    go_simp
    have hz := below_newF W1 (Obj.cells #[.string x1, .string x2, .string x3, .bool false, .bool true] 39)
    have HX := Lib.hid (Blk.new W1 39 #[.string x1, .string x2, .string x3, .bool false, .bool true])
    replace HB := Lib.hid (Nat.le_trans HB.out hz.size)
    replace HW := Lib.hid (HW.out.trans (hz.mono HW.out.size))
    replace HK := Lib.hid (HK.out.call hz)
    replace c0 := Lib.hid (cell_below c0.out hz)
    replace c1 := Lib.hid (cell_below c1.out hz)
    replace c2 := Lib.hid (cell_below c2.out hz)
    replace c3 := Lib.hid (cell_below c3.out hz)
    replace c4 := Lib.hid (cell_below c4.out hz)
    clear hz
    refine hK.out _ _ (fun _ => ⟨HK.out.blk.cell 1, c0.out, c1.out, c2.out, c3.out, c4.out⟩) ?_
    clear hK K
    try simp only [Act.put, List.setIfInBounds_toArray, List.set_cons_zero, List.set_cons_succ]
    generalize W1.heap.size = gx at *
    generalize W1.alloc (Obj.cells #[.string x1, .string x2, .string x3, .bool false, .bool true] 39) = W2 at *
    refine wpAnyC_one (i := 24) (by kernel_rfl) rfl (fun K hK => ?_)
    refine step_appE (by rfl) _ _ appE1 (by rfl) base v1 n.switches.length (cellsBy SwitchD.cells n.switches) (by kernel_rfl) HK.out.r1 (some ⟨gx, 0, none⟩) 1 1 [.string x1, .string x2, .string x3, .bool false, .bool true] (by kernel_rfl) (reads_blkE HX.out rfl) (by simp [Value.oneCell']) (by have := HF.out; omega) HB.out ?_
    intro v W3 hr hgr
    obtain ⟨vA, vc, rfl⟩ := hr.val
    have hkk := HK.out.blk.apart HK.out.r1 (by decide) hgr
    have hfc := hkk.frozen 1
    have hcc := hkk.cell 1
    have HR := Lib.hid (HK.out.app1 ⟨x1, x2, x3, false, true⟩ hr hgr)
    replace HW := Lib.hid ((HW.out.mono HBASE.out).trans (HK.out.r1.belowG hgr HB.out))
    clear hr hgr hkk HK HX
    refine hK.out _ _ (fun h => absurd h (by decide)) ?_
    clear hK K
    try simp only [Act.put, List.setIfInBounds_toArray]
    refine wpAnyC_one (i := 25) (by kernel_rfl) rfl (fun K hK => ?_)
    go_simp
    refine hK.out _ _ (fun h => absurd h (by decide)) ?_
    clear hK K
    try simp only [Act.put, List.setIfInBounds_toArray, List.set_cons_zero, List.set_cons_succ]
    refine wpAnyC_one (i := 26) (by kernel_rfl) rfl (fun K hK => ?_)
    go_simp
    refine hK.out _ _ (fun h => absurd h (by decide)) ?_
    clear hK K
    try simp only [Act.put, List.setIfInBounds_toArray, List.set_cons_zero, List.set_cons_succ]
    refine wpAnyC_one (i := 27) (by kernel_rfl) rfl (fun K hK => ?_)
    go_simp
    refine hK.out _ _ (fun h => absurd h (by decide)) ?_
    clear hK K
    try simp only [Act.put, List.setIfInBounds_toArray, List.set_cons_zero, List.set_cons_succ]
    refine wpAnyC_done (by kernel_rfl) ?_ _
    go_wp2
    go_ret
    exact ⟨rfl, _, HR.out, HW.out.setCell (p := ⟨g, 1, none⟩) HGB.out _⟩
  | false =>
    rw [ho] at h4o
    rw [show decide (x4 = kClosed) = true from decide_eq_true (h4.resolve_left (of_decide_eq_false ho))] at h4c
    clear h0 h4 HX4 ho
    go_enter Tryz.func44, Tryz.ntmps44
    have d0 := c0.out
    have d4 := c4.out
    go_upto_region 5 with (fail)
    clear d0 d4
    have hd := below_drawF w
    have HK := Lib.hid hk
    have HB := Lib.hid hb0
    have HB0 := Lib.hid hb0
    have HW := Lib.hid (Below.refl w.heap.size w)
    clear hk hb0
    replace HB := Lib.hid (Nat.le_trans HB.out hd.size)
    replace HW := Lib.hid (HW.out.trans hd)
    replace HK := Lib.hid (HK.out.call hd)
    replace c0 := Lib.hid (cell_below c0.out hd)
    replace c1 := Lib.hid (cell_below c1.out hd)
    replace c2 := Lib.hid (cell_below c2.out hd)
    replace c3 := Lib.hid (cell_below c3.out hd)
    replace c4 := Lib.hid (cell_below c4.out hd)
    clear hd
    have HBASE := Lib.hid HB0.out
    refine wp_region_c (fun w' => w'.cell? ⟨g, 1, none⟩ = some v1 ∧ w'.cell? ⟨wb, wo, none⟩ = some (.string x0) ∧ w'.cell? ⟨wb, wo + 1, none⟩ = some (.string x1) ∧ w'.cell? ⟨wb, wo + 2, none⟩ = some (.string x2) ∧ w'.cell? ⟨wb, wo + 3, none⟩ = some (.string x3) ∧ w'.cell? ⟨wb, wo + 4, none⟩ = some (.string x4)) 24 (by kernel_rfl) ?_
    generalize w.drew = W1 at *
    refine wpAnyC_take8 (i := 1) (oi := _) (v := .pointer (some ⟨g, 0, none⟩)) rfl (by kernel_rfl) (by kernel_rfl) (by kernel_rfl) (by kernel_rfl) (by kernel_rfl) (by kernel_rfl) (fun _ _ _ h => h) (Or.inl ⟨by rfl, ?_⟩) ⟨HK.out.blk.cell 1, c0.out, c1.out, c2.out, c3.out, c4.out⟩ ?_
    · intro w hSw
      obtain ⟨s0, s1, s2, s3, s4, s5⟩ := hSw
      go_simp
    try simp only [Act.put, List.setIfInBounds_toArray]
    refine wpAnyC_take8 (i := 2) (oi := _) (v := .pointer (some ⟨g, 0, none⟩)) rfl (by kernel_rfl) (by kernel_rfl) (by kernel_rfl) (by kernel_rfl) (by kernel_rfl) (by kernel_rfl) (fun _ _ _ h => h) (Or.inl ⟨by rfl, ?_⟩) ⟨HK.out.blk.cell 1, c0.out, c1.out, c2.out, c3.out, c4.out⟩ ?_
    · intro w hSw
      obtain ⟨s0, s1, s2, s3, s4, s5⟩ := hSw
      go_simp
    try simp only [Act.put]
    refine wpAnyC_take8 (i := 3) (oi := _) (v := .pointer (some ⟨g, 1, none⟩)) rfl (by kernel_rfl) (by kernel_rfl) (by kernel_rfl) (by kernel_rfl) (by kernel_rfl) (by kernel_rfl) (fun _ _ _ h => h) (Or.inl ⟨by rfl, ?_⟩) ⟨HK.out.blk.cell 1, c0.out, c1.out, c2.out, c3.out, c4.out⟩ ?_
    · intro w hSw
      obtain ⟨s0, s1, s2, s3, s4, s5⟩ := hSw
      go_simp
    try simp only [Act.put]
    refine wpAnyC_take8 (i := 4) (oi := _) (v := v1) rfl (by kernel_rfl) (by kernel_rfl) (by kernel_rfl) (by kernel_rfl) (by kernel_rfl) (by kernel_rfl) (fun _ _ _ h => h) (Or.inl ⟨by rfl, ?_⟩) ⟨HK.out.blk.cell 1, c0.out, c1.out, c2.out, c3.out, c4.out⟩ ?_
    · intro w hSw
      obtain ⟨s0, s1, s2, s3, s4, s5⟩ := hSw
      go_simp
    try simp only [Act.put]
    refine wpAnyC_take8 (i := 5) (oi := _) (v := .slice (some ⟨wb, wo, none⟩) 5 c) rfl (by kernel_rfl) (by kernel_rfl) (by kernel_rfl) (by kernel_rfl) (by kernel_rfl) (by kernel_rfl) (fun _ _ _ h => h) (Or.inl ⟨by rfl, ?_⟩) ⟨HK.out.blk.cell 1, c0.out, c1.out, c2.out, c3.out, c4.out⟩ ?_
    · intro w hSw
      obtain ⟨s0, s1, s2, s3, s4, s5⟩ := hSw
      go_simp
    try simp only [Act.put]
    refine wpAnyC_take8 (i := 6) (oi := _) (v := .pointer (some ⟨wb, wo + 1, none⟩)) rfl (by kernel_rfl) (by kernel_rfl) (by kernel_rfl) (by kernel_rfl) (by kernel_rfl) (by kernel_rfl) (fun _ _ _ h => h) (Or.inl ⟨by rfl, ?_⟩) ⟨HK.out.blk.cell 1, c0.out, c1.out, c2.out, c3.out, c4.out⟩ ?_
    · intro w hSw
      obtain ⟨s0, s1, s2, s3, s4, s5⟩ := hSw
      go_simp
    try simp only [Act.put]
    refine wpAnyC_take8 (i := 7) (oi := _) (v := .string x1) rfl (by kernel_rfl) (by kernel_rfl) (by kernel_rfl) (by kernel_rfl) (by kernel_rfl) (by kernel_rfl) (fun _ _ _ h => h) (Or.inl ⟨by rfl, ?_⟩) ⟨HK.out.blk.cell 1, c0.out, c1.out, c2.out, c3.out, c4.out⟩ ?_
    · intro w hSw
      obtain ⟨s0, s1, s2, s3, s4, s5⟩ := hSw
      go_simp
    try simp only [Act.put]
    refine wpAnyC_take8 (i := 8) (oi := _) (v := .slice (some ⟨wb, wo, none⟩) 5 c) rfl (by kernel_rfl) (by kernel_rfl) (by kernel_rfl) (by kernel_rfl) (by kernel_rfl) (by kernel_rfl) (fun _ _ _ h => h) (Or.inl ⟨by rfl, ?_⟩) ⟨HK.out.blk.cell 1, c0.out, c1.out, c2.out, c3.out, c4.out⟩ ?_
    · intro w hSw
      obtain ⟨s0, s1, s2, s3, s4, s5⟩ := hSw
      go_simp
    try simp only [Act.put]
    refine wpAnyC_take8 (i := 9) (oi := _) (v := .pointer (some ⟨wb, wo + 2, none⟩)) rfl (by kernel_rfl) (by kernel_rfl) (by kernel_rfl) (by kernel_rfl) (by kernel_rfl) (by kernel_rfl) (fun _ _ _ h => h) (Or.inl ⟨by rfl, ?_⟩) ⟨HK.out.blk.cell 1, c0.out, c1.out, c2.out, c3.out, c4.out⟩ ?_
    · intro w hSw
      obtain ⟨s0, s1, s2, s3, s4, s5⟩ := hSw
      go_simp
    try simp only [Act.put]
    refine wpAnyC_take8 (i := 10) (oi := _) (v := .string x2) rfl (by kernel_rfl) (by kernel_rfl) (by kernel_rfl) (by kernel_rfl) (by kernel_rfl) (by kernel_rfl) (fun _ _ _ h => h) (Or.inl ⟨by rfl, ?_⟩) ⟨HK.out.blk.cell 1, c0.out, c1.out, c2.out, c3.out, c4.out⟩ ?_
    · intro w hSw
      obtain ⟨s0, s1, s2, s3, s4, s5⟩ := hSw
      go_simp
    try simp only [Act.put]
    refine wpAnyC_take8 (i := 11) (oi := _) (v := .slice (some ⟨wb, wo, none⟩) 5 c) rfl (by kernel_rfl) (by kernel_rfl) (by kernel_rfl) (by kernel_rfl) (by kernel_rfl) (by kernel_rfl) (fun _ _ _ h => h) (Or.inl ⟨by rfl, ?_⟩) ⟨HK.out.blk.cell 1, c0.out, c1.out, c2.out, c3.out, c4.out⟩ ?_
    · intro w hSw
      obtain ⟨s0, s1, s2, s3, s4, s5⟩ := hSw
      go_simp
    try simp only [Act.put]
    refine wpAnyC_take8 (i := 12) (oi := _) (v := .pointer (some ⟨wb, wo + 3, none⟩)) rfl (by kernel_rfl) (by kernel_rfl) (by kernel_rfl) (by kernel_rfl) (by kernel_rfl) (by kernel_rfl) (fun _ _ _ h => h) (Or.inl ⟨by rfl, ?_⟩) ⟨HK.out.blk.cell 1, c0.out, c1.out, c2.out, c3.out, c4.out⟩ ?_
    · intro w hSw
      obtain ⟨s0, s1, s2, s3, s4, s5⟩ := hSw
      go_simp
    try simp only [Act.put]
    refine wpAnyC_take8 (i := 13) (oi := _) (v := .string x3) rfl (by kernel_rfl) (by kernel_rfl) (by kernel_rfl) (by kernel_rfl) (by kernel_rfl) (by kernel_rfl) (fun _ _ _ h => h) (Or.inl ⟨by rfl, ?_⟩) ⟨HK.out.blk.cell 1, c0.out, c1.out, c2.out, c3.out, c4.out⟩ ?_
    · intro w hSw
      obtain ⟨s0, s1, s2, s3, s4, s5⟩ := hSw
      go_simp
    try simp only [Act.put]
    refine wpAnyC_take8 (i := 14) (oi := _) (v := .slice (some ⟨wb, wo, none⟩) 5 c) rfl (by kernel_rfl) (by kernel_rfl) (by kernel_rfl) (by kernel_rfl) (by kernel_rfl) (by kernel_rfl) (fun _ _ _ h => h) (Or.inl ⟨by rfl, ?_⟩) ⟨HK.out.blk.cell 1, c0.out, c1.out, c2.out, c3.out, c4.out⟩ ?_
    · intro w hSw
      obtain ⟨s0, s1, s2, s3, s4, s5⟩ := hSw
      go_simp
    try simp only [Act.put]
    refine wpAnyC_take8 (i := 15) (oi := _) (v := .pointer (some ⟨wb, wo, none⟩)) rfl (by kernel_rfl) (by kernel_rfl) (by kernel_rfl) (by kernel_rfl) (by kernel_rfl) (by kernel_rfl) (fun _ _ _ h => h) (Or.inl ⟨by rfl, ?_⟩) ⟨HK.out.blk.cell 1, c0.out, c1.out, c2.out, c3.out, c4.out⟩ ?_
    · intro w hSw
      obtain ⟨s0, s1, s2, s3, s4, s5⟩ := hSw
      go_simp
    try simp only [Act.put]
    refine wpAnyC_take8 (i := 16) (oi := _) (v := .string x0) rfl (by kernel_rfl) (by kernel_rfl) (by kernel_rfl) (by kernel_rfl) (by kernel_rfl) (by kernel_rfl) (fun _ _ _ h => h) (Or.inl ⟨by rfl, ?_⟩) ⟨HK.out.blk.cell 1, c0.out, c1.out, c2.out, c3.out, c4.out⟩ ?_
    · intro w hSw
      obtain ⟨s0, s1, s2, s3, s4, s5⟩ := hSw
      go_simp
    try simp only [Act.put]
    refine wpAnyC_take8 (i := 17) (oi := _) (v := .bool false) rfl (by kernel_rfl) (by kernel_rfl) (by kernel_rfl) (by kernel_rfl) (by kernel_rfl) (by kernel_rfl) (fun _ _ _ h => h) (Or.inl ⟨by rfl, ?_⟩) ⟨HK.out.blk.cell 1, c0.out, c1.out, c2.out, c3.out, c4.out⟩ ?_
    · intro w hSw
      obtain ⟨s0, s1, s2, s3, s4, s5⟩ := hSw
      go_simp
    try simp only [Act.put]
    refine wpAnyC_take8 (i := 18) (oi := _) (v := .slice (some ⟨wb, wo, none⟩) 5 c) rfl (by kernel_rfl) (by kernel_rfl) (by kernel_rfl) (by kernel_rfl) (by kernel_rfl) (by kernel_rfl) (fun _ _ _ h => h) (Or.inl ⟨by rfl, ?_⟩) ⟨HK.out.blk.cell 1, c0.out, c1.out, c2.out, c3.out, c4.out⟩ ?_
    · intro w hSw
      obtain ⟨s0, s1, s2, s3, s4, s5⟩ := hSw
      go_simp
    try simp only [Act.put]
    refine wpAnyC_take8 (i := 19) (oi := _) (v := .pointer (some ⟨wb, wo + 4, none⟩)) rfl (by kernel_rfl) (by kernel_rfl) (by kernel_rfl) (by kernel_rfl) (by kernel_rfl) (by kernel_rfl) (fun _ _ _ h => h) (Or.inl ⟨by rfl, ?_⟩) ⟨HK.out.blk.cell 1, c0.out, c1.out, c2.out, c3.out, c4.out⟩ ?_
    · intro w hSw
      obtain ⟨s0, s1, s2, s3, s4, s5⟩ := hSw
      go_simp
    try simp only [Act.put]
    refine wpAnyC_take8 (i := 20) (oi := _) (v := .string x4) rfl (by kernel_rfl) (by kernel_rfl) (by kernel_rfl) (by kernel_rfl) (by kernel_rfl) (by kernel_rfl) (fun _ _ _ h => h) (Or.inl ⟨by rfl, ?_⟩) ⟨HK.out.blk.cell 1, c0.out, c1.out, c2.out, c3.out, c4.out⟩ ?_
    · intro w hSw
      obtain ⟨s0, s1, s2, s3, s4, s5⟩ := hSw
      go_simp
    try simp only [Act.put]
    refine wpAnyC_take8 (i := 21) (oi := _) (v := .bool false) rfl (by kernel_rfl) (by kernel_rfl) (by kernel_rfl) (by kernel_rfl) (by kernel_rfl) (by kernel_rfl) (fun _ _ _ h => h) (Or.inl ⟨by rfl, ?_⟩) ⟨HK.out.blk.cell 1, c0.out, c1.out, c2.out, c3.out, c4.out⟩ ?_
    · intro w hSw
      obtain ⟨s0, s1, s2, s3, s4, s5⟩ := hSw
      go_simp
    try simp only [Act.put]
    refine wpAnyC_take8 (i := 22) (oi := _) (v := .agg #[.string x1, .string x2, .string x3, .bool false, .bool false]) rfl (by kernel_rfl) (by kernel_rfl) (by kernel_rfl) (by kernel_rfl) (by kernel_rfl) (by kernel_rfl) (fun _ _ _ h => h) (Or.inl ⟨by rfl, ?_⟩) ⟨HK.out.blk.cell 1, c0.out, c1.out, c2.out, c3.out, c4.out⟩ ?_
    · intro w hSw
      obtain ⟨s0, s1, s2, s3, s4, s5⟩ := hSw
      go_simp
    try simp only [Act.put]
    refine wpAnyC_takeP (i := 0) (oi := _) (v := .pointer (some ⟨g, 0, none⟩)) rfl (by kernel_rfl) (by kernel_rfl) (by kernel_rfl) (by kernel_rfl) (fun _ _ _ h => h) (Or.inl ⟨by rfl, ?_⟩) ⟨HK.out.blk.cell 1, c0.out, c1.out, c2.out, c3.out, c4.out⟩ ?_
    · intro w _
      go_simp
    try simp only [Act.put]
    refine wpAnyC_one (i := 23) (by kernel_rfl) rfl (fun K hK => ?_)
    go_simp
    have hz := below_newF W1 (Obj.cells #[.string x1, .string x2, .string x3, .bool false, .bool false] 39)
    have HX := Lib.hid (Blk.new W1 39 #[.string x1, .string x2, .string x3, .bool false, .bool false])
    replace HB := Lib.hid (Nat.le_trans HB.out hz.size)
    replace HW := Lib.hid (HW.out.trans (hz.mono HW.out.size))
    replace HK := Lib.hid (HK.out.call hz)
    replace c0 := Lib.hid (cell_below c0.out hz)
    replace c1 := Lib.hid (cell_below c1.out hz)
    replace c2 := Lib.hid (cell_below c2.out hz)
    replace c3 := Lib.hid (cell_below c3.out hz)
    replace c4 := Lib.hid (cell_below c4.out hz)
    clear hz
    refine hK.out _ _ (fun _ => ⟨HK.out.blk.cell 1, c0.out, c1.out, c2.out, c3.out, c4.out⟩) ?_
    clear hK K
    try simp only [Act.put, List.setIfInBounds_toArray, List.set_cons_zero, List.set_cons_succ]
    generalize W1.heap.size = gx at *
    generalize W1.alloc (Obj.cells #[.string x1, .string x2, .string x3, .bool false, .bool false] 39) = W2 at *
    refine wpAnyC_one (i := 24) (by kernel_rfl) rfl (fun K hK => ?_)
    refine step_appE (by rfl) _ _ appE1 (by rfl) base v1 n.switches.length (cellsBy SwitchD.cells n.switches) (by kernel_rfl) HK.out.r1 (some ⟨gx, 0, none⟩) 1 1 [.string x1, .string x2, .string x3, .bool false, .bool false] (by kernel_rfl) (reads_blkE HX.out rfl) (by simp [Value.oneCell']) (by have := HF.out; omega) HB.out ?_
    intro v W3 hr hgr
    obtain ⟨vA, vc, rfl⟩ := hr.val
    have hkk := HK.out.blk.apart HK.out.r1 (by decide) hgr
    have hfc := hkk.frozen 1
    have hcc := hkk.cell 1
    have HR := Lib.hid (HK.out.app1 ⟨x1, x2, x3, false, false⟩ hr hgr)
    replace HW := Lib.hid ((HW.out.mono HBASE.out).trans (HK.out.r1.belowG hgr HB.out))
    clear hr hgr hkk HK HX
    refine hK.out _ _ (fun h => absurd h (by decide)) ?_
    clear hK K
    try simp only [Act.put, List.setIfInBounds_toArray]
    refine wpAnyC_one (i := 25) (by kernel_rfl) rfl (fun K hK => ?_)
    go_simp
    refine hK.out _ _ (fun h => absurd h (by decide)) ?_
    clear hK K
    try simp only [Act.put, List.setIfInBounds_toArray, List.set_cons_zero, List.set_cons_succ]
    refine wpAnyC_one (i := 26) (by kernel_rfl) rfl (fun K hK => ?_)
    go_simp
    refine hK.out _ _ (fun h => absurd h (by decide)) ?_
    clear hK K
    try simp only [Act.put, List.setIfInBounds_toArray, List.set_cons_zero, List.set_cons_succ]
    refine wpAnyC_one (i := 27) (by kernel_rfl) rfl (fun K hK => ?_)
    go_simp
    refine hK.out _ _ (fun h => absurd h (by decide)) ?_
    clear hK K
    try simp only [Act.put, List.setIfInBounds_toArray, List.set_cons_zero, List.set_cons_succ]
    refine wpAnyC_done (by kernel_rfl) ?_ _
    go_wp2
    go_ret
    exact ⟨rfl, _, HR.out, HW.out.setCell (p := ⟨g, 1, none⟩) HGB.out _⟩
set_option maxRecDepth 100000 in
set_option maxHeartbeats 4000000 in
theorem addBreaker {base g : Nat} {n : NetD} {v0 v1 v2 v3 v4 v5 : Value} (x0 x1 x2 x3 x4 : ByteArray) (A : Option Addr) (c : Nat) (w : World) (hk : NMk w base g n v0 v1 v2 v3 v4 v5) (hl : Reads w w.heap.size 1 A 5 ([x0, x1, x2, x3, x4].map S)) (hb0 : base ≤ w.heap.size) (hf : n.switches.length ≤ 10000) (h0 : x0 = kBreaker) (h4 : x4 = kOpen ∨ x4 = kClosed) :
    Calls Tryz.prog 44 #[.pointer (some ⟨g, 0, none⟩), .slice A 5 c] w fun e w' => e = .returned (.bool true) ∧ ∃ v, NMk w' base g { n with switches := n.switches ++ [⟨x1, x2, x3, true, decide (x4 = kOpen)⟩] } v0 v v2 v3 v4 v5 ∧ Below base w w' := by
  have HF := Lib.hid hf
  have HGB := Lib.hid hk.hb
  clear hf
  obtain ⟨wb, wo, rfl, hwb, hcw⟩ := hl.2 (by decide)
  have c0 := Lib.hid (show w.cell? ⟨wb, wo, none⟩ = some (.string x0) from hcw 0 _ rfl)
  have c1 := Lib.hid (show w.cell? ⟨wb, wo + 1, none⟩ = some (.string x1) from hcw 1 _ rfl)
  have c2 := Lib.hid (show w.cell? ⟨wb, wo + 2, none⟩ = some (.string x2) from hcw 2 _ rfl)
  have c3 := Lib.hid (show w.cell? ⟨wb, wo + 3, none⟩ = some (.string x3) from hcw 3 _ rfl)
  have c4 := Lib.hid (show w.cell? ⟨wb, wo + 4, none⟩ = some (.string x4) from hcw 4 _ rfl)
  clear hcw hl
  have t_x0_node : (x0.toList == [110, 111, 100, 101]) = false := key_f (by rw [h0]; decide)
  have t_x0_switch : (x0.toList == [115, 119, 105, 116, 99, 104]) = false := key_f (by rw [h0]; decide)
  have t_x0_breaker : (x0.toList == [98, 114, 101, 97, 107, 101, 114]) = true := key_t h0
  have h4o : (x4.toList == [111, 112, 101, 110]) = decide (x4 = kOpen) := key_d _ _ rfl
  have h4c : (x4.toList == [99, 108, 111, 115, 101, 100]) = decide (x4 = kClosed) := key_d _ _ rfl
  have HX4 := Lib.hid (show (x4.toList == [111, 112, 101, 110]) = decide (x4 = kOpen) from h4o)
  cases ho : decide (x4 = kOpen) with
  | true =>
    rw [ho] at h4o
    clear h4c
    clear h0 h4 HX4 ho
    go_enter Tryz.func44, Tryz.ntmps44
    have d0 := c0.out
    have d4 := c4.out
    go_upto_region 5 with (fail)
    clear d0 d4
    have hd := below_drawF w
    have HK := Lib.hid hk
    have HB := Lib.hid hb0
    have HB0 := Lib.hid hb0
    have HW := Lib.hid (Below.refl w.heap.size w)
    clear hk hb0
    replace HB := Lib.hid (Nat.le_trans HB.out hd.size)
    replace HW := Lib.hid (HW.out.trans hd)
    replace HK := Lib.hid (HK.out.call hd)
    replace c0 := Lib.hid (cell_below c0.out hd)
    replace c1 := Lib.hid (cell_below c1.out hd)
    replace c2 := Lib.hid (cell_below c2.out hd)
    replace c3 := Lib.hid (cell_below c3.out hd)
    replace c4 := Lib.hid (cell_below c4.out hd)
    clear hd
    have HBASE := Lib.hid HB0.out
    refine wp_region_c (fun w' => w'.cell? ⟨g, 1, none⟩ = some v1 ∧ w'.cell? ⟨wb, wo, none⟩ = some (.string x0) ∧ w'.cell? ⟨wb, wo + 1, none⟩ = some (.string x1) ∧ w'.cell? ⟨wb, wo + 2, none⟩ = some (.string x2) ∧ w'.cell? ⟨wb, wo + 3, none⟩ = some (.string x3) ∧ w'.cell? ⟨wb, wo + 4, none⟩ = some (.string x4)) 24 (by kernel_rfl) ?_
    generalize w.drew = W1 at *
    refine wpAnyC_take8 (i := 1) (oi := _) (v := .pointer (some ⟨g, 0, none⟩)) rfl (by kernel_rfl) (by kernel_rfl) (by kernel_rfl) (by kernel_rfl) (by kernel_rfl) (by kernel_rfl) (fun _ _ _ h => h) (Or.inl ⟨by rfl, ?_⟩) ⟨HK.out.blk.cell 1, c0.out, c1.out, c2.out, c3.out, c4.out⟩ ?_
    · intro w hSw
      obtain ⟨s0, s1, s2, s3, s4, s5⟩ := hSw
      go_simp
    try simp only [Act.put, List.setIfInBounds_toArray]
    refine wpAnyC_take8 (i := 2) (oi := _) (v := .pointer (some ⟨g, 0, none⟩)) rfl (by kernel_rfl) (by kernel_rfl) (by kernel_rfl) (by kernel_rfl) (by kernel_rfl) (by kernel_rfl) (fun _ _ _ h => h) (Or.inl ⟨by rfl, ?_⟩) ⟨HK.out.blk.cell 1, c0.out, c1.out, c2.out, c3.out, c4.out⟩ ?_
    · intro w hSw
      obtain ⟨s0, s1, s2, s3, s4, s5⟩ := hSw
      go_simp
    try simp only [Act.put]
    refine wpAnyC_take8 (i := 3) (oi := _) (v := .pointer (some ⟨g, 1, none⟩)) rfl (by kernel_rfl) (by kernel_rfl) (by kernel_rfl) (by kernel_rfl) (by kernel_rfl) (by kernel_rfl) (fun _ _ _ h => h) (Or.inl ⟨by rfl, ?_⟩) ⟨HK.out.blk.cell 1, c0.out, c1.out, c2.out, c3.out, c4.out⟩ ?_
    · intro w hSw
      obtain ⟨s0, s1, s2, s3, s4, s5⟩ := hSw
      go_simp
    try simp only [Act.put]
    refine wpAnyC_take8 (i := 4) (oi := _) (v := v1) rfl (by kernel_rfl) (by kernel_rfl) (by kernel_rfl) (by kernel_rfl) (by kernel_rfl) (by kernel_rfl) (fun _ _ _ h => h) (Or.inl ⟨by rfl, ?_⟩) ⟨HK.out.blk.cell 1, c0.out, c1.out, c2.out, c3.out, c4.out⟩ ?_
    · intro w hSw
      obtain ⟨s0, s1, s2, s3, s4, s5⟩ := hSw
      go_simp
    try simp only [Act.put]
    refine wpAnyC_take8 (i := 5) (oi := _) (v := .slice (some ⟨wb, wo, none⟩) 5 c) rfl (by kernel_rfl) (by kernel_rfl) (by kernel_rfl) (by kernel_rfl) (by kernel_rfl) (by kernel_rfl) (fun _ _ _ h => h) (Or.inl ⟨by rfl, ?_⟩) ⟨HK.out.blk.cell 1, c0.out, c1.out, c2.out, c3.out, c4.out⟩ ?_
    · intro w hSw
      obtain ⟨s0, s1, s2, s3, s4, s5⟩ := hSw
      go_simp
    try simp only [Act.put]
    refine wpAnyC_take8 (i := 6) (oi := _) (v := .pointer (some ⟨wb, wo + 1, none⟩)) rfl (by kernel_rfl) (by kernel_rfl) (by kernel_rfl) (by kernel_rfl) (by kernel_rfl) (by kernel_rfl) (fun _ _ _ h => h) (Or.inl ⟨by rfl, ?_⟩) ⟨HK.out.blk.cell 1, c0.out, c1.out, c2.out, c3.out, c4.out⟩ ?_
    · intro w hSw
      obtain ⟨s0, s1, s2, s3, s4, s5⟩ := hSw
      go_simp
    try simp only [Act.put]
    refine wpAnyC_take8 (i := 7) (oi := _) (v := .string x1) rfl (by kernel_rfl) (by kernel_rfl) (by kernel_rfl) (by kernel_rfl) (by kernel_rfl) (by kernel_rfl) (fun _ _ _ h => h) (Or.inl ⟨by rfl, ?_⟩) ⟨HK.out.blk.cell 1, c0.out, c1.out, c2.out, c3.out, c4.out⟩ ?_
    · intro w hSw
      obtain ⟨s0, s1, s2, s3, s4, s5⟩ := hSw
      go_simp
    try simp only [Act.put]
    refine wpAnyC_take8 (i := 8) (oi := _) (v := .slice (some ⟨wb, wo, none⟩) 5 c) rfl (by kernel_rfl) (by kernel_rfl) (by kernel_rfl) (by kernel_rfl) (by kernel_rfl) (by kernel_rfl) (fun _ _ _ h => h) (Or.inl ⟨by rfl, ?_⟩) ⟨HK.out.blk.cell 1, c0.out, c1.out, c2.out, c3.out, c4.out⟩ ?_
    · intro w hSw
      obtain ⟨s0, s1, s2, s3, s4, s5⟩ := hSw
      go_simp
    try simp only [Act.put]
    refine wpAnyC_take8 (i := 9) (oi := _) (v := .pointer (some ⟨wb, wo + 2, none⟩)) rfl (by kernel_rfl) (by kernel_rfl) (by kernel_rfl) (by kernel_rfl) (by kernel_rfl) (by kernel_rfl) (fun _ _ _ h => h) (Or.inl ⟨by rfl, ?_⟩) ⟨HK.out.blk.cell 1, c0.out, c1.out, c2.out, c3.out, c4.out⟩ ?_
    · intro w hSw
      obtain ⟨s0, s1, s2, s3, s4, s5⟩ := hSw
      go_simp
    try simp only [Act.put]
    refine wpAnyC_take8 (i := 10) (oi := _) (v := .string x2) rfl (by kernel_rfl) (by kernel_rfl) (by kernel_rfl) (by kernel_rfl) (by kernel_rfl) (by kernel_rfl) (fun _ _ _ h => h) (Or.inl ⟨by rfl, ?_⟩) ⟨HK.out.blk.cell 1, c0.out, c1.out, c2.out, c3.out, c4.out⟩ ?_
    · intro w hSw
      obtain ⟨s0, s1, s2, s3, s4, s5⟩ := hSw
      go_simp
    try simp only [Act.put]
    refine wpAnyC_take8 (i := 11) (oi := _) (v := .slice (some ⟨wb, wo, none⟩) 5 c) rfl (by kernel_rfl) (by kernel_rfl) (by kernel_rfl) (by kernel_rfl) (by kernel_rfl) (by kernel_rfl) (fun _ _ _ h => h) (Or.inl ⟨by rfl, ?_⟩) ⟨HK.out.blk.cell 1, c0.out, c1.out, c2.out, c3.out, c4.out⟩ ?_
    · intro w hSw
      obtain ⟨s0, s1, s2, s3, s4, s5⟩ := hSw
      go_simp
    try simp only [Act.put]
    refine wpAnyC_take8 (i := 12) (oi := _) (v := .pointer (some ⟨wb, wo + 3, none⟩)) rfl (by kernel_rfl) (by kernel_rfl) (by kernel_rfl) (by kernel_rfl) (by kernel_rfl) (by kernel_rfl) (fun _ _ _ h => h) (Or.inl ⟨by rfl, ?_⟩) ⟨HK.out.blk.cell 1, c0.out, c1.out, c2.out, c3.out, c4.out⟩ ?_
    · intro w hSw
      obtain ⟨s0, s1, s2, s3, s4, s5⟩ := hSw
      go_simp
    try simp only [Act.put]
    refine wpAnyC_take8 (i := 13) (oi := _) (v := .string x3) rfl (by kernel_rfl) (by kernel_rfl) (by kernel_rfl) (by kernel_rfl) (by kernel_rfl) (by kernel_rfl) (fun _ _ _ h => h) (Or.inl ⟨by rfl, ?_⟩) ⟨HK.out.blk.cell 1, c0.out, c1.out, c2.out, c3.out, c4.out⟩ ?_
    · intro w hSw
      obtain ⟨s0, s1, s2, s3, s4, s5⟩ := hSw
      go_simp
    try simp only [Act.put]
    refine wpAnyC_take8 (i := 14) (oi := _) (v := .slice (some ⟨wb, wo, none⟩) 5 c) rfl (by kernel_rfl) (by kernel_rfl) (by kernel_rfl) (by kernel_rfl) (by kernel_rfl) (by kernel_rfl) (fun _ _ _ h => h) (Or.inl ⟨by rfl, ?_⟩) ⟨HK.out.blk.cell 1, c0.out, c1.out, c2.out, c3.out, c4.out⟩ ?_
    · intro w hSw
      obtain ⟨s0, s1, s2, s3, s4, s5⟩ := hSw
      go_simp
    try simp only [Act.put]
    refine wpAnyC_take8 (i := 15) (oi := _) (v := .pointer (some ⟨wb, wo, none⟩)) rfl (by kernel_rfl) (by kernel_rfl) (by kernel_rfl) (by kernel_rfl) (by kernel_rfl) (by kernel_rfl) (fun _ _ _ h => h) (Or.inl ⟨by rfl, ?_⟩) ⟨HK.out.blk.cell 1, c0.out, c1.out, c2.out, c3.out, c4.out⟩ ?_
    · intro w hSw
      obtain ⟨s0, s1, s2, s3, s4, s5⟩ := hSw
      go_simp
    try simp only [Act.put]
    refine wpAnyC_take8 (i := 16) (oi := _) (v := .string x0) rfl (by kernel_rfl) (by kernel_rfl) (by kernel_rfl) (by kernel_rfl) (by kernel_rfl) (by kernel_rfl) (fun _ _ _ h => h) (Or.inl ⟨by rfl, ?_⟩) ⟨HK.out.blk.cell 1, c0.out, c1.out, c2.out, c3.out, c4.out⟩ ?_
    · intro w hSw
      obtain ⟨s0, s1, s2, s3, s4, s5⟩ := hSw
      go_simp
    try simp only [Act.put]
    refine wpAnyC_take8 (i := 17) (oi := _) (v := .bool true) rfl (by kernel_rfl) (by kernel_rfl) (by kernel_rfl) (by kernel_rfl) (by kernel_rfl) (by kernel_rfl) (fun _ _ _ h => h) (Or.inl ⟨by rfl, ?_⟩) ⟨HK.out.blk.cell 1, c0.out, c1.out, c2.out, c3.out, c4.out⟩ ?_
    · intro w hSw
      obtain ⟨s0, s1, s2, s3, s4, s5⟩ := hSw
      go_simp
    try simp only [Act.put]
    refine wpAnyC_take8 (i := 18) (oi := _) (v := .slice (some ⟨wb, wo, none⟩) 5 c) rfl (by kernel_rfl) (by kernel_rfl) (by kernel_rfl) (by kernel_rfl) (by kernel_rfl) (by kernel_rfl) (fun _ _ _ h => h) (Or.inl ⟨by rfl, ?_⟩) ⟨HK.out.blk.cell 1, c0.out, c1.out, c2.out, c3.out, c4.out⟩ ?_
    · intro w hSw
      obtain ⟨s0, s1, s2, s3, s4, s5⟩ := hSw
      go_simp
    try simp only [Act.put]
    refine wpAnyC_take8 (i := 19) (oi := _) (v := .pointer (some ⟨wb, wo + 4, none⟩)) rfl (by kernel_rfl) (by kernel_rfl) (by kernel_rfl) (by kernel_rfl) (by kernel_rfl) (by kernel_rfl) (fun _ _ _ h => h) (Or.inl ⟨by rfl, ?_⟩) ⟨HK.out.blk.cell 1, c0.out, c1.out, c2.out, c3.out, c4.out⟩ ?_
    · intro w hSw
      obtain ⟨s0, s1, s2, s3, s4, s5⟩ := hSw
      go_simp
    try simp only [Act.put]
    refine wpAnyC_take8 (i := 20) (oi := _) (v := .string x4) rfl (by kernel_rfl) (by kernel_rfl) (by kernel_rfl) (by kernel_rfl) (by kernel_rfl) (by kernel_rfl) (fun _ _ _ h => h) (Or.inl ⟨by rfl, ?_⟩) ⟨HK.out.blk.cell 1, c0.out, c1.out, c2.out, c3.out, c4.out⟩ ?_
    · intro w hSw
      obtain ⟨s0, s1, s2, s3, s4, s5⟩ := hSw
      go_simp
    try simp only [Act.put]
    refine wpAnyC_take8 (i := 21) (oi := _) (v := .bool true) rfl (by kernel_rfl) (by kernel_rfl) (by kernel_rfl) (by kernel_rfl) (by kernel_rfl) (by kernel_rfl) (fun _ _ _ h => h) (Or.inl ⟨by rfl, ?_⟩) ⟨HK.out.blk.cell 1, c0.out, c1.out, c2.out, c3.out, c4.out⟩ ?_
    · intro w hSw
      obtain ⟨s0, s1, s2, s3, s4, s5⟩ := hSw
      go_simp
    try simp only [Act.put]
    refine wpAnyC_take8 (i := 22) (oi := _) (v := .agg #[.string x1, .string x2, .string x3, .bool true, .bool true]) rfl (by kernel_rfl) (by kernel_rfl) (by kernel_rfl) (by kernel_rfl) (by kernel_rfl) (by kernel_rfl) (fun _ _ _ h => h) (Or.inl ⟨by rfl, ?_⟩) ⟨HK.out.blk.cell 1, c0.out, c1.out, c2.out, c3.out, c4.out⟩ ?_
    · intro w hSw
      obtain ⟨s0, s1, s2, s3, s4, s5⟩ := hSw
      go_simp
    try simp only [Act.put]
    refine wpAnyC_takeP (i := 0) (oi := _) (v := .pointer (some ⟨g, 0, none⟩)) rfl (by kernel_rfl) (by kernel_rfl) (by kernel_rfl) (by kernel_rfl) (fun _ _ _ h => h) (Or.inl ⟨by rfl, ?_⟩) ⟨HK.out.blk.cell 1, c0.out, c1.out, c2.out, c3.out, c4.out⟩ ?_
    · intro w _
      go_simp
    try simp only [Act.put]
    refine wpAnyC_one (i := 23) (by kernel_rfl) rfl (fun K hK => ?_)
    go_simp
    have hz := below_newF W1 (Obj.cells #[.string x1, .string x2, .string x3, .bool true, .bool true] 39)
    have HX := Lib.hid (Blk.new W1 39 #[.string x1, .string x2, .string x3, .bool true, .bool true])
    replace HB := Lib.hid (Nat.le_trans HB.out hz.size)
    replace HW := Lib.hid (HW.out.trans (hz.mono HW.out.size))
    replace HK := Lib.hid (HK.out.call hz)
    replace c0 := Lib.hid (cell_below c0.out hz)
    replace c1 := Lib.hid (cell_below c1.out hz)
    replace c2 := Lib.hid (cell_below c2.out hz)
    replace c3 := Lib.hid (cell_below c3.out hz)
    replace c4 := Lib.hid (cell_below c4.out hz)
    clear hz
    refine hK.out _ _ (fun _ => ⟨HK.out.blk.cell 1, c0.out, c1.out, c2.out, c3.out, c4.out⟩) ?_
    clear hK K
    try simp only [Act.put, List.setIfInBounds_toArray, List.set_cons_zero, List.set_cons_succ]
    generalize W1.heap.size = gx at *
    generalize W1.alloc (Obj.cells #[.string x1, .string x2, .string x3, .bool true, .bool true] 39) = W2 at *
    refine wpAnyC_one (i := 24) (by kernel_rfl) rfl (fun K hK => ?_)
    refine step_appE (by rfl) _ _ appE1 (by rfl) base v1 n.switches.length (cellsBy SwitchD.cells n.switches) (by kernel_rfl) HK.out.r1 (some ⟨gx, 0, none⟩) 1 1 [.string x1, .string x2, .string x3, .bool true, .bool true] (by kernel_rfl) (reads_blkE HX.out rfl) (by simp [Value.oneCell']) (by have := HF.out; omega) HB.out ?_
    intro v W3 hr hgr
    obtain ⟨vA, vc, rfl⟩ := hr.val
    have hkk := HK.out.blk.apart HK.out.r1 (by decide) hgr
    have hfc := hkk.frozen 1
    have hcc := hkk.cell 1
    have HR := Lib.hid (HK.out.app1 ⟨x1, x2, x3, true, true⟩ hr hgr)
    replace HW := Lib.hid ((HW.out.mono HBASE.out).trans (HK.out.r1.belowG hgr HB.out))
    clear hr hgr hkk HK HX
    refine hK.out _ _ (fun h => absurd h (by decide)) ?_
    clear hK K
    try simp only [Act.put, List.setIfInBounds_toArray]
    refine wpAnyC_one (i := 25) (by kernel_rfl) rfl (fun K hK => ?_)
    go_simp
    refine hK.out _ _ (fun h => absurd h (by decide)) ?_
    clear hK K
    try simp only [Act.put, List.setIfInBounds_toArray, List.set_cons_zero, List.set_cons_succ]
    refine wpAnyC_one (i := 26) (by kernel_rfl) rfl (fun K hK => ?_)
    go_simp
    refine hK.out _ _ (fun h => absurd h (by decide)) ?_
    clear hK K
    try simp only [Act.put, List.setIfInBounds_toArray, List.set_cons_zero, List.set_cons_succ]
    refine wpAnyC_one (i := 27) (by kernel_rfl) rfl (fun K hK => ?_)
    go_simp
    refine hK.out _ _ (fun h => absurd h (by decide)) ?_
    clear hK K
    try simp only [Act.put, List.setIfInBounds_toArray, List.set_cons_zero, List.set_cons_succ]
    refine wpAnyC_done (by kernel_rfl) ?_ _
    go_wp2
    go_ret
    exact ⟨rfl, _, HR.out, HW.out.setCell (p := ⟨g, 1, none⟩) HGB.out _⟩
  | false =>
    rw [ho] at h4o
    rw [show decide (x4 = kClosed) = true from decide_eq_true (h4.resolve_left (of_decide_eq_false ho))] at h4c
    clear h0 h4 HX4 ho
    go_enter Tryz.func44, Tryz.ntmps44
    have d0 := c0.out
    have d4 := c4.out
    go_upto_region 5 with (fail)
    clear d0 d4
    have hd := below_drawF w
    have HK := Lib.hid hk
    have HB := Lib.hid hb0
    have HB0 := Lib.hid hb0
    have HW := Lib.hid (Below.refl w.heap.size w)
    clear hk hb0
    replace HB := Lib.hid (Nat.le_trans HB.out hd.size)
    replace HW := Lib.hid (HW.out.trans hd)
    replace HK := Lib.hid (HK.out.call hd)
    replace c0 := Lib.hid (cell_below c0.out hd)
    replace c1 := Lib.hid (cell_below c1.out hd)
    replace c2 := Lib.hid (cell_below c2.out hd)
    replace c3 := Lib.hid (cell_below c3.out hd)
    replace c4 := Lib.hid (cell_below c4.out hd)
    clear hd
    have HBASE := Lib.hid HB0.out
    refine wp_region_c (fun w' => w'.cell? ⟨g, 1, none⟩ = some v1 ∧ w'.cell? ⟨wb, wo, none⟩ = some (.string x0) ∧ w'.cell? ⟨wb, wo + 1, none⟩ = some (.string x1) ∧ w'.cell? ⟨wb, wo + 2, none⟩ = some (.string x2) ∧ w'.cell? ⟨wb, wo + 3, none⟩ = some (.string x3) ∧ w'.cell? ⟨wb, wo + 4, none⟩ = some (.string x4)) 24 (by kernel_rfl) ?_
    generalize w.drew = W1 at *
    refine wpAnyC_take8 (i := 1) (oi := _) (v := .pointer (some ⟨g, 0, none⟩)) rfl (by kernel_rfl) (by kernel_rfl) (by kernel_rfl) (by kernel_rfl) (by kernel_rfl) (by kernel_rfl) (fun _ _ _ h => h) (Or.inl ⟨by rfl, ?_⟩) ⟨HK.out.blk.cell 1, c0.out, c1.out, c2.out, c3.out, c4.out⟩ ?_
    · intro w hSw
      obtain ⟨s0, s1, s2, s3, s4, s5⟩ := hSw
      go_simp
    try simp only [Act.put, List.setIfInBounds_toArray]
    refine wpAnyC_take8 (i := 2) (oi := _) (v := .pointer (some ⟨g, 0, none⟩)) rfl (by kernel_rfl) (by kernel_rfl) (by kernel_rfl) (by kernel_rfl) (by kernel_rfl) (by kernel_rfl) (fun _ _ _ h => h) (Or.inl ⟨by rfl, ?_⟩) ⟨HK.out.blk.cell 1, c0.out, c1.out, c2.out, c3.out, c4.out⟩ ?_
    · intro w hSw
      obtain ⟨s0, s1, s2, s3, s4, s5⟩ := hSw
      go_simp
    try simp only [Act.put]
    refine wpAnyC_take8 (i := 3) (oi := _) (v := .pointer (some ⟨g, 1, none⟩)) rfl (by kernel_rfl) (by kernel_rfl) (by kernel_rfl) (by kernel_rfl) (by kernel_rfl) (by kernel_rfl) (fun _ _ _ h => h) (Or.inl ⟨by rfl, ?_⟩) ⟨HK.out.blk.cell 1, c0.out, c1.out, c2.out, c3.out, c4.out⟩ ?_
    · intro w hSw
      obtain ⟨s0, s1, s2, s3, s4, s5⟩ := hSw
      go_simp
    try simp only [Act.put]
    refine wpAnyC_take8 (i := 4) (oi := _) (v := v1) rfl (by kernel_rfl) (by kernel_rfl) (by kernel_rfl) (by kernel_rfl) (by kernel_rfl) (by kernel_rfl) (fun _ _ _ h => h) (Or.inl ⟨by rfl, ?_⟩) ⟨HK.out.blk.cell 1, c0.out, c1.out, c2.out, c3.out, c4.out⟩ ?_
    · intro w hSw
      obtain ⟨s0, s1, s2, s3, s4, s5⟩ := hSw
      go_simp
    try simp only [Act.put]
    refine wpAnyC_take8 (i := 5) (oi := _) (v := .slice (some ⟨wb, wo, none⟩) 5 c) rfl (by kernel_rfl) (by kernel_rfl) (by kernel_rfl) (by kernel_rfl) (by kernel_rfl) (by kernel_rfl) (fun _ _ _ h => h) (Or.inl ⟨by rfl, ?_⟩) ⟨HK.out.blk.cell 1, c0.out, c1.out, c2.out, c3.out, c4.out⟩ ?_
    · intro w hSw
      obtain ⟨s0, s1, s2, s3, s4, s5⟩ := hSw
      go_simp
    try simp only [Act.put]
    refine wpAnyC_take8 (i := 6) (oi := _) (v := .pointer (some ⟨wb, wo + 1, none⟩)) rfl (by kernel_rfl) (by kernel_rfl) (by kernel_rfl) (by kernel_rfl) (by kernel_rfl) (by kernel_rfl) (fun _ _ _ h => h) (Or.inl ⟨by rfl, ?_⟩) ⟨HK.out.blk.cell 1, c0.out, c1.out, c2.out, c3.out, c4.out⟩ ?_
    · intro w hSw
      obtain ⟨s0, s1, s2, s3, s4, s5⟩ := hSw
      go_simp
    try simp only [Act.put]
    refine wpAnyC_take8 (i := 7) (oi := _) (v := .string x1) rfl (by kernel_rfl) (by kernel_rfl) (by kernel_rfl) (by kernel_rfl) (by kernel_rfl) (by kernel_rfl) (fun _ _ _ h => h) (Or.inl ⟨by rfl, ?_⟩) ⟨HK.out.blk.cell 1, c0.out, c1.out, c2.out, c3.out, c4.out⟩ ?_
    · intro w hSw
      obtain ⟨s0, s1, s2, s3, s4, s5⟩ := hSw
      go_simp
    try simp only [Act.put]
    refine wpAnyC_take8 (i := 8) (oi := _) (v := .slice (some ⟨wb, wo, none⟩) 5 c) rfl (by kernel_rfl) (by kernel_rfl) (by kernel_rfl) (by kernel_rfl) (by kernel_rfl) (by kernel_rfl) (fun _ _ _ h => h) (Or.inl ⟨by rfl, ?_⟩) ⟨HK.out.blk.cell 1, c0.out, c1.out, c2.out, c3.out, c4.out⟩ ?_
    · intro w hSw
      obtain ⟨s0, s1, s2, s3, s4, s5⟩ := hSw
      go_simp
    try simp only [Act.put]
    refine wpAnyC_take8 (i := 9) (oi := _) (v := .pointer (some ⟨wb, wo + 2, none⟩)) rfl (by kernel_rfl) (by kernel_rfl) (by kernel_rfl) (by kernel_rfl) (by kernel_rfl) (by kernel_rfl) (fun _ _ _ h => h) (Or.inl ⟨by rfl, ?_⟩) ⟨HK.out.blk.cell 1, c0.out, c1.out, c2.out, c3.out, c4.out⟩ ?_
    · intro w hSw
      obtain ⟨s0, s1, s2, s3, s4, s5⟩ := hSw
      go_simp
    try simp only [Act.put]
    refine wpAnyC_take8 (i := 10) (oi := _) (v := .string x2) rfl (by kernel_rfl) (by kernel_rfl) (by kernel_rfl) (by kernel_rfl) (by kernel_rfl) (by kernel_rfl) (fun _ _ _ h => h) (Or.inl ⟨by rfl, ?_⟩) ⟨HK.out.blk.cell 1, c0.out, c1.out, c2.out, c3.out, c4.out⟩ ?_
    · intro w hSw
      obtain ⟨s0, s1, s2, s3, s4, s5⟩ := hSw
      go_simp
    try simp only [Act.put]
    refine wpAnyC_take8 (i := 11) (oi := _) (v := .slice (some ⟨wb, wo, none⟩) 5 c) rfl (by kernel_rfl) (by kernel_rfl) (by kernel_rfl) (by kernel_rfl) (by kernel_rfl) (by kernel_rfl) (fun _ _ _ h => h) (Or.inl ⟨by rfl, ?_⟩) ⟨HK.out.blk.cell 1, c0.out, c1.out, c2.out, c3.out, c4.out⟩ ?_
    · intro w hSw
      obtain ⟨s0, s1, s2, s3, s4, s5⟩ := hSw
      go_simp
    try simp only [Act.put]
    refine wpAnyC_take8 (i := 12) (oi := _) (v := .pointer (some ⟨wb, wo + 3, none⟩)) rfl (by kernel_rfl) (by kernel_rfl) (by kernel_rfl) (by kernel_rfl) (by kernel_rfl) (by kernel_rfl) (fun _ _ _ h => h) (Or.inl ⟨by rfl, ?_⟩) ⟨HK.out.blk.cell 1, c0.out, c1.out, c2.out, c3.out, c4.out⟩ ?_
    · intro w hSw
      obtain ⟨s0, s1, s2, s3, s4, s5⟩ := hSw
      go_simp
    try simp only [Act.put]
    refine wpAnyC_take8 (i := 13) (oi := _) (v := .string x3) rfl (by kernel_rfl) (by kernel_rfl) (by kernel_rfl) (by kernel_rfl) (by kernel_rfl) (by kernel_rfl) (fun _ _ _ h => h) (Or.inl ⟨by rfl, ?_⟩) ⟨HK.out.blk.cell 1, c0.out, c1.out, c2.out, c3.out, c4.out⟩ ?_
    · intro w hSw
      obtain ⟨s0, s1, s2, s3, s4, s5⟩ := hSw
      go_simp
    try simp only [Act.put]
    refine wpAnyC_take8 (i := 14) (oi := _) (v := .slice (some ⟨wb, wo, none⟩) 5 c) rfl (by kernel_rfl) (by kernel_rfl) (by kernel_rfl) (by kernel_rfl) (by kernel_rfl) (by kernel_rfl) (fun _ _ _ h => h) (Or.inl ⟨by rfl, ?_⟩) ⟨HK.out.blk.cell 1, c0.out, c1.out, c2.out, c3.out, c4.out⟩ ?_
    · intro w hSw
      obtain ⟨s0, s1, s2, s3, s4, s5⟩ := hSw
      go_simp
    try simp only [Act.put]
    refine wpAnyC_take8 (i := 15) (oi := _) (v := .pointer (some ⟨wb, wo, none⟩)) rfl (by kernel_rfl) (by kernel_rfl) (by kernel_rfl) (by kernel_rfl) (by kernel_rfl) (by kernel_rfl) (fun _ _ _ h => h) (Or.inl ⟨by rfl, ?_⟩) ⟨HK.out.blk.cell 1, c0.out, c1.out, c2.out, c3.out, c4.out⟩ ?_
    · intro w hSw
      obtain ⟨s0, s1, s2, s3, s4, s5⟩ := hSw
      go_simp
    try simp only [Act.put]
    refine wpAnyC_take8 (i := 16) (oi := _) (v := .string x0) rfl (by kernel_rfl) (by kernel_rfl) (by kernel_rfl) (by kernel_rfl) (by kernel_rfl) (by kernel_rfl) (fun _ _ _ h => h) (Or.inl ⟨by rfl, ?_⟩) ⟨HK.out.blk.cell 1, c0.out, c1.out, c2.out, c3.out, c4.out⟩ ?_
    · intro w hSw
      obtain ⟨s0, s1, s2, s3, s4, s5⟩ := hSw
      go_simp
    try simp only [Act.put]
    refine wpAnyC_take8 (i := 17) (oi := _) (v := .bool true) rfl (by kernel_rfl) (by kernel_rfl) (by kernel_rfl) (by kernel_rfl) (by kernel_rfl) (by kernel_rfl) (fun _ _ _ h => h) (Or.inl ⟨by rfl, ?_⟩) ⟨HK.out.blk.cell 1, c0.out, c1.out, c2.out, c3.out, c4.out⟩ ?_
    · intro w hSw
      obtain ⟨s0, s1, s2, s3, s4, s5⟩ := hSw
      go_simp
    try simp only [Act.put]
    refine wpAnyC_take8 (i := 18) (oi := _) (v := .slice (some ⟨wb, wo, none⟩) 5 c) rfl (by kernel_rfl) (by kernel_rfl) (by kernel_rfl) (by kernel_rfl) (by kernel_rfl) (by kernel_rfl) (fun _ _ _ h => h) (Or.inl ⟨by rfl, ?_⟩) ⟨HK.out.blk.cell 1, c0.out, c1.out, c2.out, c3.out, c4.out⟩ ?_
    · intro w hSw
      obtain ⟨s0, s1, s2, s3, s4, s5⟩ := hSw
      go_simp
    try simp only [Act.put]
    refine wpAnyC_take8 (i := 19) (oi := _) (v := .pointer (some ⟨wb, wo + 4, none⟩)) rfl (by kernel_rfl) (by kernel_rfl) (by kernel_rfl) (by kernel_rfl) (by kernel_rfl) (by kernel_rfl) (fun _ _ _ h => h) (Or.inl ⟨by rfl, ?_⟩) ⟨HK.out.blk.cell 1, c0.out, c1.out, c2.out, c3.out, c4.out⟩ ?_
    · intro w hSw
      obtain ⟨s0, s1, s2, s3, s4, s5⟩ := hSw
      go_simp
    try simp only [Act.put]
    refine wpAnyC_take8 (i := 20) (oi := _) (v := .string x4) rfl (by kernel_rfl) (by kernel_rfl) (by kernel_rfl) (by kernel_rfl) (by kernel_rfl) (by kernel_rfl) (fun _ _ _ h => h) (Or.inl ⟨by rfl, ?_⟩) ⟨HK.out.blk.cell 1, c0.out, c1.out, c2.out, c3.out, c4.out⟩ ?_
    · intro w hSw
      obtain ⟨s0, s1, s2, s3, s4, s5⟩ := hSw
      go_simp
    try simp only [Act.put]
    refine wpAnyC_take8 (i := 21) (oi := _) (v := .bool false) rfl (by kernel_rfl) (by kernel_rfl) (by kernel_rfl) (by kernel_rfl) (by kernel_rfl) (by kernel_rfl) (fun _ _ _ h => h) (Or.inl ⟨by rfl, ?_⟩) ⟨HK.out.blk.cell 1, c0.out, c1.out, c2.out, c3.out, c4.out⟩ ?_
    · intro w hSw
      obtain ⟨s0, s1, s2, s3, s4, s5⟩ := hSw
      go_simp
    try simp only [Act.put]
    refine wpAnyC_take8 (i := 22) (oi := _) (v := .agg #[.string x1, .string x2, .string x3, .bool true, .bool false]) rfl (by kernel_rfl) (by kernel_rfl) (by kernel_rfl) (by kernel_rfl) (by kernel_rfl) (by kernel_rfl) (fun _ _ _ h => h) (Or.inl ⟨by rfl, ?_⟩) ⟨HK.out.blk.cell 1, c0.out, c1.out, c2.out, c3.out, c4.out⟩ ?_
    · intro w hSw
      obtain ⟨s0, s1, s2, s3, s4, s5⟩ := hSw
      go_simp
    try simp only [Act.put]
    refine wpAnyC_takeP (i := 0) (oi := _) (v := .pointer (some ⟨g, 0, none⟩)) rfl (by kernel_rfl) (by kernel_rfl) (by kernel_rfl) (by kernel_rfl) (fun _ _ _ h => h) (Or.inl ⟨by rfl, ?_⟩) ⟨HK.out.blk.cell 1, c0.out, c1.out, c2.out, c3.out, c4.out⟩ ?_
    · intro w _
      go_simp
    try simp only [Act.put]
    refine wpAnyC_one (i := 23) (by kernel_rfl) rfl (fun K hK => ?_)
    go_simp
    have hz := below_newF W1 (Obj.cells #[.string x1, .string x2, .string x3, .bool true, .bool false] 39)
    have HX := Lib.hid (Blk.new W1 39 #[.string x1, .string x2, .string x3, .bool true, .bool false])
    replace HB := Lib.hid (Nat.le_trans HB.out hz.size)
    replace HW := Lib.hid (HW.out.trans (hz.mono HW.out.size))
    replace HK := Lib.hid (HK.out.call hz)
    replace c0 := Lib.hid (cell_below c0.out hz)
    replace c1 := Lib.hid (cell_below c1.out hz)
    replace c2 := Lib.hid (cell_below c2.out hz)
    replace c3 := Lib.hid (cell_below c3.out hz)
    replace c4 := Lib.hid (cell_below c4.out hz)
    clear hz
    refine hK.out _ _ (fun _ => ⟨HK.out.blk.cell 1, c0.out, c1.out, c2.out, c3.out, c4.out⟩) ?_
    clear hK K
    try simp only [Act.put, List.setIfInBounds_toArray, List.set_cons_zero, List.set_cons_succ]
    generalize W1.heap.size = gx at *
    generalize W1.alloc (Obj.cells #[.string x1, .string x2, .string x3, .bool true, .bool false] 39) = W2 at *
    refine wpAnyC_one (i := 24) (by kernel_rfl) rfl (fun K hK => ?_)
    refine step_appE (by rfl) _ _ appE1 (by rfl) base v1 n.switches.length (cellsBy SwitchD.cells n.switches) (by kernel_rfl) HK.out.r1 (some ⟨gx, 0, none⟩) 1 1 [.string x1, .string x2, .string x3, .bool true, .bool false] (by kernel_rfl) (reads_blkE HX.out rfl) (by simp [Value.oneCell']) (by have := HF.out; omega) HB.out ?_
    intro v W3 hr hgr
    obtain ⟨vA, vc, rfl⟩ := hr.val
    have hkk := HK.out.blk.apart HK.out.r1 (by decide) hgr
    have hfc := hkk.frozen 1
    have hcc := hkk.cell 1
    have HR := Lib.hid (HK.out.app1 ⟨x1, x2, x3, true, false⟩ hr hgr)
    replace HW := Lib.hid ((HW.out.mono HBASE.out).trans (HK.out.r1.belowG hgr HB.out))
    clear hr hgr hkk HK HX
    refine hK.out _ _ (fun h => absurd h (by decide)) ?_
    clear hK K
    try simp only [Act.put, List.setIfInBounds_toArray]
    refine wpAnyC_one (i := 25) (by kernel_rfl) rfl (fun K hK => ?_)
    go_simp
    refine hK.out _ _ (fun h => absurd h (by decide)) ?_
    clear hK K
    try simp only [Act.put, List.setIfInBounds_toArray, List.set_cons_zero, List.set_cons_succ]
    refine wpAnyC_one (i := 26) (by kernel_rfl) rfl (fun K hK => ?_)
    go_simp
    refine hK.out _ _ (fun h => absurd h (by decide)) ?_
    clear hK K
    try simp only [Act.put, List.setIfInBounds_toArray, List.set_cons_zero, List.set_cons_succ]
    refine wpAnyC_one (i := 27) (by kernel_rfl) rfl (fun K hK => ?_)
    go_simp
    refine hK.out _ _ (fun h => absurd h (by decide)) ?_
    clear hK K
    try simp only [Act.put, List.setIfInBounds_toArray, List.set_cons_zero, List.set_cons_succ]
    refine wpAnyC_done (by kernel_rfl) ?_ _
    go_wp2
    go_ret
    exact ⟨rfl, _, HR.out, HW.out.setCell (p := ⟨g, 1, none⟩) HGB.out _⟩
end Go.Proofs.YtglbelmljdgaoaaGreatDoor
namespace Go.Proofs.YtglbelmljdgaoaaGreatDoor
open Go.RowKit

theorem Blk.blkF {w w' : World} {g : Nat} {T : TypeId} {cs : Array Value} (h : Blk w g T cs) (hb : Below w.heap.size w w') : Blk w' g T cs := h.below hb h.lt
theorem reads_many {w : World} {g : Nat} {t : TypeId} {cs : Array Value} {n : Nat} {xs : List Value} (h : Blk w g t cs) (hn : cs.size = n) (hx : cs.toList = xs) : Reads w w.heap.size 1 (some ⟨g, 0, none⟩) n xs := by
  subst hx
  exact ⟨by rw [Array.length_toList, hn, Nat.mul_one], fun _ => ⟨g, 0, rfl, h.lt, fun j u hu => by
    rw [Nat.zero_add, h.cell, ← Array.getElem?_toList]; exact hu⟩⟩
theorem reads_drop {w : World} {B n k b o : Nat} {xs : List Value} (h : Reads w B 1 (some ⟨b, o, none⟩) n xs) (hk : k ≤ n) : Reads w B 1 (some ⟨b, o + k, none⟩) (n - k) (xs.drop k) := by
  refine ⟨by rw [List.length_drop, h.1]; omega, fun hn => ?_⟩
  obtain ⟨b', o', e, hb, hc⟩ := h.2 (by omega)
  injection e with e
  injection e with e1 e2
  subst e1 e2
  refine ⟨b, o + k, rfl, hb, fun j u hu => ?_⟩
  rw [List.getElem?_drop] at hu
  rw [Nat.add_assoc]
  exact hc (k + j) u hu
theorem put_load (x1 x2 : ByteArray) (zs : List Int) (h : zs.length ≤ 1) : ∃ y0 : Int, putN #[.string x1, .string x2, .int .i64 0] 2 zs = #[.string x1, .string x2, I y0] ∧ ∀ uy0, zs = [uy0] → y0 = uy0 := by
  match zs, h with
  | [], _ => exact ⟨0, rfl, fun _ e => by first | (cases e; exact rfl) | cases e⟩
  | [z0], _ => exact ⟨z0, rfl, fun _ e => by first | (cases e; exact rfl) | cases e⟩
set_option maxRecDepth 100000 in
set_option maxHeartbeats 4000000 in
theorem addLoad {base g : Nat} {n : NetD} {v0 v1 v2 v3 v4 v5 : Value} (x0 x1 x2 x3 : ByteArray) (A : Option Addr) (c : Nat) (w : World) (hk : NMk w base g n v0 v1 v2 v3 v4 v5) (hl : Reads w w.heap.size 1 A 4 ([x0, x1, x2, x3].map S)) (hb0 : base ≤ w.heap.size) (hf : n.loads.length ≤ 10000) (h0 : x0 = kLoad) (hcap : 4 ≤ c) (hsz : ∀ s ∈ [x0, x1, x2, x3], s.size ≤ 1000000) (hv : Vars w) :
    Calls Tryz.prog 44 #[.pointer (some ⟨g, 0, none⟩), .slice A 4 c] w fun e w' => e = .returned (.bool (numsL [x3]).isSome) ∧ Below base w w' ∧ ∀ y0, numsL [x3] = some [y0] → ∃ v, NMk w' base g { n with loads := n.loads ++ [⟨x1, x2, y0⟩] } v0 v1 v2 v3 v v5 := by
  have HF := Lib.hid hf
  have HGB := Lib.hid hk.hb
  have HL := Lib.hid hl
  have HSZ := Lib.hid hsz
  have HV := Lib.hid hv
  clear hf hsz hv
  obtain ⟨wb, wo, rfl, hwb, hcw⟩ := hl.2 (by decide)
  have c0 := Lib.hid (show w.cell? ⟨wb, wo, none⟩ = some (.string x0) from hcw 0 _ rfl)
  have c1 := Lib.hid (show w.cell? ⟨wb, wo + 1, none⟩ = some (.string x1) from hcw 1 _ rfl)
  have c2 := Lib.hid (show w.cell? ⟨wb, wo + 2, none⟩ = some (.string x2) from hcw 2 _ rfl)
  clear hcw hl
  have t_x0_node : (x0.toList == [110, 111, 100, 101]) = false := key_f (by rw [h0]; decide)
  have t_x0_switch : (x0.toList == [115, 119, 105, 116, 99, 104]) = false := key_f (by rw [h0]; decide)
  have t_x0_breaker : (x0.toList == [98, 114, 101, 97, 107, 101, 114]) = false := key_f (by rw [h0]; decide)
  have t_x0_branch : (x0.toList == [98, 114, 97, 110, 99, 104]) = false := key_f (by rw [h0]; decide)
  have t_x0_gen : (x0.toList == [103, 101, 110]) = false := key_f (by rw [h0]; decide)
  have t_x0_load : (x0.toList == [108, 111, 97, 100]) = true := key_t h0
  have hcap2 : 3 ≤ c := by omega
  clear h0
  go_enter Tryz.func44, Tryz.ntmps44
  have d0 := c0.out
  go_upto_region 18 with (fail)
  clear d0
  have hd := below_drawF w
  have HK := Lib.hid hk
  have HB := Lib.hid hb0
  have HB0 := Lib.hid hb0
  have HW := Lib.hid (Below.refl w.heap.size w)
  replace HL := Lib.hid ((HL.out.below hd).more hd.size)
  clear hk hb0
  replace HB := Lib.hid (Nat.le_trans HB.out hd.size)
  replace HW := Lib.hid (HW.out.trans hd)
  replace HK := Lib.hid (HK.out.call hd)
  replace c0 := Lib.hid (cell_below c0.out hd)
  replace c1 := Lib.hid (cell_below c1.out hd)
  replace c2 := Lib.hid (cell_below c2.out hd)
  clear hd
  have HBASE := Lib.hid HB0.out
  refine wp_region_c (fun w' => w'.cell? ⟨wb, wo + 1, none⟩ = some (.string x1) ∧ w'.cell? ⟨wb, wo + 2, none⟩ = some (.string x2)) 8 (by kernel_rfl) ?_
  generalize w.drew = W1 at *
  refine wpAnyC_take8 (i := 0) (oi := _) (v := .slice (some ⟨wb, wo, none⟩) 4 c) rfl (by kernel_rfl) (by kernel_rfl) (by kernel_rfl) (by kernel_rfl) (by kernel_rfl) (by kernel_rfl) (fun _ _ _ h => h) (Or.inl ⟨by rfl, ?_⟩) ⟨c1.out, c2.out⟩ ?_
  · intro w hSw
    obtain ⟨s0, s1⟩ := hSw
    go_simp
  try simp only [Act.put, List.setIfInBounds_toArray]
  refine wpAnyC_take8 (i := 1) (oi := _) (v := .pointer (some ⟨wb, wo + 1, none⟩)) rfl (by kernel_rfl) (by kernel_rfl) (by kernel_rfl) (by kernel_rfl) (by kernel_rfl) (by kernel_rfl) (fun _ _ _ h => h) (Or.inl ⟨by rfl, ?_⟩) ⟨c1.out, c2.out⟩ ?_
  · intro w hSw
    obtain ⟨s0, s1⟩ := hSw
    go_simp
  try simp only [Act.put]
  refine wpAnyC_take8 (i := 2) (oi := _) (v := .string x1) rfl (by kernel_rfl) (by kernel_rfl) (by kernel_rfl) (by kernel_rfl) (by kernel_rfl) (by kernel_rfl) (fun _ _ _ h => h) (Or.inl ⟨by rfl, ?_⟩) ⟨c1.out, c2.out⟩ ?_
  · intro w hSw
    obtain ⟨s0, s1⟩ := hSw
    go_simp
  try simp only [Act.put]
  refine wpAnyC_take8 (i := 3) (oi := _) (v := .slice (some ⟨wb, wo, none⟩) 4 c) rfl (by kernel_rfl) (by kernel_rfl) (by kernel_rfl) (by kernel_rfl) (by kernel_rfl) (by kernel_rfl) (fun _ _ _ h => h) (Or.inl ⟨by rfl, ?_⟩) ⟨c1.out, c2.out⟩ ?_
  · intro w hSw
    obtain ⟨s0, s1⟩ := hSw
    go_simp
  try simp only [Act.put]
  refine wpAnyC_take8 (i := 4) (oi := _) (v := .pointer (some ⟨wb, wo + 2, none⟩)) rfl (by kernel_rfl) (by kernel_rfl) (by kernel_rfl) (by kernel_rfl) (by kernel_rfl) (by kernel_rfl) (fun _ _ _ h => h) (Or.inl ⟨by rfl, ?_⟩) ⟨c1.out, c2.out⟩ ?_
  · intro w hSw
    obtain ⟨s0, s1⟩ := hSw
    go_simp
  try simp only [Act.put]
  refine wpAnyC_take8 (i := 5) (oi := _) (v := .string x2) rfl (by kernel_rfl) (by kernel_rfl) (by kernel_rfl) (by kernel_rfl) (by kernel_rfl) (by kernel_rfl) (fun _ _ _ h => h) (Or.inl ⟨by rfl, ?_⟩) ⟨c1.out, c2.out⟩ ?_
  · intro w hSw
    obtain ⟨s0, s1⟩ := hSw
    go_simp
  try simp only [Act.put]
  refine wpAnyC_take8 (i := 6) (oi := _) (v := .agg #[.string x1, .string x2, .int .i64 0]) rfl (by kernel_rfl) (by kernel_rfl) (by kernel_rfl) (by kernel_rfl) (by kernel_rfl) (by kernel_rfl) (fun _ _ _ h => h) (Or.inl ⟨by rfl, ?_⟩) ⟨c1.out, c2.out⟩ ?_
  · intro w hSw
    obtain ⟨s0, s1⟩ := hSw
    go_simp
  try simp only [Act.put]
  refine wpAnyC_one (i := 7) (by kernel_rfl) rfl (fun K hK => ?_)
  go_simp
  have hz := below_newF W1 (Obj.cells #[.string ⟨#[]⟩, .string ⟨#[]⟩, .int .i64 0] 59)
  have HX := Lib.hid (Blk.new W1 59 #[.string ⟨#[]⟩, .string ⟨#[]⟩, .int .i64 0])
  refine hK.out _ _ (fun _ => ⟨cell_below c1.out hz, cell_below c2.out hz⟩) ?_
  clear hK K
  try simp only [Act.put, List.setIfInBounds_toArray, List.set_cons_zero, List.set_cons_succ]
  refine wpAnyC_one (i := 8) (by kernel_rfl) rfl (fun K hK => ?_)
  go_simp
  refine hK.out _ _ (fun h => absurd h (by decide)) ?_
  clear hK K
  try simp only [Act.put, List.setIfInBounds_toArray, List.set_cons_zero, List.set_cons_succ]
  refine wpAnyC_done (by kernel_rfl) ?_ _
  clear HX hz c0 c1 c2
  go_upto_region 19 with (fail)
  have hx2 := Blk.new W1 59 #[.string x1, .string x2, .int .i64 0]
  have hb2 := below_newF W1 (Obj.cells #[.string x1, .string x2, .int .i64 0] 59)
  generalize W1.alloc (Obj.cells #[.string x1, .string x2, .int .i64 0] 59) = W2 at *
  have HX := Lib.hid hx2
  have HZ := Lib.hid hb2
  have HLG := Lib.hid (HL.out.below hb2)
  clear hx2 hb2 HL
  have hz3 := below_newF W2 (Obj.cells #[.pointer (some ⟨W1.heap.size, 2, none⟩)] 110)
  have HP := Lib.hid (show Reads (W2.alloc (Obj.cells #[.pointer (some ⟨W1.heap.size, 2, none⟩)] 110)) (W2.alloc (Obj.cells #[.pointer (some ⟨W1.heap.size, 2, none⟩)] 110)).heap.size 1 (some ⟨W2.heap.size, 0, none⟩) 1 (ptrs W1.heap.size 2 1) from reads_many (Blk.new W2 110 #[.pointer (some ⟨W1.heap.size, 2, none⟩)]) rfl rfl)
  have HNU := Lib.hid (numbers_any [x3] 1 (some ⟨wb, wo + 3, none⟩) (c - 3) (some ⟨W2.heap.size, 0, none⟩) 1 W1.heap.size 2 59 #[.string x1, .string x2, .int .i64 0] (W2.alloc (Obj.cells #[.pointer (some ⟨W1.heap.size, 2, none⟩)] 110)) (reads_drop (k := 3) (HLG.out.below (hz3.mono HZ.out.size)) (by decide)) HP.out (HX.out.below hz3 HX.out.lt) (fun q hq => (by match q, hq with
      | 0, _ => exact ⟨0, rfl⟩
      )) (fun s hs => HSZ.out s (List.mem_of_mem_drop (i := 3) hs)) (by decide) w HV.out (HW.out.trans ((HZ.out.trans (hz3.mono HZ.out.size)).mono HW.out.size)) HW.out.size)
  have HZ3 := Lib.hid (HZ.out.trans (hz3.mono HZ.out.size))
  clear hz3 HP HX HZ
  go_wp2_with fail
  refine HNU.out.mono ?_
  rintro e W4 ⟨zs, hzl, rfl, hbk, hb4, hzs⟩
  clear HNU
  obtain ⟨y0, hp, hy⟩ := put_load x1 x2 zs hzl
  rw [hp] at hbk
  have HX := Lib.hid hbk
  have HZ := Lib.hid (HZ3.out.trans hb4)
  have HY := Lib.hid (show ∀ uy0, numsL [x3] = some [uy0] → y0 = uy0 from fun uy0 h => hy uy0 (hzs _ h))
  clear hbk hb4 hzs hp hy hzl HZ3 HLG
  obtain ⟨nl, hnl⟩ : ∃ nl, numsL [x3] = nl := ⟨_, rfl⟩
  rw [hnl] at HY ⊢
  have HNL := Lib.hid hnl
  clear hnl
  replace HK := Lib.hid (HK.out.call HZ.out)
  replace HW := Lib.hid (HW.out.trans (HZ.out.mono HW.out.size))
  replace HB := Lib.hid (Nat.le_trans HB.out HZ.out.size)
  clear HZ
  generalize W1.heap.size = gb at *
  go_upto_region 20 with (fail)
  have hd := below_drawF W4
  replace HB := Lib.hid (Nat.le_trans HB.out hd.size)
  replace HW := Lib.hid (HW.out.trans (hd.mono HW.out.size))
  replace HX := Lib.hid (HX.out.below hd HX.out.lt)
  replace HK := Lib.hid (HK.out.call hd)
  clear hd
  have HE := HX
  clear HX
  refine wp_region_c (fun w' => w'.cell? ⟨g, 4, none⟩ = some v4 ∧ w'.cell? ⟨gb, 0, none⟩ = some (.string x1) ∧ w'.cell? ⟨gb, 1, none⟩ = some (.string x2) ∧ w'.cell? ⟨gb, 2, none⟩ = some (I y0)) 7 (by kernel_rfl) ?_
  generalize W4.drew = W5 at *
  refine wpAnyC_take8 (i := 1) (oi := _) (v := .pointer (some ⟨g, 0, none⟩)) rfl (by kernel_rfl) (by kernel_rfl) (by kernel_rfl) (by kernel_rfl) (by kernel_rfl) (by kernel_rfl) (fun _ _ _ h => h) (Or.inl ⟨by rfl, ?_⟩) ⟨HK.out.blk.cell 4, HE.out.cell 0, HE.out.cell 1, HE.out.cell 2⟩ ?_
  · intro w hSw
    obtain ⟨s0, s1, s2, s3⟩ := hSw
    go_simp
  try simp only [Act.put, List.setIfInBounds_toArray]
  refine wpAnyC_take8 (i := 2) (oi := _) (v := .pointer (some ⟨g, 0, none⟩)) rfl (by kernel_rfl) (by kernel_rfl) (by kernel_rfl) (by kernel_rfl) (by kernel_rfl) (by kernel_rfl) (fun _ _ _ h => h) (Or.inl ⟨by rfl, ?_⟩) ⟨HK.out.blk.cell 4, HE.out.cell 0, HE.out.cell 1, HE.out.cell 2⟩ ?_
  · intro w hSw
    obtain ⟨s0, s1, s2, s3⟩ := hSw
    go_simp
  try simp only [Act.put]
  refine wpAnyC_take8 (i := 3) (oi := _) (v := .pointer (some ⟨g, 4, none⟩)) rfl (by kernel_rfl) (by kernel_rfl) (by kernel_rfl) (by kernel_rfl) (by kernel_rfl) (by kernel_rfl) (fun _ _ _ h => h) (Or.inl ⟨by rfl, ?_⟩) ⟨HK.out.blk.cell 4, HE.out.cell 0, HE.out.cell 1, HE.out.cell 2⟩ ?_
  · intro w hSw
    obtain ⟨s0, s1, s2, s3⟩ := hSw
    go_simp
  try simp only [Act.put]
  refine wpAnyC_take8 (i := 4) (oi := _) (v := v4) rfl (by kernel_rfl) (by kernel_rfl) (by kernel_rfl) (by kernel_rfl) (by kernel_rfl) (by kernel_rfl) (fun _ _ _ h => h) (Or.inl ⟨by rfl, ?_⟩) ⟨HK.out.blk.cell 4, HE.out.cell 0, HE.out.cell 1, HE.out.cell 2⟩ ?_
  · intro w hSw
    obtain ⟨s0, s1, s2, s3⟩ := hSw
    go_simp
  try simp only [Act.put]
  refine wpAnyC_take8 (i := 5) (oi := _) (v := .agg #[.string x1, .string x2, I y0]) rfl (by kernel_rfl) (by kernel_rfl) (by kernel_rfl) (by kernel_rfl) (by kernel_rfl) (by kernel_rfl) (fun _ _ _ h => h) (Or.inl ⟨by rfl, ?_⟩) ⟨HK.out.blk.cell 4, HE.out.cell 0, HE.out.cell 1, HE.out.cell 2⟩ ?_
  · intro w hSw
    obtain ⟨s0, s1, s2, s3⟩ := hSw
    go_simp
  try simp only [Act.put]
  refine wpAnyC_takeP (i := 0) (oi := _) (v := .pointer (some ⟨g, 0, none⟩)) rfl (by kernel_rfl) (by kernel_rfl) (by kernel_rfl) (by kernel_rfl) (fun _ _ _ h => h) (Or.inl ⟨by rfl, ?_⟩) ⟨HK.out.blk.cell 4, HE.out.cell 0, HE.out.cell 1, HE.out.cell 2⟩ ?_
  · intro w _
    go_simp
  try simp only [Act.put]
  refine wpAnyC_one (i := 6) (by kernel_rfl) rfl (fun K hK => ?_)
  go_simp
  have hz := below_newF W5 (Obj.cells #[.string x1, .string x2, I y0] 59)
  have HX := Lib.hid (Blk.new W5 59 #[.string x1, .string x2, I y0])
  replace HB := Lib.hid (Nat.le_trans HB.out hz.size)
  replace HW := Lib.hid (HW.out.trans (hz.mono HW.out.size))
  replace HK := Lib.hid (HK.out.call hz)
  replace HE := Lib.hid (HE.out.blkF hz)
  clear hz
  refine hK.out _ _ (fun _ => ⟨HK.out.blk.cell 4, HE.out.cell 0, HE.out.cell 1, HE.out.cell 2⟩) ?_
  clear hK K
  try simp only [Act.put, List.setIfInBounds_toArray, List.set_cons_zero, List.set_cons_succ]
  generalize W5.heap.size = gx at *
  generalize W5.alloc (Obj.cells #[.string x1, .string x2, I y0] 59) = W2 at *
  refine wpAnyC_one (i := 7) (by kernel_rfl) rfl (fun K hK => ?_)
  refine step_appE (by rfl) _ _ appE4 (by rfl) base v4 n.loads.length (cellsBy LoadD.cells n.loads) (by kernel_rfl) HK.out.r4 (some ⟨gx, 0, none⟩) 1 1 [.string x1, .string x2, I y0] (by kernel_rfl) (reads_blkE HX.out rfl) (by simp [Value.oneCell']) (by have := HF.out; omega) HB.out ?_
  intro v W3 hr hgr
  obtain ⟨vA, vc, rfl⟩ := hr.val
  have hkk := HK.out.blk.apart HK.out.r4 (by decide) hgr
  have hfc := hkk.frozen 4
  have hcc := hkk.cell 4
  have HR := Lib.hid (HK.out.app4 ⟨x1, x2, y0⟩ hr hgr)
  replace HW := Lib.hid ((HW.out.mono HBASE.out).trans (HK.out.r4.belowG hgr HB.out))
  clear hr hgr hkk HK HX
  refine hK.out _ _ (fun h => absurd h (by decide)) ?_
  clear hK K
  try simp only [Act.put, List.setIfInBounds_toArray]
  refine wpAnyC_one (i := 8) (by kernel_rfl) rfl (fun K hK => ?_)
  go_simp
  refine hK.out _ _ (fun h => absurd h (by decide)) ?_
  clear hK K
  try simp only [Act.put, List.setIfInBounds_toArray, List.set_cons_zero, List.set_cons_succ]
  refine wpAnyC_one (i := 9) (by kernel_rfl) rfl (fun K hK => ?_)
  go_simp
  refine hK.out _ _ (fun h => absurd h (by decide)) ?_
  clear hK K
  try simp only [Act.put, List.setIfInBounds_toArray, List.set_cons_zero, List.set_cons_succ]
  refine wpAnyC_one (i := 10) (by kernel_rfl) rfl (fun K hK => ?_)
  go_simp
  refine hK.out _ _ (fun h => absurd h (by decide)) ?_
  clear hK K
  try simp only [Act.put, List.setIfInBounds_toArray, List.set_cons_zero, List.set_cons_succ]
  refine wpAnyC_done (by kernel_rfl) ?_ _
  go_wp2
  go_ret
  exact ⟨by rw [HNL.out]; rfl, HW.out.setCell (p := ⟨g, 4, none⟩) HGB.out _, fun uy0 h => by
    rw [HNL.out] at h
    obtain rfl := HY.out uy0 h
    exact ⟨_, HR.out⟩⟩
theorem put_gen (x1 x2 : ByteArray) (zs : List Int) (h : zs.length ≤ 3) : ∃ y0 y1 y2 : Int, putN #[.string x1, .string x2, .int .i64 0, .int .i64 0, .int .i64 0] 2 zs = #[.string x1, .string x2, I y0, I y1, I y2] ∧ ∀ uy0 uy1 uy2, zs = [uy0, uy1, uy2] → y0 = uy0 ∧ y1 = uy1 ∧ y2 = uy2 := by
  match zs, h with
  | [], _ => exact ⟨0, 0, 0, rfl, fun _ _ _ e => by first | (cases e; exact ⟨rfl, rfl, rfl⟩) | cases e⟩
  | [z0], _ => exact ⟨z0, 0, 0, rfl, fun _ _ _ e => by first | (cases e; exact ⟨rfl, rfl, rfl⟩) | cases e⟩
  | [z0, z1], _ => exact ⟨z0, z1, 0, rfl, fun _ _ _ e => by first | (cases e; exact ⟨rfl, rfl, rfl⟩) | cases e⟩
  | [z0, z1, z2], _ => exact ⟨z0, z1, z2, rfl, fun _ _ _ e => by first | (cases e; exact ⟨rfl, rfl, rfl⟩) | cases e⟩
set_option maxRecDepth 100000 in
set_option maxHeartbeats 4000000 in
theorem addGen {base g : Nat} {n : NetD} {v0 v1 v2 v3 v4 v5 : Value} (x0 x1 x2 x3 x4 x5 : ByteArray) (A : Option Addr) (c : Nat) (w : World) (hk : NMk w base g n v0 v1 v2 v3 v4 v5) (hl : Reads w w.heap.size 1 A 6 ([x0, x1, x2, x3, x4, x5].map S)) (hb0 : base ≤ w.heap.size) (hf : n.gens.length ≤ 10000) (h0 : x0 = kGen) (hcap : 6 ≤ c) (hsz : ∀ s ∈ [x0, x1, x2, x3, x4, x5], s.size ≤ 1000000) (hv : Vars w) :
    Calls Tryz.prog 44 #[.pointer (some ⟨g, 0, none⟩), .slice A 6 c] w fun e w' => e = .returned (.bool (numsL [x3, x4, x5]).isSome) ∧ Below base w w' ∧ ∀ y0 y1 y2, numsL [x3, x4, x5] = some [y0, y1, y2] → ∃ v, NMk w' base g { n with gens := n.gens ++ [⟨x1, x2, y0, y1, y2⟩] } v0 v1 v2 v v4 v5 := by
  have HF := Lib.hid hf
  have HGB := Lib.hid hk.hb
  have HL := Lib.hid hl
  have HSZ := Lib.hid hsz
  have HV := Lib.hid hv
  clear hf hsz hv
  obtain ⟨wb, wo, rfl, hwb, hcw⟩ := hl.2 (by decide)
  have c0 := Lib.hid (show w.cell? ⟨wb, wo, none⟩ = some (.string x0) from hcw 0 _ rfl)
  have c1 := Lib.hid (show w.cell? ⟨wb, wo + 1, none⟩ = some (.string x1) from hcw 1 _ rfl)
  have c2 := Lib.hid (show w.cell? ⟨wb, wo + 2, none⟩ = some (.string x2) from hcw 2 _ rfl)
  clear hcw hl
  have t_x0_node : (x0.toList == [110, 111, 100, 101]) = false := key_f (by rw [h0]; decide)
  have t_x0_switch : (x0.toList == [115, 119, 105, 116, 99, 104]) = false := key_f (by rw [h0]; decide)
  have t_x0_breaker : (x0.toList == [98, 114, 101, 97, 107, 101, 114]) = false := key_f (by rw [h0]; decide)
  have t_x0_branch : (x0.toList == [98, 114, 97, 110, 99, 104]) = false := key_f (by rw [h0]; decide)
  have t_x0_gen : (x0.toList == [103, 101, 110]) = true := key_t h0
  have hcap2 : 3 ≤ c := by omega
  clear h0
  go_enter Tryz.func44, Tryz.ntmps44
  have d0 := c0.out
  go_upto_region 13 with (fail)
  clear d0
  have hd := below_drawF w
  have HK := Lib.hid hk
  have HB := Lib.hid hb0
  have HB0 := Lib.hid hb0
  have HW := Lib.hid (Below.refl w.heap.size w)
  replace HL := Lib.hid ((HL.out.below hd).more hd.size)
  clear hk hb0
  replace HB := Lib.hid (Nat.le_trans HB.out hd.size)
  replace HW := Lib.hid (HW.out.trans hd)
  replace HK := Lib.hid (HK.out.call hd)
  replace c0 := Lib.hid (cell_below c0.out hd)
  replace c1 := Lib.hid (cell_below c1.out hd)
  replace c2 := Lib.hid (cell_below c2.out hd)
  clear hd
  have HBASE := Lib.hid HB0.out
  refine wp_region_c (fun w' => w'.cell? ⟨wb, wo + 1, none⟩ = some (.string x1) ∧ w'.cell? ⟨wb, wo + 2, none⟩ = some (.string x2)) 8 (by kernel_rfl) ?_
  generalize w.drew = W1 at *
  refine wpAnyC_take8 (i := 0) (oi := _) (v := .slice (some ⟨wb, wo, none⟩) 6 c) rfl (by kernel_rfl) (by kernel_rfl) (by kernel_rfl) (by kernel_rfl) (by kernel_rfl) (by kernel_rfl) (fun _ _ _ h => h) (Or.inl ⟨by rfl, ?_⟩) ⟨c1.out, c2.out⟩ ?_
  · intro w hSw
    obtain ⟨s0, s1⟩ := hSw
    go_simp
  try simp only [Act.put, List.setIfInBounds_toArray]
  refine wpAnyC_take8 (i := 1) (oi := _) (v := .pointer (some ⟨wb, wo + 1, none⟩)) rfl (by kernel_rfl) (by kernel_rfl) (by kernel_rfl) (by kernel_rfl) (by kernel_rfl) (by kernel_rfl) (fun _ _ _ h => h) (Or.inl ⟨by rfl, ?_⟩) ⟨c1.out, c2.out⟩ ?_
  · intro w hSw
    obtain ⟨s0, s1⟩ := hSw
    go_simp
  try simp only [Act.put]
  refine wpAnyC_take8 (i := 2) (oi := _) (v := .string x1) rfl (by kernel_rfl) (by kernel_rfl) (by kernel_rfl) (by kernel_rfl) (by kernel_rfl) (by kernel_rfl) (fun _ _ _ h => h) (Or.inl ⟨by rfl, ?_⟩) ⟨c1.out, c2.out⟩ ?_
  · intro w hSw
    obtain ⟨s0, s1⟩ := hSw
    go_simp
  try simp only [Act.put]
  refine wpAnyC_take8 (i := 3) (oi := _) (v := .slice (some ⟨wb, wo, none⟩) 6 c) rfl (by kernel_rfl) (by kernel_rfl) (by kernel_rfl) (by kernel_rfl) (by kernel_rfl) (by kernel_rfl) (fun _ _ _ h => h) (Or.inl ⟨by rfl, ?_⟩) ⟨c1.out, c2.out⟩ ?_
  · intro w hSw
    obtain ⟨s0, s1⟩ := hSw
    go_simp
  try simp only [Act.put]
  refine wpAnyC_take8 (i := 4) (oi := _) (v := .pointer (some ⟨wb, wo + 2, none⟩)) rfl (by kernel_rfl) (by kernel_rfl) (by kernel_rfl) (by kernel_rfl) (by kernel_rfl) (by kernel_rfl) (fun _ _ _ h => h) (Or.inl ⟨by rfl, ?_⟩) ⟨c1.out, c2.out⟩ ?_
  · intro w hSw
    obtain ⟨s0, s1⟩ := hSw
    go_simp
  try simp only [Act.put]
  refine wpAnyC_take8 (i := 5) (oi := _) (v := .string x2) rfl (by kernel_rfl) (by kernel_rfl) (by kernel_rfl) (by kernel_rfl) (by kernel_rfl) (by kernel_rfl) (fun _ _ _ h => h) (Or.inl ⟨by rfl, ?_⟩) ⟨c1.out, c2.out⟩ ?_
  · intro w hSw
    obtain ⟨s0, s1⟩ := hSw
    go_simp
  try simp only [Act.put]
  refine wpAnyC_take8 (i := 6) (oi := _) (v := .agg #[.string x1, .string x2, .int .i64 0, .int .i64 0, .int .i64 0]) rfl (by kernel_rfl) (by kernel_rfl) (by kernel_rfl) (by kernel_rfl) (by kernel_rfl) (by kernel_rfl) (fun _ _ _ h => h) (Or.inl ⟨by rfl, ?_⟩) ⟨c1.out, c2.out⟩ ?_
  · intro w hSw
    obtain ⟨s0, s1⟩ := hSw
    go_simp
  try simp only [Act.put]
  refine wpAnyC_one (i := 7) (by kernel_rfl) rfl (fun K hK => ?_)
  go_simp
  have hz := below_newF W1 (Obj.cells #[.string ⟨#[]⟩, .string ⟨#[]⟩, .int .i64 0, .int .i64 0, .int .i64 0] 64)
  have HX := Lib.hid (Blk.new W1 64 #[.string ⟨#[]⟩, .string ⟨#[]⟩, .int .i64 0, .int .i64 0, .int .i64 0])
  refine hK.out _ _ (fun _ => ⟨cell_below c1.out hz, cell_below c2.out hz⟩) ?_
  clear hK K
  try simp only [Act.put, List.setIfInBounds_toArray, List.set_cons_zero, List.set_cons_succ]
  refine wpAnyC_one (i := 8) (by kernel_rfl) rfl (fun K hK => ?_)
  go_simp
  refine hK.out _ _ (fun h => absurd h (by decide)) ?_
  clear hK K
  try simp only [Act.put, List.setIfInBounds_toArray, List.set_cons_zero, List.set_cons_succ]
  refine wpAnyC_done (by kernel_rfl) ?_ _
  clear HX hz c0 c1 c2
  go_upto_region 14 with (fail)
  have hx2 := Blk.new W1 64 #[.string x1, .string x2, .int .i64 0, .int .i64 0, .int .i64 0]
  have hb2 := below_newF W1 (Obj.cells #[.string x1, .string x2, .int .i64 0, .int .i64 0, .int .i64 0] 64)
  generalize W1.alloc (Obj.cells #[.string x1, .string x2, .int .i64 0, .int .i64 0, .int .i64 0] 64) = W2 at *
  have HX := Lib.hid hx2
  have HZ := Lib.hid hb2
  have HLG := Lib.hid (HL.out.below hb2)
  clear hx2 hb2 HL
  have hz3 := below_newF W2 (Obj.cells #[.pointer (some ⟨W1.heap.size, 2, none⟩), .pointer (some ⟨W1.heap.size, 3, none⟩), .pointer (some ⟨W1.heap.size, 4, none⟩)] 110)
  have HP := Lib.hid (show Reads (W2.alloc (Obj.cells #[.pointer (some ⟨W1.heap.size, 2, none⟩), .pointer (some ⟨W1.heap.size, 3, none⟩), .pointer (some ⟨W1.heap.size, 4, none⟩)] 110)) (W2.alloc (Obj.cells #[.pointer (some ⟨W1.heap.size, 2, none⟩), .pointer (some ⟨W1.heap.size, 3, none⟩), .pointer (some ⟨W1.heap.size, 4, none⟩)] 110)).heap.size 1 (some ⟨W2.heap.size, 0, none⟩) 3 (ptrs W1.heap.size 2 3) from reads_many (Blk.new W2 110 #[.pointer (some ⟨W1.heap.size, 2, none⟩), .pointer (some ⟨W1.heap.size, 3, none⟩), .pointer (some ⟨W1.heap.size, 4, none⟩)]) rfl rfl)
  have HNU := Lib.hid (numbers_any [x3, x4, x5] 3 (some ⟨wb, wo + 3, none⟩) (c - 3) (some ⟨W2.heap.size, 0, none⟩) 3 W1.heap.size 2 64 #[.string x1, .string x2, .int .i64 0, .int .i64 0, .int .i64 0] (W2.alloc (Obj.cells #[.pointer (some ⟨W1.heap.size, 2, none⟩), .pointer (some ⟨W1.heap.size, 3, none⟩), .pointer (some ⟨W1.heap.size, 4, none⟩)] 110)) (reads_drop (k := 3) (HLG.out.below (hz3.mono HZ.out.size)) (by decide)) HP.out (HX.out.below hz3 HX.out.lt) (fun q hq => (by match q, hq with
      | 0, _ => exact ⟨0, rfl⟩
      | 1, _ => exact ⟨0, rfl⟩
      | 2, _ => exact ⟨0, rfl⟩
      )) (fun s hs => HSZ.out s (List.mem_of_mem_drop (i := 3) hs)) (by decide) w HV.out (HW.out.trans ((HZ.out.trans (hz3.mono HZ.out.size)).mono HW.out.size)) HW.out.size)
  have HZ3 := Lib.hid (HZ.out.trans (hz3.mono HZ.out.size))
  clear hz3 HP HX HZ
  go_wp2_with fail
  refine HNU.out.mono ?_
  rintro e W4 ⟨zs, hzl, rfl, hbk, hb4, hzs⟩
  clear HNU
  obtain ⟨y0, y1, y2, hp, hy⟩ := put_gen x1 x2 zs hzl
  rw [hp] at hbk
  have HX := Lib.hid hbk
  have HZ := Lib.hid (HZ3.out.trans hb4)
  have HY := Lib.hid (show ∀ uy0 uy1 uy2, numsL [x3, x4, x5] = some [uy0, uy1, uy2] → y0 = uy0 ∧ y1 = uy1 ∧ y2 = uy2 from fun uy0 uy1 uy2 h => hy uy0 uy1 uy2 (hzs _ h))
  clear hbk hb4 hzs hp hy hzl HZ3 HLG
  obtain ⟨nl, hnl⟩ : ∃ nl, numsL [x3, x4, x5] = nl := ⟨_, rfl⟩
  rw [hnl] at HY ⊢
  have HNL := Lib.hid hnl
  clear hnl
  replace HK := Lib.hid (HK.out.call HZ.out)
  replace HW := Lib.hid (HW.out.trans (HZ.out.mono HW.out.size))
  replace HB := Lib.hid (Nat.le_trans HB.out HZ.out.size)
  clear HZ
  generalize W1.heap.size = gb at *
  go_upto_region 15 with (fail)
  have hd := below_drawF W4
  replace HB := Lib.hid (Nat.le_trans HB.out hd.size)
  replace HW := Lib.hid (HW.out.trans (hd.mono HW.out.size))
  replace HX := Lib.hid (HX.out.below hd HX.out.lt)
  replace HK := Lib.hid (HK.out.call hd)
  clear hd
  have HE := HX
  clear HX
  refine wp_region_c (fun w' => w'.cell? ⟨g, 3, none⟩ = some v3 ∧ w'.cell? ⟨gb, 0, none⟩ = some (.string x1) ∧ w'.cell? ⟨gb, 1, none⟩ = some (.string x2) ∧ w'.cell? ⟨gb, 2, none⟩ = some (I y0) ∧ w'.cell? ⟨gb, 3, none⟩ = some (I y1) ∧ w'.cell? ⟨gb, 4, none⟩ = some (I y2)) 7 (by kernel_rfl) ?_
  generalize W4.drew = W5 at *
  refine wpAnyC_take8 (i := 1) (oi := _) (v := .pointer (some ⟨g, 0, none⟩)) rfl (by kernel_rfl) (by kernel_rfl) (by kernel_rfl) (by kernel_rfl) (by kernel_rfl) (by kernel_rfl) (fun _ _ _ h => h) (Or.inl ⟨by rfl, ?_⟩) ⟨HK.out.blk.cell 3, HE.out.cell 0, HE.out.cell 1, HE.out.cell 2, HE.out.cell 3, HE.out.cell 4⟩ ?_
  · intro w hSw
    obtain ⟨s0, s1, s2, s3, s4, s5⟩ := hSw
    go_simp
  try simp only [Act.put, List.setIfInBounds_toArray]
  refine wpAnyC_take8 (i := 2) (oi := _) (v := .pointer (some ⟨g, 0, none⟩)) rfl (by kernel_rfl) (by kernel_rfl) (by kernel_rfl) (by kernel_rfl) (by kernel_rfl) (by kernel_rfl) (fun _ _ _ h => h) (Or.inl ⟨by rfl, ?_⟩) ⟨HK.out.blk.cell 3, HE.out.cell 0, HE.out.cell 1, HE.out.cell 2, HE.out.cell 3, HE.out.cell 4⟩ ?_
  · intro w hSw
    obtain ⟨s0, s1, s2, s3, s4, s5⟩ := hSw
    go_simp
  try simp only [Act.put]
  refine wpAnyC_take8 (i := 3) (oi := _) (v := .pointer (some ⟨g, 3, none⟩)) rfl (by kernel_rfl) (by kernel_rfl) (by kernel_rfl) (by kernel_rfl) (by kernel_rfl) (by kernel_rfl) (fun _ _ _ h => h) (Or.inl ⟨by rfl, ?_⟩) ⟨HK.out.blk.cell 3, HE.out.cell 0, HE.out.cell 1, HE.out.cell 2, HE.out.cell 3, HE.out.cell 4⟩ ?_
  · intro w hSw
    obtain ⟨s0, s1, s2, s3, s4, s5⟩ := hSw
    go_simp
  try simp only [Act.put]
  refine wpAnyC_take8 (i := 4) (oi := _) (v := v3) rfl (by kernel_rfl) (by kernel_rfl) (by kernel_rfl) (by kernel_rfl) (by kernel_rfl) (by kernel_rfl) (fun _ _ _ h => h) (Or.inl ⟨by rfl, ?_⟩) ⟨HK.out.blk.cell 3, HE.out.cell 0, HE.out.cell 1, HE.out.cell 2, HE.out.cell 3, HE.out.cell 4⟩ ?_
  · intro w hSw
    obtain ⟨s0, s1, s2, s3, s4, s5⟩ := hSw
    go_simp
  try simp only [Act.put]
  refine wpAnyC_take8 (i := 5) (oi := _) (v := .agg #[.string x1, .string x2, I y0, I y1, I y2]) rfl (by kernel_rfl) (by kernel_rfl) (by kernel_rfl) (by kernel_rfl) (by kernel_rfl) (by kernel_rfl) (fun _ _ _ h => h) (Or.inl ⟨by rfl, ?_⟩) ⟨HK.out.blk.cell 3, HE.out.cell 0, HE.out.cell 1, HE.out.cell 2, HE.out.cell 3, HE.out.cell 4⟩ ?_
  · intro w hSw
    obtain ⟨s0, s1, s2, s3, s4, s5⟩ := hSw
    go_simp
  try simp only [Act.put]
  refine wpAnyC_takeP (i := 0) (oi := _) (v := .pointer (some ⟨g, 0, none⟩)) rfl (by kernel_rfl) (by kernel_rfl) (by kernel_rfl) (by kernel_rfl) (fun _ _ _ h => h) (Or.inl ⟨by rfl, ?_⟩) ⟨HK.out.blk.cell 3, HE.out.cell 0, HE.out.cell 1, HE.out.cell 2, HE.out.cell 3, HE.out.cell 4⟩ ?_
  · intro w _
    go_simp
  try simp only [Act.put]
  refine wpAnyC_one (i := 6) (by kernel_rfl) rfl (fun K hK => ?_)
  go_simp
  have hz := below_newF W5 (Obj.cells #[.string x1, .string x2, I y0, I y1, I y2] 64)
  have HX := Lib.hid (Blk.new W5 64 #[.string x1, .string x2, I y0, I y1, I y2])
  replace HB := Lib.hid (Nat.le_trans HB.out hz.size)
  replace HW := Lib.hid (HW.out.trans (hz.mono HW.out.size))
  replace HK := Lib.hid (HK.out.call hz)
  replace HE := Lib.hid (HE.out.blkF hz)
  clear hz
  refine hK.out _ _ (fun _ => ⟨HK.out.blk.cell 3, HE.out.cell 0, HE.out.cell 1, HE.out.cell 2, HE.out.cell 3, HE.out.cell 4⟩) ?_
  clear hK K
  try simp only [Act.put, List.setIfInBounds_toArray, List.set_cons_zero, List.set_cons_succ]
  generalize W5.heap.size = gx at *
  generalize W5.alloc (Obj.cells #[.string x1, .string x2, I y0, I y1, I y2] 64) = W2 at *
  refine wpAnyC_one (i := 7) (by kernel_rfl) rfl (fun K hK => ?_)
  refine step_appE (by rfl) _ _ appE3 (by rfl) base v3 n.gens.length (cellsBy GenD.cells n.gens) (by kernel_rfl) HK.out.r3 (some ⟨gx, 0, none⟩) 1 1 [.string x1, .string x2, I y0, I y1, I y2] (by kernel_rfl) (reads_blkE HX.out rfl) (by simp [Value.oneCell']) (by have := HF.out; omega) HB.out ?_
  intro v W3 hr hgr
  obtain ⟨vA, vc, rfl⟩ := hr.val
  have hkk := HK.out.blk.apart HK.out.r3 (by decide) hgr
  have hfc := hkk.frozen 3
  have hcc := hkk.cell 3
  have HR := Lib.hid (HK.out.app3 ⟨x1, x2, y0, y1, y2⟩ hr hgr)
  replace HW := Lib.hid ((HW.out.mono HBASE.out).trans (HK.out.r3.belowG hgr HB.out))
  clear hr hgr hkk HK HX
  refine hK.out _ _ (fun h => absurd h (by decide)) ?_
  clear hK K
  try simp only [Act.put, List.setIfInBounds_toArray]
  refine wpAnyC_one (i := 8) (by kernel_rfl) rfl (fun K hK => ?_)
  go_simp
  refine hK.out _ _ (fun h => absurd h (by decide)) ?_
  clear hK K
  try simp only [Act.put, List.setIfInBounds_toArray, List.set_cons_zero, List.set_cons_succ]
  refine wpAnyC_one (i := 9) (by kernel_rfl) rfl (fun K hK => ?_)
  go_simp
  refine hK.out _ _ (fun h => absurd h (by decide)) ?_
  clear hK K
  try simp only [Act.put, List.setIfInBounds_toArray, List.set_cons_zero, List.set_cons_succ]
  refine wpAnyC_one (i := 10) (by kernel_rfl) rfl (fun K hK => ?_)
  go_simp
  refine hK.out _ _ (fun h => absurd h (by decide)) ?_
  clear hK K
  try simp only [Act.put, List.setIfInBounds_toArray, List.set_cons_zero, List.set_cons_succ]
  refine wpAnyC_done (by kernel_rfl) ?_ _
  go_wp2
  go_ret
  exact ⟨by rw [HNL.out]; rfl, HW.out.setCell (p := ⟨g, 3, none⟩) HGB.out _, fun uy0 uy1 uy2 h => by
    rw [HNL.out] at h
    obtain ⟨rfl, rfl, rfl⟩ := HY.out uy0 uy1 uy2 h
    exact ⟨_, HR.out⟩⟩
theorem put_store (x1 x2 : ByteArray) (zs : List Int) (h : zs.length ≤ 3) : ∃ y0 y1 y2 : Int, putN #[.string x1, .string x2, .int .i64 0, .int .i64 0, .int .i64 0] 2 zs = #[.string x1, .string x2, I y0, I y1, I y2] ∧ ∀ uy0 uy1 uy2, zs = [uy0, uy1, uy2] → y0 = uy0 ∧ y1 = uy1 ∧ y2 = uy2 := by
  match zs, h with
  | [], _ => exact ⟨0, 0, 0, rfl, fun _ _ _ e => by first | (cases e; exact ⟨rfl, rfl, rfl⟩) | cases e⟩
  | [z0], _ => exact ⟨z0, 0, 0, rfl, fun _ _ _ e => by first | (cases e; exact ⟨rfl, rfl, rfl⟩) | cases e⟩
  | [z0, z1], _ => exact ⟨z0, z1, 0, rfl, fun _ _ _ e => by first | (cases e; exact ⟨rfl, rfl, rfl⟩) | cases e⟩
  | [z0, z1, z2], _ => exact ⟨z0, z1, z2, rfl, fun _ _ _ e => by first | (cases e; exact ⟨rfl, rfl, rfl⟩) | cases e⟩
set_option maxRecDepth 100000 in
set_option maxHeartbeats 4000000 in
theorem addStore {base g : Nat} {n : NetD} {v0 v1 v2 v3 v4 v5 : Value} (x0 x1 x2 x3 x4 x5 : ByteArray) (A : Option Addr) (c : Nat) (w : World) (hk : NMk w base g n v0 v1 v2 v3 v4 v5) (hl : Reads w w.heap.size 1 A 6 ([x0, x1, x2, x3, x4, x5].map S)) (hb0 : base ≤ w.heap.size) (hf : n.stores.length ≤ 10000) (h0 : x0 = kStore) (hcap : 6 ≤ c) (hsz : ∀ s ∈ [x0, x1, x2, x3, x4, x5], s.size ≤ 1000000) (hv : Vars w) :
    Calls Tryz.prog 44 #[.pointer (some ⟨g, 0, none⟩), .slice A 6 c] w fun e w' => e = .returned (.bool (numsL [x3, x4, x5]).isSome) ∧ Below base w w' ∧ ∀ y0 y1 y2, numsL [x3, x4, x5] = some [y0, y1, y2] → ∃ v, NMk w' base g { n with stores := n.stores ++ [⟨x1, x2, y0, y1, y2⟩] } v0 v1 v2 v3 v4 v := by
  have HF := Lib.hid hf
  have HGB := Lib.hid hk.hb
  have HL := Lib.hid hl
  have HSZ := Lib.hid hsz
  have HV := Lib.hid hv
  clear hf hsz hv
  obtain ⟨wb, wo, rfl, hwb, hcw⟩ := hl.2 (by decide)
  have c0 := Lib.hid (show w.cell? ⟨wb, wo, none⟩ = some (.string x0) from hcw 0 _ rfl)
  have c1 := Lib.hid (show w.cell? ⟨wb, wo + 1, none⟩ = some (.string x1) from hcw 1 _ rfl)
  have c2 := Lib.hid (show w.cell? ⟨wb, wo + 2, none⟩ = some (.string x2) from hcw 2 _ rfl)
  clear hcw hl
  have t_x0_node : (x0.toList == [110, 111, 100, 101]) = false := key_f (by rw [h0]; decide)
  have t_x0_switch : (x0.toList == [115, 119, 105, 116, 99, 104]) = false := key_f (by rw [h0]; decide)
  have t_x0_breaker : (x0.toList == [98, 114, 101, 97, 107, 101, 114]) = false := key_f (by rw [h0]; decide)
  have t_x0_branch : (x0.toList == [98, 114, 97, 110, 99, 104]) = false := key_f (by rw [h0]; decide)
  have t_x0_gen : (x0.toList == [103, 101, 110]) = false := key_f (by rw [h0]; decide)
  have t_x0_load : (x0.toList == [108, 111, 97, 100]) = false := key_f (by rw [h0]; decide)
  have t_x0_store : (x0.toList == [115, 116, 111, 114, 101]) = true := key_t h0
  have hcap2 : 3 ≤ c := by omega
  clear h0
  go_enter Tryz.func44, Tryz.ntmps44
  have d0 := c0.out
  go_upto_region 23 with (fail)
  clear d0
  have hd := below_drawF w
  have HK := Lib.hid hk
  have HB := Lib.hid hb0
  have HB0 := Lib.hid hb0
  have HW := Lib.hid (Below.refl w.heap.size w)
  replace HL := Lib.hid ((HL.out.below hd).more hd.size)
  clear hk hb0
  replace HB := Lib.hid (Nat.le_trans HB.out hd.size)
  replace HW := Lib.hid (HW.out.trans hd)
  replace HK := Lib.hid (HK.out.call hd)
  replace c0 := Lib.hid (cell_below c0.out hd)
  replace c1 := Lib.hid (cell_below c1.out hd)
  replace c2 := Lib.hid (cell_below c2.out hd)
  clear hd
  have HBASE := Lib.hid HB0.out
  refine wp_region_c (fun w' => w'.cell? ⟨wb, wo + 1, none⟩ = some (.string x1) ∧ w'.cell? ⟨wb, wo + 2, none⟩ = some (.string x2)) 8 (by kernel_rfl) ?_
  generalize w.drew = W1 at *
  refine wpAnyC_take8 (i := 0) (oi := _) (v := .slice (some ⟨wb, wo, none⟩) 6 c) rfl (by kernel_rfl) (by kernel_rfl) (by kernel_rfl) (by kernel_rfl) (by kernel_rfl) (by kernel_rfl) (fun _ _ _ h => h) (Or.inl ⟨by rfl, ?_⟩) ⟨c1.out, c2.out⟩ ?_
  · intro w hSw
    obtain ⟨s0, s1⟩ := hSw
    go_simp
  try simp only [Act.put, List.setIfInBounds_toArray]
  refine wpAnyC_take8 (i := 1) (oi := _) (v := .pointer (some ⟨wb, wo + 1, none⟩)) rfl (by kernel_rfl) (by kernel_rfl) (by kernel_rfl) (by kernel_rfl) (by kernel_rfl) (by kernel_rfl) (fun _ _ _ h => h) (Or.inl ⟨by rfl, ?_⟩) ⟨c1.out, c2.out⟩ ?_
  · intro w hSw
    obtain ⟨s0, s1⟩ := hSw
    go_simp
  try simp only [Act.put]
  refine wpAnyC_take8 (i := 2) (oi := _) (v := .string x1) rfl (by kernel_rfl) (by kernel_rfl) (by kernel_rfl) (by kernel_rfl) (by kernel_rfl) (by kernel_rfl) (fun _ _ _ h => h) (Or.inl ⟨by rfl, ?_⟩) ⟨c1.out, c2.out⟩ ?_
  · intro w hSw
    obtain ⟨s0, s1⟩ := hSw
    go_simp
  try simp only [Act.put]
  refine wpAnyC_take8 (i := 3) (oi := _) (v := .slice (some ⟨wb, wo, none⟩) 6 c) rfl (by kernel_rfl) (by kernel_rfl) (by kernel_rfl) (by kernel_rfl) (by kernel_rfl) (by kernel_rfl) (fun _ _ _ h => h) (Or.inl ⟨by rfl, ?_⟩) ⟨c1.out, c2.out⟩ ?_
  · intro w hSw
    obtain ⟨s0, s1⟩ := hSw
    go_simp
  try simp only [Act.put]
  refine wpAnyC_take8 (i := 4) (oi := _) (v := .pointer (some ⟨wb, wo + 2, none⟩)) rfl (by kernel_rfl) (by kernel_rfl) (by kernel_rfl) (by kernel_rfl) (by kernel_rfl) (by kernel_rfl) (fun _ _ _ h => h) (Or.inl ⟨by rfl, ?_⟩) ⟨c1.out, c2.out⟩ ?_
  · intro w hSw
    obtain ⟨s0, s1⟩ := hSw
    go_simp
  try simp only [Act.put]
  refine wpAnyC_take8 (i := 5) (oi := _) (v := .string x2) rfl (by kernel_rfl) (by kernel_rfl) (by kernel_rfl) (by kernel_rfl) (by kernel_rfl) (by kernel_rfl) (fun _ _ _ h => h) (Or.inl ⟨by rfl, ?_⟩) ⟨c1.out, c2.out⟩ ?_
  · intro w hSw
    obtain ⟨s0, s1⟩ := hSw
    go_simp
  try simp only [Act.put]
  refine wpAnyC_take8 (i := 6) (oi := _) (v := .agg #[.string x1, .string x2, .int .i64 0, .int .i64 0, .int .i64 0]) rfl (by kernel_rfl) (by kernel_rfl) (by kernel_rfl) (by kernel_rfl) (by kernel_rfl) (by kernel_rfl) (fun _ _ _ h => h) (Or.inl ⟨by rfl, ?_⟩) ⟨c1.out, c2.out⟩ ?_
  · intro w hSw
    obtain ⟨s0, s1⟩ := hSw
    go_simp
  try simp only [Act.put]
  refine wpAnyC_one (i := 7) (by kernel_rfl) rfl (fun K hK => ?_)
  go_simp
  have hz := below_newF W1 (Obj.cells #[.string ⟨#[]⟩, .string ⟨#[]⟩, .int .i64 0, .int .i64 0, .int .i64 0] 68)
  have HX := Lib.hid (Blk.new W1 68 #[.string ⟨#[]⟩, .string ⟨#[]⟩, .int .i64 0, .int .i64 0, .int .i64 0])
  refine hK.out _ _ (fun _ => ⟨cell_below c1.out hz, cell_below c2.out hz⟩) ?_
  clear hK K
  try simp only [Act.put, List.setIfInBounds_toArray, List.set_cons_zero, List.set_cons_succ]
  refine wpAnyC_one (i := 8) (by kernel_rfl) rfl (fun K hK => ?_)
  go_simp
  refine hK.out _ _ (fun h => absurd h (by decide)) ?_
  clear hK K
  try simp only [Act.put, List.setIfInBounds_toArray, List.set_cons_zero, List.set_cons_succ]
  refine wpAnyC_done (by kernel_rfl) ?_ _
  clear HX hz c0 c1 c2
  go_upto_region 24 with (fail)
  have hx2 := Blk.new W1 68 #[.string x1, .string x2, .int .i64 0, .int .i64 0, .int .i64 0]
  have hb2 := below_newF W1 (Obj.cells #[.string x1, .string x2, .int .i64 0, .int .i64 0, .int .i64 0] 68)
  generalize W1.alloc (Obj.cells #[.string x1, .string x2, .int .i64 0, .int .i64 0, .int .i64 0] 68) = W2 at *
  have HX := Lib.hid hx2
  have HZ := Lib.hid hb2
  have HLG := Lib.hid (HL.out.below hb2)
  clear hx2 hb2 HL
  have hz3 := below_newF W2 (Obj.cells #[.pointer (some ⟨W1.heap.size, 2, none⟩), .pointer (some ⟨W1.heap.size, 3, none⟩), .pointer (some ⟨W1.heap.size, 4, none⟩)] 110)
  have HP := Lib.hid (show Reads (W2.alloc (Obj.cells #[.pointer (some ⟨W1.heap.size, 2, none⟩), .pointer (some ⟨W1.heap.size, 3, none⟩), .pointer (some ⟨W1.heap.size, 4, none⟩)] 110)) (W2.alloc (Obj.cells #[.pointer (some ⟨W1.heap.size, 2, none⟩), .pointer (some ⟨W1.heap.size, 3, none⟩), .pointer (some ⟨W1.heap.size, 4, none⟩)] 110)).heap.size 1 (some ⟨W2.heap.size, 0, none⟩) 3 (ptrs W1.heap.size 2 3) from reads_many (Blk.new W2 110 #[.pointer (some ⟨W1.heap.size, 2, none⟩), .pointer (some ⟨W1.heap.size, 3, none⟩), .pointer (some ⟨W1.heap.size, 4, none⟩)]) rfl rfl)
  have HNU := Lib.hid (numbers_any [x3, x4, x5] 3 (some ⟨wb, wo + 3, none⟩) (c - 3) (some ⟨W2.heap.size, 0, none⟩) 3 W1.heap.size 2 68 #[.string x1, .string x2, .int .i64 0, .int .i64 0, .int .i64 0] (W2.alloc (Obj.cells #[.pointer (some ⟨W1.heap.size, 2, none⟩), .pointer (some ⟨W1.heap.size, 3, none⟩), .pointer (some ⟨W1.heap.size, 4, none⟩)] 110)) (reads_drop (k := 3) (HLG.out.below (hz3.mono HZ.out.size)) (by decide)) HP.out (HX.out.below hz3 HX.out.lt) (fun q hq => (by match q, hq with
      | 0, _ => exact ⟨0, rfl⟩
      | 1, _ => exact ⟨0, rfl⟩
      | 2, _ => exact ⟨0, rfl⟩
      )) (fun s hs => HSZ.out s (List.mem_of_mem_drop (i := 3) hs)) (by decide) w HV.out (HW.out.trans ((HZ.out.trans (hz3.mono HZ.out.size)).mono HW.out.size)) HW.out.size)
  have HZ3 := Lib.hid (HZ.out.trans (hz3.mono HZ.out.size))
  clear hz3 HP HX HZ
  go_wp2_with fail
  refine HNU.out.mono ?_
  rintro e W4 ⟨zs, hzl, rfl, hbk, hb4, hzs⟩
  clear HNU
  obtain ⟨y0, y1, y2, hp, hy⟩ := put_store x1 x2 zs hzl
  rw [hp] at hbk
  have HX := Lib.hid hbk
  have HZ := Lib.hid (HZ3.out.trans hb4)
  have HY := Lib.hid (show ∀ uy0 uy1 uy2, numsL [x3, x4, x5] = some [uy0, uy1, uy2] → y0 = uy0 ∧ y1 = uy1 ∧ y2 = uy2 from fun uy0 uy1 uy2 h => hy uy0 uy1 uy2 (hzs _ h))
  clear hbk hb4 hzs hp hy hzl HZ3 HLG
  obtain ⟨nl, hnl⟩ : ∃ nl, numsL [x3, x4, x5] = nl := ⟨_, rfl⟩
  rw [hnl] at HY ⊢
  have HNL := Lib.hid hnl
  clear hnl
  replace HK := Lib.hid (HK.out.call HZ.out)
  replace HW := Lib.hid (HW.out.trans (HZ.out.mono HW.out.size))
  replace HB := Lib.hid (Nat.le_trans HB.out HZ.out.size)
  clear HZ
  generalize W1.heap.size = gb at *
  go_upto_region 25 with (fail)
  have hd := below_drawF W4
  replace HB := Lib.hid (Nat.le_trans HB.out hd.size)
  replace HW := Lib.hid (HW.out.trans (hd.mono HW.out.size))
  replace HX := Lib.hid (HX.out.below hd HX.out.lt)
  replace HK := Lib.hid (HK.out.call hd)
  clear hd
  have HE := HX
  clear HX
  refine wp_region_c (fun w' => w'.cell? ⟨g, 5, none⟩ = some v5 ∧ w'.cell? ⟨gb, 0, none⟩ = some (.string x1) ∧ w'.cell? ⟨gb, 1, none⟩ = some (.string x2) ∧ w'.cell? ⟨gb, 2, none⟩ = some (I y0) ∧ w'.cell? ⟨gb, 3, none⟩ = some (I y1) ∧ w'.cell? ⟨gb, 4, none⟩ = some (I y2)) 7 (by kernel_rfl) ?_
  generalize W4.drew = W5 at *
  refine wpAnyC_take8 (i := 1) (oi := _) (v := .pointer (some ⟨g, 0, none⟩)) rfl (by kernel_rfl) (by kernel_rfl) (by kernel_rfl) (by kernel_rfl) (by kernel_rfl) (by kernel_rfl) (fun _ _ _ h => h) (Or.inl ⟨by rfl, ?_⟩) ⟨HK.out.blk.cell 5, HE.out.cell 0, HE.out.cell 1, HE.out.cell 2, HE.out.cell 3, HE.out.cell 4⟩ ?_
  · intro w hSw
    obtain ⟨s0, s1, s2, s3, s4, s5⟩ := hSw
    go_simp
  try simp only [Act.put, List.setIfInBounds_toArray]
  refine wpAnyC_take8 (i := 2) (oi := _) (v := .pointer (some ⟨g, 0, none⟩)) rfl (by kernel_rfl) (by kernel_rfl) (by kernel_rfl) (by kernel_rfl) (by kernel_rfl) (by kernel_rfl) (fun _ _ _ h => h) (Or.inl ⟨by rfl, ?_⟩) ⟨HK.out.blk.cell 5, HE.out.cell 0, HE.out.cell 1, HE.out.cell 2, HE.out.cell 3, HE.out.cell 4⟩ ?_
  · intro w hSw
    obtain ⟨s0, s1, s2, s3, s4, s5⟩ := hSw
    go_simp
  try simp only [Act.put]
  refine wpAnyC_take8 (i := 3) (oi := _) (v := .pointer (some ⟨g, 5, none⟩)) rfl (by kernel_rfl) (by kernel_rfl) (by kernel_rfl) (by kernel_rfl) (by kernel_rfl) (by kernel_rfl) (fun _ _ _ h => h) (Or.inl ⟨by rfl, ?_⟩) ⟨HK.out.blk.cell 5, HE.out.cell 0, HE.out.cell 1, HE.out.cell 2, HE.out.cell 3, HE.out.cell 4⟩ ?_
  · intro w hSw
    obtain ⟨s0, s1, s2, s3, s4, s5⟩ := hSw
    go_simp
  try simp only [Act.put]
  refine wpAnyC_take8 (i := 4) (oi := _) (v := v5) rfl (by kernel_rfl) (by kernel_rfl) (by kernel_rfl) (by kernel_rfl) (by kernel_rfl) (by kernel_rfl) (fun _ _ _ h => h) (Or.inl ⟨by rfl, ?_⟩) ⟨HK.out.blk.cell 5, HE.out.cell 0, HE.out.cell 1, HE.out.cell 2, HE.out.cell 3, HE.out.cell 4⟩ ?_
  · intro w hSw
    obtain ⟨s0, s1, s2, s3, s4, s5⟩ := hSw
    go_simp
  try simp only [Act.put]
  refine wpAnyC_take8 (i := 5) (oi := _) (v := .agg #[.string x1, .string x2, I y0, I y1, I y2]) rfl (by kernel_rfl) (by kernel_rfl) (by kernel_rfl) (by kernel_rfl) (by kernel_rfl) (by kernel_rfl) (fun _ _ _ h => h) (Or.inl ⟨by rfl, ?_⟩) ⟨HK.out.blk.cell 5, HE.out.cell 0, HE.out.cell 1, HE.out.cell 2, HE.out.cell 3, HE.out.cell 4⟩ ?_
  · intro w hSw
    obtain ⟨s0, s1, s2, s3, s4, s5⟩ := hSw
    go_simp
  try simp only [Act.put]
  refine wpAnyC_takeP (i := 0) (oi := _) (v := .pointer (some ⟨g, 0, none⟩)) rfl (by kernel_rfl) (by kernel_rfl) (by kernel_rfl) (by kernel_rfl) (fun _ _ _ h => h) (Or.inl ⟨by rfl, ?_⟩) ⟨HK.out.blk.cell 5, HE.out.cell 0, HE.out.cell 1, HE.out.cell 2, HE.out.cell 3, HE.out.cell 4⟩ ?_
  · intro w _
    go_simp
  try simp only [Act.put]
  refine wpAnyC_one (i := 6) (by kernel_rfl) rfl (fun K hK => ?_)
  go_simp
  have hz := below_newF W5 (Obj.cells #[.string x1, .string x2, I y0, I y1, I y2] 68)
  have HX := Lib.hid (Blk.new W5 68 #[.string x1, .string x2, I y0, I y1, I y2])
  replace HB := Lib.hid (Nat.le_trans HB.out hz.size)
  replace HW := Lib.hid (HW.out.trans (hz.mono HW.out.size))
  replace HK := Lib.hid (HK.out.call hz)
  replace HE := Lib.hid (HE.out.blkF hz)
  clear hz
  refine hK.out _ _ (fun _ => ⟨HK.out.blk.cell 5, HE.out.cell 0, HE.out.cell 1, HE.out.cell 2, HE.out.cell 3, HE.out.cell 4⟩) ?_
  clear hK K
  try simp only [Act.put, List.setIfInBounds_toArray, List.set_cons_zero, List.set_cons_succ]
  generalize W5.heap.size = gx at *
  generalize W5.alloc (Obj.cells #[.string x1, .string x2, I y0, I y1, I y2] 68) = W2 at *
  refine wpAnyC_one (i := 7) (by kernel_rfl) rfl (fun K hK => ?_)
  refine step_appE (by rfl) _ _ appE5 (by rfl) base v5 n.stores.length (cellsBy StoreD.cells n.stores) (by kernel_rfl) HK.out.r5 (some ⟨gx, 0, none⟩) 1 1 [.string x1, .string x2, I y0, I y1, I y2] (by kernel_rfl) (reads_blkE HX.out rfl) (by simp [Value.oneCell']) (by have := HF.out; omega) HB.out ?_
  intro v W3 hr hgr
  obtain ⟨vA, vc, rfl⟩ := hr.val
  have hkk := HK.out.blk.apart HK.out.r5 (by decide) hgr
  have hfc := hkk.frozen 5
  have hcc := hkk.cell 5
  have HR := Lib.hid (HK.out.app5 ⟨x1, x2, y0, y1, y2⟩ hr hgr)
  replace HW := Lib.hid ((HW.out.mono HBASE.out).trans (HK.out.r5.belowG hgr HB.out))
  clear hr hgr hkk HK HX
  refine hK.out _ _ (fun h => absurd h (by decide)) ?_
  clear hK K
  try simp only [Act.put, List.setIfInBounds_toArray]
  refine wpAnyC_one (i := 8) (by kernel_rfl) rfl (fun K hK => ?_)
  go_simp
  refine hK.out _ _ (fun h => absurd h (by decide)) ?_
  clear hK K
  try simp only [Act.put, List.setIfInBounds_toArray, List.set_cons_zero, List.set_cons_succ]
  refine wpAnyC_one (i := 9) (by kernel_rfl) rfl (fun K hK => ?_)
  go_simp
  refine hK.out _ _ (fun h => absurd h (by decide)) ?_
  clear hK K
  try simp only [Act.put, List.setIfInBounds_toArray, List.set_cons_zero, List.set_cons_succ]
  refine wpAnyC_one (i := 10) (by kernel_rfl) rfl (fun K hK => ?_)
  go_simp
  refine hK.out _ _ (fun h => absurd h (by decide)) ?_
  clear hK K
  try simp only [Act.put, List.setIfInBounds_toArray, List.set_cons_zero, List.set_cons_succ]
  refine wpAnyC_done (by kernel_rfl) ?_ _
  go_wp2
  go_ret
  exact ⟨by rw [HNL.out]; rfl, HW.out.setCell (p := ⟨g, 5, none⟩) HGB.out _, fun uy0 uy1 uy2 h => by
    rw [HNL.out] at h
    obtain ⟨rfl, rfl, rfl⟩ := HY.out uy0 uy1 uy2 h
    exact ⟨_, HR.out⟩⟩
theorem put_branch (x1 x2 x3 : ByteArray) (zs : List Int) (h : zs.length ≤ 6) : ∃ y0 y1 y2 y3 y4 y5 : Int, putN #[.string x1, .string x2, .string x3, .int .i64 0, .int .i64 0, .int .i64 0, .int .i64 0, .int .i64 0, .int .i64 0] 3 zs = #[.string x1, .string x2, .string x3, I y0, I y1, I y2, I y3, I y4, I y5] ∧ ∀ uy0 uy1 uy2 uy3 uy4 uy5, zs = [uy0, uy1, uy2, uy3, uy4, uy5] → y0 = uy0 ∧ y1 = uy1 ∧ y2 = uy2 ∧ y3 = uy3 ∧ y4 = uy4 ∧ y5 = uy5 := by
  match zs, h with
  | [], _ => exact ⟨0, 0, 0, 0, 0, 0, rfl, fun _ _ _ _ _ _ e => by first | (cases e; exact ⟨rfl, rfl, rfl, rfl, rfl, rfl⟩) | cases e⟩
  | [z0], _ => exact ⟨z0, 0, 0, 0, 0, 0, rfl, fun _ _ _ _ _ _ e => by first | (cases e; exact ⟨rfl, rfl, rfl, rfl, rfl, rfl⟩) | cases e⟩
  | [z0, z1], _ => exact ⟨z0, z1, 0, 0, 0, 0, rfl, fun _ _ _ _ _ _ e => by first | (cases e; exact ⟨rfl, rfl, rfl, rfl, rfl, rfl⟩) | cases e⟩
  | [z0, z1, z2], _ => exact ⟨z0, z1, z2, 0, 0, 0, rfl, fun _ _ _ _ _ _ e => by first | (cases e; exact ⟨rfl, rfl, rfl, rfl, rfl, rfl⟩) | cases e⟩
  | [z0, z1, z2, z3], _ => exact ⟨z0, z1, z2, z3, 0, 0, rfl, fun _ _ _ _ _ _ e => by first | (cases e; exact ⟨rfl, rfl, rfl, rfl, rfl, rfl⟩) | cases e⟩
  | [z0, z1, z2, z3, z4], _ => exact ⟨z0, z1, z2, z3, z4, 0, rfl, fun _ _ _ _ _ _ e => by first | (cases e; exact ⟨rfl, rfl, rfl, rfl, rfl, rfl⟩) | cases e⟩
  | [z0, z1, z2, z3, z4, z5], _ => exact ⟨z0, z1, z2, z3, z4, z5, rfl, fun _ _ _ _ _ _ e => by first | (cases e; exact ⟨rfl, rfl, rfl, rfl, rfl, rfl⟩) | cases e⟩
set_option maxRecDepth 100000 in
set_option maxHeartbeats 4000000 in
theorem addBranch {base g : Nat} {n : NetD} {v0 v1 v2 v3 v4 v5 : Value} (x0 x1 x2 x3 x4 x5 x6 x7 x8 x9 : ByteArray) (A : Option Addr) (c : Nat) (w : World) (hk : NMk w base g n v0 v1 v2 v3 v4 v5) (hl : Reads w w.heap.size 1 A 10 ([x0, x1, x2, x3, x4, x5, x6, x7, x8, x9].map S)) (hb0 : base ≤ w.heap.size) (hf : n.branches.length ≤ 10000) (h0 : x0 = kBranch) (hcap : 10 ≤ c) (hsz : ∀ s ∈ [x0, x1, x2, x3, x4, x5, x6, x7, x8, x9], s.size ≤ 1000000) (hv : Vars w) :
    Calls Tryz.prog 44 #[.pointer (some ⟨g, 0, none⟩), .slice A 10 c] w fun e w' => e = .returned (.bool (numsL [x4, x5, x6, x7, x8, x9]).isSome) ∧ Below base w w' ∧ ∀ y0 y1 y2 y3 y4 y5, numsL [x4, x5, x6, x7, x8, x9] = some [y0, y1, y2, y3, y4, y5] → ∃ v, NMk w' base g { n with branches := n.branches ++ [⟨x1, x2, x3, y0, y1, y2, y3, y4, y5⟩] } v0 v1 v v3 v4 v5 := by
  have HF := Lib.hid hf
  have HGB := Lib.hid hk.hb
  have HL := Lib.hid hl
  have HSZ := Lib.hid hsz
  have HV := Lib.hid hv
  clear hf hsz hv
  obtain ⟨wb, wo, rfl, hwb, hcw⟩ := hl.2 (by decide)
  have c0 := Lib.hid (show w.cell? ⟨wb, wo, none⟩ = some (.string x0) from hcw 0 _ rfl)
  have c1 := Lib.hid (show w.cell? ⟨wb, wo + 1, none⟩ = some (.string x1) from hcw 1 _ rfl)
  have c2 := Lib.hid (show w.cell? ⟨wb, wo + 2, none⟩ = some (.string x2) from hcw 2 _ rfl)
  have c3 := Lib.hid (show w.cell? ⟨wb, wo + 3, none⟩ = some (.string x3) from hcw 3 _ rfl)
  clear hcw hl
  have t_x0_node : (x0.toList == [110, 111, 100, 101]) = false := key_f (by rw [h0]; decide)
  have t_x0_switch : (x0.toList == [115, 119, 105, 116, 99, 104]) = false := key_f (by rw [h0]; decide)
  have t_x0_breaker : (x0.toList == [98, 114, 101, 97, 107, 101, 114]) = false := key_f (by rw [h0]; decide)
  have t_x0_branch : (x0.toList == [98, 114, 97, 110, 99, 104]) = true := key_t h0
  have hcap2 : 4 ≤ c := by omega
  clear h0
  go_enter Tryz.func44, Tryz.ntmps44
  have d0 := c0.out
  go_upto_region 8 with (fail)
  clear d0
  have hd := below_drawF w
  have HK := Lib.hid hk
  have HB := Lib.hid hb0
  have HB0 := Lib.hid hb0
  have HW := Lib.hid (Below.refl w.heap.size w)
  replace HL := Lib.hid ((HL.out.below hd).more hd.size)
  clear hk hb0
  replace HB := Lib.hid (Nat.le_trans HB.out hd.size)
  replace HW := Lib.hid (HW.out.trans hd)
  replace HK := Lib.hid (HK.out.call hd)
  replace c0 := Lib.hid (cell_below c0.out hd)
  replace c1 := Lib.hid (cell_below c1.out hd)
  replace c2 := Lib.hid (cell_below c2.out hd)
  replace c3 := Lib.hid (cell_below c3.out hd)
  clear hd
  have HBASE := Lib.hid HB0.out
  refine wp_region_c (fun w' => w'.cell? ⟨wb, wo + 1, none⟩ = some (.string x1) ∧ w'.cell? ⟨wb, wo + 2, none⟩ = some (.string x2) ∧ w'.cell? ⟨wb, wo + 3, none⟩ = some (.string x3)) 11 (by kernel_rfl) ?_
  generalize w.drew = W1 at *
  refine wpAnyC_take8 (i := 0) (oi := _) (v := .slice (some ⟨wb, wo, none⟩) 10 c) rfl (by kernel_rfl) (by kernel_rfl) (by kernel_rfl) (by kernel_rfl) (by kernel_rfl) (by kernel_rfl) (fun _ _ _ h => h) (Or.inl ⟨by rfl, ?_⟩) ⟨c1.out, c2.out, c3.out⟩ ?_
  · intro w hSw
    obtain ⟨s0, s1, s2⟩ := hSw
    go_simp
  try simp only [Act.put, List.setIfInBounds_toArray]
  refine wpAnyC_take8 (i := 1) (oi := _) (v := .pointer (some ⟨wb, wo + 1, none⟩)) rfl (by kernel_rfl) (by kernel_rfl) (by kernel_rfl) (by kernel_rfl) (by kernel_rfl) (by kernel_rfl) (fun _ _ _ h => h) (Or.inl ⟨by rfl, ?_⟩) ⟨c1.out, c2.out, c3.out⟩ ?_
  · intro w hSw
    obtain ⟨s0, s1, s2⟩ := hSw
    go_simp
  try simp only [Act.put]
  refine wpAnyC_take8 (i := 2) (oi := _) (v := .string x1) rfl (by kernel_rfl) (by kernel_rfl) (by kernel_rfl) (by kernel_rfl) (by kernel_rfl) (by kernel_rfl) (fun _ _ _ h => h) (Or.inl ⟨by rfl, ?_⟩) ⟨c1.out, c2.out, c3.out⟩ ?_
  · intro w hSw
    obtain ⟨s0, s1, s2⟩ := hSw
    go_simp
  try simp only [Act.put]
  refine wpAnyC_take8 (i := 3) (oi := _) (v := .slice (some ⟨wb, wo, none⟩) 10 c) rfl (by kernel_rfl) (by kernel_rfl) (by kernel_rfl) (by kernel_rfl) (by kernel_rfl) (by kernel_rfl) (fun _ _ _ h => h) (Or.inl ⟨by rfl, ?_⟩) ⟨c1.out, c2.out, c3.out⟩ ?_
  · intro w hSw
    obtain ⟨s0, s1, s2⟩ := hSw
    go_simp
  try simp only [Act.put]
  refine wpAnyC_take8 (i := 4) (oi := _) (v := .pointer (some ⟨wb, wo + 2, none⟩)) rfl (by kernel_rfl) (by kernel_rfl) (by kernel_rfl) (by kernel_rfl) (by kernel_rfl) (by kernel_rfl) (fun _ _ _ h => h) (Or.inl ⟨by rfl, ?_⟩) ⟨c1.out, c2.out, c3.out⟩ ?_
  · intro w hSw
    obtain ⟨s0, s1, s2⟩ := hSw
    go_simp
  try simp only [Act.put]
  refine wpAnyC_take8 (i := 5) (oi := _) (v := .string x2) rfl (by kernel_rfl) (by kernel_rfl) (by kernel_rfl) (by kernel_rfl) (by kernel_rfl) (by kernel_rfl) (fun _ _ _ h => h) (Or.inl ⟨by rfl, ?_⟩) ⟨c1.out, c2.out, c3.out⟩ ?_
  · intro w hSw
    obtain ⟨s0, s1, s2⟩ := hSw
    go_simp
  try simp only [Act.put]
  refine wpAnyC_take8 (i := 6) (oi := _) (v := .slice (some ⟨wb, wo, none⟩) 10 c) rfl (by kernel_rfl) (by kernel_rfl) (by kernel_rfl) (by kernel_rfl) (by kernel_rfl) (by kernel_rfl) (fun _ _ _ h => h) (Or.inl ⟨by rfl, ?_⟩) ⟨c1.out, c2.out, c3.out⟩ ?_
  · intro w hSw
    obtain ⟨s0, s1, s2⟩ := hSw
    go_simp
  try simp only [Act.put]
  refine wpAnyC_take8 (i := 7) (oi := _) (v := .pointer (some ⟨wb, wo + 3, none⟩)) rfl (by kernel_rfl) (by kernel_rfl) (by kernel_rfl) (by kernel_rfl) (by kernel_rfl) (by kernel_rfl) (fun _ _ _ h => h) (Or.inl ⟨by rfl, ?_⟩) ⟨c1.out, c2.out, c3.out⟩ ?_
  · intro w hSw
    obtain ⟨s0, s1, s2⟩ := hSw
    go_simp
  try simp only [Act.put]
  refine wpAnyC_take8 (i := 8) (oi := _) (v := .string x3) rfl (by kernel_rfl) (by kernel_rfl) (by kernel_rfl) (by kernel_rfl) (by kernel_rfl) (by kernel_rfl) (fun _ _ _ h => h) (Or.inl ⟨by rfl, ?_⟩) ⟨c1.out, c2.out, c3.out⟩ ?_
  · intro w hSw
    obtain ⟨s0, s1, s2⟩ := hSw
    go_simp
  try simp only [Act.put]
  refine wpAnyC_take8 (i := 9) (oi := _) (v := .agg #[.string x1, .string x2, .string x3, .int .i64 0, .int .i64 0, .int .i64 0, .int .i64 0, .int .i64 0, .int .i64 0]) rfl (by kernel_rfl) (by kernel_rfl) (by kernel_rfl) (by kernel_rfl) (by kernel_rfl) (by kernel_rfl) (fun _ _ _ h => h) (Or.inl ⟨by rfl, ?_⟩) ⟨c1.out, c2.out, c3.out⟩ ?_
  · intro w hSw
    obtain ⟨s0, s1, s2⟩ := hSw
    go_simp
  try simp only [Act.put]
  refine wpAnyC_one (i := 10) (by kernel_rfl) rfl (fun K hK => ?_)
  go_simp
  have hz := below_newF W1 (Obj.cells #[.string ⟨#[]⟩, .string ⟨#[]⟩, .string ⟨#[]⟩, .int .i64 0, .int .i64 0, .int .i64 0, .int .i64 0, .int .i64 0, .int .i64 0] 48)
  have HX := Lib.hid (Blk.new W1 48 #[.string ⟨#[]⟩, .string ⟨#[]⟩, .string ⟨#[]⟩, .int .i64 0, .int .i64 0, .int .i64 0, .int .i64 0, .int .i64 0, .int .i64 0])
  refine hK.out _ _ (fun _ => ⟨cell_below c1.out hz, cell_below c2.out hz, cell_below c3.out hz⟩) ?_
  clear hK K
  try simp only [Act.put, List.setIfInBounds_toArray, List.set_cons_zero, List.set_cons_succ]
  refine wpAnyC_one (i := 11) (by kernel_rfl) rfl (fun K hK => ?_)
  go_simp
  refine hK.out _ _ (fun h => absurd h (by decide)) ?_
  clear hK K
  try simp only [Act.put, List.setIfInBounds_toArray, List.set_cons_zero, List.set_cons_succ]
  refine wpAnyC_done (by kernel_rfl) ?_ _
  clear HX hz c0 c1 c2 c3
  go_upto_region 9 with (fail)
  have hx2 := Blk.new W1 48 #[.string x1, .string x2, .string x3, .int .i64 0, .int .i64 0, .int .i64 0, .int .i64 0, .int .i64 0, .int .i64 0]
  have hb2 := below_newF W1 (Obj.cells #[.string x1, .string x2, .string x3, .int .i64 0, .int .i64 0, .int .i64 0, .int .i64 0, .int .i64 0, .int .i64 0] 48)
  generalize W1.alloc (Obj.cells #[.string x1, .string x2, .string x3, .int .i64 0, .int .i64 0, .int .i64 0, .int .i64 0, .int .i64 0, .int .i64 0] 48) = W2 at *
  have HX := Lib.hid hx2
  have HZ := Lib.hid hb2
  have HLG := Lib.hid (HL.out.below hb2)
  clear hx2 hb2 HL
  have hz3 := below_newF W2 (Obj.cells #[.pointer (some ⟨W1.heap.size, 3, none⟩), .pointer (some ⟨W1.heap.size, 4, none⟩), .pointer (some ⟨W1.heap.size, 5, none⟩), .pointer (some ⟨W1.heap.size, 6, none⟩), .pointer (some ⟨W1.heap.size, 7, none⟩), .pointer (some ⟨W1.heap.size, 8, none⟩)] 110)
  have HP := Lib.hid (show Reads (W2.alloc (Obj.cells #[.pointer (some ⟨W1.heap.size, 3, none⟩), .pointer (some ⟨W1.heap.size, 4, none⟩), .pointer (some ⟨W1.heap.size, 5, none⟩), .pointer (some ⟨W1.heap.size, 6, none⟩), .pointer (some ⟨W1.heap.size, 7, none⟩), .pointer (some ⟨W1.heap.size, 8, none⟩)] 110)) (W2.alloc (Obj.cells #[.pointer (some ⟨W1.heap.size, 3, none⟩), .pointer (some ⟨W1.heap.size, 4, none⟩), .pointer (some ⟨W1.heap.size, 5, none⟩), .pointer (some ⟨W1.heap.size, 6, none⟩), .pointer (some ⟨W1.heap.size, 7, none⟩), .pointer (some ⟨W1.heap.size, 8, none⟩)] 110)).heap.size 1 (some ⟨W2.heap.size, 0, none⟩) 6 (ptrs W1.heap.size 3 6) from reads_many (Blk.new W2 110 #[.pointer (some ⟨W1.heap.size, 3, none⟩), .pointer (some ⟨W1.heap.size, 4, none⟩), .pointer (some ⟨W1.heap.size, 5, none⟩), .pointer (some ⟨W1.heap.size, 6, none⟩), .pointer (some ⟨W1.heap.size, 7, none⟩), .pointer (some ⟨W1.heap.size, 8, none⟩)]) rfl rfl)
  have HNU := Lib.hid (numbers_any [x4, x5, x6, x7, x8, x9] 6 (some ⟨wb, wo + 4, none⟩) (c - 4) (some ⟨W2.heap.size, 0, none⟩) 6 W1.heap.size 3 48 #[.string x1, .string x2, .string x3, .int .i64 0, .int .i64 0, .int .i64 0, .int .i64 0, .int .i64 0, .int .i64 0] (W2.alloc (Obj.cells #[.pointer (some ⟨W1.heap.size, 3, none⟩), .pointer (some ⟨W1.heap.size, 4, none⟩), .pointer (some ⟨W1.heap.size, 5, none⟩), .pointer (some ⟨W1.heap.size, 6, none⟩), .pointer (some ⟨W1.heap.size, 7, none⟩), .pointer (some ⟨W1.heap.size, 8, none⟩)] 110)) (reads_drop (k := 4) (HLG.out.below (hz3.mono HZ.out.size)) (by decide)) HP.out (HX.out.below hz3 HX.out.lt) (fun q hq => (by match q, hq with
      | 0, _ => exact ⟨0, rfl⟩
      | 1, _ => exact ⟨0, rfl⟩
      | 2, _ => exact ⟨0, rfl⟩
      | 3, _ => exact ⟨0, rfl⟩
      | 4, _ => exact ⟨0, rfl⟩
      | 5, _ => exact ⟨0, rfl⟩
      )) (fun s hs => HSZ.out s (List.mem_of_mem_drop (i := 4) hs)) (by decide) w HV.out (HW.out.trans ((HZ.out.trans (hz3.mono HZ.out.size)).mono HW.out.size)) HW.out.size)
  have HZ3 := Lib.hid (HZ.out.trans (hz3.mono HZ.out.size))
  clear hz3 HP HX HZ
  go_wp2_with fail
  refine HNU.out.mono ?_
  rintro e W4 ⟨zs, hzl, rfl, hbk, hb4, hzs⟩
  clear HNU
  obtain ⟨y0, y1, y2, y3, y4, y5, hp, hy⟩ := put_branch x1 x2 x3 zs hzl
  rw [hp] at hbk
  have HX := Lib.hid hbk
  have HZ := Lib.hid (HZ3.out.trans hb4)
  have HY := Lib.hid (show ∀ uy0 uy1 uy2 uy3 uy4 uy5, numsL [x4, x5, x6, x7, x8, x9] = some [uy0, uy1, uy2, uy3, uy4, uy5] → y0 = uy0 ∧ y1 = uy1 ∧ y2 = uy2 ∧ y3 = uy3 ∧ y4 = uy4 ∧ y5 = uy5 from fun uy0 uy1 uy2 uy3 uy4 uy5 h => hy uy0 uy1 uy2 uy3 uy4 uy5 (hzs _ h))
  clear hbk hb4 hzs hp hy hzl HZ3 HLG
  obtain ⟨nl, hnl⟩ : ∃ nl, numsL [x4, x5, x6, x7, x8, x9] = nl := ⟨_, rfl⟩
  rw [hnl] at HY ⊢
  have HNL := Lib.hid hnl
  clear hnl
  replace HK := Lib.hid (HK.out.call HZ.out)
  replace HW := Lib.hid (HW.out.trans (HZ.out.mono HW.out.size))
  replace HB := Lib.hid (Nat.le_trans HB.out HZ.out.size)
  clear HZ
  generalize W1.heap.size = gb at *
  go_upto_region 10 with (fail)
  have hd := below_drawF W4
  replace HB := Lib.hid (Nat.le_trans HB.out hd.size)
  replace HW := Lib.hid (HW.out.trans (hd.mono HW.out.size))
  replace HX := Lib.hid (HX.out.below hd HX.out.lt)
  replace HK := Lib.hid (HK.out.call hd)
  clear hd
  have HE := HX
  clear HX
  refine wp_region_c (fun w' => w'.cell? ⟨g, 2, none⟩ = some v2 ∧ w'.cell? ⟨gb, 0, none⟩ = some (.string x1) ∧ w'.cell? ⟨gb, 1, none⟩ = some (.string x2) ∧ w'.cell? ⟨gb, 2, none⟩ = some (.string x3) ∧ w'.cell? ⟨gb, 3, none⟩ = some (I y0) ∧ w'.cell? ⟨gb, 4, none⟩ = some (I y1) ∧ w'.cell? ⟨gb, 5, none⟩ = some (I y2) ∧ w'.cell? ⟨gb, 6, none⟩ = some (I y3) ∧ w'.cell? ⟨gb, 7, none⟩ = some (I y4) ∧ w'.cell? ⟨gb, 8, none⟩ = some (I y5)) 7 (by kernel_rfl) ?_
  generalize W4.drew = W5 at *
  refine wpAnyC_take8 (i := 1) (oi := _) (v := .pointer (some ⟨g, 0, none⟩)) rfl (by kernel_rfl) (by kernel_rfl) (by kernel_rfl) (by kernel_rfl) (by kernel_rfl) (by kernel_rfl) (fun _ _ _ h => h) (Or.inl ⟨by rfl, ?_⟩) ⟨HK.out.blk.cell 2, HE.out.cell 0, HE.out.cell 1, HE.out.cell 2, HE.out.cell 3, HE.out.cell 4, HE.out.cell 5, HE.out.cell 6, HE.out.cell 7, HE.out.cell 8⟩ ?_
  · intro w hSw
    obtain ⟨s0, s1, s2, s3, s4, s5, s6, s7, s8, s9⟩ := hSw
    go_simp
  try simp only [Act.put, List.setIfInBounds_toArray]
  refine wpAnyC_take8 (i := 2) (oi := _) (v := .pointer (some ⟨g, 0, none⟩)) rfl (by kernel_rfl) (by kernel_rfl) (by kernel_rfl) (by kernel_rfl) (by kernel_rfl) (by kernel_rfl) (fun _ _ _ h => h) (Or.inl ⟨by rfl, ?_⟩) ⟨HK.out.blk.cell 2, HE.out.cell 0, HE.out.cell 1, HE.out.cell 2, HE.out.cell 3, HE.out.cell 4, HE.out.cell 5, HE.out.cell 6, HE.out.cell 7, HE.out.cell 8⟩ ?_
  · intro w hSw
    obtain ⟨s0, s1, s2, s3, s4, s5, s6, s7, s8, s9⟩ := hSw
    go_simp
  try simp only [Act.put]
  refine wpAnyC_take8 (i := 3) (oi := _) (v := .pointer (some ⟨g, 2, none⟩)) rfl (by kernel_rfl) (by kernel_rfl) (by kernel_rfl) (by kernel_rfl) (by kernel_rfl) (by kernel_rfl) (fun _ _ _ h => h) (Or.inl ⟨by rfl, ?_⟩) ⟨HK.out.blk.cell 2, HE.out.cell 0, HE.out.cell 1, HE.out.cell 2, HE.out.cell 3, HE.out.cell 4, HE.out.cell 5, HE.out.cell 6, HE.out.cell 7, HE.out.cell 8⟩ ?_
  · intro w hSw
    obtain ⟨s0, s1, s2, s3, s4, s5, s6, s7, s8, s9⟩ := hSw
    go_simp
  try simp only [Act.put]
  refine wpAnyC_take8 (i := 4) (oi := _) (v := v2) rfl (by kernel_rfl) (by kernel_rfl) (by kernel_rfl) (by kernel_rfl) (by kernel_rfl) (by kernel_rfl) (fun _ _ _ h => h) (Or.inl ⟨by rfl, ?_⟩) ⟨HK.out.blk.cell 2, HE.out.cell 0, HE.out.cell 1, HE.out.cell 2, HE.out.cell 3, HE.out.cell 4, HE.out.cell 5, HE.out.cell 6, HE.out.cell 7, HE.out.cell 8⟩ ?_
  · intro w hSw
    obtain ⟨s0, s1, s2, s3, s4, s5, s6, s7, s8, s9⟩ := hSw
    go_simp
  try simp only [Act.put]
  refine wpAnyC_take8 (i := 5) (oi := _) (v := .agg #[.string x1, .string x2, .string x3, I y0, I y1, I y2, I y3, I y4, I y5]) rfl (by kernel_rfl) (by kernel_rfl) (by kernel_rfl) (by kernel_rfl) (by kernel_rfl) (by kernel_rfl) (fun _ _ _ h => h) (Or.inl ⟨by rfl, ?_⟩) ⟨HK.out.blk.cell 2, HE.out.cell 0, HE.out.cell 1, HE.out.cell 2, HE.out.cell 3, HE.out.cell 4, HE.out.cell 5, HE.out.cell 6, HE.out.cell 7, HE.out.cell 8⟩ ?_
  · intro w hSw
    obtain ⟨s0, s1, s2, s3, s4, s5, s6, s7, s8, s9⟩ := hSw
    go_simp
  try simp only [Act.put]
  refine wpAnyC_takeP (i := 0) (oi := _) (v := .pointer (some ⟨g, 0, none⟩)) rfl (by kernel_rfl) (by kernel_rfl) (by kernel_rfl) (by kernel_rfl) (fun _ _ _ h => h) (Or.inl ⟨by rfl, ?_⟩) ⟨HK.out.blk.cell 2, HE.out.cell 0, HE.out.cell 1, HE.out.cell 2, HE.out.cell 3, HE.out.cell 4, HE.out.cell 5, HE.out.cell 6, HE.out.cell 7, HE.out.cell 8⟩ ?_
  · intro w _
    go_simp
  try simp only [Act.put]
  refine wpAnyC_one (i := 6) (by kernel_rfl) rfl (fun K hK => ?_)
  go_simp
  have hz := below_newF W5 (Obj.cells #[.string x1, .string x2, .string x3, I y0, I y1, I y2, I y3, I y4, I y5] 48)
  have HX := Lib.hid (Blk.new W5 48 #[.string x1, .string x2, .string x3, I y0, I y1, I y2, I y3, I y4, I y5])
  replace HB := Lib.hid (Nat.le_trans HB.out hz.size)
  replace HW := Lib.hid (HW.out.trans (hz.mono HW.out.size))
  replace HK := Lib.hid (HK.out.call hz)
  replace HE := Lib.hid (HE.out.blkF hz)
  clear hz
  refine hK.out _ _ (fun _ => ⟨HK.out.blk.cell 2, HE.out.cell 0, HE.out.cell 1, HE.out.cell 2, HE.out.cell 3, HE.out.cell 4, HE.out.cell 5, HE.out.cell 6, HE.out.cell 7, HE.out.cell 8⟩) ?_
  clear hK K
  try simp only [Act.put, List.setIfInBounds_toArray, List.set_cons_zero, List.set_cons_succ]
  generalize W5.heap.size = gx at *
  generalize W5.alloc (Obj.cells #[.string x1, .string x2, .string x3, I y0, I y1, I y2, I y3, I y4, I y5] 48) = W2 at *
  refine wpAnyC_one (i := 7) (by kernel_rfl) rfl (fun K hK => ?_)
  refine step_appE (by rfl) _ _ appE2 (by rfl) base v2 n.branches.length (cellsBy BranchD.cells n.branches) (by kernel_rfl) HK.out.r2 (some ⟨gx, 0, none⟩) 1 1 [.string x1, .string x2, .string x3, I y0, I y1, I y2, I y3, I y4, I y5] (by kernel_rfl) (reads_blkE HX.out rfl) (by simp [Value.oneCell']) (by have := HF.out; omega) HB.out ?_
  intro v W3 hr hgr
  obtain ⟨vA, vc, rfl⟩ := hr.val
  have hkk := HK.out.blk.apart HK.out.r2 (by decide) hgr
  have hfc := hkk.frozen 2
  have hcc := hkk.cell 2
  have HR := Lib.hid (HK.out.app2 ⟨x1, x2, x3, y0, y1, y2, y3, y4, y5⟩ hr hgr)
  replace HW := Lib.hid ((HW.out.mono HBASE.out).trans (HK.out.r2.belowG hgr HB.out))
  clear hr hgr hkk HK HX
  refine hK.out _ _ (fun h => absurd h (by decide)) ?_
  clear hK K
  try simp only [Act.put, List.setIfInBounds_toArray]
  refine wpAnyC_one (i := 8) (by kernel_rfl) rfl (fun K hK => ?_)
  go_simp
  refine hK.out _ _ (fun h => absurd h (by decide)) ?_
  clear hK K
  try simp only [Act.put, List.setIfInBounds_toArray, List.set_cons_zero, List.set_cons_succ]
  refine wpAnyC_one (i := 9) (by kernel_rfl) rfl (fun K hK => ?_)
  go_simp
  refine hK.out _ _ (fun h => absurd h (by decide)) ?_
  clear hK K
  try simp only [Act.put, List.setIfInBounds_toArray, List.set_cons_zero, List.set_cons_succ]
  refine wpAnyC_one (i := 10) (by kernel_rfl) rfl (fun K hK => ?_)
  go_simp
  refine hK.out _ _ (fun h => absurd h (by decide)) ?_
  clear hK K
  try simp only [Act.put, List.setIfInBounds_toArray, List.set_cons_zero, List.set_cons_succ]
  refine wpAnyC_done (by kernel_rfl) ?_ _
  go_wp2
  go_ret
  exact ⟨by rw [HNL.out]; rfl, HW.out.setCell (p := ⟨g, 2, none⟩) HGB.out _, fun uy0 uy1 uy2 uy3 uy4 uy5 h => by
    rw [HNL.out] at h
    obtain ⟨rfl, rfl, rfl, rfl, rfl, rfl⟩ := HY.out uy0 uy1 uy2 uy3 uy4 uy5 h
    exact ⟨_, HR.out⟩⟩
end Go.Proofs.YtglbelmljdgaoaaGreatDoor
namespace Go.Proofs.YtglbelmljdgaoaaGreatDoor
open Go.RowKit

theorem key_n {x : ByteArray} {l : List UInt8} (h : x ≠ ⟨⟨l⟩⟩) : (x.toList == l) = false := key_f h
set_option maxRecDepth 100000 in
set_option maxHeartbeats 4000000 in
theorem addNo_node (x0 : ByteArray) (L wb wo c : Nat) (g : Nat) (w : World) (hL : 1 ≤ L) (hL2 : L ≤ 1000000) (c0 : w.cell? ⟨wb, wo, none⟩ = some (.string x0)) (h0 : x0 = kNode) (hn : L ≠ 2) :
    Calls Tryz.prog 44 #[.pointer (some ⟨g, 0, none⟩), .slice (some ⟨wb, wo, none⟩) L c] w fun e w' => e = .returned (.bool false) ∧ w' = w := by
  have t_node : (x0.toList == [110, 111, 100, 101]) = true := key_t h0
  have t_switch : (x0.toList == [115, 119, 105, 116, 99, 104]) = false := key_f (by rw [h0]; decide)
  have t_breaker : (x0.toList == [98, 114, 101, 97, 107, 101, 114]) = false := key_f (by rw [h0]; decide)
  have t_branch : (x0.toList == [98, 114, 97, 110, 99, 104]) = false := key_f (by rw [h0]; decide)
  have t_gen : (x0.toList == [103, 101, 110]) = false := key_f (by rw [h0]; decide)
  have t_load : (x0.toList == [108, 111, 97, 100]) = false := key_f (by rw [h0]; decide)
  have t_store : (x0.toList == [115, 116, 111, 114, 101]) = false := key_f (by rw [h0]; decide)
  have tl : ((L : Int) == 2) = false := by rw [beq_eq_false_iff_ne]; omega
  clear h0 hn
  go_enter Tryz.func44, Tryz.ntmps44
  go_wp2
  go_ret
  exact ⟨rfl, rfl⟩
set_option maxRecDepth 100000 in
set_option maxHeartbeats 4000000 in
theorem addNo_switch (x0 : ByteArray) (L wb wo c : Nat) (g : Nat) (w : World) (hL : 1 ≤ L) (hL2 : L ≤ 1000000) (c0 : w.cell? ⟨wb, wo, none⟩ = some (.string x0)) (h0 : x0 = kSwitch) (hn : L ≠ 5) :
    Calls Tryz.prog 44 #[.pointer (some ⟨g, 0, none⟩), .slice (some ⟨wb, wo, none⟩) L c] w fun e w' => e = .returned (.bool false) ∧ w' = w := by
  have t_node : (x0.toList == [110, 111, 100, 101]) = false := key_f (by rw [h0]; decide)
  have t_switch : (x0.toList == [115, 119, 105, 116, 99, 104]) = true := key_t h0
  have t_breaker : (x0.toList == [98, 114, 101, 97, 107, 101, 114]) = false := key_f (by rw [h0]; decide)
  have t_branch : (x0.toList == [98, 114, 97, 110, 99, 104]) = false := key_f (by rw [h0]; decide)
  have t_gen : (x0.toList == [103, 101, 110]) = false := key_f (by rw [h0]; decide)
  have t_load : (x0.toList == [108, 111, 97, 100]) = false := key_f (by rw [h0]; decide)
  have t_store : (x0.toList == [115, 116, 111, 114, 101]) = false := key_f (by rw [h0]; decide)
  have tl : ((L : Int) == 5) = false := by rw [beq_eq_false_iff_ne]; omega
  clear h0 hn
  go_enter Tryz.func44, Tryz.ntmps44
  go_wp2
  go_ret
  exact ⟨rfl, rfl⟩
set_option maxRecDepth 100000 in
set_option maxHeartbeats 4000000 in
theorem addNo_breaker (x0 : ByteArray) (L wb wo c : Nat) (g : Nat) (w : World) (hL : 1 ≤ L) (hL2 : L ≤ 1000000) (c0 : w.cell? ⟨wb, wo, none⟩ = some (.string x0)) (h0 : x0 = kBreaker) (hn : L ≠ 5) :
    Calls Tryz.prog 44 #[.pointer (some ⟨g, 0, none⟩), .slice (some ⟨wb, wo, none⟩) L c] w fun e w' => e = .returned (.bool false) ∧ w' = w := by
  have t_node : (x0.toList == [110, 111, 100, 101]) = false := key_f (by rw [h0]; decide)
  have t_switch : (x0.toList == [115, 119, 105, 116, 99, 104]) = false := key_f (by rw [h0]; decide)
  have t_breaker : (x0.toList == [98, 114, 101, 97, 107, 101, 114]) = true := key_t h0
  have t_branch : (x0.toList == [98, 114, 97, 110, 99, 104]) = false := key_f (by rw [h0]; decide)
  have t_gen : (x0.toList == [103, 101, 110]) = false := key_f (by rw [h0]; decide)
  have t_load : (x0.toList == [108, 111, 97, 100]) = false := key_f (by rw [h0]; decide)
  have t_store : (x0.toList == [115, 116, 111, 114, 101]) = false := key_f (by rw [h0]; decide)
  have tl : ((L : Int) == 5) = false := by rw [beq_eq_false_iff_ne]; omega
  clear h0 hn
  go_enter Tryz.func44, Tryz.ntmps44
  go_wp2
  go_ret
  exact ⟨rfl, rfl⟩
set_option maxRecDepth 100000 in
set_option maxHeartbeats 4000000 in
theorem addNo_branch (x0 : ByteArray) (L wb wo c : Nat) (g : Nat) (w : World) (hL : 1 ≤ L) (hL2 : L ≤ 1000000) (c0 : w.cell? ⟨wb, wo, none⟩ = some (.string x0)) (h0 : x0 = kBranch) (hn : L ≠ 10) :
    Calls Tryz.prog 44 #[.pointer (some ⟨g, 0, none⟩), .slice (some ⟨wb, wo, none⟩) L c] w fun e w' => e = .returned (.bool false) ∧ w' = w := by
  have t_node : (x0.toList == [110, 111, 100, 101]) = false := key_f (by rw [h0]; decide)
  have t_switch : (x0.toList == [115, 119, 105, 116, 99, 104]) = false := key_f (by rw [h0]; decide)
  have t_breaker : (x0.toList == [98, 114, 101, 97, 107, 101, 114]) = false := key_f (by rw [h0]; decide)
  have t_branch : (x0.toList == [98, 114, 97, 110, 99, 104]) = true := key_t h0
  have t_gen : (x0.toList == [103, 101, 110]) = false := key_f (by rw [h0]; decide)
  have t_load : (x0.toList == [108, 111, 97, 100]) = false := key_f (by rw [h0]; decide)
  have t_store : (x0.toList == [115, 116, 111, 114, 101]) = false := key_f (by rw [h0]; decide)
  have tl : ((L : Int) == 10) = false := by rw [beq_eq_false_iff_ne]; omega
  clear h0 hn
  go_enter Tryz.func44, Tryz.ntmps44
  go_wp2
  go_ret
  exact ⟨rfl, rfl⟩
set_option maxRecDepth 100000 in
set_option maxHeartbeats 4000000 in
theorem addNo_gen (x0 : ByteArray) (L wb wo c : Nat) (g : Nat) (w : World) (hL : 1 ≤ L) (hL2 : L ≤ 1000000) (c0 : w.cell? ⟨wb, wo, none⟩ = some (.string x0)) (h0 : x0 = kGen) (hn : L ≠ 6) :
    Calls Tryz.prog 44 #[.pointer (some ⟨g, 0, none⟩), .slice (some ⟨wb, wo, none⟩) L c] w fun e w' => e = .returned (.bool false) ∧ w' = w := by
  have t_node : (x0.toList == [110, 111, 100, 101]) = false := key_f (by rw [h0]; decide)
  have t_switch : (x0.toList == [115, 119, 105, 116, 99, 104]) = false := key_f (by rw [h0]; decide)
  have t_breaker : (x0.toList == [98, 114, 101, 97, 107, 101, 114]) = false := key_f (by rw [h0]; decide)
  have t_branch : (x0.toList == [98, 114, 97, 110, 99, 104]) = false := key_f (by rw [h0]; decide)
  have t_gen : (x0.toList == [103, 101, 110]) = true := key_t h0
  have t_load : (x0.toList == [108, 111, 97, 100]) = false := key_f (by rw [h0]; decide)
  have t_store : (x0.toList == [115, 116, 111, 114, 101]) = false := key_f (by rw [h0]; decide)
  have tl : ((L : Int) == 6) = false := by rw [beq_eq_false_iff_ne]; omega
  clear h0 hn
  go_enter Tryz.func44, Tryz.ntmps44
  go_wp2
  go_ret
  exact ⟨rfl, rfl⟩
set_option maxRecDepth 100000 in
set_option maxHeartbeats 4000000 in
theorem addNo_load (x0 : ByteArray) (L wb wo c : Nat) (g : Nat) (w : World) (hL : 1 ≤ L) (hL2 : L ≤ 1000000) (c0 : w.cell? ⟨wb, wo, none⟩ = some (.string x0)) (h0 : x0 = kLoad) (hn : L ≠ 4) :
    Calls Tryz.prog 44 #[.pointer (some ⟨g, 0, none⟩), .slice (some ⟨wb, wo, none⟩) L c] w fun e w' => e = .returned (.bool false) ∧ w' = w := by
  have t_node : (x0.toList == [110, 111, 100, 101]) = false := key_f (by rw [h0]; decide)
  have t_switch : (x0.toList == [115, 119, 105, 116, 99, 104]) = false := key_f (by rw [h0]; decide)
  have t_breaker : (x0.toList == [98, 114, 101, 97, 107, 101, 114]) = false := key_f (by rw [h0]; decide)
  have t_branch : (x0.toList == [98, 114, 97, 110, 99, 104]) = false := key_f (by rw [h0]; decide)
  have t_gen : (x0.toList == [103, 101, 110]) = false := key_f (by rw [h0]; decide)
  have t_load : (x0.toList == [108, 111, 97, 100]) = true := key_t h0
  have t_store : (x0.toList == [115, 116, 111, 114, 101]) = false := key_f (by rw [h0]; decide)
  have tl : ((L : Int) == 4) = false := by rw [beq_eq_false_iff_ne]; omega
  clear h0 hn
  go_enter Tryz.func44, Tryz.ntmps44
  go_wp2
  go_ret
  exact ⟨rfl, rfl⟩
set_option maxRecDepth 100000 in
set_option maxHeartbeats 4000000 in
theorem addNo_store (x0 : ByteArray) (L wb wo c : Nat) (g : Nat) (w : World) (hL : 1 ≤ L) (hL2 : L ≤ 1000000) (c0 : w.cell? ⟨wb, wo, none⟩ = some (.string x0)) (h0 : x0 = kStore) (hn : L ≠ 6) :
    Calls Tryz.prog 44 #[.pointer (some ⟨g, 0, none⟩), .slice (some ⟨wb, wo, none⟩) L c] w fun e w' => e = .returned (.bool false) ∧ w' = w := by
  have t_node : (x0.toList == [110, 111, 100, 101]) = false := key_f (by rw [h0]; decide)
  have t_switch : (x0.toList == [115, 119, 105, 116, 99, 104]) = false := key_f (by rw [h0]; decide)
  have t_breaker : (x0.toList == [98, 114, 101, 97, 107, 101, 114]) = false := key_f (by rw [h0]; decide)
  have t_branch : (x0.toList == [98, 114, 97, 110, 99, 104]) = false := key_f (by rw [h0]; decide)
  have t_gen : (x0.toList == [103, 101, 110]) = false := key_f (by rw [h0]; decide)
  have t_load : (x0.toList == [108, 111, 97, 100]) = false := key_f (by rw [h0]; decide)
  have t_store : (x0.toList == [115, 116, 111, 114, 101]) = true := key_t h0
  have tl : ((L : Int) == 6) = false := by rw [beq_eq_false_iff_ne]; omega
  clear h0 hn
  go_enter Tryz.func44, Tryz.ntmps44
  go_wp2
  go_ret
  exact ⟨rfl, rfl⟩
set_option maxRecDepth 100000 in
set_option maxHeartbeats 4000000 in
theorem addNo_none (x0 : ByteArray) (L wb wo c : Nat) (g : Nat) (w : World) (hL : 1 ≤ L) (hL2 : L ≤ 1000000) (c0 : w.cell? ⟨wb, wo, none⟩ = some (.string x0)) (h_node : x0 ≠ kNode) (h_switch : x0 ≠ kSwitch) (h_breaker : x0 ≠ kBreaker) (h_branch : x0 ≠ kBranch) (h_gen : x0 ≠ kGen) (h_load : x0 ≠ kLoad) (h_store : x0 ≠ kStore) :
    Calls Tryz.prog 44 #[.pointer (some ⟨g, 0, none⟩), .slice (some ⟨wb, wo, none⟩) L c] w fun e w' => e = .returned (.bool false) ∧ w' = w := by
  have t_node : (x0.toList == [110, 111, 100, 101]) = false := key_f h_node
  have t_switch : (x0.toList == [115, 119, 105, 116, 99, 104]) = false := key_f h_switch
  have t_breaker : (x0.toList == [98, 114, 101, 97, 107, 101, 114]) = false := key_f h_breaker
  have t_branch : (x0.toList == [98, 114, 97, 110, 99, 104]) = false := key_f h_branch
  have t_gen : (x0.toList == [103, 101, 110]) = false := key_f h_gen
  have t_load : (x0.toList == [108, 111, 97, 100]) = false := key_f h_load
  have t_store : (x0.toList == [115, 116, 111, 114, 101]) = false := key_f h_store
  clear h_node h_switch h_breaker h_branch h_gen h_load h_store
  go_enter Tryz.func44, Tryz.ntmps44
  go_wp2
  go_ret
  exact ⟨rfl, rfl⟩
set_option maxRecDepth 100000 in
set_option maxHeartbeats 4000000 in
theorem addNo5_switch (x0 : ByteArray) (L wb wo c : Nat) (g : Nat) (w : World) (hL : 1 ≤ L) (hL2 : L ≤ 1000000) (c0 : w.cell? ⟨wb, wo, none⟩ = some (.string x0)) (x4 : ByteArray) (c4 : w.cell? ⟨wb, wo + 4, none⟩ = some (.string x4)) (h0 : x0 = kSwitch) (hn : L = 5) (ho : x4 ≠ kOpen) (hc : x4 ≠ kClosed) :
    Calls Tryz.prog 44 #[.pointer (some ⟨g, 0, none⟩), .slice (some ⟨wb, wo, none⟩) L c] w fun e w' => e = .returned (.bool false) ∧ w' = w := by
  have t_node : (x0.toList == [110, 111, 100, 101]) = false := key_f (by rw [h0]; decide)
  have t_switch : (x0.toList == [115, 119, 105, 116, 99, 104]) = true := key_t h0
  have t_breaker : (x0.toList == [98, 114, 101, 97, 107, 101, 114]) = false := key_f (by rw [h0]; decide)
  have t_branch : (x0.toList == [98, 114, 97, 110, 99, 104]) = false := key_f (by rw [h0]; decide)
  have t_gen : (x0.toList == [103, 101, 110]) = false := key_f (by rw [h0]; decide)
  have t_load : (x0.toList == [108, 111, 97, 100]) = false := key_f (by rw [h0]; decide)
  have t_store : (x0.toList == [115, 116, 111, 114, 101]) = false := key_f (by rw [h0]; decide)
  have t_o : (x4.toList == [111, 112, 101, 110]) = false := key_f ho
  have t_c : (x4.toList == [99, 108, 111, 115, 101, 100]) = false := key_f hc
  subst hn
  clear h0 ho hc
  go_enter Tryz.func44, Tryz.ntmps44
  go_wp2
  go_ret
  exact ⟨rfl, rfl⟩
set_option maxRecDepth 100000 in
set_option maxHeartbeats 4000000 in
theorem addNo5_breaker (x0 : ByteArray) (L wb wo c : Nat) (g : Nat) (w : World) (hL : 1 ≤ L) (hL2 : L ≤ 1000000) (c0 : w.cell? ⟨wb, wo, none⟩ = some (.string x0)) (x4 : ByteArray) (c4 : w.cell? ⟨wb, wo + 4, none⟩ = some (.string x4)) (h0 : x0 = kBreaker) (hn : L = 5) (ho : x4 ≠ kOpen) (hc : x4 ≠ kClosed) :
    Calls Tryz.prog 44 #[.pointer (some ⟨g, 0, none⟩), .slice (some ⟨wb, wo, none⟩) L c] w fun e w' => e = .returned (.bool false) ∧ w' = w := by
  have t_node : (x0.toList == [110, 111, 100, 101]) = false := key_f (by rw [h0]; decide)
  have t_switch : (x0.toList == [115, 119, 105, 116, 99, 104]) = false := key_f (by rw [h0]; decide)
  have t_breaker : (x0.toList == [98, 114, 101, 97, 107, 101, 114]) = true := key_t h0
  have t_branch : (x0.toList == [98, 114, 97, 110, 99, 104]) = false := key_f (by rw [h0]; decide)
  have t_gen : (x0.toList == [103, 101, 110]) = false := key_f (by rw [h0]; decide)
  have t_load : (x0.toList == [108, 111, 97, 100]) = false := key_f (by rw [h0]; decide)
  have t_store : (x0.toList == [115, 116, 111, 114, 101]) = false := key_f (by rw [h0]; decide)
  have t_o : (x4.toList == [111, 112, 101, 110]) = false := key_f ho
  have t_c : (x4.toList == [99, 108, 111, 115, 101, 100]) = false := key_f hc
  subst hn
  clear h0 ho hc
  go_enter Tryz.func44, Tryz.ntmps44
  go_wp2
  go_ret
  exact ⟨rfl, rfl⟩

theorem addW_none {n : NetD} {l : List ByteArray} (h1 : ∀ k a, l = [k, a] → k ≠ kNode) (h2 : ∀ k a b c, l = [k, a, b, c] → k ≠ kLoad) (h3 : ∀ k a b c d, l = [k, a, b, c, d] → ¬ ((k = kSwitch ∨ k = kBreaker) ∧ (d = kOpen ∨ d = kClosed)))
    (h4 : ∀ k a b c d e, l = [k, a, b, c, d, e] → k ≠ kGen ∧ k ≠ kStore) (h5 : ∀ k a b c d e f g h i, l = [k, a, b, c, d, e, f, g, h, i] → k ≠ kBranch) : addW n l = none := by
  unfold addW
  split
  · exact if_neg (h1 _ _ rfl)
  · exact if_neg (h2 _ _ _ _ rfl)
  · exact if_neg (h3 _ _ _ _ _ rfl)
  · rw [if_neg (h4 _ _ _ _ _ _ rfl).1, if_neg (h4 _ _ _ _ _ _ rfl).2]
  · exact if_neg (h5 _ _ _ _ _ _ _ _ _ _ rfl)
  · rfl
/-- what nettext.add does -/
def RetAdd (w : World) (base g : Nat) (n : NetD) (l : List ByteArray) (e : Ending) (w' : World) : Prop :=
  Below base w w' ∧ ((∃ m, addW n l = some m ∧ e = .returned (.bool true) ∧ ∃ v0 v1 v2 v3 v4 v5, NMk w' base g m v0 v1 v2 v3 v4 v5) ∨ (addW n l = none ∧ e = .returned (.bool false)))
structure NetFew (n : NetD) : Prop where
  f0 : n.nodes.length ≤ 10000
  f1 : n.switches.length ≤ 10000
  f2 : n.branches.length ≤ 10000
  f3 : n.gens.length ≤ 10000
  f4 : n.loads.length ≤ 10000
  f5 : n.stores.length ≤ 10000
theorem at_word {w : World} {B wb wo L : Nat} {l : List ByteArray} (h : Reads w B 1 (some ⟨wb, wo, none⟩) L (l.map S)) (h0 : 0 < L) {j : Nat} {x : ByteArray} (hx : l[j]? = some x) : w.cell? ⟨wb, wo + j, none⟩ = some (.string x) := by
  obtain ⟨b, o, e, _, hc⟩ := h.2 h0
  injection e with e
  injection e with e1 e2
  subst e1 e2
  exact hc j _ (by rw [List.getElem?_map, hx]; rfl)
theorem list_len {α : Type} : ∀ {l : List α} {k : Nat}, l.length = k + 1 → ∃ a r, l = a :: r ∧ r.length = k
  | a :: r, _, h => ⟨a, r, rfl, by simpa using h⟩
set_option maxRecDepth 100000 in
theorem add_any {base g : Nat} {n : NetD} {v0 v1 v2 v3 v4 v5 : Value} (l : List ByteArray) (A : Option Addr) (c : Nat) (w : World) (hk : NMk w base g n v0 v1 v2 v3 v4 v5) (hl : Reads w w.heap.size 1 A l.length (l.map S)) (hb0 : base ≤ w.heap.size) (hf : NetFew n) (h1 : 1 ≤ l.length) (h2 : l.length ≤ 1000000) (hcap : l.length ≤ c) (hsz : ∀ s ∈ l, s.size ≤ 1000000) (hv : Vars w) :
    Calls Tryz.prog 44 #[.pointer (some ⟨g, 0, none⟩), .slice A l.length c] w (RetAdd w base g n l) := by
  obtain ⟨wb, wo, rfl, hwb, _⟩ := hl.2 h1
  obtain ⟨x0, r, rfl, hr⟩ := list_len (show l.length = (l.length - 1) + 1 by omega)
  have c0 : w.cell? ⟨wb, wo, none⟩ = some (.string x0) := at_word hl h1 (j := 0) rfl
  have no : ∀ e w', e = Ending.returned (.bool false) ∧ w' = w → addW n (x0 :: r) = none → RetAdd w base g n (x0 :: r) e w' := fun e w' h ha => ⟨by rw [h.2]; exact Below.refl _ _, .inr ⟨ha, h.1⟩⟩
  by_cases k0 : x0 = kNode
  · skip
    by_cases hL : (x0 :: r).length = 2
    · skip
      have hr1 : r.length = 1 := by simpa using hL
      obtain ⟨x1, r1, rfl, hr2⟩ := list_len hr1
      obtain rfl := List.eq_nil_of_length_eq_zero hr2
      refine (addNode x0 x1 _ c w hk hl hb0 hf.f0 k0).mono fun e w' h => ⟨h.2.choose_spec.2, .inl ⟨_, by rw [addW, if_pos k0], h.1, _, _, _, _, _, _, h.2.choose_spec.1⟩⟩
    · exact (addNo_node x0 _ wb wo c g w h1 h2 c0 k0 hL).mono fun e w' h => no e w' h (addW_none (fun k _ e => absurd (congrArg List.length e) (by simpa using hL)) (fun k _ _ _ e q => by injection e with e1 _; exact absurd (k0.symm.trans (e1.trans q)) (by decide)) (fun k _ _ _ _ e hh => by injection e with e1 _; rcases hh.1 with q | q <;> exact absurd (k0.symm.trans (e1.trans q)) (by decide)) (fun k _ _ _ _ _ e => by injection e with e1 _; exact ⟨fun q => absurd (k0.symm.trans (e1.trans q)) (by decide), fun q => absurd (k0.symm.trans (e1.trans q)) (by decide)⟩) (fun k _ _ _ _ _ _ _ _ _ e q => by injection e with e1 _; exact absurd (k0.symm.trans (e1.trans q)) (by decide)))
  have n_node := k0
  clear k0
  by_cases k0 : x0 = kSwitch
  · skip
    by_cases hL : (x0 :: r).length = 5
    · skip
      have hr1 : r.length = 4 := by simpa using hL
      obtain ⟨x1, r1, rfl, hr2⟩ := list_len hr1
      obtain ⟨x2, r2, rfl, hr3⟩ := list_len hr2
      obtain ⟨x3, r3, rfl, hr4⟩ := list_len hr3
      obtain ⟨x4, r4, rfl, hr5⟩ := list_len hr4
      obtain rfl := List.eq_nil_of_length_eq_zero hr5
      by_cases h4 : x4 = kOpen ∨ x4 = kClosed
      · refine (addSwitch x0 x1 x2 x3 x4 _ c w hk hl hb0 hf.f1 k0 h4).mono fun e w' h => ⟨h.2.choose_spec.2, .inl ⟨_, by rw [addW, if_pos ⟨.inl k0, h4⟩, show decide (x0 = kBreaker) = false from decide_eq_false (by rw [k0]; decide)], h.1, _, _, _, _, _, _, h.2.choose_spec.1⟩⟩
      · refine (addNo5_switch x0 5 wb wo c g w (by decide) (by decide) c0 x4 (at_word hl (Nat.succ_pos _) (j := 4) rfl) k0 rfl (fun q => h4 (.inl q)) (fun q => h4 (.inr q))).mono fun e w' h => no e w' h ?_
        rw [addW, if_neg (fun q => h4 q.2)]
    · exact (addNo_switch x0 _ wb wo c g w h1 h2 c0 k0 hL).mono fun e w' h => no e w' h (addW_none (fun k _ e q => by injection e with e1 _; exact absurd (k0.symm.trans (e1.trans q)) (by decide)) (fun k _ _ _ e q => by injection e with e1 _; exact absurd (k0.symm.trans (e1.trans q)) (by decide)) (fun k _ _ _ _ e => absurd (congrArg List.length e) (by simpa using hL)) (fun k _ _ _ _ _ e => by injection e with e1 _; exact ⟨fun q => absurd (k0.symm.trans (e1.trans q)) (by decide), fun q => absurd (k0.symm.trans (e1.trans q)) (by decide)⟩) (fun k _ _ _ _ _ _ _ _ _ e q => by injection e with e1 _; exact absurd (k0.symm.trans (e1.trans q)) (by decide)))
  have n_switch := k0
  clear k0
  by_cases k0 : x0 = kBreaker
  · skip
    by_cases hL : (x0 :: r).length = 5
    · skip
      have hr1 : r.length = 4 := by simpa using hL
      obtain ⟨x1, r1, rfl, hr2⟩ := list_len hr1
      obtain ⟨x2, r2, rfl, hr3⟩ := list_len hr2
      obtain ⟨x3, r3, rfl, hr4⟩ := list_len hr3
      obtain ⟨x4, r4, rfl, hr5⟩ := list_len hr4
      obtain rfl := List.eq_nil_of_length_eq_zero hr5
      by_cases h4 : x4 = kOpen ∨ x4 = kClosed
      · refine (addBreaker x0 x1 x2 x3 x4 _ c w hk hl hb0 hf.f1 k0 h4).mono fun e w' h => ⟨h.2.choose_spec.2, .inl ⟨_, by rw [addW, if_pos ⟨.inr k0, h4⟩, show decide (x0 = kBreaker) = true from decide_eq_true k0], h.1, _, _, _, _, _, _, h.2.choose_spec.1⟩⟩
      · refine (addNo5_breaker x0 5 wb wo c g w (by decide) (by decide) c0 x4 (at_word hl (Nat.succ_pos _) (j := 4) rfl) k0 rfl (fun q => h4 (.inl q)) (fun q => h4 (.inr q))).mono fun e w' h => no e w' h ?_
        rw [addW, if_neg (fun q => h4 q.2)]
    · exact (addNo_breaker x0 _ wb wo c g w h1 h2 c0 k0 hL).mono fun e w' h => no e w' h (addW_none (fun k _ e q => by injection e with e1 _; exact absurd (k0.symm.trans (e1.trans q)) (by decide)) (fun k _ _ _ e q => by injection e with e1 _; exact absurd (k0.symm.trans (e1.trans q)) (by decide)) (fun k _ _ _ _ e => absurd (congrArg List.length e) (by simpa using hL)) (fun k _ _ _ _ _ e => by injection e with e1 _; exact ⟨fun q => absurd (k0.symm.trans (e1.trans q)) (by decide), fun q => absurd (k0.symm.trans (e1.trans q)) (by decide)⟩) (fun k _ _ _ _ _ _ _ _ _ e q => by injection e with e1 _; exact absurd (k0.symm.trans (e1.trans q)) (by decide)))
  have n_breaker := k0
  clear k0
  by_cases k0 : x0 = kBranch
  · skip
    by_cases hL : (x0 :: r).length = 10
    · skip
      have hr1 : r.length = 9 := by simpa using hL
      obtain ⟨x1, r1, rfl, hr2⟩ := list_len hr1
      obtain ⟨x2, r2, rfl, hr3⟩ := list_len hr2
      obtain ⟨x3, r3, rfl, hr4⟩ := list_len hr3
      obtain ⟨x4, r4, rfl, hr5⟩ := list_len hr4
      obtain ⟨x5, r5, rfl, hr6⟩ := list_len hr5
      obtain ⟨x6, r6, rfl, hr7⟩ := list_len hr6
      obtain ⟨x7, r7, rfl, hr8⟩ := list_len hr7
      obtain ⟨x8, r8, rfl, hr9⟩ := list_len hr8
      obtain ⟨x9, r9, rfl, hr10⟩ := list_len hr9
      obtain rfl := List.eq_nil_of_length_eq_zero hr10
      refine (addBranch x0 x1 x2 x3 x4 x5 x6 x7 x8 x9 _ c w hk hl hb0 hf.f2 k0 (by simpa using hcap) hsz hv).mono fun e w' h => ⟨h.2.1, ?_⟩
      cases e0 : numW x4 with
      | none =>
        have hnum : numsL [x4, x5, x6, x7, x8, x9] = none := by simp only [numsL, e0]; rfl
        exact .inr ⟨by rw [addW, if_pos k0, e0]; rfl, by rw [h.1, hnum]; rfl⟩
      | some y0 =>
        cases e1 : numW x5 with
        | none =>
          have hnum : numsL [x4, x5, x6, x7, x8, x9] = none := by simp only [numsL, e0, e1]; rfl
          exact .inr ⟨by rw [addW, if_pos k0, e0, e1]; rfl, by rw [h.1, hnum]; rfl⟩
        | some y1 =>
          cases e2 : numW x6 with
          | none =>
            have hnum : numsL [x4, x5, x6, x7, x8, x9] = none := by simp only [numsL, e0, e1, e2]; rfl
            exact .inr ⟨by rw [addW, if_pos k0, e0, e1, e2]; rfl, by rw [h.1, hnum]; rfl⟩
          | some y2 =>
            cases e3 : numW x7 with
            | none =>
              have hnum : numsL [x4, x5, x6, x7, x8, x9] = none := by simp only [numsL, e0, e1, e2, e3]; rfl
              exact .inr ⟨by rw [addW, if_pos k0, e0, e1, e2, e3]; rfl, by rw [h.1, hnum]; rfl⟩
            | some y3 =>
              cases e4 : numW x8 with
              | none =>
                have hnum : numsL [x4, x5, x6, x7, x8, x9] = none := by simp only [numsL, e0, e1, e2, e3, e4]; rfl
                exact .inr ⟨by rw [addW, if_pos k0, e0, e1, e2, e3, e4]; rfl, by rw [h.1, hnum]; rfl⟩
              | some y4 =>
                cases e5 : numW x9 with
                | none =>
                  have hnum : numsL [x4, x5, x6, x7, x8, x9] = none := by simp only [numsL, e0, e1, e2, e3, e4, e5]; rfl
                  exact .inr ⟨by rw [addW, if_pos k0, e0, e1, e2, e3, e4, e5]; rfl, by rw [h.1, hnum]; rfl⟩
                | some y5 =>
                  have hnum : numsL [x4, x5, x6, x7, x8, x9] = some [y0, y1, y2, y3, y4, y5] := by simp only [numsL, e0, e1, e2, e3, e4, e5]; rfl
                  refine .inl ⟨_, by rw [addW, if_pos k0, e0, e1, e2, e3, e4, e5]; rfl, by rw [h.1, hnum]; rfl, ?_⟩
                  obtain ⟨v, hv2⟩ := h.2.2 y0 y1 y2 y3 y4 y5 hnum
                  exact ⟨_, _, _, _, _, _, hv2⟩
    · exact (addNo_branch x0 _ wb wo c g w h1 h2 c0 k0 hL).mono fun e w' h => no e w' h (addW_none (fun k _ e q => by injection e with e1 _; exact absurd (k0.symm.trans (e1.trans q)) (by decide)) (fun k _ _ _ e q => by injection e with e1 _; exact absurd (k0.symm.trans (e1.trans q)) (by decide)) (fun k _ _ _ _ e hh => by injection e with e1 _; rcases hh.1 with q | q <;> exact absurd (k0.symm.trans (e1.trans q)) (by decide)) (fun k _ _ _ _ _ e => by injection e with e1 _; exact ⟨fun q => absurd (k0.symm.trans (e1.trans q)) (by decide), fun q => absurd (k0.symm.trans (e1.trans q)) (by decide)⟩) (fun k _ _ _ _ _ _ _ _ _ e => absurd (congrArg List.length e) (by simpa using hL)))
  have n_branch := k0
  clear k0
  by_cases k0 : x0 = kGen
  · skip
    by_cases hL : (x0 :: r).length = 6
    · skip
      have hr1 : r.length = 5 := by simpa using hL
      obtain ⟨x1, r1, rfl, hr2⟩ := list_len hr1
      obtain ⟨x2, r2, rfl, hr3⟩ := list_len hr2
      obtain ⟨x3, r3, rfl, hr4⟩ := list_len hr3
      obtain ⟨x4, r4, rfl, hr5⟩ := list_len hr4
      obtain ⟨x5, r5, rfl, hr6⟩ := list_len hr5
      obtain rfl := List.eq_nil_of_length_eq_zero hr6
      refine (addGen x0 x1 x2 x3 x4 x5 _ c w hk hl hb0 hf.f3 k0 (by simpa using hcap) hsz hv).mono fun e w' h => ⟨h.2.1, ?_⟩
      cases e0 : numW x3 with
      | none =>
        have hnum : numsL [x3, x4, x5] = none := by simp only [numsL, e0]; rfl
        exact .inr ⟨by rw [addW, if_pos k0, e0]; rfl, by rw [h.1, hnum]; rfl⟩
      | some y0 =>
        cases e1 : numW x4 with
        | none =>
          have hnum : numsL [x3, x4, x5] = none := by simp only [numsL, e0, e1]; rfl
          exact .inr ⟨by rw [addW, if_pos k0, e0, e1]; rfl, by rw [h.1, hnum]; rfl⟩
        | some y1 =>
          cases e2 : numW x5 with
          | none =>
            have hnum : numsL [x3, x4, x5] = none := by simp only [numsL, e0, e1, e2]; rfl
            exact .inr ⟨by rw [addW, if_pos k0, e0, e1, e2]; rfl, by rw [h.1, hnum]; rfl⟩
          | some y2 =>
            have hnum : numsL [x3, x4, x5] = some [y0, y1, y2] := by simp only [numsL, e0, e1, e2]; rfl
            refine .inl ⟨_, by rw [addW, if_pos k0, e0, e1, e2]; rfl, by rw [h.1, hnum]; rfl, ?_⟩
            obtain ⟨v, hv2⟩ := h.2.2 y0 y1 y2 hnum
            exact ⟨_, _, _, _, _, _, hv2⟩
    · exact (addNo_gen x0 _ wb wo c g w h1 h2 c0 k0 hL).mono fun e w' h => no e w' h (addW_none (fun k _ e q => by injection e with e1 _; exact absurd (k0.symm.trans (e1.trans q)) (by decide)) (fun k _ _ _ e q => by injection e with e1 _; exact absurd (k0.symm.trans (e1.trans q)) (by decide)) (fun k _ _ _ _ e hh => by injection e with e1 _; rcases hh.1 with q | q <;> exact absurd (k0.symm.trans (e1.trans q)) (by decide)) (fun k _ _ _ _ _ e => absurd (congrArg List.length e) (by simpa using hL)) (fun k _ _ _ _ _ _ _ _ _ e q => by injection e with e1 _; exact absurd (k0.symm.trans (e1.trans q)) (by decide)))
  have n_gen := k0
  clear k0
  by_cases k0 : x0 = kLoad
  · skip
    by_cases hL : (x0 :: r).length = 4
    · skip
      have hr1 : r.length = 3 := by simpa using hL
      obtain ⟨x1, r1, rfl, hr2⟩ := list_len hr1
      obtain ⟨x2, r2, rfl, hr3⟩ := list_len hr2
      obtain ⟨x3, r3, rfl, hr4⟩ := list_len hr3
      obtain rfl := List.eq_nil_of_length_eq_zero hr4
      refine (addLoad x0 x1 x2 x3 _ c w hk hl hb0 hf.f4 k0 (by simpa using hcap) hsz hv).mono fun e w' h => ⟨h.2.1, ?_⟩
      cases e0 : numW x3 with
      | none =>
        have hnum : numsL [x3] = none := by simp only [numsL, e0]; rfl
        exact .inr ⟨by rw [addW, if_pos k0, e0]; rfl, by rw [h.1, hnum]; rfl⟩
      | some y0 =>
        have hnum : numsL [x3] = some [y0] := by simp only [numsL, e0]; rfl
        refine .inl ⟨_, by rw [addW, if_pos k0, e0]; rfl, by rw [h.1, hnum]; rfl, ?_⟩
        obtain ⟨v, hv2⟩ := h.2.2 y0 hnum
        exact ⟨_, _, _, _, _, _, hv2⟩
    · exact (addNo_load x0 _ wb wo c g w h1 h2 c0 k0 hL).mono fun e w' h => no e w' h (addW_none (fun k _ e q => by injection e with e1 _; exact absurd (k0.symm.trans (e1.trans q)) (by decide)) (fun k _ _ _ e => absurd (congrArg List.length e) (by simpa using hL)) (fun k _ _ _ _ e hh => by injection e with e1 _; rcases hh.1 with q | q <;> exact absurd (k0.symm.trans (e1.trans q)) (by decide)) (fun k _ _ _ _ _ e => by injection e with e1 _; exact ⟨fun q => absurd (k0.symm.trans (e1.trans q)) (by decide), fun q => absurd (k0.symm.trans (e1.trans q)) (by decide)⟩) (fun k _ _ _ _ _ _ _ _ _ e q => by injection e with e1 _; exact absurd (k0.symm.trans (e1.trans q)) (by decide)))
  have n_load := k0
  clear k0
  by_cases k0 : x0 = kStore
  · skip
    by_cases hL : (x0 :: r).length = 6
    · skip
      have hr1 : r.length = 5 := by simpa using hL
      obtain ⟨x1, r1, rfl, hr2⟩ := list_len hr1
      obtain ⟨x2, r2, rfl, hr3⟩ := list_len hr2
      obtain ⟨x3, r3, rfl, hr4⟩ := list_len hr3
      obtain ⟨x4, r4, rfl, hr5⟩ := list_len hr4
      obtain ⟨x5, r5, rfl, hr6⟩ := list_len hr5
      obtain rfl := List.eq_nil_of_length_eq_zero hr6
      refine (addStore x0 x1 x2 x3 x4 x5 _ c w hk hl hb0 hf.f5 k0 (by simpa using hcap) hsz hv).mono fun e w' h => ⟨h.2.1, ?_⟩
      cases e0 : numW x3 with
      | none =>
        have hnum : numsL [x3, x4, x5] = none := by simp only [numsL, e0]; rfl
        exact .inr ⟨by rw [addW, if_neg (by rw [k0]; decide), if_pos k0, e0]; rfl, by rw [h.1, hnum]; rfl⟩
      | some y0 =>
        cases e1 : numW x4 with
        | none =>
          have hnum : numsL [x3, x4, x5] = none := by simp only [numsL, e0, e1]; rfl
          exact .inr ⟨by rw [addW, if_neg (by rw [k0]; decide), if_pos k0, e0, e1]; rfl, by rw [h.1, hnum]; rfl⟩
        | some y1 =>
          cases e2 : numW x5 with
          | none =>
            have hnum : numsL [x3, x4, x5] = none := by simp only [numsL, e0, e1, e2]; rfl
            exact .inr ⟨by rw [addW, if_neg (by rw [k0]; decide), if_pos k0, e0, e1, e2]; rfl, by rw [h.1, hnum]; rfl⟩
          | some y2 =>
            have hnum : numsL [x3, x4, x5] = some [y0, y1, y2] := by simp only [numsL, e0, e1, e2]; rfl
            refine .inl ⟨_, by rw [addW, if_neg (by rw [k0]; decide), if_pos k0, e0, e1, e2]; rfl, by rw [h.1, hnum]; rfl, ?_⟩
            obtain ⟨v, hv2⟩ := h.2.2 y0 y1 y2 hnum
            exact ⟨_, _, _, _, _, _, hv2⟩
    · exact (addNo_store x0 _ wb wo c g w h1 h2 c0 k0 hL).mono fun e w' h => no e w' h (addW_none (fun k _ e q => by injection e with e1 _; exact absurd (k0.symm.trans (e1.trans q)) (by decide)) (fun k _ _ _ e q => by injection e with e1 _; exact absurd (k0.symm.trans (e1.trans q)) (by decide)) (fun k _ _ _ _ e hh => by injection e with e1 _; rcases hh.1 with q | q <;> exact absurd (k0.symm.trans (e1.trans q)) (by decide)) (fun k _ _ _ _ _ e => absurd (congrArg List.length e) (by simpa using hL)) (fun k _ _ _ _ _ _ _ _ _ e q => by injection e with e1 _; exact absurd (k0.symm.trans (e1.trans q)) (by decide)))
  have n_store := k0
  clear k0
  exact (addNo_none x0 _ wb wo c g w h1 h2 c0 n_node n_switch n_breaker n_branch n_gen n_load n_store).mono fun e w' h => no e w' h (addW_none (fun k _ e q => by injection e with e1 _; exact n_node (e1.trans q)) (fun k _ _ _ e q => by injection e with e1 _; exact n_load (e1.trans q)) (fun k _ _ _ _ e hh => by injection e with e1 _; rcases hh.1 with q | q; exact n_switch (e1.trans q); exact n_breaker (e1.trans q)) (fun k _ _ _ _ _ e => by injection e with e1 _; exact ⟨fun q => n_gen (e1.trans q), fun q => n_store (e1.trans q)⟩) (fun k _ _ _ _ _ _ _ _ _ e q => by injection e with e1 _; exact n_branch (e1.trans q)))
end Go.Proofs.YtglbelmljdgaoaaGreatDoor
