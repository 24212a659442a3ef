/- NetmodelCopies: the walk. -/
import Derived.Test.YtglbelmljdgaoaaGreatDoorNW
import Derived.Test.YtglbelmljdgaoaaGreatDoorNK
namespace Go.Proofs.YtglbelmljdgaoaaGreatDoor
open Go.RowKit

theorem NetRows.blkF {w w' : World} {base : Nat} {n : NetD} {v : NetV} (h : NetRows w base n v) (hb : Below w.heap.size w w') : NetRows w' base n v := h.keep fun g _ hg => hb.block g hg
theorem row_block {w : World} {base : Nat} {e : TypeId} {sz n c : Nat} {A : Option Addr} {xs : List Value} (h : Row w base e sz (.slice A n c) n xs) (hn : 0 < n) {g o : Nat} (hA : A = some ⟨g, o, none⟩) : base ≤ g ∧ g < w.heap.size := by
  obtain ⟨g', off', cap', cur', hv', hb, hh', _⟩ := h.form hn
  injection hv' with hA'
  rw [hA] at hA'
  injection hA' with hA'
  injection hA' with hA' _
  subst hA'
  exact ⟨hb, hh'.lt⟩
set_option maxRecDepth 100000 in
set_option maxHeartbeats 16000000 in
theorem netmodelCopies_any (n : NetD) (u : NetV) (w : World) (hN : Net w n u) (hby : NetBy n) (hs0 : ∀ s, n.nodes[0]? = some s → s.size ≤ 140737488351232) (hs1 : ∀ b, n.branches[0]? = some b → b.name.size ≤ 140737488351232) (hv : Vars w) : Calls Tryz.prog 4 #[u.val n] w fun e w' => e = .returned (.bool true) ∧ Below w.heap.size w w' := by
  have hz := below_newF w (Obj.cells (u.parts n) 29)
  have HN := Lib.hid (hN.below hz)
  have HG := Lib.hid (Blk.new w 29 (u.parts n))
  have HB := Lib.hid hz
  have HV := Lib.hid hv
  have HBY := Lib.hid hby
  have HS0 := Lib.hid hs0
  have HS1 := Lib.hid hs1
  have HF := Lib.hid (netmodelFact_any (w.alloc (Obj.cells (u.parts n) 29)))
  clear hz hN hv hby hs0 hs1
  unfold NetV.val NetV.parts at *
  go_enter Tryz.func4, Tryz.ntmps4
  go_wp2_with fail
  refine HF.out.mono ?_
  rintro e w1 ⟨rfl, hb⟩
  clear HF
  replace HN := Lib.hid (HN.out.below hb)
  replace HG := Lib.hid (HG.out.blkF hb)
  replace HB := Lib.hid (HB.out.trans (hb.mono HB.out.size))
  clear hb
  have HF := Lib.hid (nettextFact_any w1 (HV.out.below HB.out))
  go_wp2_with fail
  refine HF.out.mono ?_
  rintro e w2 ⟨rfl, hb⟩
  clear HF
  replace HN := Lib.hid (HN.out.below hb)
  replace HG := Lib.hid (HG.out.blkF hb)
  replace HB := Lib.hid (HB.out.trans (hb.mono HB.out.size))
  clear hb
  have x0 := HG.out.cell 0
  have x1 := HG.out.cell 1
  have x2 := HG.out.cell 2
  have x3 := HG.out.cell 3
  have x4 := HG.out.cell 4
  have x5 := HG.out.cell 5
  have HP := Lib.hid (copy_all n u w2 HN.out.net HBY.out)
  unfold NetV.val NetV.parts at HP
  have HL0 := Lib.hid (show 0 < n.nodes.length → ∃ b off, u.na = some ⟨b, off, none⟩ ∧ b < w2.heap.size ∧ ∀ j v, (n.nodes.map S)[j]? = some v → w2.cell? ⟨b, off + j, none⟩ = some v from HN.out.net.nodes.2)
  have HL2 := Lib.hid (show 0 < n.branches.length → ∃ b off, u.ba = some ⟨b, off, none⟩ ∧ b < w2.heap.size ∧ ∀ j v, (cellsBy BranchD.cells n.branches)[j]? = some v → w2.cell? ⟨b, off + j, none⟩ = some v from HN.out.net.branches.2)
  have HLT : Hid (w.heap.size < w2.heap.size) := Lib.hid HG.out.lt
  go_wp2_with fail
  refine HP.out.mono ?_
  rintro e w3 ⟨v3, rfl, hin, hrows, hb⟩
  unfold NetV.val NetV.parts
  clear HP
  clear x0 x1 x2 x3 x4 x5
  have HBB := Lib.hid hb
  replace HN := Lib.hid (HN.out.below hb)
  replace HG := Lib.hid (HG.out.blkF hb)
  replace HB := Lib.hid (HB.out.trans (hb.mono HB.out.size))
  have hz := below_newF w3 (Obj.cells #[.slice v3.na n.nodes.length v3.nc, .slice v3.sa n.switches.length v3.sc, .slice v3.ba n.branches.length v3.bc, .slice v3.ga n.gens.length v3.gc, .slice v3.la n.loads.length v3.lc, .slice v3.ta n.stores.length v3.tc] 29)
  have HY := Lib.hid (Blk.new w3 29 #[.slice v3.na n.nodes.length v3.nc, .slice v3.sa n.switches.length v3.sc, .slice v3.ba n.branches.length v3.bc, .slice v3.ga n.gens.length v3.gc, .slice v3.la n.loads.length v3.lc, .slice v3.ta n.stores.length v3.tc])
  have HR := Lib.hid (hrows.blkF hz)
  have HM := Lib.hid (show Net _ n v3 from ⟨hin.below hz, HN.out.ok, HN.out.l1, HN.out.l2, HN.out.l3, HN.out.l4, HN.out.l5, HN.out.l6⟩)
  have HW3 := Lib.hid hb.size
  have HRL := Lib.hid (show (∀ g o, 0 < n.nodes.length → v3.na = some ⟨g, o, none⟩ → w2.heap.size ≤ g ∧ g < w3.heap.size) ∧ (∀ g o, 0 < n.branches.length → v3.ba = some ⟨g, o, none⟩ → w2.heap.size ≤ g ∧ g < w3.heap.size) from ⟨fun g o h e => row_block (hrows.r0 h) h e, fun g o h e => row_block (hrows.r2 h) h e⟩)
  replace HBB := Lib.hid (HBB.out.trans (hz.mono HBB.out.size))
  replace HN := Lib.hid (HN.out.below hz)
  replace HG := Lib.hid (HG.out.blkF hz)
  replace HB := Lib.hid (HB.out.trans (hz.mono HB.out.size))
  clear hb hz hin hrows
  go_upto_region 4 with (fail)
  generalize w3.heap.size = gb at *
  generalize w3.alloc (Obj.cells #[.slice v3.na n.nodes.length v3.nc, .slice v3.sa n.switches.length v3.sc, .slice v3.ba n.branches.length v3.bc, .slice v3.ga n.gens.length v3.gc, .slice v3.la n.loads.length v3.lc, .slice v3.ta n.stores.length v3.tc] 29) = w4 at *
  have x0 := HG.out.cell 0
  have x1 := HG.out.cell 1
  have x2 := HG.out.cell 2
  have x3 := HG.out.cell 3
  have x4 := HG.out.cell 4
  have x5 := HG.out.cell 5
  have HP := Lib.hid (print_any n u w4 HN.out (HV.out.below HB.out).tab)
  unfold NetV.val NetV.parts at HP
  obtain ⟨pr, hpr⟩ : ∃ pr, printN n = pr := ⟨_, rfl⟩
  have HPR := Lib.hid hpr
  rw [hpr] at HP
  clear hpr
  obtain ⟨tx, pe⟩ := pr
  go_wp2_with fail
  refine HP.out.mono ?_
  rintro e w5 ⟨rfl, hb⟩
  clear HP
  clear x0 x1 x2 x3 x4 x5
  replace HBB := Lib.hid (HBB.out.trans (hb.mono HBB.out.size))
  replace HN := Lib.hid (HN.out.below hb)
  replace HG := Lib.hid (HG.out.blkF hb)
  replace HB := Lib.hid (HB.out.trans (hb.mono HB.out.size))
  replace HY := Lib.hid (HY.out.blkF hb)
  replace HR := Lib.hid (HR.out.blkF hb)
  replace HM := Lib.hid (HM.out.below hb)
  clear hb
  have x0 := HY.out.cell 0
  have x1 := HY.out.cell 1
  have x2 := HY.out.cell 2
  have x3 := HY.out.cell 3
  have x4 := HY.out.cell 4
  have x5 := HY.out.cell 5
  have HP := Lib.hid (print_any n v3 w5 HM.out (HV.out.below HB.out).tab)
  unfold NetV.val NetV.parts at HP
  rw [HPR.out] at HP
  go_wp2_with fail
  refine HP.out.mono ?_
  rintro e w6 ⟨rfl, hb⟩
  clear HP
  clear x0 x1 x2 x3 x4 x5
  replace HBB := Lib.hid (HBB.out.trans (hb.mono HBB.out.size))
  replace HN := Lib.hid (HN.out.below hb)
  replace HG := Lib.hid (HG.out.blkF hb)
  replace HB := Lib.hid (HB.out.trans (hb.mono HB.out.size))
  replace HY := Lib.hid (HY.out.blkF hb)
  replace HR := Lib.hid (HR.out.blkF hb)
  replace HM := Lib.hid (HM.out.below hb)
  clear hb
  have t1 : (tx.toList == tx.toList) = true := by rw [beq_self_eq_true]
  have t1b : (pe == pe) = true := by rw [beq_self_eq_true]
  have x0 := HG.out.cell 0
  have x2 := HG.out.cell 2
  have y0 := HY.out.cell 0
  have y2 := HY.out.cell 2
  by_cases hp : 0 < n.nodes.length ∧ 0 < n.branches.length
  · obtain ⟨hp0, hp2⟩ := hp
    have t3 : ((n.nodes.length : Int) == 0) = false := by rw [beq_eq_false_iff_ne]; omega
    have t4 : ((n.branches.length : Int) == 0) = false := by rw [beq_eq_false_iff_ne]; omega
    have t5 : (0 : Int) < n.nodes.length := by omega
    have t6 : (0 : Int) < n.branches.length := by omega
    go_upto_region 10 with (fail)
    clear x0 x2 y0 y2
    obtain ⟨nb, no, hna, hnb, hnx⟩ := HL0.out hp0
    obtain ⟨bb, bo, hba, hbb, hbx⟩ := HL2.out hp2
    obtain ⟨nd, hnd⟩ : ∃ nd, n.nodes[0] = nd := ⟨_, rfl⟩
    obtain ⟨bd, hbd⟩ : ∃ bd, n.branches[0].name = bd := ⟨_, rfl⟩
    have hnd0 : n.nodes[0]? = some nd := by rw [List.getElem?_eq_getElem hp0, hnd]
    have hz0 : nd.size ≤ 140737488351232 := HS0.out _ hnd0
    have hz2 : bd.size ≤ 140737488351232 := hbd ▸ HS1.out _ (List.getElem?_eq_getElem hp2)
    have hc0 := Lib.hid (show w6.cell? ⟨nb, no, none⟩ = some (.string nd) from (HBB.out.cell hnb).trans (hnx 0 _ (by rw [List.getElem?_map, hnd0]; rfl)))
    have hc2 := Lib.hid (show w6.cell? ⟨bb, bo, none⟩ = some (.string bd) from (HBB.out.cell hbb).trans (hbx 0 _ (by have := cellsBy_at (f := BranchD.cells) (sz := 9) (fun _ => rfl) n.branches 0 n.branches[0] (List.getElem?_eq_getElem hp2) 0 (by omega); rw [← hbd]; exact this)))
    have hx0 := Lib.hid (show w6.cell? ⟨w.heap.size, 0, none⟩ = some (.slice (some ⟨nb, no, none⟩) n.nodes.length u.nc) by rw [← hna]; exact HG.out.cell 0)
    have hx2 := Lib.hid (show w6.cell? ⟨w.heap.size, 2, none⟩ = some (.slice (some ⟨bb, bo, none⟩) n.branches.length u.bc) by rw [← hba]; exact HG.out.cell 2)
    obtain ⟨g0, o0, c0, cur0, hv0, hg0, hB0, hnc0, -, hsz0, -⟩ := (HR.out.r0 hp0).form hp0
    obtain ⟨g2, o2, c2, cur2, hv2, hg2, hB2, hnc2, -, hsz2, -⟩ := (HR.out.r2 hp2).form hp2
    injection hv0 with hv0 _ _
    injection hv2 with hv2 _ _
    have hr0 := HRL.out.1 _ _ hp0 hv0
    have hr2 := HRL.out.2 _ _ hp2 hv2
    have hy0 := Lib.hid (show w6.cell? ⟨gb, 0, none⟩ = some (.slice (some ⟨g0, o0, none⟩) n.nodes.length v3.nc) by rw [← hv0]; exact HY.out.cell 0)
    have hy2 := Lib.hid (show w6.cell? ⟨gb, 2, none⟩ = some (.slice (some ⟨g2, o2, none⟩) n.branches.length v3.bc) by rw [← hv2]; exact HY.out.cell 2)
    have hne : g0 ≠ g2 := fun e => by
      subst e
      unfold Blk at hB0 hB2
      rw [hB0] at hB2
      injection hB2 with hB2
      injection hB2 with _ hB2
      revert hB2
      decide
    obtain ⟨q0, hq0⟩ : ∃ q, w6.cell? ⟨g0, o0, none⟩ = some q := ⟨_, by rw [hB0.cell, Array.getElem?_eq_getElem (by omega)]⟩
    obtain ⟨q2, hq2⟩ : ∃ q, w6.cell? ⟨g2, o2, none⟩ = some q := ⟨_, by rw [hB2.cell, Array.getElem?_eq_getElem (by omega)]⟩
    have HQ0 := Lib.hid hq0
    have HQ2 := Lib.hid hq2
    have HB0 := Lib.hid hB0
    have HB2 := Lib.hid hB2
    have HNE := Lib.hid hne
    have HLT0 := Lib.hid hr0
    have HLT2 := Lib.hid hr2
    have HNB := Lib.hid (show nb < w2.heap.size ∧ bb < w2.heap.size from ⟨hnb, hbb⟩)
    clear hnc0 hq0 hq2 hB0 hB2 hne hr0 hr2 hnb hbb hv0 hv2 hg0 hg2 hsz0 hsz2 hnc2 hna hba hnx hbx hnd hbd hnd0 HR HM HN HL0 HL2 HRL HPR HBY HS0 HS1 HV t1 t1b
    clear t3 t4
    have hd := below_draw0 w6
    replace HG := Lib.hid (HG.out.blkF hd)
    replace HB := Lib.hid (HB.out.trans (hd.mono HB.out.size))
    replace HY := Lib.hid (HY.out.blkF hd)
    replace HB0 := Lib.hid (HB0.out.blkF hd)
    replace HB2 := Lib.hid (HB2.out.blkF hd)
    replace hc0 := Lib.hid (cell_below hc0.out hd)
    replace hc2 := Lib.hid (cell_below hc2.out hd)
    replace hx0 := Lib.hid (cell_below hx0.out hd)
    replace hx2 := Lib.hid (cell_below hx2.out hd)
    replace hy0 := Lib.hid (cell_below hy0.out hd)
    replace hy2 := Lib.hid (cell_below hy2.out hd)
    replace HQ0 := Lib.hid (cell_below HQ0.out hd)
    replace HQ2 := Lib.hid (cell_below HQ2.out hd)
    clear hd
    refine wp_region_c (fun w' => w'.cell? ⟨w.heap.size, 0, none⟩ = some (.slice (some ⟨nb, no, none⟩) n.nodes.length u.nc) ∧ w'.cell? ⟨w.heap.size, 2, none⟩ = some (.slice (some ⟨bb, bo, none⟩) n.branches.length u.bc) ∧ w'.cell? ⟨nb, no, none⟩ = some (.string nd) ∧ w'.cell? ⟨bb, bo, none⟩ = some (.string bd)) 10 (by kernel_rfl) ?_
    generalize w6.drew = W1 at *
    refine wpAnyC_take8 (i := 0) (oi := _) (v := .pointer (some ⟨w.heap.size, 0, none⟩)) rfl (by kernel_rfl) (by kernel_rfl) (by kernel_rfl) (by kernel_rfl) (by kernel_rfl) (by kernel_rfl) (fun _ _ _ h => h) (Or.inl ⟨by rfl, ?_⟩) ⟨hx0.out, hx2.out, hc0.out, hc2.out⟩ ?_
    · intro w hSw
      obtain ⟨s0, s1, s2, s3⟩ := hSw
      go_simp
    try simp only [Act.put, List.setIfInBounds_toArray]
    refine wpAnyC_take8 (i := 1) (oi := _) (v := .slice (some ⟨nb, no, none⟩) n.nodes.length u.nc) rfl (by kernel_rfl) (by kernel_rfl) (by kernel_rfl) (by kernel_rfl) (by kernel_rfl) (by kernel_rfl) (fun _ _ _ h => h) (Or.inl ⟨by rfl, ?_⟩) ⟨hx0.out, hx2.out, hc0.out, hc2.out⟩ ?_
    · intro w hSw
      obtain ⟨s0, s1, s2, s3⟩ := hSw
      go_simp
    try simp only [Act.put]
    refine wpAnyC_take8 (i := 2) (oi := _) (v := .pointer (some ⟨nb, no, none⟩)) rfl (by kernel_rfl) (by kernel_rfl) (by kernel_rfl) (by kernel_rfl) (by kernel_rfl) (by kernel_rfl) (fun _ _ _ h => h) (Or.inl ⟨by rfl, ?_⟩) ⟨hx0.out, hx2.out, hc0.out, hc2.out⟩ ?_
    · intro w hSw
      obtain ⟨s0, s1, s2, s3⟩ := hSw
      go_simp
    try simp only [Act.put]
    refine wpAnyC_take8 (i := 3) (oi := _) (v := .string nd) rfl (by kernel_rfl) (by kernel_rfl) (by kernel_rfl) (by kernel_rfl) (by kernel_rfl) (by kernel_rfl) (fun _ _ _ h => h) (Or.inl ⟨by rfl, ?_⟩) ⟨hx0.out, hx2.out, hc0.out, hc2.out⟩ ?_
    · intro w hSw
      obtain ⟨s0, s1, s2, s3⟩ := hSw
      go_simp
    try simp only [Act.put]
    refine wpAnyC_take8 (i := 4) (oi := _) (v := .pointer (some ⟨w.heap.size, 2, none⟩)) rfl (by kernel_rfl) (by kernel_rfl) (by kernel_rfl) (by kernel_rfl) (by kernel_rfl) (by kernel_rfl) (fun _ _ _ h => h) (Or.inl ⟨by rfl, ?_⟩) ⟨hx0.out, hx2.out, hc0.out, hc2.out⟩ ?_
    · intro w hSw
      obtain ⟨s0, s1, s2, s3⟩ := hSw
      go_simp
    try simp only [Act.put]
    refine wpAnyC_take8 (i := 5) (oi := _) (v := .slice (some ⟨bb, bo, none⟩) n.branches.length u.bc) rfl (by kernel_rfl) (by kernel_rfl) (by kernel_rfl) (by kernel_rfl) (by kernel_rfl) (by kernel_rfl) (fun _ _ _ h => h) (Or.inl ⟨by rfl, ?_⟩) ⟨hx0.out, hx2.out, hc0.out, hc2.out⟩ ?_
    · intro w hSw
      obtain ⟨s0, s1, s2, s3⟩ := hSw
      go_simp
    try simp only [Act.put]
    refine wpAnyC_take8 (i := 6) (oi := _) (v := .pointer (some ⟨bb, bo, none⟩)) rfl (by kernel_rfl) (by kernel_rfl) (by kernel_rfl) (by kernel_rfl) (by kernel_rfl) (by kernel_rfl) (fun _ _ _ h => h) (Or.inl ⟨by rfl, ?_⟩) ⟨hx0.out, hx2.out, hc0.out, hc2.out⟩ ?_
    · intro w hSw
      obtain ⟨s0, s1, s2, s3⟩ := hSw
      go_simp
    try simp only [Act.put]
    refine wpAnyC_take8 (i := 7) (oi := _) (v := .pointer (some ⟨bb, bo, none⟩)) rfl (by kernel_rfl) (by kernel_rfl) (by kernel_rfl) (by kernel_rfl) (by kernel_rfl) (by kernel_rfl) (fun _ _ _ h => h) (Or.inl ⟨by rfl, ?_⟩) ⟨hx0.out, hx2.out, hc0.out, hc2.out⟩ ?_
    · intro w hSw
      obtain ⟨s0, s1, s2, s3⟩ := hSw
      go_simp
    try simp only [Act.put]
    refine wpAnyC_take8 (i := 8) (oi := _) (v := .string bd) rfl (by kernel_rfl) (by kernel_rfl) (by kernel_rfl) (by kernel_rfl) (by kernel_rfl) (by kernel_rfl) (fun _ _ _ h => h) (Or.inl ⟨by rfl, ?_⟩) ⟨hx0.out, hx2.out, hc0.out, hc2.out⟩ ?_
    · intro w hSw
      obtain ⟨s0, s1, s2, s3⟩ := hSw
      go_simp
    try simp only [Act.put]
    refine wpAnyC_one (i := 9) (by kernel_rfl) rfl (fun K hK => ?_)
    go_simp
    refine hK.out _ _ (fun _ => ⟨hx0.out, hx2.out, hc0.out, hc2.out⟩) ?_
    clear hK K
    try simp only [Act.put, List.setIfInBounds_toArray, List.set_cons_zero, List.set_cons_succ]
    refine wpAnyC_one (i := 10) (by kernel_rfl) rfl (fun K hK => ?_)
    go_simp
    refine hK.out _ _ (fun h => absurd h (by decide)) ?_
    clear hK K
    try simp only [Act.put, List.setIfInBounds_toArray, List.set_cons_zero, List.set_cons_succ]
    refine wpAnyC_done (by kernel_rfl) ?_ _
    go_upto_region 11 with (fail)
    have hd := below_draw0 W1
    replace HG := Lib.hid (HG.out.blkF hd)
    replace HB := Lib.hid (HB.out.trans (hd.mono HB.out.size))
    replace HY := Lib.hid (HY.out.blkF hd)
    replace HB0 := Lib.hid (HB0.out.blkF hd)
    replace HB2 := Lib.hid (HB2.out.blkF hd)
    replace hc0 := Lib.hid (cell_below hc0.out hd)
    replace hc2 := Lib.hid (cell_below hc2.out hd)
    replace hx0 := Lib.hid (cell_below hx0.out hd)
    replace hx2 := Lib.hid (cell_below hx2.out hd)
    replace hy0 := Lib.hid (cell_below hy0.out hd)
    replace hy2 := Lib.hid (cell_below hy2.out hd)
    replace HQ0 := Lib.hid (cell_below HQ0.out hd)
    replace HQ2 := Lib.hid (cell_below HQ2.out hd)
    clear hd
    refine wp_region_c (fun w' => w'.cell? ⟨gb, 0, none⟩ = some (.slice (some ⟨g0, o0, none⟩) n.nodes.length v3.nc) ∧ w'.cell? ⟨gb, 2, none⟩ = some (.slice (some ⟨g2, o2, none⟩) n.branches.length v3.bc)) 12 (by kernel_rfl) ?_
    generalize W1.drew = W2 at *
    refine wpAnyC_take8 (i := 0) (oi := _) (v := .pointer (some ⟨gb, 0, none⟩)) rfl (by kernel_rfl) (by kernel_rfl) (by kernel_rfl) (by kernel_rfl) (by kernel_rfl) (by kernel_rfl) (fun _ _ _ h => h) (Or.inl ⟨by rfl, ?_⟩) ⟨hy0.out, hy2.out⟩ ?_
    · intro w hSw
      obtain ⟨s0, s1⟩ := hSw
      go_simp
    try simp only [Act.put, List.setIfInBounds_toArray]
    refine wpAnyC_take8 (i := 1) (oi := _) (v := .slice (some ⟨g0, o0, none⟩) n.nodes.length v3.nc) rfl (by kernel_rfl) (by kernel_rfl) (by kernel_rfl) (by kernel_rfl) (by kernel_rfl) (by kernel_rfl) (fun _ _ _ h => h) (Or.inl ⟨by rfl, ?_⟩) ⟨hy0.out, hy2.out⟩ ?_
    · intro w hSw
      obtain ⟨s0, s1⟩ := hSw
      go_simp
    try simp only [Act.put]
    refine wpAnyC_take8 (i := 2) (oi := _) (v := .pointer (some ⟨gb, 2, none⟩)) rfl (by kernel_rfl) (by kernel_rfl) (by kernel_rfl) (by kernel_rfl) (by kernel_rfl) (by kernel_rfl) (fun _ _ _ h => h) (Or.inl ⟨by rfl, ?_⟩) ⟨hy0.out, hy2.out⟩ ?_
    · intro w hSw
      obtain ⟨s0, s1⟩ := hSw
      go_simp
    try simp only [Act.put]
    refine wpAnyC_take8 (i := 3) (oi := _) (v := .slice (some ⟨g2, o2, none⟩) n.branches.length v3.bc) rfl (by kernel_rfl) (by kernel_rfl) (by kernel_rfl) (by kernel_rfl) (by kernel_rfl) (by kernel_rfl) (fun _ _ _ h => h) (Or.inl ⟨by rfl, ?_⟩) ⟨hy0.out, hy2.out⟩ ?_
    · intro w hSw
      obtain ⟨s0, s1⟩ := hSw
      go_simp
    try simp only [Act.put]
    refine wpAnyC_take8 (i := 4) (oi := _) (v := .string nd) rfl (by kernel_rfl) (by kernel_rfl) (by kernel_rfl) (by kernel_rfl) (by kernel_rfl) (by kernel_rfl) (fun _ _ _ h => h) (Or.inl ⟨by rfl, ?_⟩) ⟨hy0.out, hy2.out⟩ ?_
    · intro w hSw
      obtain ⟨s0, s1⟩ := hSw
      go_simp
    try simp only [Act.put]
    refine wpAnyC_take8 (i := 5) (oi := _) (v := .string (nd ++ ⟨#[88]⟩)) rfl (by kernel_rfl) (by kernel_rfl) (by kernel_rfl) (by kernel_rfl) (by kernel_rfl) (by kernel_rfl) (fun _ _ _ h => h) (Or.inl ⟨by rfl, ?_⟩) ⟨hy0.out, hy2.out⟩ ?_
    · intro w hSw
      obtain ⟨s0, s1⟩ := hSw
      have q1 := run_string_add_sum (P := Tryz.prog) w nd ⟨#[88]⟩ (by have e2 : (⟨#[88]⟩ : ByteArray).size = 1 := rfl; omega)
      go_simp
    try simp only [Act.put]
    refine wpAnyC_take8 (i := 6) (oi := _) (v := .string bd) rfl (by kernel_rfl) (by kernel_rfl) (by kernel_rfl) (by kernel_rfl) (by kernel_rfl) (by kernel_rfl) (fun _ _ _ h => h) (Or.inl ⟨by rfl, ?_⟩) ⟨hy0.out, hy2.out⟩ ?_
    · intro w hSw
      obtain ⟨s0, s1⟩ := hSw
      go_simp
    try simp only [Act.put]
    refine wpAnyC_take8 (i := 7) (oi := _) (v := .string (bd ++ ⟨#[88]⟩)) rfl (by kernel_rfl) (by kernel_rfl) (by kernel_rfl) (by kernel_rfl) (by kernel_rfl) (by kernel_rfl) (fun _ _ _ h => h) (Or.inl ⟨by rfl, ?_⟩) ⟨hy0.out, hy2.out⟩ ?_
    · intro w hSw
      obtain ⟨s0, s1⟩ := hSw
      have q1 := run_string_add_sum (P := Tryz.prog) w bd ⟨#[88]⟩ (by have e2 : (⟨#[88]⟩ : ByteArray).size = 1 := rfl; omega)
      go_simp
    try simp only [Act.put]
    refine wpAnyC_take8 (i := 8) (oi := _) (v := .pointer (some ⟨g0, o0, none⟩)) rfl (by kernel_rfl) (by kernel_rfl) (by kernel_rfl) (by kernel_rfl) (by kernel_rfl) (by kernel_rfl) (fun _ _ _ h => h) (Or.inl ⟨by rfl, ?_⟩) ⟨hy0.out, hy2.out⟩ ?_
    · intro w hSw
      obtain ⟨s0, s1⟩ := hSw
      go_simp
    try simp only [Act.put]
    have q9 := HQ0.out
    have f9 := HB0.out.frozen o0
    refine wpAnyC_one (i := 9) (by kernel_rfl) rfl (fun K hK => ?_)
    go_simp
    clear q9 f9
    have hg0 : gb ≠ g0 := by have := HLT0.out; omega
    have hg2 : gb ≠ g2 := by have := HLT2.out; omega
    replace hy0 := Lib.hid ((World.cell?_of_block (a := ⟨gb, 0, none⟩) (Below.heap_setCell W2 ⟨g0, o0, none⟩ (.string (nd ++ ⟨#[88]⟩)) gb hg0)).trans hy0.out)
    replace hy2 := Lib.hid ((World.cell?_of_block (a := ⟨gb, 2, none⟩) (Below.heap_setCell W2 ⟨g0, o0, none⟩ (.string (nd ++ ⟨#[88]⟩)) gb hg0)).trans hy2.out)
    replace HQ2 := Lib.hid ((World.cell?_of_block (a := ⟨g2, o2, none⟩) (Below.heap_setCell W2 ⟨g0, o0, none⟩ (.string (nd ++ ⟨#[88]⟩)) g2 (Ne.symm HNE.out))).trans HQ2.out)
    replace HB2 := Lib.hid (HB2.out.far (p := ⟨g0, o0, none⟩) (Ne.symm HNE.out) (.string (nd ++ ⟨#[88]⟩)))
    have hst : Below w2.heap.size W2 ((W2.setCell ⟨g0, o0, none⟩ (.string (nd ++ ⟨#[88]⟩))).setCell ⟨g2, o2, none⟩ (.string (bd ++ ⟨#[88]⟩))) := ((Below.refl _ W2).setCell (p := ⟨g0, o0, none⟩) HLT0.out.1 _).setCell (p := ⟨g2, o2, none⟩) HLT2.out.1 _
    generalize (W2.setCell ⟨g0, o0, none⟩ (.string (nd ++ ⟨#[88]⟩))) = W3 at *
    refine hK.out _ _ (fun _ => ⟨hy0.out, hy2.out⟩) ?_
    clear hK K
    try simp only [Act.put, List.setIfInBounds_toArray, List.set_cons_zero, List.set_cons_succ]
    refine wpAnyC_take8 (i := 10) (oi := _) (v := .pointer (some ⟨g2, o2, none⟩)) rfl (by kernel_rfl) (by kernel_rfl) (by kernel_rfl) (by kernel_rfl) (by kernel_rfl) (by kernel_rfl) (fun _ _ _ h => h) (Or.inl ⟨by rfl, ?_⟩) ⟨hy0.out, hy2.out⟩ ?_
    · intro w hSw
      obtain ⟨s0, s1⟩ := hSw
      go_simp
    try simp only [Act.put, List.setIfInBounds_toArray]
    refine wpAnyC_take8 (i := 11) (oi := _) (v := .pointer (some ⟨g2, o2, none⟩)) rfl (by kernel_rfl) (by kernel_rfl) (by kernel_rfl) (by kernel_rfl) (by kernel_rfl) (by kernel_rfl) (fun _ _ _ h => h) (Or.inl ⟨by rfl, ?_⟩) ⟨hy0.out, hy2.out⟩ ?_
    · intro w hSw
      obtain ⟨s0, s1⟩ := hSw
      go_simp
    try simp only [Act.put]
    have q9 := HQ2.out
    have f9 := HB2.out.frozen o2
    refine wpAnyC_one (i := 12) (by kernel_rfl) rfl (fun K hK => ?_)
    go_simp
    clear q9 f9
    generalize W3.setCell ⟨g2, o2, none⟩ (.string (bd ++ ⟨#[88]⟩)) = W4 at *
    refine hK.out _ _ (fun h => absurd h (by decide)) ?_
    clear hK K
    try simp only [Act.put, List.setIfInBounds_toArray, List.set_cons_zero, List.set_cons_succ]
    refine wpAnyC_done (by kernel_rfl) ?_ _
    have z0 := (hst.cell (p := ⟨w.heap.size, 0, none⟩) HLT.out).trans hx0.out
    have z2 := (hst.cell (p := ⟨w.heap.size, 2, none⟩) HLT.out).trans hx2.out
    have z3 := (hst.cell (p := ⟨nb, no, none⟩) HNB.out.1).trans hc0.out
    have z4 := (hst.cell (p := ⟨bb, bo, none⟩) HNB.out.2).trans hc2.out
    have HBE := Lib.hid (HB.out.trans (hst.mono (Nat.le_of_lt HLT.out)))
    have t1 : (nd.toList == nd.toList) = true := by rw [beq_self_eq_true]
    have t2 : (bd.toList == bd.toList) = true := by rw [beq_self_eq_true]
    clear hst HG HB HY HB0 HB2 hc0 hc2 hx0 hx2 hy0 hy2 HQ0 HQ2 hz0 hz2
    go_wp2
    go_ret
    exact ⟨rfl, HBE.out⟩
  · clear HL0 HL2 HRL HPR HBY HS0 HS1 HV HR HM HN
    by_cases h0 : n.nodes.length = 0
    · have t3 : ((n.nodes.length : Int) == 0) = true := by rw [h0]; rfl
      clear hp h0
      go_wp2
      go_ret
      exact ⟨rfl, HB.out⟩
    · have t3 : ((n.nodes.length : Int) == 0) = false := by rw [beq_eq_false_iff_ne]; omega
      have t4 : ((n.branches.length : Int) == 0) = true := by rw [show n.branches.length = 0 by omega]; rfl
      clear hp h0
      go_wp2
      go_ret
      exact ⟨rfl, HB.out⟩
end Go.Proofs.YtglbelmljdgaoaaGreatDoor
