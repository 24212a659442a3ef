/- NetmodelKeeps: the walk. -/
import Derived.Test.YtglbelmljdgaoaaGreatDoorNW
import Derived.Test.YtglbelmljdgaoaaGreatDoorNK
namespace Go.Proofs.YtglbelmljdgaoaaGreatDoor
open Go.RowKit

section
variable {P : Program} {md : Region.Mode} {ops : Array Oper} {Q : Exit → Act → World → Prop} {S : World → Prop} {c : Nat}
theorem wpAnyC_two {i j : Nat} {o1 o2 : Oper} {fuel : Nat} {listed : Array Bool} {a : Act} {w : World} (hr : Region.ready md ops listed = [i, j]) (h1 : ops[i]? = some o1) (h2 : ops[j]? = some o2)
    (k1 : ∀ K' : Act → World → Prop, Shut (∀ a w, ((listed.setIfInBounds i true).getD c true = false → S w) → wpAnyC P md ops Q S c fuel (listed.setIfInBounds i true) a w → K' a w) → if Region.wanted o1 (yielded ops a.tmps) = true then Oper.wp P o1 a w K' Q else K' (a.put o1.dst undef) w)
    (k2 : ∀ K' : Act → World → Prop, Shut (∀ a w, ((listed.setIfInBounds j true).getD c true = false → S w) → wpAnyC P md ops Q S c fuel (listed.setIfInBounds j true) a w → K' a w) → if Region.wanted o2 (yielded ops a.tmps) = true then Oper.wp P o2 a w K' Q else K' (a.put o2.dst undef) w) : wpAnyC P md ops Q S c (fuel + 1) listed a w := by
  refine ⟨fun h0 => (by rw [hr] at h0; cases h0), fun x hx => ?_⟩
  rw [hr] at hx
  rcases List.mem_cons.1 hx with rfl | hx
  · exact wpOp_step h1 (fun K' hK => k1 K' (fun a w hS hW => hK a w ⟨hS, hW⟩))
  · obtain rfl : x = j := by simpa using hx
    exact wpOp_step h2 (fun K' hK => k2 K' (fun a w hS hW => hK a w ⟨hS, hW⟩))
/-- what looks at no memory, when c has come up -/
theorem wpAnyC_takeQ {i : Nat} {oi : Oper} {v : Value} {fuel : Nat} {listed : Array Bool} {a : Act} {w : World} (hi : ops[i]? = some oi)
    (hs : Region.noSelect ops = true) (hf : Region.free md ops listed i = true) (hr : (Region.ready md ops listed).contains i = true) (hne : (i != c) = true)
    (hQ : ∀ c a w, Q (.panic c) (a.put oi.dst v) w → Q (.panic c) a w) (hy : YieldsIf P ops (fun _ => True) oi v a) (hc : listed.getD c true = true)
    (h : wpAnyC P md ops Q S c fuel (listed.setIfInBounds i true) (a.put oi.dst v) w) : wpAnyC P md ops Q S c (fuel + 1) listed a w :=
  wpAnyC_pure hi (Region.noSelect_spec hs) hQ (by simpa using hne) fuel listed a w (Region.free_spec hi hf) (by simpa using hr) hy (fun k => absurd (hc.symm.trans k) (by decide)) h
end
set_option maxRecDepth 100000 in
set_option maxHeartbeats 16000000 in
theorem netmodelKeeps_any (n : NetD) (u : NetV) (x : ByteArray) (o : Bool) (w : World) (hN : Net w n u) (_hx : x.size ≤ 9223372036854775807) (hv : Vars w) : Calls Tryz.prog 3 #[u.val n, .string x, .bool o] w fun e w' => e = .returned (.bool true) ∧ Below w.heap.size w w' := by
  have hz := below_newF w (Obj.cells (u.parts n) 29)
  have HN := Lib.hid (hN.below hz)
  have HG := Lib.hid (Blk.new w 29 (u.parts n))
  have HB := Lib.hid hz
  have HV := Lib.hid hv
  have HF := Lib.hid (netmodelFact_any (w.alloc (Obj.cells (u.parts n) 29)))
  clear hz hN hv
  unfold NetV.val NetV.parts at *
  go_enter Tryz.func3, Tryz.ntmps3
  go_wp2_with fail
  refine HF.out.mono ?_
  rintro e w1 ⟨rfl, hb⟩
  clear HF
  replace HN := Lib.hid (HN.out.below hb)
  replace HG := Lib.hid (HG.out.blkF hb)
  replace HB := Lib.hid (HB.out.trans (hb.mono HB.out.size))
  clear hb
  have HF := Lib.hid (nettextFact_any w1 (HV.out.below HB.out))
  go_wp2_with fail
  refine HF.out.mono ?_
  rintro e w2 ⟨rfl, hb⟩
  clear HF
  replace HN := Lib.hid (HN.out.below hb)
  replace HG := Lib.hid (HG.out.blkF hb)
  replace HB := Lib.hid (HB.out.trans (hb.mono HB.out.size))
  clear hb
  have x0 := HG.out.cell 0
  have x1 := HG.out.cell 1
  have x2 := HG.out.cell 2
  have x3 := HG.out.cell 3
  have x4 := HG.out.cell 4
  have x5 := HG.out.cell 5
  have HP := Lib.hid (Without_any n u x w2 HN.out)
  have HWC := Lib.hid (@without_check n x)
  obtain ⟨r, hr⟩ : ∃ r, withoutL n x = r := ⟨_, rfl⟩
  rw [hr] at HP HWC
  clear hr
  obtain ⟨m, em⟩ := r
  unfold NetV.val NetV.parts at HP
  simp only at HWC
  go_wp2_with fail
  refine HP.out.mono ?_
  rintro e w3 ⟨v2, rfl, hin, hb⟩
  unfold NetV.val NetV.parts
  simp only at hin
  clear HP
  clear x0 x1 x2 x3 x4 x5
  have hz := below_newF w3 (Obj.cells #[.slice v2.na m.nodes.length v2.nc, .slice v2.sa m.switches.length v2.sc, .slice v2.ba m.branches.length v2.bc, .slice v2.ga m.gens.length v2.gc, .slice v2.la m.loads.length v2.lc, .slice v2.ta m.stores.length v2.tc] 29)
  have hbz := hb.trans (hz.mono hb.size)
  replace HN := Lib.hid (HN.out.below hbz)
  replace HG := Lib.hid (HG.out.blkF hbz)
  replace HB := Lib.hid (HB.out.trans (hbz.mono HB.out.size))
  clear hbz
  have HY := Lib.hid (Blk.new w3 29 #[.slice v2.na m.nodes.length v2.nc, .slice v2.sa m.switches.length v2.sc, .slice v2.ba m.branches.length v2.bc, .slice v2.ga m.gens.length v2.gc, .slice v2.la m.loads.length v2.lc, .slice v2.ta m.stores.length v2.tc])
  have HIM := Lib.hid (hin.below hz)
  clear hb hz hin
  simp only
  go_upto_region 4 with (fail)
  generalize w3.heap.size = gw at *
  generalize w3.alloc (Obj.cells #[.slice v2.na m.nodes.length v2.nc, .slice v2.sa m.switches.length v2.sc, .slice v2.ba m.branches.length v2.bc, .slice v2.ga m.gens.length v2.gc, .slice v2.la m.loads.length v2.lc, .slice v2.ta m.stores.length v2.tc] 29) = w4 at *
  by_cases hem : em = 0
  · subst hem
    have HP := Lib.hid (netCheck_any m v2 w4 (net_of HIM.out (HWC.out rfl)))
    rw [HWC.out rfl] at HP
    unfold NetV.val NetV.parts at HP
    have y0 := HY.out.cell 0
    have y1 := HY.out.cell 1
    have y2 := HY.out.cell 2
    have y3 := HY.out.cell 3
    have y4 := HY.out.cell 4
    have y5 := HY.out.cell 5
    go_wp2_with fail
    refine HP.out.mono ?_
    rintro e w5 ⟨rfl, hb⟩
    clear HP HY HIM HWC
    clear y0 y1 y2 y3 y4 y5
    replace HN := Lib.hid (HN.out.below hb)
    replace HG := Lib.hid (HG.out.blkF hb)
    replace HB := Lib.hid (HB.out.trans (hb.mono HB.out.size))
    clear hb
    by_cases hsw : (FindL n x).2.2 = 0 ∧ (FindL n x).1 = swB
    · obtain ⟨h0, hs⟩ := hsw
      obtain ⟨hck, hi0, hi1⟩ := SetL_switch h0 hs
      obtain ⟨k, hk⟩ := Int.eq_ofNat_of_zero_le hi0
      have hkn : k < n.switches.length := by omega
      have hkt : (FindL n x).2.1.toNat = k := by rw [hk]; rfl
      obtain ⟨hb1, hb2⟩ := set_back o h0 hs (by rw [hkt]; exact hkn)
      have hb2' : SetL (setSw n k o) x n.switches[k].opn = (n, 0) := by simpa only [hkt] using hb2
      rw [hkt] at hb1
      have hfe : FindL n x = (swB, (k : Int), 0) := Prod.ext hs (Prod.ext hk h0)
      have HC := Lib.hid hck
      have HC2 := Lib.hid (show checkN (setSw n k o) = 0 by rw [checkN_set]; exact hck)
      obtain ⟨b, hb⟩ : ∃ b, n.switches[k].opn = b := ⟨_, rfl⟩
      rw [hb] at hb2'
      have HFI := Lib.hid (show ∀ W, Net W n u → Calls Tryz.prog 9 #[u.val n, .string x] W (RetFind3 W (⟨#[115, 119, 105, 116, 99, 104]⟩, (k : Int), 0)) from fun W h => by have := Find_any n u x W h; rw [hfe] at this; exact this)
      have HSE := Lib.hid (show ∀ W v, Net W n v → Calls Tryz.prog 10 #[v.val n, .string x, .bool o] W (RetSet W (setSw n k o, 0)) from fun W v h => by have := Set_any n v x o W h; rw [hb1] at this; exact this)
      have HSB := Lib.hid (show ∀ W v, Net W (setSw n k o) v → Calls Tryz.prog 10 #[v.val (setSw n k o), .string x, .bool b] W (RetSet W (n, 0)) from fun W v h => by have := Set_any (setSw n k o) v x b W h; rw [hb2'] at this; exact this)
      clear h0 hs hck hi0 hi1 hk hkt hb1 hb2 hb2' hfe
      have HBO := Lib.hid hb
      clear hb
      have hk2 : (k : Int) < n.switches.length := by omega
      generalize setSw n k o = m2 at *
      have x0 := HG.out.cell 0
      have x1 := HG.out.cell 1
      have x2 := HG.out.cell 2
      have x3 := HG.out.cell 3
      have x4 := HG.out.cell 4
      have x5 := HG.out.cell 5
      have HP := Lib.hid (HFI.out w5 HN.out)
      unfold NetV.val NetV.parts at HP
      go_wp2_with fail
      refine HP.out.mono ?_
      rintro e wf ⟨rfl, hb⟩
      clear HP
      clear x0 x1 x2 x3 x4 x5
      replace HN := Lib.hid (HN.out.below hb)
      replace HG := Lib.hid (HG.out.blkF hb)
      replace HB := Lib.hid (HB.out.trans (hb.mono HB.out.size))
      clear hb
      have x0 := HG.out.cell 0
      have x1 := HG.out.cell 1
      have x2 := HG.out.cell 2
      have x3 := HG.out.cell 3
      have x4 := HG.out.cell 4
      have x5 := HG.out.cell 5
      have HP := Lib.hid (HSE.out wf u HN.out)
      unfold NetV.val NetV.parts at HP
      go_wp2_with fail
      refine HP.out.mono ?_
      rintro e ws ⟨v3, rfl, hin, hb, _⟩
      clear HP
      clear x0 x1 x2 x3 x4 x5
      replace HN := Lib.hid (HN.out.below hb)
      replace HG := Lib.hid (HG.out.blkF hb)
      replace HB := Lib.hid (HB.out.trans (hb.mono HB.out.size))
      unfold NetV.val NetV.parts
      have hz := below_newF ws (Obj.cells #[.slice v3.na m2.nodes.length v3.nc, .slice v3.sa m2.switches.length v3.sc, .slice v3.ba m2.branches.length v3.bc, .slice v3.ga m2.gens.length v3.gc, .slice v3.la m2.loads.length v3.lc, .slice v3.ta m2.stores.length v3.tc] 29)
      have hbz := hb.trans (hz.mono hb.size)
      replace HN := Lib.hid (HN.out.below hz)
      replace HG := Lib.hid (HG.out.blkF hz)
      replace HB := Lib.hid (HB.out.trans (hz.mono HB.out.size))
      have HY := Lib.hid (Blk.new ws 29 #[.slice v3.na m2.nodes.length v3.nc, .slice v3.sa m2.switches.length v3.sc, .slice v3.ba m2.branches.length v3.bc, .slice v3.ga m2.gens.length v3.gc, .slice v3.la m2.loads.length v3.lc, .slice v3.ta m2.stores.length v3.tc])
      have HM2 := Lib.hid (net_of (hin.below hz) HC2.out)
      clear hb hz hbz hin HFI HSE
      simp only
      go_upto_region 8 with (fail)
      generalize ws.heap.size = gs at *
      generalize ws.alloc (Obj.cells #[.slice v3.na m2.nodes.length v3.nc, .slice v3.sa m2.switches.length v3.sc, .slice v3.ba m2.branches.length v3.bc, .slice v3.ga m2.gens.length v3.gc, .slice v3.la m2.loads.length v3.lc, .slice v3.ta m2.stores.length v3.tc] 29) = wb at *
      have y0 := HY.out.cell 0
      have y1 := HY.out.cell 1
      have y2 := HY.out.cell 2
      have y3 := HY.out.cell 3
      have y4 := HY.out.cell 4
      have y5 := HY.out.cell 5
      have x1 := HG.out.cell 1
      have HP := Lib.hid (show Calls _ _ _ _ _ from netCheck_any m2 v3 wb HM2.out)
      rw [HC2.out] at HP
      unfold NetV.val NetV.parts at HP
      go_wp2_with fail
      refine HP.out.mono ?_
      rintro e wc ⟨rfl, hb⟩
      clear HP x1
      clear y0 y1 y2 y3 y4 y5
      replace HN := Lib.hid (HN.out.below hb)
      replace HG := Lib.hid (HG.out.blkF hb)
      replace HB := Lib.hid (HB.out.trans (hb.mono HB.out.size))
      replace HY := Lib.hid (HY.out.blkF hb)
      replace HM2 := Lib.hid (HM2.out.below hb)
      clear hb
      have x1 := HG.out.cell 1
      obtain ⟨sb, so, hsa, _, hsx⟩ := reads_by (f := SwitchD.cells) (sz := 5) (fun _ => rfl) (by decide) HN.out.net.switches hkn
      have hx0 := Lib.hid (show wc.cell? ⟨sb, so + k * 5 + 4, none⟩ = some (.bool b) by rw [← HBO.out, Nat.add_assoc]; exact hsx 4 _ rfl)
      have hx1 := Lib.hid (show wc.cell? ⟨w.heap.size, 1, none⟩ = some (.slice (some ⟨sb, so, none⟩) n.switches.length u.sc) by rw [← hsa]; exact x1)
      go_upto_region 12 with (fail)
      clear hsx hsa x1
      have hd := below_draw0 wc
      replace HN := Lib.hid (HN.out.below hd)
      replace HG := Lib.hid (HG.out.blkF hd)
      replace HB := Lib.hid (HB.out.trans (hd.mono HB.out.size))
      replace HY := Lib.hid (HY.out.blkF hd)
      replace HM2 := Lib.hid (HM2.out.below hd)
      replace hx0 := Lib.hid (cell_below hx0.out hd)
      replace hx1 := Lib.hid (cell_below hx1.out hd)
      clear hd
      refine wp_region_c (fun w' => w'.cell? ⟨gs, 0, none⟩ = some (.slice v3.na m2.nodes.length v3.nc) ∧ w'.cell? ⟨gs, 1, none⟩ = some (.slice v3.sa m2.switches.length v3.sc) ∧ w'.cell? ⟨gs, 2, none⟩ = some (.slice v3.ba m2.branches.length v3.bc) ∧ w'.cell? ⟨gs, 3, none⟩ = some (.slice v3.ga m2.gens.length v3.gc) ∧ w'.cell? ⟨gs, 4, none⟩ = some (.slice v3.la m2.loads.length v3.lc) ∧ w'.cell? ⟨gs, 5, none⟩ = some (.slice v3.ta m2.stores.length v3.tc) ∧ w'.cell? ⟨w.heap.size, 1, none⟩ = some (.slice (some ⟨sb, so, none⟩) n.switches.length u.sc) ∧ w'.cell? ⟨sb, so + k * 5 + 4, none⟩ = some (.bool b)) 8 (by kernel_rfl) ?_
      generalize wc.drew = W1 at *
      refine wpAnyC_take8 (i := 0) (oi := _) (v := .agg #[.slice v3.na m2.nodes.length v3.nc, .slice v3.sa m2.switches.length v3.sc, .slice v3.ba m2.branches.length v3.bc, .slice v3.ga m2.gens.length v3.gc, .slice v3.la m2.loads.length v3.lc, .slice v3.ta m2.stores.length v3.tc]) rfl (by kernel_rfl) (by kernel_rfl) (by kernel_rfl) (by kernel_rfl) (by kernel_rfl) (by kernel_rfl) (fun _ _ _ h => h) (Or.inl ⟨by rfl, ?_⟩) ⟨HY.out.cell 0, HY.out.cell 1, HY.out.cell 2, HY.out.cell 3, HY.out.cell 4, HY.out.cell 5, hx1.out, hx0.out⟩ ?_
      · intro w hSw
        obtain ⟨s0, s1, s2, s3, s4, s5, s6, s7⟩ := hSw
        go_simp
      try simp only [Act.put, List.setIfInBounds_toArray]
      refine wpAnyC_take8 (i := 1) (oi := _) (v := .string x) rfl (by kernel_rfl) (by kernel_rfl) (by kernel_rfl) (by kernel_rfl) (by kernel_rfl) (by kernel_rfl) (fun _ _ _ h => h) (Or.inl ⟨by rfl, ?_⟩) ⟨HY.out.cell 0, HY.out.cell 1, HY.out.cell 2, HY.out.cell 3, HY.out.cell 4, HY.out.cell 5, hx1.out, hx0.out⟩ ?_
      · intro w hSw
        obtain ⟨s0, s1, s2, s3, s4, s5, s6, s7⟩ := hSw
        go_simp
      try simp only [Act.put]
      refine wpAnyC_take8 (i := 2) (oi := _) (v := .pointer (some ⟨w.heap.size, 1, none⟩)) rfl (by kernel_rfl) (by kernel_rfl) (by kernel_rfl) (by kernel_rfl) (by kernel_rfl) (by kernel_rfl) (fun _ _ _ h => h) (Or.inl ⟨by rfl, ?_⟩) ⟨HY.out.cell 0, HY.out.cell 1, HY.out.cell 2, HY.out.cell 3, HY.out.cell 4, HY.out.cell 5, hx1.out, hx0.out⟩ ?_
      · intro w hSw
        obtain ⟨s0, s1, s2, s3, s4, s5, s6, s7⟩ := hSw
        go_simp
      try simp only [Act.put]
      refine wpAnyC_take8 (i := 3) (oi := _) (v := .slice (some ⟨sb, so, none⟩) n.switches.length u.sc) rfl (by kernel_rfl) (by kernel_rfl) (by kernel_rfl) (by kernel_rfl) (by kernel_rfl) (by kernel_rfl) (fun _ _ _ h => h) (Or.inl ⟨by rfl, ?_⟩) ⟨HY.out.cell 0, HY.out.cell 1, HY.out.cell 2, HY.out.cell 3, HY.out.cell 4, HY.out.cell 5, hx1.out, hx0.out⟩ ?_
      · intro w hSw
        obtain ⟨s0, s1, s2, s3, s4, s5, s6, s7⟩ := hSw
        go_simp
      try simp only [Act.put]
      refine wpAnyC_take8 (i := 4) (oi := _) (v := I k) rfl (by kernel_rfl) (by kernel_rfl) (by kernel_rfl) (by kernel_rfl) (by kernel_rfl) (by kernel_rfl) (fun _ _ _ h => h) (Or.inl ⟨by rfl, ?_⟩) ⟨HY.out.cell 0, HY.out.cell 1, HY.out.cell 2, HY.out.cell 3, HY.out.cell 4, HY.out.cell 5, hx1.out, hx0.out⟩ ?_
      · intro w hSw
        obtain ⟨s0, s1, s2, s3, s4, s5, s6, s7⟩ := hSw
        go_simp
      try simp only [Act.put]
      refine wpAnyC_take8 (i := 5) (oi := _) (v := .pointer (some ⟨sb, so + k * 5, none⟩)) rfl (by kernel_rfl) (by kernel_rfl) (by kernel_rfl) (by kernel_rfl) (by kernel_rfl) (by kernel_rfl) (fun _ _ _ h => h) (Or.inl ⟨by rfl, ?_⟩) ⟨HY.out.cell 0, HY.out.cell 1, HY.out.cell 2, HY.out.cell 3, HY.out.cell 4, HY.out.cell 5, hx1.out, hx0.out⟩ ?_
      · intro w hSw
        obtain ⟨s0, s1, s2, s3, s4, s5, s6, s7⟩ := hSw
        go_simp
      try simp only [Act.put]
      refine wpAnyC_take8 (i := 6) (oi := _) (v := .pointer (some ⟨sb, so + k * 5 + 4, none⟩)) rfl (by kernel_rfl) (by kernel_rfl) (by kernel_rfl) (by kernel_rfl) (by kernel_rfl) (by kernel_rfl) (fun _ _ _ h => h) (Or.inl ⟨by rfl, ?_⟩) ⟨HY.out.cell 0, HY.out.cell 1, HY.out.cell 2, HY.out.cell 3, HY.out.cell 4, HY.out.cell 5, hx1.out, hx0.out⟩ ?_
      · intro w hSw
        obtain ⟨s0, s1, s2, s3, s4, s5, s6, s7⟩ := hSw
        go_simp
      try simp only [Act.put]
      refine wpAnyC_take8 (i := 7) (oi := _) (v := .bool b) rfl (by kernel_rfl) (by kernel_rfl) (by kernel_rfl) (by kernel_rfl) (by kernel_rfl) (by kernel_rfl) (fun _ _ _ h => h) (Or.inl ⟨by rfl, ?_⟩) ⟨HY.out.cell 0, HY.out.cell 1, HY.out.cell 2, HY.out.cell 3, HY.out.cell 4, HY.out.cell 5, hx1.out, hx0.out⟩ ?_
      · intro w hSw
        obtain ⟨s0, s1, s2, s3, s4, s5, s6, s7⟩ := hSw
        go_simp
      try simp only [Act.put]
      refine wpAnyC_two (i := 8) (j := 12) (by kernel_rfl) rfl rfl (fun K hK => ?_) (fun K hK => ?_)
      · go_simp
        have HP := Lib.hid (HSB.out W1 v3 HM2.out)
        unfold NetV.val NetV.parts at HP
        go_at_call 10
        refine HP.out.mono ?_
        rintro e w6 ⟨v4, rfl, hin, hb, _⟩
        unfold NetV.val NetV.parts
        clear HP hx0 hx1 HM2 HY HSB
        replace HN := Lib.hid (HN.out.below hb)
        replace HG := Lib.hid (HG.out.blkF hb)
        replace HB := Lib.hid (HB.out.trans (hb.mono HB.out.size))
        clear hb
        refine hK.out _ _ (fun h => absurd h (by decide)) ?_
        clear hK K
        try simp only []
        refine wpAnyC_takeQ (i := 9) (oi := _) (v := .tuple #[.agg #[.slice v4.na n.nodes.length v4.nc, .slice v4.sa n.switches.length v4.sc, .slice v4.ba n.branches.length v4.bc, .slice v4.ga n.gens.length v4.gc, .slice v4.la n.loads.length v4.lc, .slice v4.ta n.stores.length v4.tc], I 0]) rfl (by kernel_rfl) (by kernel_rfl) (by kernel_rfl) (by kernel_rfl) (fun _ _ _ h => h) (Or.inl ⟨by rfl, ?_⟩) (by kernel_rfl) ?_
        · intro w _
          go_simp
        try simp only [Act.put, List.setIfInBounds_toArray]
        refine wpAnyC_takeQ (i := 10) (oi := _) (v := .agg #[.slice v4.na n.nodes.length v4.nc, .slice v4.sa n.switches.length v4.sc, .slice v4.ba n.branches.length v4.bc, .slice v4.ga n.gens.length v4.gc, .slice v4.la n.loads.length v4.lc, .slice v4.ta n.stores.length v4.tc]) rfl (by kernel_rfl) (by kernel_rfl) (by kernel_rfl) (by kernel_rfl) (fun _ _ _ h => h) (Or.inl ⟨by rfl, ?_⟩) (by kernel_rfl) ?_
        · intro w _
          go_simp
        try simp only [Act.put]
        refine wpAnyC_takeQ (i := 11) (oi := _) (v := I 0) rfl (by kernel_rfl) (by kernel_rfl) (by kernel_rfl) (by kernel_rfl) (fun _ _ _ h => h) (Or.inl ⟨by rfl, ?_⟩) (by kernel_rfl) ?_
        · intro w _
          go_simp
        try simp only [Act.put]
        have hzz : ∀ x0 x1 x2 x3 x4 x5, Below w6.heap.size w6 (set6 (w6.alloc (Obj.cells #[.slice none 0 0, .slice none 0 0, .slice none 0 0, .slice none 0 0, .slice none 0 0, .slice none 0 0] 29)) w6.heap.size x0 x1 x2 x3 x4 x5) := fun _ _ _ _ _ _ => (below_newF w6 _).trans (set6_below _ _ _ _ _ _ _ _ _ (Nat.le_refl _))
        have HZ0 := Lib.hid (Blk.new w6 29 #[.slice none 0 0, .slice none 0 0, .slice none 0 0, .slice none 0 0, .slice none 0 0, .slice none 0 0])
        refine wpAnyC_one (i := 12) (by kernel_rfl) rfl (fun K hK => ?_)
        go_simp
        generalize w6.alloc (Obj.cells #[.slice none 0 0, .slice none 0 0, .slice none 0 0, .slice none 0 0, .slice none 0 0, .slice none 0 0] 29) = w7 at *
        refine hK.out _ _ (fun h => absurd h (by decide)) ?_
        clear hK K
        try simp only [Act.put, List.setIfInBounds_toArray, List.set_cons_zero, List.set_cons_succ]
        have hz := hzz (.slice v4.na n.nodes.length v4.nc) (.slice v4.sa n.switches.length v4.sc) (.slice v4.ba n.branches.length v4.bc) (.slice v4.ga n.gens.length v4.gc) (.slice v4.la n.loads.length v4.lc) (.slice v4.ta n.stores.length v4.tc)
        clear hzz
        have q0 := HZ0.out.cell 0
        have q1 := HZ0.out.cell 1
        have q2 := HZ0.out.cell 2
        have q3 := HZ0.out.cell 3
        have q4 := HZ0.out.cell 4
        have q5 := HZ0.out.cell 5
        have f0 := HZ0.out.frozen 0
        have f1 := HZ0.out.frozen 1
        have f2 := HZ0.out.frozen 2
        have f3 := HZ0.out.frozen 3
        have f4 := HZ0.out.frozen 4
        have f5 := HZ0.out.frozen 5
        refine wpAnyC_one (i := 13) (by kernel_rfl) rfl (fun K hK => ?_)
        go_simp
        rw [← set6_def]
        clear q0 q1 q2 q3 q4 q5 f0 f1 f2 f3 f4 f5
        have HZ := Lib.hid (set6_blk HZ0.out rfl (.slice v4.na n.nodes.length v4.nc) (.slice v4.sa n.switches.length v4.sc) (.slice v4.ba n.branches.length v4.bc) (.slice v4.ga n.gens.length v4.gc) (.slice v4.la n.loads.length v4.lc) (.slice v4.ta n.stores.length v4.tc))
        have HM := Lib.hid (net_of (hin.below hz) HC.out)
        replace HN := Lib.hid (HN.out.below hz)
        replace HG := Lib.hid (HG.out.blkF hz)
        replace HB := Lib.hid (HB.out.trans (hz.mono HB.out.size))
        clear hz
        generalize set6 w7 w6.heap.size (.slice v4.na n.nodes.length v4.nc) (.slice v4.sa n.switches.length v4.sc) (.slice v4.ba n.branches.length v4.bc) (.slice v4.ga n.gens.length v4.gc) (.slice v4.la n.loads.length v4.lc) (.slice v4.ta n.stores.length v4.tc) = wz at *
        refine hK.out _ _ (fun h => absurd h (by decide)) ?_
        clear hK K
        try simp only [Act.put, List.setIfInBounds_toArray, List.set_cons_zero, List.set_cons_succ]
        refine wpAnyC_one (i := 14) (by kernel_rfl) rfl (fun K hK => ?_)
        go_simp
        refine hK.out _ _ (fun h => absurd h (by decide)) ?_
        clear hK K
        try simp only [Act.put, List.setIfInBounds_toArray, List.set_cons_zero, List.set_cons_succ]
        refine wpAnyC_done (by kernel_rfl) ?_ _
        generalize w6.heap.size = gz at *
        have x0 := HG.out.cell 0
        have x1 := HG.out.cell 1
        have x2 := HG.out.cell 2
        have x3 := HG.out.cell 3
        have x4 := HG.out.cell 4
        have x5 := HG.out.cell 5
        have y0 := HZ.out.cell 0
        have y1 := HZ.out.cell 1
        have y2 := HZ.out.cell 2
        have y3 := HZ.out.cell 3
        have y4 := HZ.out.cell 4
        have y5 := HZ.out.cell 5
        have HP := Lib.hid (show Calls _ _ _ _ (RetDf wz ([], 0)) by have := diff_any n n u v4 wz HN.out HM.out (HV.out.below HB.out).tab; rw [diffN_self HC.out] at this; exact this)
        unfold NetV.val NetV.parts at HP
        go_wp2_with fail
        refine HP.out.mono ?_
        rintro e wd ⟨A, c, rfl, _, hb⟩
        replace HB := Lib.hid (HB.out.trans (hb.mono HB.out.size))
        clear hb HP
        clear x0 x1 x2 x3 x4 x5 y0 y1 y2 y3 y4 y5
        have hz := below_newF wd (Obj.cells #[I 0, I 0] 31)
        have HP := Lib.hid (fine_ok 2 (some ⟨wd.heap.size, 0, none⟩) 2 (wd.alloc (Obj.cells #[I 0, I 0] 31)) _ (reads_many (Blk.new wd 31 #[I 0, I 0]) rfl rfl) (by decide))
        replace HB := Lib.hid (HB.out.trans (hz.mono HB.out.size))
        clear hz
        simp only [List.length_nil]
        go_wp2_with fail
        refine HP.out.mono ?_
        rintro e w9 ⟨rfl, hw⟩
        rw [← hw]
        clear hw w9 HP
        go_wp2
        go_ret
        exact ⟨rfl, HB.out⟩
      · go_simp
        have hz1 := below_newF W1 (Obj.cells #[.slice none 0 0, .slice none 0 0, .slice none 0 0, .slice none 0 0, .slice none 0 0, .slice none 0 0] 29)
        have HZ0 := Lib.hid (Blk.new W1 29 #[.slice none 0 0, .slice none 0 0, .slice none 0 0, .slice none 0 0, .slice none 0 0, .slice none 0 0])
        replace HY := Lib.hid (HY.out.blkF hz1)
        replace HM2 := Lib.hid (HM2.out.below hz1)
        replace hx0 := Lib.hid (cell_below hx0.out hz1)
        replace hx1 := Lib.hid (cell_below hx1.out hz1)
        generalize W1.alloc (Obj.cells #[.slice none 0 0, .slice none 0 0, .slice none 0 0, .slice none 0 0, .slice none 0 0, .slice none 0 0] 29) = W2 at *
        refine hK.out _ _ (fun _ => ⟨HY.out.cell 0, HY.out.cell 1, HY.out.cell 2, HY.out.cell 3, HY.out.cell 4, HY.out.cell 5, hx1.out, hx0.out⟩) ?_
        clear hK K
        try simp only [Act.put, List.setIfInBounds_toArray, List.set_cons_zero, List.set_cons_succ]
        have HP := Lib.hid (HSB.out W2 v3 HM2.out)
        unfold NetV.val NetV.parts at HP
        refine wpAnyC_one (i := 8) (by kernel_rfl) rfl (fun K hK => ?_)
        go_simp
        go_at_call 10
        refine HP.out.mono ?_
        rintro e w6 ⟨v4, rfl, hin, hb, _⟩
        unfold NetV.val NetV.parts
        clear HP hx0 hx1 HM2 HY HSB
        have HZ6 := Lib.hid (HZ0.out.blkF hb)
        have hz : Below W1.heap.size W1 (set6 w6 W1.heap.size (.slice v4.na n.nodes.length v4.nc) (.slice v4.sa n.switches.length v4.sc) (.slice v4.ba n.branches.length v4.bc) (.slice v4.ga n.gens.length v4.gc) (.slice v4.la n.loads.length v4.lc) (.slice v4.ta n.stores.length v4.tc)) := (hz1.trans (hb.mono hz1.size)).trans (set6_below _ _ _ _ _ _ _ _ _ (Nat.le_refl _))
        clear hz1 hb HZ0
        refine hK.out _ _ (fun h => absurd h (by decide)) ?_
        clear hK K
        try simp only []
        refine wpAnyC_takeQ (i := 9) (oi := _) (v := .tuple #[.agg #[.slice v4.na n.nodes.length v4.nc, .slice v4.sa n.switches.length v4.sc, .slice v4.ba n.branches.length v4.bc, .slice v4.ga n.gens.length v4.gc, .slice v4.la n.loads.length v4.lc, .slice v4.ta n.stores.length v4.tc], I 0]) rfl (by kernel_rfl) (by kernel_rfl) (by kernel_rfl) (by kernel_rfl) (fun _ _ _ h => h) (Or.inl ⟨by rfl, ?_⟩) (by kernel_rfl) ?_
        · intro w _
          go_simp
        try simp only [Act.put, List.setIfInBounds_toArray]
        refine wpAnyC_takeQ (i := 10) (oi := _) (v := .agg #[.slice v4.na n.nodes.length v4.nc, .slice v4.sa n.switches.length v4.sc, .slice v4.ba n.branches.length v4.bc, .slice v4.ga n.gens.length v4.gc, .slice v4.la n.loads.length v4.lc, .slice v4.ta n.stores.length v4.tc]) rfl (by kernel_rfl) (by kernel_rfl) (by kernel_rfl) (by kernel_rfl) (fun _ _ _ h => h) (Or.inl ⟨by rfl, ?_⟩) (by kernel_rfl) ?_
        · intro w _
          go_simp
        try simp only [Act.put]
        refine wpAnyC_takeQ (i := 11) (oi := _) (v := I 0) rfl (by kernel_rfl) (by kernel_rfl) (by kernel_rfl) (by kernel_rfl) (fun _ _ _ h => h) (Or.inl ⟨by rfl, ?_⟩) (by kernel_rfl) ?_
        · intro w _
          go_simp
        try simp only [Act.put]
        have q0 := HZ6.out.cell 0
        have q1 := HZ6.out.cell 1
        have q2 := HZ6.out.cell 2
        have q3 := HZ6.out.cell 3
        have q4 := HZ6.out.cell 4
        have q5 := HZ6.out.cell 5
        have f0 := HZ6.out.frozen 0
        have f1 := HZ6.out.frozen 1
        have f2 := HZ6.out.frozen 2
        have f3 := HZ6.out.frozen 3
        have f4 := HZ6.out.frozen 4
        have f5 := HZ6.out.frozen 5
        refine wpAnyC_one (i := 13) (by kernel_rfl) rfl (fun K hK => ?_)
        go_simp
        rw [← set6_def]
        clear q0 q1 q2 q3 q4 q5 f0 f1 f2 f3 f4 f5
        have HZ := Lib.hid (set6_blk HZ6.out rfl (.slice v4.na n.nodes.length v4.nc) (.slice v4.sa n.switches.length v4.sc) (.slice v4.ba n.branches.length v4.bc) (.slice v4.ga n.gens.length v4.gc) (.slice v4.la n.loads.length v4.lc) (.slice v4.ta n.stores.length v4.tc))
        have HM := Lib.hid (net_of (hin.set6 HZ6.out (.slice v4.na n.nodes.length v4.nc) (.slice v4.sa n.switches.length v4.sc) (.slice v4.ba n.branches.length v4.bc) (.slice v4.ga n.gens.length v4.gc) (.slice v4.la n.loads.length v4.lc) (.slice v4.ta n.stores.length v4.tc)) HC.out)
        replace HN := Lib.hid (HN.out.below hz)
        replace HG := Lib.hid (HG.out.blkF hz)
        replace HB := Lib.hid (HB.out.trans (hz.mono HB.out.size))
        clear hz
        generalize set6 w6 W1.heap.size (.slice v4.na n.nodes.length v4.nc) (.slice v4.sa n.switches.length v4.sc) (.slice v4.ba n.branches.length v4.bc) (.slice v4.ga n.gens.length v4.gc) (.slice v4.la n.loads.length v4.lc) (.slice v4.ta n.stores.length v4.tc) = wz at *
        refine hK.out _ _ (fun h => absurd h (by decide)) ?_
        clear hK K
        try simp only [Act.put, List.setIfInBounds_toArray, List.set_cons_zero, List.set_cons_succ]
        refine wpAnyC_one (i := 14) (by kernel_rfl) rfl (fun K hK => ?_)
        go_simp
        refine hK.out _ _ (fun h => absurd h (by decide)) ?_
        clear hK K
        try simp only [Act.put, List.setIfInBounds_toArray, List.set_cons_zero, List.set_cons_succ]
        refine wpAnyC_done (by kernel_rfl) ?_ _
        generalize W1.heap.size = gz at *
        have x0 := HG.out.cell 0
        have x1 := HG.out.cell 1
        have x2 := HG.out.cell 2
        have x3 := HG.out.cell 3
        have x4 := HG.out.cell 4
        have x5 := HG.out.cell 5
        have y0 := HZ.out.cell 0
        have y1 := HZ.out.cell 1
        have y2 := HZ.out.cell 2
        have y3 := HZ.out.cell 3
        have y4 := HZ.out.cell 4
        have y5 := HZ.out.cell 5
        have HP := Lib.hid (show Calls _ _ _ _ (RetDf wz ([], 0)) by have := diff_any n n u v4 wz HN.out HM.out (HV.out.below HB.out).tab; rw [diffN_self HC.out] at this; exact this)
        unfold NetV.val NetV.parts at HP
        go_wp2_with fail
        refine HP.out.mono ?_
        rintro e wd ⟨A, c, rfl, _, hb⟩
        replace HB := Lib.hid (HB.out.trans (hb.mono HB.out.size))
        clear hb HP
        clear x0 x1 x2 x3 x4 x5 y0 y1 y2 y3 y4 y5
        have hz := below_newF wd (Obj.cells #[I 0, I 0] 31)
        have HP := Lib.hid (fine_ok 2 (some ⟨wd.heap.size, 0, none⟩) 2 (wd.alloc (Obj.cells #[I 0, I 0] 31)) _ (reads_many (Blk.new wd 31 #[I 0, I 0]) rfl rfl) (by decide))
        replace HB := Lib.hid (HB.out.trans (hz.mono HB.out.size))
        clear hz
        simp only [List.length_nil]
        go_wp2_with fail
        refine HP.out.mono ?_
        rintro e w9 ⟨rfl, hw⟩
        rw [← hw]
        clear hw w9 HP
        go_wp2
        go_ret
        exact ⟨rfl, HB.out⟩
    · have HNE := Lib.hid (set_no o hsw)
      obtain ⟨r, hr⟩ : ∃ r, FindL n x = r := ⟨_, rfl⟩
      have HFI := Lib.hid (fun W h => Find_any n u x W h)
      have HSE := Lib.hid (fun W v h => Set_any n v x o W h)
      rw [hr] at hsw HFI
      clear hr
      obtain ⟨s, i, er⟩ := r
      obtain ⟨r2, hr⟩ : ∃ r, SetL n x o = r := ⟨_, rfl⟩
      rw [hr] at HNE HSE
      clear hr
      obtain ⟨m2, e2⟩ := r2
      simp only at hsw HNE HFI HSE
      have HSW := Lib.hid hsw
      clear hsw
      have x0 := HG.out.cell 0
      have x1 := HG.out.cell 1
      have x2 := HG.out.cell 2
      have x3 := HG.out.cell 3
      have x4 := HG.out.cell 4
      have x5 := HG.out.cell 5
      have HP := Lib.hid (HFI.out w5 HN.out)
      unfold NetV.val NetV.parts at HP
      go_wp2_with fail
      refine HP.out.mono ?_
      rintro e wf ⟨rfl, hb⟩
      clear HP
      clear x0 x1 x2 x3 x4 x5
      replace HN := Lib.hid (HN.out.below hb)
      replace HG := Lib.hid (HG.out.blkF hb)
      replace HB := Lib.hid (HB.out.trans (hb.mono HB.out.size))
      clear hb
      have x0 := HG.out.cell 0
      have x1 := HG.out.cell 1
      have x2 := HG.out.cell 2
      have x3 := HG.out.cell 3
      have x4 := HG.out.cell 4
      have x5 := HG.out.cell 5
      have HP := Lib.hid (HSE.out wf u HN.out)
      unfold NetV.val NetV.parts at HP
      go_wp2_with fail
      refine HP.out.mono ?_
      rintro e ws ⟨v3, rfl, hin, hb, _⟩
      clear HP
      clear x0 x1 x2 x3 x4 x5
      replace HN := Lib.hid (HN.out.below hb)
      replace HG := Lib.hid (HG.out.blkF hb)
      replace HB := Lib.hid (HB.out.trans (hb.mono HB.out.size))
      unfold NetV.val NetV.parts
      have hz := below_newF ws (Obj.cells #[.slice v3.na m2.nodes.length v3.nc, .slice v3.sa m2.switches.length v3.sc, .slice v3.ba m2.branches.length v3.bc, .slice v3.ga m2.gens.length v3.gc, .slice v3.la m2.loads.length v3.lc, .slice v3.ta m2.stores.length v3.tc] 29)
      replace HB := Lib.hid (HB.out.trans (hz.mono HB.out.size))
      clear hb hz hin HFI HSE
      have hsw := HSW.out
      have te : (e2 != 0) = true := bne_iff_ne.2 HNE.out
      clear HSW HNE
      by_cases h0 : er = 0
      · subst h0
        have hs' : (s.toList == [115, 119, 105, 116, 99, 104]) = false := by
          have := (Lib.bytes_beq_false_iff s swB).2 (fun q => hsw ⟨rfl, q⟩)
          rwa [show swB.toList = [115, 119, 105, 116, 99, 104] by decide +kernel] at this
        clear hsw
        go_wp2
        go_ret
        exact ⟨rfl, HB.out⟩
      · have t1 : (er == 0) = false := beq_eq_false_iff_ne.2 h0
        have t2 : (er != 0) = true := bne_iff_ne.2 h0
        clear hsw h0
        go_wp2
        go_ret
        exact ⟨rfl, HB.out⟩
  · have te : (em == 0) = false := beq_eq_false_iff_ne.2 hem
    clear hem HY HIM HWC
    go_upto_region 6 with (fail)
    by_cases hsw : (FindL n x).2.2 = 0 ∧ (FindL n x).1 = swB
    · obtain ⟨h0, hs⟩ := hsw
      obtain ⟨hck, hi0, hi1⟩ := SetL_switch h0 hs
      obtain ⟨k, hk⟩ := Int.eq_ofNat_of_zero_le hi0
      have hkn : k < n.switches.length := by omega
      have hkt : (FindL n x).2.1.toNat = k := by rw [hk]; rfl
      obtain ⟨hb1, hb2⟩ := set_back o h0 hs (by rw [hkt]; exact hkn)
      have hb2' : SetL (setSw n k o) x n.switches[k].opn = (n, 0) := by simpa only [hkt] using hb2
      rw [hkt] at hb1
      have hfe : FindL n x = (swB, (k : Int), 0) := Prod.ext hs (Prod.ext hk h0)
      have HC := Lib.hid hck
      have HC2 := Lib.hid (show checkN (setSw n k o) = 0 by rw [checkN_set]; exact hck)
      obtain ⟨b, hb⟩ : ∃ b, n.switches[k].opn = b := ⟨_, rfl⟩
      rw [hb] at hb2'
      have HFI := Lib.hid (show ∀ W, Net W n u → Calls Tryz.prog 9 #[u.val n, .string x] W (RetFind3 W (⟨#[115, 119, 105, 116, 99, 104]⟩, (k : Int), 0)) from fun W h => by have := Find_any n u x W h; rw [hfe] at this; exact this)
      have HSE := Lib.hid (show ∀ W v, Net W n v → Calls Tryz.prog 10 #[v.val n, .string x, .bool o] W (RetSet W (setSw n k o, 0)) from fun W v h => by have := Set_any n v x o W h; rw [hb1] at this; exact this)
      have HSB := Lib.hid (show ∀ W v, Net W (setSw n k o) v → Calls Tryz.prog 10 #[v.val (setSw n k o), .string x, .bool b] W (RetSet W (n, 0)) from fun W v h => by have := Set_any (setSw n k o) v x b W h; rw [hb2'] at this; exact this)
      clear h0 hs hck hi0 hi1 hk hkt hb1 hb2 hb2' hfe
      have HBO := Lib.hid hb
      clear hb
      have hk2 : (k : Int) < n.switches.length := by omega
      generalize setSw n k o = m2 at *
      have x0 := HG.out.cell 0
      have x1 := HG.out.cell 1
      have x2 := HG.out.cell 2
      have x3 := HG.out.cell 3
      have x4 := HG.out.cell 4
      have x5 := HG.out.cell 5
      have HP := Lib.hid (HFI.out w4 HN.out)
      unfold NetV.val NetV.parts at HP
      go_wp2_with fail
      refine HP.out.mono ?_
      rintro e wf ⟨rfl, hb⟩
      clear HP
      clear x0 x1 x2 x3 x4 x5
      replace HN := Lib.hid (HN.out.below hb)
      replace HG := Lib.hid (HG.out.blkF hb)
      replace HB := Lib.hid (HB.out.trans (hb.mono HB.out.size))
      clear hb
      have x0 := HG.out.cell 0
      have x1 := HG.out.cell 1
      have x2 := HG.out.cell 2
      have x3 := HG.out.cell 3
      have x4 := HG.out.cell 4
      have x5 := HG.out.cell 5
      have HP := Lib.hid (HSE.out wf u HN.out)
      unfold NetV.val NetV.parts at HP
      go_wp2_with fail
      refine HP.out.mono ?_
      rintro e ws ⟨v3, rfl, hin, hb, _⟩
      clear HP
      clear x0 x1 x2 x3 x4 x5
      replace HN := Lib.hid (HN.out.below hb)
      replace HG := Lib.hid (HG.out.blkF hb)
      replace HB := Lib.hid (HB.out.trans (hb.mono HB.out.size))
      unfold NetV.val NetV.parts
      have hz := below_newF ws (Obj.cells #[.slice v3.na m2.nodes.length v3.nc, .slice v3.sa m2.switches.length v3.sc, .slice v3.ba m2.branches.length v3.bc, .slice v3.ga m2.gens.length v3.gc, .slice v3.la m2.loads.length v3.lc, .slice v3.ta m2.stores.length v3.tc] 29)
      have hbz := hb.trans (hz.mono hb.size)
      replace HN := Lib.hid (HN.out.below hz)
      replace HG := Lib.hid (HG.out.blkF hz)
      replace HB := Lib.hid (HB.out.trans (hz.mono HB.out.size))
      have HY := Lib.hid (Blk.new ws 29 #[.slice v3.na m2.nodes.length v3.nc, .slice v3.sa m2.switches.length v3.sc, .slice v3.ba m2.branches.length v3.bc, .slice v3.ga m2.gens.length v3.gc, .slice v3.la m2.loads.length v3.lc, .slice v3.ta m2.stores.length v3.tc])
      have HM2 := Lib.hid (net_of (hin.below hz) HC2.out)
      clear hb hz hbz hin HFI HSE
      simp only
      go_upto_region 8 with (fail)
      generalize ws.heap.size = gs at *
      generalize ws.alloc (Obj.cells #[.slice v3.na m2.nodes.length v3.nc, .slice v3.sa m2.switches.length v3.sc, .slice v3.ba m2.branches.length v3.bc, .slice v3.ga m2.gens.length v3.gc, .slice v3.la m2.loads.length v3.lc, .slice v3.ta m2.stores.length v3.tc] 29) = wb at *
      have y0 := HY.out.cell 0
      have y1 := HY.out.cell 1
      have y2 := HY.out.cell 2
      have y3 := HY.out.cell 3
      have y4 := HY.out.cell 4
      have y5 := HY.out.cell 5
      have x1 := HG.out.cell 1
      have HP := Lib.hid (show Calls _ _ _ _ _ from netCheck_any m2 v3 wb HM2.out)
      rw [HC2.out] at HP
      unfold NetV.val NetV.parts at HP
      go_wp2_with fail
      refine HP.out.mono ?_
      rintro e wc ⟨rfl, hb⟩
      clear HP x1
      clear y0 y1 y2 y3 y4 y5
      replace HN := Lib.hid (HN.out.below hb)
      replace HG := Lib.hid (HG.out.blkF hb)
      replace HB := Lib.hid (HB.out.trans (hb.mono HB.out.size))
      replace HY := Lib.hid (HY.out.blkF hb)
      replace HM2 := Lib.hid (HM2.out.below hb)
      clear hb
      have x1 := HG.out.cell 1
      obtain ⟨sb, so, hsa, _, hsx⟩ := reads_by (f := SwitchD.cells) (sz := 5) (fun _ => rfl) (by decide) HN.out.net.switches hkn
      have hx0 := Lib.hid (show wc.cell? ⟨sb, so + k * 5 + 4, none⟩ = some (.bool b) by rw [← HBO.out, Nat.add_assoc]; exact hsx 4 _ rfl)
      have hx1 := Lib.hid (show wc.cell? ⟨w.heap.size, 1, none⟩ = some (.slice (some ⟨sb, so, none⟩) n.switches.length u.sc) by rw [← hsa]; exact x1)
      go_upto_region 12 with (fail)
      clear hsx hsa x1
      have hd := below_draw0 wc
      replace HN := Lib.hid (HN.out.below hd)
      replace HG := Lib.hid (HG.out.blkF hd)
      replace HB := Lib.hid (HB.out.trans (hd.mono HB.out.size))
      replace HY := Lib.hid (HY.out.blkF hd)
      replace HM2 := Lib.hid (HM2.out.below hd)
      replace hx0 := Lib.hid (cell_below hx0.out hd)
      replace hx1 := Lib.hid (cell_below hx1.out hd)
      clear hd
      refine wp_region_c (fun w' => w'.cell? ⟨gs, 0, none⟩ = some (.slice v3.na m2.nodes.length v3.nc) ∧ w'.cell? ⟨gs, 1, none⟩ = some (.slice v3.sa m2.switches.length v3.sc) ∧ w'.cell? ⟨gs, 2, none⟩ = some (.slice v3.ba m2.branches.length v3.bc) ∧ w'.cell? ⟨gs, 3, none⟩ = some (.slice v3.ga m2.gens.length v3.gc) ∧ w'.cell? ⟨gs, 4, none⟩ = some (.slice v3.la m2.loads.length v3.lc) ∧ w'.cell? ⟨gs, 5, none⟩ = some (.slice v3.ta m2.stores.length v3.tc) ∧ w'.cell? ⟨w.heap.size, 1, none⟩ = some (.slice (some ⟨sb, so, none⟩) n.switches.length u.sc) ∧ w'.cell? ⟨sb, so + k * 5 + 4, none⟩ = some (.bool b)) 8 (by kernel_rfl) ?_
      generalize wc.drew = W1 at *
      refine wpAnyC_take8 (i := 0) (oi := _) (v := .agg #[.slice v3.na m2.nodes.length v3.nc, .slice v3.sa m2.switches.length v3.sc, .slice v3.ba m2.branches.length v3.bc, .slice v3.ga m2.gens.length v3.gc, .slice v3.la m2.loads.length v3.lc, .slice v3.ta m2.stores.length v3.tc]) rfl (by kernel_rfl) (by kernel_rfl) (by kernel_rfl) (by kernel_rfl) (by kernel_rfl) (by kernel_rfl) (fun _ _ _ h => h) (Or.inl ⟨by rfl, ?_⟩) ⟨HY.out.cell 0, HY.out.cell 1, HY.out.cell 2, HY.out.cell 3, HY.out.cell 4, HY.out.cell 5, hx1.out, hx0.out⟩ ?_
      · intro w hSw
        obtain ⟨s0, s1, s2, s3, s4, s5, s6, s7⟩ := hSw
        go_simp
      try simp only [Act.put, List.setIfInBounds_toArray]
      refine wpAnyC_take8 (i := 1) (oi := _) (v := .string x) rfl (by kernel_rfl) (by kernel_rfl) (by kernel_rfl) (by kernel_rfl) (by kernel_rfl) (by kernel_rfl) (fun _ _ _ h => h) (Or.inl ⟨by rfl, ?_⟩) ⟨HY.out.cell 0, HY.out.cell 1, HY.out.cell 2, HY.out.cell 3, HY.out.cell 4, HY.out.cell 5, hx1.out, hx0.out⟩ ?_
      · intro w hSw
        obtain ⟨s0, s1, s2, s3, s4, s5, s6, s7⟩ := hSw
        go_simp
      try simp only [Act.put]
      refine wpAnyC_take8 (i := 2) (oi := _) (v := .pointer (some ⟨w.heap.size, 1, none⟩)) rfl (by kernel_rfl) (by kernel_rfl) (by kernel_rfl) (by kernel_rfl) (by kernel_rfl) (by kernel_rfl) (fun _ _ _ h => h) (Or.inl ⟨by rfl, ?_⟩) ⟨HY.out.cell 0, HY.out.cell 1, HY.out.cell 2, HY.out.cell 3, HY.out.cell 4, HY.out.cell 5, hx1.out, hx0.out⟩ ?_
      · intro w hSw
        obtain ⟨s0, s1, s2, s3, s4, s5, s6, s7⟩ := hSw
        go_simp
      try simp only [Act.put]
      refine wpAnyC_take8 (i := 3) (oi := _) (v := .slice (some ⟨sb, so, none⟩) n.switches.length u.sc) rfl (by kernel_rfl) (by kernel_rfl) (by kernel_rfl) (by kernel_rfl) (by kernel_rfl) (by kernel_rfl) (fun _ _ _ h => h) (Or.inl ⟨by rfl, ?_⟩) ⟨HY.out.cell 0, HY.out.cell 1, HY.out.cell 2, HY.out.cell 3, HY.out.cell 4, HY.out.cell 5, hx1.out, hx0.out⟩ ?_
      · intro w hSw
        obtain ⟨s0, s1, s2, s3, s4, s5, s6, s7⟩ := hSw
        go_simp
      try simp only [Act.put]
      refine wpAnyC_take8 (i := 4) (oi := _) (v := I k) rfl (by kernel_rfl) (by kernel_rfl) (by kernel_rfl) (by kernel_rfl) (by kernel_rfl) (by kernel_rfl) (fun _ _ _ h => h) (Or.inl ⟨by rfl, ?_⟩) ⟨HY.out.cell 0, HY.out.cell 1, HY.out.cell 2, HY.out.cell 3, HY.out.cell 4, HY.out.cell 5, hx1.out, hx0.out⟩ ?_
      · intro w hSw
        obtain ⟨s0, s1, s2, s3, s4, s5, s6, s7⟩ := hSw
        go_simp
      try simp only [Act.put]
      refine wpAnyC_take8 (i := 5) (oi := _) (v := .pointer (some ⟨sb, so + k * 5, none⟩)) rfl (by kernel_rfl) (by kernel_rfl) (by kernel_rfl) (by kernel_rfl) (by kernel_rfl) (by kernel_rfl) (fun _ _ _ h => h) (Or.inl ⟨by rfl, ?_⟩) ⟨HY.out.cell 0, HY.out.cell 1, HY.out.cell 2, HY.out.cell 3, HY.out.cell 4, HY.out.cell 5, hx1.out, hx0.out⟩ ?_
      · intro w hSw
        obtain ⟨s0, s1, s2, s3, s4, s5, s6, s7⟩ := hSw
        go_simp
      try simp only [Act.put]
      refine wpAnyC_take8 (i := 6) (oi := _) (v := .pointer (some ⟨sb, so + k * 5 + 4, none⟩)) rfl (by kernel_rfl) (by kernel_rfl) (by kernel_rfl) (by kernel_rfl) (by kernel_rfl) (by kernel_rfl) (fun _ _ _ h => h) (Or.inl ⟨by rfl, ?_⟩) ⟨HY.out.cell 0, HY.out.cell 1, HY.out.cell 2, HY.out.cell 3, HY.out.cell 4, HY.out.cell 5, hx1.out, hx0.out⟩ ?_
      · intro w hSw
        obtain ⟨s0, s1, s2, s3, s4, s5, s6, s7⟩ := hSw
        go_simp
      try simp only [Act.put]
      refine wpAnyC_take8 (i := 7) (oi := _) (v := .bool b) rfl (by kernel_rfl) (by kernel_rfl) (by kernel_rfl) (by kernel_rfl) (by kernel_rfl) (by kernel_rfl) (fun _ _ _ h => h) (Or.inl ⟨by rfl, ?_⟩) ⟨HY.out.cell 0, HY.out.cell 1, HY.out.cell 2, HY.out.cell 3, HY.out.cell 4, HY.out.cell 5, hx1.out, hx0.out⟩ ?_
      · intro w hSw
        obtain ⟨s0, s1, s2, s3, s4, s5, s6, s7⟩ := hSw
        go_simp
      try simp only [Act.put]
      refine wpAnyC_two (i := 8) (j := 12) (by kernel_rfl) rfl rfl (fun K hK => ?_) (fun K hK => ?_)
      · go_simp
        have HP := Lib.hid (HSB.out W1 v3 HM2.out)
        unfold NetV.val NetV.parts at HP
        go_at_call 10
        refine HP.out.mono ?_
        rintro e w6 ⟨v4, rfl, hin, hb, _⟩
        unfold NetV.val NetV.parts
        clear HP hx0 hx1 HM2 HY HSB
        replace HN := Lib.hid (HN.out.below hb)
        replace HG := Lib.hid (HG.out.blkF hb)
        replace HB := Lib.hid (HB.out.trans (hb.mono HB.out.size))
        clear hb
        refine hK.out _ _ (fun h => absurd h (by decide)) ?_
        clear hK K
        try simp only []
        refine wpAnyC_takeQ (i := 9) (oi := _) (v := .tuple #[.agg #[.slice v4.na n.nodes.length v4.nc, .slice v4.sa n.switches.length v4.sc, .slice v4.ba n.branches.length v4.bc, .slice v4.ga n.gens.length v4.gc, .slice v4.la n.loads.length v4.lc, .slice v4.ta n.stores.length v4.tc], I 0]) rfl (by kernel_rfl) (by kernel_rfl) (by kernel_rfl) (by kernel_rfl) (fun _ _ _ h => h) (Or.inl ⟨by rfl, ?_⟩) (by kernel_rfl) ?_
        · intro w _
          go_simp
        try simp only [Act.put, List.setIfInBounds_toArray]
        refine wpAnyC_takeQ (i := 10) (oi := _) (v := .agg #[.slice v4.na n.nodes.length v4.nc, .slice v4.sa n.switches.length v4.sc, .slice v4.ba n.branches.length v4.bc, .slice v4.ga n.gens.length v4.gc, .slice v4.la n.loads.length v4.lc, .slice v4.ta n.stores.length v4.tc]) rfl (by kernel_rfl) (by kernel_rfl) (by kernel_rfl) (by kernel_rfl) (fun _ _ _ h => h) (Or.inl ⟨by rfl, ?_⟩) (by kernel_rfl) ?_
        · intro w _
          go_simp
        try simp only [Act.put]
        refine wpAnyC_takeQ (i := 11) (oi := _) (v := I 0) rfl (by kernel_rfl) (by kernel_rfl) (by kernel_rfl) (by kernel_rfl) (fun _ _ _ h => h) (Or.inl ⟨by rfl, ?_⟩) (by kernel_rfl) ?_
        · intro w _
          go_simp
        try simp only [Act.put]
        have hzz : ∀ x0 x1 x2 x3 x4 x5, Below w6.heap.size w6 (set6 (w6.alloc (Obj.cells #[.slice none 0 0, .slice none 0 0, .slice none 0 0, .slice none 0 0, .slice none 0 0, .slice none 0 0] 29)) w6.heap.size x0 x1 x2 x3 x4 x5) := fun _ _ _ _ _ _ => (below_newF w6 _).trans (set6_below _ _ _ _ _ _ _ _ _ (Nat.le_refl _))
        have HZ0 := Lib.hid (Blk.new w6 29 #[.slice none 0 0, .slice none 0 0, .slice none 0 0, .slice none 0 0, .slice none 0 0, .slice none 0 0])
        refine wpAnyC_one (i := 12) (by kernel_rfl) rfl (fun K hK => ?_)
        go_simp
        generalize w6.alloc (Obj.cells #[.slice none 0 0, .slice none 0 0, .slice none 0 0, .slice none 0 0, .slice none 0 0, .slice none 0 0] 29) = w7 at *
        refine hK.out _ _ (fun h => absurd h (by decide)) ?_
        clear hK K
        try simp only [Act.put, List.setIfInBounds_toArray, List.set_cons_zero, List.set_cons_succ]
        have hz := hzz (.slice v4.na n.nodes.length v4.nc) (.slice v4.sa n.switches.length v4.sc) (.slice v4.ba n.branches.length v4.bc) (.slice v4.ga n.gens.length v4.gc) (.slice v4.la n.loads.length v4.lc) (.slice v4.ta n.stores.length v4.tc)
        clear hzz
        have q0 := HZ0.out.cell 0
        have q1 := HZ0.out.cell 1
        have q2 := HZ0.out.cell 2
        have q3 := HZ0.out.cell 3
        have q4 := HZ0.out.cell 4
        have q5 := HZ0.out.cell 5
        have f0 := HZ0.out.frozen 0
        have f1 := HZ0.out.frozen 1
        have f2 := HZ0.out.frozen 2
        have f3 := HZ0.out.frozen 3
        have f4 := HZ0.out.frozen 4
        have f5 := HZ0.out.frozen 5
        refine wpAnyC_one (i := 13) (by kernel_rfl) rfl (fun K hK => ?_)
        go_simp
        rw [← set6_def]
        clear q0 q1 q2 q3 q4 q5 f0 f1 f2 f3 f4 f5
        have HZ := Lib.hid (set6_blk HZ0.out rfl (.slice v4.na n.nodes.length v4.nc) (.slice v4.sa n.switches.length v4.sc) (.slice v4.ba n.branches.length v4.bc) (.slice v4.ga n.gens.length v4.gc) (.slice v4.la n.loads.length v4.lc) (.slice v4.ta n.stores.length v4.tc))
        have HM := Lib.hid (net_of (hin.below hz) HC.out)
        replace HN := Lib.hid (HN.out.below hz)
        replace HG := Lib.hid (HG.out.blkF hz)
        replace HB := Lib.hid (HB.out.trans (hz.mono HB.out.size))
        clear hz
        generalize set6 w7 w6.heap.size (.slice v4.na n.nodes.length v4.nc) (.slice v4.sa n.switches.length v4.sc) (.slice v4.ba n.branches.length v4.bc) (.slice v4.ga n.gens.length v4.gc) (.slice v4.la n.loads.length v4.lc) (.slice v4.ta n.stores.length v4.tc) = wz at *
        refine hK.out _ _ (fun h => absurd h (by decide)) ?_
        clear hK K
        try simp only [Act.put, List.setIfInBounds_toArray, List.set_cons_zero, List.set_cons_succ]
        refine wpAnyC_one (i := 14) (by kernel_rfl) rfl (fun K hK => ?_)
        go_simp
        refine hK.out _ _ (fun h => absurd h (by decide)) ?_
        clear hK K
        try simp only [Act.put, List.setIfInBounds_toArray, List.set_cons_zero, List.set_cons_succ]
        refine wpAnyC_done (by kernel_rfl) ?_ _
        generalize w6.heap.size = gz at *
        have x0 := HG.out.cell 0
        have x1 := HG.out.cell 1
        have x2 := HG.out.cell 2
        have x3 := HG.out.cell 3
        have x4 := HG.out.cell 4
        have x5 := HG.out.cell 5
        have y0 := HZ.out.cell 0
        have y1 := HZ.out.cell 1
        have y2 := HZ.out.cell 2
        have y3 := HZ.out.cell 3
        have y4 := HZ.out.cell 4
        have y5 := HZ.out.cell 5
        have HP := Lib.hid (show Calls _ _ _ _ (RetDf wz ([], 0)) by have := diff_any n n u v4 wz HN.out HM.out (HV.out.below HB.out).tab; rw [diffN_self HC.out] at this; exact this)
        unfold NetV.val NetV.parts at HP
        go_wp2_with fail
        refine HP.out.mono ?_
        rintro e wd ⟨A, c, rfl, _, hb⟩
        replace HB := Lib.hid (HB.out.trans (hb.mono HB.out.size))
        clear hb HP
        clear x0 x1 x2 x3 x4 x5 y0 y1 y2 y3 y4 y5
        have hz := below_newF wd (Obj.cells #[I 0, I 0] 31)
        have HP := Lib.hid (fine_ok 2 (some ⟨wd.heap.size, 0, none⟩) 2 (wd.alloc (Obj.cells #[I 0, I 0] 31)) _ (reads_many (Blk.new wd 31 #[I 0, I 0]) rfl rfl) (by decide))
        replace HB := Lib.hid (HB.out.trans (hz.mono HB.out.size))
        clear hz
        simp only [List.length_nil]
        go_wp2_with fail
        refine HP.out.mono ?_
        rintro e w9 ⟨rfl, hw⟩
        rw [← hw]
        clear hw w9 HP
        go_wp2
        go_ret
        exact ⟨rfl, HB.out⟩
      · go_simp
        have hz1 := below_newF W1 (Obj.cells #[.slice none 0 0, .slice none 0 0, .slice none 0 0, .slice none 0 0, .slice none 0 0, .slice none 0 0] 29)
        have HZ0 := Lib.hid (Blk.new W1 29 #[.slice none 0 0, .slice none 0 0, .slice none 0 0, .slice none 0 0, .slice none 0 0, .slice none 0 0])
        replace HY := Lib.hid (HY.out.blkF hz1)
        replace HM2 := Lib.hid (HM2.out.below hz1)
        replace hx0 := Lib.hid (cell_below hx0.out hz1)
        replace hx1 := Lib.hid (cell_below hx1.out hz1)
        generalize W1.alloc (Obj.cells #[.slice none 0 0, .slice none 0 0, .slice none 0 0, .slice none 0 0, .slice none 0 0, .slice none 0 0] 29) = W2 at *
        refine hK.out _ _ (fun _ => ⟨HY.out.cell 0, HY.out.cell 1, HY.out.cell 2, HY.out.cell 3, HY.out.cell 4, HY.out.cell 5, hx1.out, hx0.out⟩) ?_
        clear hK K
        try simp only [Act.put, List.setIfInBounds_toArray, List.set_cons_zero, List.set_cons_succ]
        have HP := Lib.hid (HSB.out W2 v3 HM2.out)
        unfold NetV.val NetV.parts at HP
        refine wpAnyC_one (i := 8) (by kernel_rfl) rfl (fun K hK => ?_)
        go_simp
        go_at_call 10
        refine HP.out.mono ?_
        rintro e w6 ⟨v4, rfl, hin, hb, _⟩
        unfold NetV.val NetV.parts
        clear HP hx0 hx1 HM2 HY HSB
        have HZ6 := Lib.hid (HZ0.out.blkF hb)
        have hz : Below W1.heap.size W1 (set6 w6 W1.heap.size (.slice v4.na n.nodes.length v4.nc) (.slice v4.sa n.switches.length v4.sc) (.slice v4.ba n.branches.length v4.bc) (.slice v4.ga n.gens.length v4.gc) (.slice v4.la n.loads.length v4.lc) (.slice v4.ta n.stores.length v4.tc)) := (hz1.trans (hb.mono hz1.size)).trans (set6_below _ _ _ _ _ _ _ _ _ (Nat.le_refl _))
        clear hz1 hb HZ0
        refine hK.out _ _ (fun h => absurd h (by decide)) ?_
        clear hK K
        try simp only []
        refine wpAnyC_takeQ (i := 9) (oi := _) (v := .tuple #[.agg #[.slice v4.na n.nodes.length v4.nc, .slice v4.sa n.switches.length v4.sc, .slice v4.ba n.branches.length v4.bc, .slice v4.ga n.gens.length v4.gc, .slice v4.la n.loads.length v4.lc, .slice v4.ta n.stores.length v4.tc], I 0]) rfl (by kernel_rfl) (by kernel_rfl) (by kernel_rfl) (by kernel_rfl) (fun _ _ _ h => h) (Or.inl ⟨by rfl, ?_⟩) (by kernel_rfl) ?_
        · intro w _
          go_simp
        try simp only [Act.put, List.setIfInBounds_toArray]
        refine wpAnyC_takeQ (i := 10) (oi := _) (v := .agg #[.slice v4.na n.nodes.length v4.nc, .slice v4.sa n.switches.length v4.sc, .slice v4.ba n.branches.length v4.bc, .slice v4.ga n.gens.length v4.gc, .slice v4.la n.loads.length v4.lc, .slice v4.ta n.stores.length v4.tc]) rfl (by kernel_rfl) (by kernel_rfl) (by kernel_rfl) (by kernel_rfl) (fun _ _ _ h => h) (Or.inl ⟨by rfl, ?_⟩) (by kernel_rfl) ?_
        · intro w _
          go_simp
        try simp only [Act.put]
        refine wpAnyC_takeQ (i := 11) (oi := _) (v := I 0) rfl (by kernel_rfl) (by kernel_rfl) (by kernel_rfl) (by kernel_rfl) (fun _ _ _ h => h) (Or.inl ⟨by rfl, ?_⟩) (by kernel_rfl) ?_
        · intro w _
          go_simp
        try simp only [Act.put]
        have q0 := HZ6.out.cell 0
        have q1 := HZ6.out.cell 1
        have q2 := HZ6.out.cell 2
        have q3 := HZ6.out.cell 3
        have q4 := HZ6.out.cell 4
        have q5 := HZ6.out.cell 5
        have f0 := HZ6.out.frozen 0
        have f1 := HZ6.out.frozen 1
        have f2 := HZ6.out.frozen 2
        have f3 := HZ6.out.frozen 3
        have f4 := HZ6.out.frozen 4
        have f5 := HZ6.out.frozen 5
        refine wpAnyC_one (i := 13) (by kernel_rfl) rfl (fun K hK => ?_)
        go_simp
        rw [← set6_def]
        clear q0 q1 q2 q3 q4 q5 f0 f1 f2 f3 f4 f5
        have HZ := Lib.hid (set6_blk HZ6.out rfl (.slice v4.na n.nodes.length v4.nc) (.slice v4.sa n.switches.length v4.sc) (.slice v4.ba n.branches.length v4.bc) (.slice v4.ga n.gens.length v4.gc) (.slice v4.la n.loads.length v4.lc) (.slice v4.ta n.stores.length v4.tc))
        have HM := Lib.hid (net_of (hin.set6 HZ6.out (.slice v4.na n.nodes.length v4.nc) (.slice v4.sa n.switches.length v4.sc) (.slice v4.ba n.branches.length v4.bc) (.slice v4.ga n.gens.length v4.gc) (.slice v4.la n.loads.length v4.lc) (.slice v4.ta n.stores.length v4.tc)) HC.out)
        replace HN := Lib.hid (HN.out.below hz)
        replace HG := Lib.hid (HG.out.blkF hz)
        replace HB := Lib.hid (HB.out.trans (hz.mono HB.out.size))
        clear hz
        generalize set6 w6 W1.heap.size (.slice v4.na n.nodes.length v4.nc) (.slice v4.sa n.switches.length v4.sc) (.slice v4.ba n.branches.length v4.bc) (.slice v4.ga n.gens.length v4.gc) (.slice v4.la n.loads.length v4.lc) (.slice v4.ta n.stores.length v4.tc) = wz at *
        refine hK.out _ _ (fun h => absurd h (by decide)) ?_
        clear hK K
        try simp only [Act.put, List.setIfInBounds_toArray, List.set_cons_zero, List.set_cons_succ]
        refine wpAnyC_one (i := 14) (by kernel_rfl) rfl (fun K hK => ?_)
        go_simp
        refine hK.out _ _ (fun h => absurd h (by decide)) ?_
        clear hK K
        try simp only [Act.put, List.setIfInBounds_toArray, List.set_cons_zero, List.set_cons_succ]
        refine wpAnyC_done (by kernel_rfl) ?_ _
        generalize W1.heap.size = gz at *
        have x0 := HG.out.cell 0
        have x1 := HG.out.cell 1
        have x2 := HG.out.cell 2
        have x3 := HG.out.cell 3
        have x4 := HG.out.cell 4
        have x5 := HG.out.cell 5
        have y0 := HZ.out.cell 0
        have y1 := HZ.out.cell 1
        have y2 := HZ.out.cell 2
        have y3 := HZ.out.cell 3
        have y4 := HZ.out.cell 4
        have y5 := HZ.out.cell 5
        have HP := Lib.hid (show Calls _ _ _ _ (RetDf wz ([], 0)) by have := diff_any n n u v4 wz HN.out HM.out (HV.out.below HB.out).tab; rw [diffN_self HC.out] at this; exact this)
        unfold NetV.val NetV.parts at HP
        go_wp2_with fail
        refine HP.out.mono ?_
        rintro e wd ⟨A, c, rfl, _, hb⟩
        replace HB := Lib.hid (HB.out.trans (hb.mono HB.out.size))
        clear hb HP
        clear x0 x1 x2 x3 x4 x5 y0 y1 y2 y3 y4 y5
        have hz := below_newF wd (Obj.cells #[I 0, I 0] 31)
        have HP := Lib.hid (fine_ok 2 (some ⟨wd.heap.size, 0, none⟩) 2 (wd.alloc (Obj.cells #[I 0, I 0] 31)) _ (reads_many (Blk.new wd 31 #[I 0, I 0]) rfl rfl) (by decide))
        replace HB := Lib.hid (HB.out.trans (hz.mono HB.out.size))
        clear hz
        simp only [List.length_nil]
        go_wp2_with fail
        refine HP.out.mono ?_
        rintro e w9 ⟨rfl, hw⟩
        rw [← hw]
        clear hw w9 HP
        go_wp2
        go_ret
        exact ⟨rfl, HB.out⟩
    · have HNE := Lib.hid (set_no o hsw)
      obtain ⟨r, hr⟩ : ∃ r, FindL n x = r := ⟨_, rfl⟩
      have HFI := Lib.hid (fun W h => Find_any n u x W h)
      have HSE := Lib.hid (fun W v h => Set_any n v x o W h)
      rw [hr] at hsw HFI
      clear hr
      obtain ⟨s, i, er⟩ := r
      obtain ⟨r2, hr⟩ : ∃ r, SetL n x o = r := ⟨_, rfl⟩
      rw [hr] at HNE HSE
      clear hr
      obtain ⟨m2, e2⟩ := r2
      simp only at hsw HNE HFI HSE
      have HSW := Lib.hid hsw
      clear hsw
      have x0 := HG.out.cell 0
      have x1 := HG.out.cell 1
      have x2 := HG.out.cell 2
      have x3 := HG.out.cell 3
      have x4 := HG.out.cell 4
      have x5 := HG.out.cell 5
      have HP := Lib.hid (HFI.out w4 HN.out)
      unfold NetV.val NetV.parts at HP
      go_wp2_with fail
      refine HP.out.mono ?_
      rintro e wf ⟨rfl, hb⟩
      clear HP
      clear x0 x1 x2 x3 x4 x5
      replace HN := Lib.hid (HN.out.below hb)
      replace HG := Lib.hid (HG.out.blkF hb)
      replace HB := Lib.hid (HB.out.trans (hb.mono HB.out.size))
      clear hb
      have x0 := HG.out.cell 0
      have x1 := HG.out.cell 1
      have x2 := HG.out.cell 2
      have x3 := HG.out.cell 3
      have x4 := HG.out.cell 4
      have x5 := HG.out.cell 5
      have HP := Lib.hid (HSE.out wf u HN.out)
      unfold NetV.val NetV.parts at HP
      go_wp2_with fail
      refine HP.out.mono ?_
      rintro e ws ⟨v3, rfl, hin, hb, _⟩
      clear HP
      clear x0 x1 x2 x3 x4 x5
      replace HN := Lib.hid (HN.out.below hb)
      replace HG := Lib.hid (HG.out.blkF hb)
      replace HB := Lib.hid (HB.out.trans (hb.mono HB.out.size))
      unfold NetV.val NetV.parts
      have hz := below_newF ws (Obj.cells #[.slice v3.na m2.nodes.length v3.nc, .slice v3.sa m2.switches.length v3.sc, .slice v3.ba m2.branches.length v3.bc, .slice v3.ga m2.gens.length v3.gc, .slice v3.la m2.loads.length v3.lc, .slice v3.ta m2.stores.length v3.tc] 29)
      replace HB := Lib.hid (HB.out.trans (hz.mono HB.out.size))
      clear hb hz hin HFI HSE
      have hsw := HSW.out
      have te : (e2 != 0) = true := bne_iff_ne.2 HNE.out
      clear HSW HNE
      by_cases h0 : er = 0
      · subst h0
        have hs' : (s.toList == [115, 119, 105, 116, 99, 104]) = false := by
          have := (Lib.bytes_beq_false_iff s swB).2 (fun q => hsw ⟨rfl, q⟩)
          rwa [show swB.toList = [115, 119, 105, 116, 99, 104] by decide +kernel] at this
        clear hsw
        go_wp2
        go_ret
        exact ⟨rfl, HB.out⟩
      · have t1 : (er == 0) = false := beq_eq_false_iff_ne.2 h0
        have t2 : (er != 0) = true := bne_iff_ne.2 h0
        clear hsw h0
        go_wp2
        go_ret
        exact ⟨rfl, HB.out⟩
end Go.Proofs.YtglbelmljdgaoaaGreatDoor
