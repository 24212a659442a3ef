/- wide and flowFact. -/
import Derived.Test.YtenbglfkdldheaaGreatDoorZFN
import Derived.Test.YtenbglfkdldheaaGreatDoorZFM
set_option maxRecDepth 100000
set_option maxHeartbeats 16000000
namespace Go.Proofs.YtenbglfkdldheaaGreatDoor
open Go.RowKit
theorem wide_any (n : NetD) (v : NetV) (w : World) : Calls Tryz.prog 16 #[v.val n] w fun e w' => e = .returned (.bool (wideN n)) ∧ Below w.heap.size w w' := by
 have hz := below_new w (Obj.cells (v.parts n) 29)
 have HG := aH (Blk.new w 29 (v.parts n))
 have HB := aH hz
 clear hz
 unfold NetV.val NetV.parts at *
 go_enter Tryz.func16, Tryz.ntmps16
 go_upto_region 1 with (fail)
 generalize w.alloc (Obj.cells #[.slice v.na n.nodes.length v.nc, .slice v.sa n.switches.length v.sc, .slice v.ba n.branches.length v.bc, .slice v.ga n.gens.length v.gc, .slice v.la n.loads.length v.lc, .slice v.ta n.stores.length v.tc] 29) = w2 at *
 have x0 := HG.out.cell 0
 have x1 := HG.out.cell 1
 have x2 := HG.out.cell 2
 have HW := aH (show wideN n = (decide ((n.nodes.length : Int) > 8) || decide ((n.branches.length : Int) > 10) || decide ((n.switches.length : Int) > 10)) by
  unfold wideN
  congr 1
  ·congr 1
   ·exact decide_eq_decide.2 (by omega)
   ·exact decide_eq_decide.2 (by omega)
  ·exact decide_eq_decide.2 (by omega))
 cases d1 : decide ((n.nodes.length : Int) > 8) with
 | true =>
  rw [d1] at HW
  go_wp2
  go_ret
  exact ⟨by rw [HW.out]; rfl, HB.out⟩
 | false =>
  rw [d1] at HW
  cases d2 : decide ((n.branches.length : Int) > 10) with
  | true =>
   rw [d2] at HW
   go_wp2
   go_ret
   exact ⟨by rw [HW.out]; rfl, HB.out⟩
  | false =>
   rw [d2] at HW
   cases d3 : decide ((n.switches.length : Int) > 10) with
   | true =>
    rw [d3] at HW
    go_wp2
    go_ret
    exact ⟨by rw [HW.out]; rfl, HB.out⟩
   | false =>
    rw [d3] at HW
    go_wp2
    go_ret
    exact ⟨by rw [HW.out]; rfl, HB.out⟩
theorem fx_code : codeF (pairN false) [0, 8, -8] = 0 := by decide +kernel
theorem fx_sol : solF (pairN false) [0, 8, -8] = [0, -4] := by decide +kernel
theorem fx_flw : flwF (pairN false) [0, 8, -8] = [4, 4] := by decide +kernel
theorem fx_a : mkS ([(0 : Rat), -4].map qText) = [⟨#[48]⟩, ⟨#[45, 52]⟩] := by decide +kernel
theorem fx_f : mkS ([(4 : Rat), 4].map qText) = [⟨#[52]⟩, ⟨#[52]⟩] := by decide +kernel
theorem fx_v0 : verF (pairN false) [0, 8, -8] [⟨#[48]⟩, ⟨#[45, 52]⟩] [⟨#[52]⟩, ⟨#[52]⟩] = 0 := by decide +kernel
theorem fx_v1 : verF (pairN false) [0, 8, -8] [⟨#[48]⟩, ⟨#[45, 52]⟩] [⟨#[53]⟩, ⟨#[52]⟩] = 21 := by decide +kernel
theorem fx_chk : flowChk (pairN false) [1, 0, 0] = 14 := by decide +kernel
theorem fx_sh1 : Sh1 [⟨#[48]⟩, ⟨#[45, 52]⟩] := fun s hs => by
 simp only [List.mem_cons, List.not_mem_nil, or_false] at hs
 rcases hs with rfl | rfl <;> decide
theorem fx_sh2 : Sh1 [⟨#[52]⟩, ⟨#[52]⟩] := fun s hs => by
 simp only [List.mem_cons, List.not_mem_nil, or_false] at hs
 rcases hs with rfl | rfl <;> decide
theorem fx_sh3 : Sh1 [⟨#[53]⟩, ⟨#[52]⟩] := fun s hs => by
 simp only [List.mem_cons, List.not_mem_nil, or_false] at hs
 rcases hs with rfl | rfl <;> decide
theorem flowFact_any (w : World) (htab : Tab w) : Calls Tryz.prog 35 #[] w fun e w' => e = .returned (.bool true) ∧ Below w.heap.size w w' := by
 have HTB := aH htab
 have HB := aH (Below.refl w.heap.size w)
 clear htab
 go_enter Tryz.func35, Tryz.ntmps35
 have HC := aH (show Calls Tryz.prog 54 #[] w (fun e w' => ∃ v : NetV, e = .returned (.agg #[.slice v.na 3 v.nc, .slice v.sa 1 v.sc, .slice v.ba 2 v.bc, .slice v.ga 1 v.gc, .slice v.la 1 v.lc, .slice v.ta 0 v.tc]) ∧ NetIn w' (pairN false) v ∧ Below w.heap.size w w') from (pair_any w).mono fun e w' h => by obtain ⟨v, h1, h2, _, h3⟩ := h; exact ⟨v, h1, h2, h3⟩)
 go_wp2_with fail
 refine HC.out.mono ?_
 rintro e w1 ⟨v, rfl, hin, hb⟩
 clear HC
 have hbs := HB.out.size
 replace HB := aH (HB.out.trans (hb.mono hbs))
 clear hbs
 clear hb
 have HIN := aH (hin)
 clear hin
 have hb := below_new w1 (.cells #[I 8] 3)
 have hx := Blk.new w1 3 #[I 8]
 have hbs := HB.out.size
 replace HB := aH (HB.out.trans (hb.mono hbs))
 clear hbs
 replace HIN := aH (HIN.out.below hb)
 clear hb
 have H8 := aH hx
 clear hx
 have HC := aH (inject_pair v w1.heap.size (w1.alloc (.cells #[I 8] 3)) HIN.out H8.out)
 go_wp2_with fail
 refine HC.out.mono ?_
 rintro e w2 ⟨gp, rfl, hp, hg, hb⟩
 clear HC
 have hbs := HB.out.size
 replace HB := aH (HB.out.trans (hb.mono hbs))
 clear hbs
 replace HIN := aH (HIN.out.below hb)
 replace H8 := bL H8 hb
 clear hb
 clear HIN H8
 have HP := aH (hp)
 clear hp hg
 have HC := aH (show Calls Tryz.prog 54 #[] w2 (fun e w' => ∃ v : NetV, e = .returned (.agg #[.slice v.na 3 v.nc, .slice v.sa 1 v.sc, .slice v.ba 2 v.bc, .slice v.ga 1 v.gc, .slice v.la 1 v.lc, .slice v.ta 0 v.tc]) ∧ NetIn w' (pairN false) v ∧ Below w2.heap.size w2 w') from (pair_any w2).mono fun e w' h => by obtain ⟨v, h1, h2, _, h3⟩ := h; exact ⟨v, h1, h2, h3⟩)
 go_wp2_with fail
 refine HC.out.mono ?_
 rintro e w3 ⟨u, rfl, hin, hb⟩
 clear HC
 have hbs := HB.out.size
 replace HB := aH (HB.out.trans (hb.mono hbs))
 clear hbs
 replace HP := bL HP hb
 clear hb
 have HIN := aH (hin)
 clear hin
 have HWS := aH HB.out.size
 have HC := aH (show Calls Tryz.prog 36 #[.agg #[.slice u.na 3 u.nc, .slice u.sa 1 u.sc, .slice u.ba 2 u.bc, .slice u.ga 1 u.gc, .slice u.la 1 u.lc, .slice u.ta 0 u.tc], .slice (some ⟨gp, 0, none⟩) 3 3] w3 (fun e w' => ∃ A ca B cb, e = .returned (.tuple #[.agg #[.slice A 2 ca, .slice B 2 cb], I 0]) ∧ Row w' w3.heap.size 51 1 (.slice A 2 ca) 2 ([⟨#[48]⟩, ⟨#[45, 52]⟩].map Sv) ∧ Row w' w3.heap.size 51 1 (.slice B 2 cb) 2 ([⟨#[52]⟩, ⟨#[52]⟩].map Sv) ∧ (∀ g, (Value.slice A 2 ca).ownBlock = some g → (Value.slice B 2 cb).ownBlock ≠ some g) ∧ Below w3.heap.size w3 w') from (solve_any (pairN false) u [0, 8, -8] 3 (some ⟨gp, 0, none⟩) 3 w3 (pair_net HIN.out) (reads_blk (n := 3) (sz := 1) HP.out rfl) (by decide) (tab_below HTB.out HB.out)).mono fun e w' h => by
   obtain ⟨a, b, h1, h2, _, h4, h5⟩ := h
   obtain ⟨h6, h7⟩ := h2 fx_code
   rw [fx_code] at h1
   rw [fx_sol, fx_a] at h6
   rw [fx_flw, fx_f] at h7
   replace h6 : Row w' _ strT 1 a 2 _ := h6
   replace h7 : Row w' _ strT 1 b 2 _ := h7
   unfold strT at h6 h7
   obtain ⟨A, ca, rfl⟩ := h6.val
   obtain ⟨B, cb, rfl⟩ := h7.val
   exact ⟨A, ca, B, cb, h1, h6, h7, h4, h5⟩)
 go_wp2_with fail
 refine HC.out.mono ?_
 rintro e w4 ⟨A, ca, B, cb, rfl, hra, hrb, hdj, hb⟩
 clear HC
 have hbs := HB.out.size
 replace HB := aH (HB.out.trans (hb.mono hbs))
 clear hbs
 replace HP := bL HP hb
 replace HIN := aH (HIN.out.below hb)
 clear hb
 clear HIN
 have HDJ := aH hdj
 have HRA := aH hra
 have HRB := aH hrb
 clear hdj hra hrb
 skip
 go_upto_region 3 with (fail)
 have hb := below_new w4 (.cells #[.slice A 2 ca, .slice B 2 cb] 73)
 have hx := Blk.new w4 73 #[.slice A 2 ca, .slice B 2 cb]
 have hbs := HB.out.size
 replace HB := aH (HB.out.trans (hb.mono hbs))
 clear hbs
 replace HP := bL HP hb
 replace HRA := aH (HRA.out.call hb)
 replace HRB := aH (HRB.out.call hb)
 clear hb
 have HS := aH hx
 clear hx
 generalize w4.alloc (.cells #[.slice A 2 ca, .slice B 2 cb] 73) = wsHS at *
 generalize w4.heap.size = gHS at *
 have hb := below_new wsHS (.cells #[I 0, I 0] 34)
 have hx := Blk.new wsHS 34 #[I 0, I 0]
 have hbs := HB.out.size
 replace HB := aH (HB.out.trans (hb.mono hbs))
 clear hbs
 replace HP := bL HP hb
 replace HRA := aH (HRA.out.call hb)
 replace HRB := aH (HRB.out.call hb)
 replace HS := bL HS hb
 clear hb
 have HX := aH hx
 clear hx
 have z0 := HS.out.cell 0
 have z1 := HS.out.cell 1
 change _ = some (Value.slice A 2 ca) at z0
 change _ = some (Value.slice B 2 cb) at z1
 have HC := aH (fine_any [0, 0] 2 (some ⟨wsHS.heap.size, 0, none⟩) 2 (wsHS.alloc (.cells #[I 0, I 0] 34)) (wsHS.alloc (.cells #[I 0, I 0] 34)).heap.size (reads_blk (n := 2) (sz := 1) HX.out rfl) (by decide))
 rw [show fineB [0, 0] = true from rfl] at HC
 go_wp2_with fail
 refine HC.out.mono ?_
 rintro e w5 ⟨rfl, rfl⟩
 clear HC
 clear HX
 generalize (wsHS.alloc (.cells #[I 0, I 0] 34)) = w6 at *
 go_upto_region 5 with (fail)
 clear z0 z1
 have hb := below_draw w6
 have hbs := HB.out.size
 replace HB := aH (HB.out.trans (hb.mono hbs))
 clear hbs
 replace HP := bL HP hb
 replace HRA := aH (HRA.out.call hb)
 replace HRB := aH (HRB.out.call hb)
 replace HS := bL HS hb
 clear hb
 have z0 := HS.out.cell 0
 have z1 := HS.out.cell 1
 change _ = some (Value.slice A 2 ca) at z0
 change _ = some (Value.slice B 2 cb) at z1
 have z2 := HP.out.cell 0
 clear z2
 refine wp_region_c (fun w' => w'.cell? ⟨gHS, 0, none⟩ = some (.slice A 2 ca) ∧ w'.cell? ⟨gHS, 1, none⟩ = some (.slice B 2 cb)) 3 (by kernel_rfl) ?_
 clear z0 z1
 generalize w6.drew = wd5 at *
 refine tkS ⟨(HS.out.cell 0), (HS.out.cell 1)⟩ fun hSS => ?_
 refine aZ 1 (.slice (some ⟨gp, 0, none⟩) 3 3) rfl hSS ?_
 refine aZ 2 (.agg #[.slice A 2 ca, .slice B 2 cb]) rfl hSS ?_
 have HC := aH (show Calls Tryz.prog 54 #[] wd5 (fun e w' => ∃ v : NetV, e = .returned (.agg #[.slice v.na 3 v.nc, .slice v.sa 1 v.sc, .slice v.ba 2 v.bc, .slice v.ga 1 v.gc, .slice v.la 1 v.lc, .slice v.ta 0 v.tc]) ∧ NetIn w' (pairN false) v ∧ Below wd5.heap.size wd5 w') from (pair_any wd5).mono fun e w' h => by obtain ⟨v, h1, h2, _, h3⟩ := h; exact ⟨v, h1, h2, h3⟩)
 refine on1 0 fun K hK => ?_
 go_simp
 go_at_call 54
 refine HC.out.mono ?_
 rintro e w7 ⟨u2, rfl, hin, hb⟩
 clear HC
 have hbs := HB.out.size
 replace HB := aH (HB.out.trans (hb.mono hbs))
 clear hbs
 replace HP := bL HP hb
 replace HRA := aH (HRA.out.call hb)
 replace HRB := aH (HRB.out.call hb)
 replace HS := bL HS hb
 clear hb
 have HIN := aH (hin)
 clear hin
 refine hK.out _ _ (fun _ => ⟨(HS.out.cell 0), (HS.out.cell 1)⟩) ?_
 clear hK K
 have HC := aH (show Calls Tryz.prog 38 #[.agg #[.slice u2.na 3 u2.nc, .slice u2.sa 1 u2.sc, .slice u2.ba 2 u2.bc, .slice u2.ga 1 u2.gc, .slice u2.la 1 u2.lc, .slice u2.ta 0 u2.tc], .slice (some ⟨gp, 0, none⟩) 3 3, .agg #[.slice A 2 ca, .slice B 2 cb]] w7 _ from verify_any (pairN false) u2 [0, 8, -8] 3 (some ⟨gp, 0, none⟩) 3 [⟨#[48]⟩, ⟨#[45, 52]⟩] [⟨#[52]⟩, ⟨#[52]⟩] A B 2 ca 2 cb w7 (pair_net HIN.out) (reads_blk (n := 3) (sz := 1) HP.out rfl) (by decide) (tab_below HTB.out HB.out) (HRA.out.reads.more lR) (HRB.out.reads.more lR) fx_sh1 fx_sh2 (by decide) (by decide))
 rw [fx_v0] at HC
 refine on1 3 fun K hK => ?_
 go_simp
 go_at_call 38
 refine HC.out.mono ?_
 rintro e w8 ⟨rfl, hb⟩
 clear HC
 have hbs := HB.out.size
 replace HB := aH (HB.out.trans (hb.mono hbs))
 clear hbs
 replace HP := bL HP hb
 replace HRA := aH (HRA.out.call hb)
 replace HRB := aH (HRB.out.call hb)
 replace HS := bL HS hb
 replace HIN := aH (HIN.out.below hb)
 clear hb
 refine hK.out _ _ (fun _ => ⟨(HS.out.cell 0), (HS.out.cell 1)⟩) ?_
 clear hK K
 refine on1 4 fun K hK => ?_
 go_simp
 refine hK.out _ _ (fun h => absurd h (by decide)) ?_
 clear hK K
 refine wpAnyC_done (by kernel_rfl) ?_ _
 clear HIN
 obtain ⟨bl, off, us, e1, hbl, hu, hcl⟩ := (HRB.out.reads.more lR).at1 (k := 0) (by decide)
 subst e1
 obtain rfl : us = .string ⟨#[52]⟩ := (Option.some.inj hu).symm
 have HOW := aH (own_lt HRB.out (g := bl) rfl)
 obtain ⟨_, _, cur, hcur⟩ := HOW.out
 have y0 := hcur.frozen off
 rw [Nat.add_zero] at hcl
 clear hu
 have z0 := HS.out.cell 0
 have z1 := HS.out.cell 1
 change _ = some (Value.slice A 2 ca) at z0
 change _ = some (Value.slice (some ⟨bl, off, none⟩) 2 cb) at z1
 go_upto_region 7 with (fail)
 clear z0 z1
 have HRB2 := aH (show Row (w8.setCell ⟨bl, off, none⟩ (.string ⟨#[53]⟩)) _ 51 1 (.slice (some ⟨bl, off, none⟩) 2 cb) 2 ([⟨#[53]⟩, ⟨#[52]⟩].map Sv) from Row.set_at HRB.out (j := 0) (by decide) (.string ⟨#[53]⟩))
 have HRA2 := aH (Row.set_away HRA.out (p := ⟨bl, off, none⟩) (fun g h e => HDJ.out g h (by rw [e]; rfl)) (.string ⟨#[53]⟩))
 have HS2 := aH (HS.out.far (p := ⟨bl, off, none⟩) (blk_ne HS.out hcur (by decide)) (.string ⟨#[53]⟩))
 have HP2 := aH (HP.out.far (p := ⟨bl, off, none⟩) (blk_ne HP.out hcur (by decide)) (.string ⟨#[53]⟩))
 have HB2 := aH (HB.out.setCell (p := ⟨bl, off, none⟩) (Nat.le_trans HWS.out HOW.out.1) (.string ⟨#[53]⟩))
 clear HRA HRB HS HP HB HOW hcur y0 hcl hbl HDJ
 generalize (w8.setCell ⟨bl, off, none⟩ (.string ⟨#[53]⟩)) = ws6 at *
 have HRA := HRA2
 have HRB := HRB2
 have HS := HS2
 have HP := HP2
 have HB := HB2
 clear HRA2 HRB2 HS2 HP2 HB2
 have hb := below_draw ws6
 have hbs := HB.out.size
 replace HB := aH (HB.out.trans (hb.mono hbs))
 clear hbs
 replace HP := bL HP hb
 replace HRA := aH (HRA.out.call hb)
 replace HRB := aH (HRB.out.call hb)
 replace HS := bL HS hb
 clear hb
 have HBLK := aH ((HRB.out.reads.more lR).2 (by decide))
 clear HBLK
 have HC9 := aH (show _ from ((HRB.out.reads.more lR).at1 (k := 1) (by decide)))
 obtain ⟨bl2, off2, us, e1, _, hu, hcl⟩ := HC9.out
 injection e1 with e1
 injection e1 with e1 e2 _
 subst e1 e2
 obtain rfl : us = .string ⟨#[52]⟩ := (Option.some.inj hu).symm
 clear HC9 hu
 have HCL := aH hcl
 clear hcl
 refine wp_region_c (fun w' => w'.cell? ⟨gHS, 0, none⟩ = some (.slice A 2 ca) ∧ w'.cell? ⟨gHS, 1, none⟩ = some (.slice (some ⟨bl, off, none⟩) 2 cb) ∧ w'.cell? ⟨bl, off + 1, none⟩ = some (.string ⟨#[52]⟩)) 24 (by kernel_rfl) ?_
 generalize ws6.drew = wd7 at *
 refine tkS ⟨(HS.out.cell 0), (HS.out.cell 1), HCL.out⟩ fun hSS => ?_
 refine tkP 0 (I 0) rfl (Or.inl ⟨by rfl, ?_⟩) hSS ?_
 ·intro w _
  go_simp
 refine tkP 1 (.bool true) rfl (Or.inl ⟨by rfl, ?_⟩) hSS ?_
 ·intro w _
  go_simp
 refine tkP 2 (.bool true) rfl (Or.inl ⟨by rfl, ?_⟩) hSS ?_
 ·intro w _
  go_simp
 refine tkP 3 (.slice (some ⟨gp, 0, none⟩) 3 3) rfl (Or.inl ⟨by kernel_rfl, ?_⟩) hSS ?_
 ·intro w _
  go_simp
 refine wpAnyC_oneW (i := 4) (by kernel_rfl) rfl (by kernel_rfl) (fun K hK => ?_)
 go_simp
 have hb := below_new wd7 (.cells #[I 0, I 8, I (-8)] 3)
 have hx := Blk.new wd7 3 #[I 0, I 8, I (-8)]
 have hbs := HB.out.size
 replace HB := aH (HB.out.trans (hb.mono hbs))
 clear hbs
 replace HP := bL HP hb
 replace HRA := aH (HRA.out.call hb)
 replace HRB := aH (HRB.out.call hb)
 replace HS := bL HS hb
 replace HCL := aH (cell_below HCL.out hb)
 clear hb
 have HX := aH hx
 clear hx
 refine hK.out _ _ (fun _ => ⟨(HS.out.cell 0), (HS.out.cell 1), HCL.out⟩) ?_
 clear hK K
 generalize (wd7.alloc (.cells #[I 0, I 8, I (-8)] 3)) = w9 at *
 generalize wd7.heap.size = gx1 at *
 have HC := aH (show Calls Tryz.prog 88 #[.slice (some ⟨gp, 0, none⟩) 3 3, .slice (some ⟨gx1, 0, none⟩) 3 3] w9 (fun e w' => e = .returned (.bool true) ∧ Below w9.heap.size w9 w') from (equal_any [0, 8, -8] [0, 8, -8] 3 3 (some ⟨gp, 0, none⟩) (some ⟨gx1, 0, none⟩) 3 3 w9 _ _ (reads_blk (n := 3) (sz := 1) HP.out rfl) (reads_blk (n := 3) (sz := 1) HX.out rfl) (by decide) (by decide)).mono fun e w' h => by
   obtain ⟨h1, q, h2⟩ := h
   exact ⟨h1, by rw [h2]; exact below_drewT _ q⟩)
 refine wpAnyC_oneW (i := 5) (by kernel_rfl) rfl (by kernel_rfl) (fun K hK => ?_)
 go_simp
 go_at_call 88
 refine HC.out.mono ?_
 rintro e w10 ⟨rfl, hb⟩
 clear HC
 have hbs := HB.out.size
 replace HB := aH (HB.out.trans (hb.mono hbs))
 clear hbs
 replace HP := bL HP hb
 replace HRA := aH (HRA.out.call hb)
 replace HRB := aH (HRB.out.call hb)
 replace HS := bL HS hb
 replace HCL := aH (cell_below HCL.out hb)
 replace HX := bL HX hb
 clear hb
 refine hK.out _ _ (fun _ => ⟨(HS.out.cell 0), (HS.out.cell 1), HCL.out⟩) ?_
 clear hK K
 clear HX
 refine tkS ⟨(HS.out.cell 0), (HS.out.cell 1), HCL.out⟩ fun hSS => ?_
 refine tkP 6 (.bool true) rfl (Or.inl ⟨by kernel_rfl, ?_⟩) hSS ?_
 ·intro w _
  go_simp
 refine tkP 7 (.bool true) rfl (Or.inl ⟨by kernel_rfl, ?_⟩) hSS ?_
 ·intro w _
  go_simp
 refine tkP 8 (.pointer (some ⟨gHS, 0, none⟩)) rfl (Or.inl ⟨by kernel_rfl, ?_⟩) hSS ?_
 ·intro w _
  go_simp
 refine aZ 9 (.slice A 2 ca) rfl hSS ?_
 refine wpAnyC_oneW (i := 10) (by kernel_rfl) rfl (by kernel_rfl) (fun K hK => ?_)
 go_simp
 have hb := below_new w10 (.cells #[.string ⟨#[48]⟩, .string ⟨#[45, 52]⟩] 51)
 have hx := Blk.new w10 51 #[.string ⟨#[48]⟩, .string ⟨#[45, 52]⟩]
 have hbs := HB.out.size
 replace HB := aH (HB.out.trans (hb.mono hbs))
 clear hbs
 replace HP := bL HP hb
 replace HRA := aH (HRA.out.call hb)
 replace HRB := aH (HRB.out.call hb)
 replace HS := bL HS hb
 replace HCL := aH (cell_below HCL.out hb)
 clear hb
 have HX := aH hx
 clear hx
 refine hK.out _ _ (fun _ => ⟨(HS.out.cell 0), (HS.out.cell 1), HCL.out⟩) ?_
 clear hK K
 generalize (w10.alloc (.cells #[.string ⟨#[48]⟩, .string ⟨#[45, 52]⟩] 51)) = w11 at *
 generalize w10.heap.size = gx2 at *
 have HC := aH (equalV_any [⟨#[48]⟩, ⟨#[45, 52]⟩] [⟨#[48]⟩, ⟨#[45, 52]⟩] 2 2 A (some ⟨gx2, 0, none⟩) ca 2 w11 (HRA.out.reads.more lR) (reads_blk (n := 2) (sz := 1) HX.out rfl) (by decide))
 rw [decide_eq_true rfl] at HC
 refine wpAnyC_oneW (i := 11) (by kernel_rfl) rfl (by kernel_rfl) (fun K hK => ?_)
 go_simp
 go_at_call 29
 refine HC.out.mono ?_
 rintro e w12 ⟨rfl, hb⟩
 clear HC
 have hbs := HB.out.size
 replace HB := aH (HB.out.trans (hb.mono hbs))
 clear hbs
 replace HP := bL HP hb
 replace HRA := aH (HRA.out.call hb)
 replace HRB := aH (HRB.out.call hb)
 replace HS := bL HS hb
 replace HCL := aH (cell_below HCL.out hb)
 replace HX := bL HX hb
 clear hb
 refine hK.out _ _ (fun _ => ⟨(HS.out.cell 0), (HS.out.cell 1), HCL.out⟩) ?_
 clear hK K
 clear HX
 refine tkS ⟨(HS.out.cell 0), (HS.out.cell 1), HCL.out⟩ fun hSS => ?_
 refine tkP 12 (.bool true) rfl (Or.inl ⟨by kernel_rfl, ?_⟩) hSS ?_
 ·intro w _
  go_simp
 refine tkP 13 (.bool true) rfl (Or.inl ⟨by kernel_rfl, ?_⟩) hSS ?_
 ·intro w _
  go_simp
 refine tkP 14 (.pointer (some ⟨gHS, 1, none⟩)) rfl (Or.inl ⟨by kernel_rfl, ?_⟩) hSS ?_
 ·intro w _
  go_simp
 refine aZ 15 (.slice (some ⟨bl, off, none⟩) 2 cb) rfl hSS ?_
 refine tkP 16 (.pointer (some ⟨bl, off + 1, none⟩)) rfl (Or.inl ⟨by kernel_rfl, ?_⟩) hSS ?_
 ·intro w _
  go_simp
 refine aZ 17 (.string ⟨#[52]⟩) rfl hSS ?_
 refine tkP 18 (.bool true) rfl (Or.inl ⟨by kernel_rfl, ?_⟩) hSS ?_
 ·intro w _
  go_simp
 refine tkP 19 (.bool true) rfl (Or.inl ⟨by kernel_rfl, ?_⟩) hSS ?_
 ·intro w _
  go_simp
 refine tkP 20 (.bool true) rfl (Or.inl ⟨by kernel_rfl, ?_⟩) hSS ?_
 ·intro w _
  go_simp
 refine tkP 22 (.slice (some ⟨gp, 0, none⟩) 3 3) rfl (Or.inl ⟨by kernel_rfl, ?_⟩) hSS ?_
 ·intro w _
  go_simp
 refine aZ 23 (.agg #[.slice A 2 ca, .slice (some ⟨bl, off, none⟩) 2 cb]) rfl hSS ?_
 have HC := aH (show Calls Tryz.prog 54 #[] w12 (fun e w' => ∃ v : NetV, e = .returned (.agg #[.slice v.na 3 v.nc, .slice v.sa 1 v.sc, .slice v.ba 2 v.bc, .slice v.ga 1 v.gc, .slice v.la 1 v.lc, .slice v.ta 0 v.tc]) ∧ NetIn w' (pairN false) v ∧ Below w12.heap.size w12 w') from (pair_any w12).mono fun e w' h => by obtain ⟨v, h1, h2, _, h3⟩ := h; exact ⟨v, h1, h2, h3⟩)
 refine wpAnyC_oneW (i := 21) (by kernel_rfl) rfl (by kernel_rfl) (fun K hK => ?_)
 go_simp
 go_at_call 54
 refine HC.out.mono ?_
 rintro e w13 ⟨u3, rfl, hin, hb⟩
 clear HC
 have hbs := HB.out.size
 replace HB := aH (HB.out.trans (hb.mono hbs))
 clear hbs
 replace HP := bL HP hb
 replace HRA := aH (HRA.out.call hb)
 replace HRB := aH (HRB.out.call hb)
 replace HS := bL HS hb
 replace HCL := aH (cell_below HCL.out hb)
 clear hb
 have HIN := aH (hin)
 clear hin
 refine hK.out _ _ (fun _ => ⟨(HS.out.cell 0), (HS.out.cell 1), HCL.out⟩) ?_
 clear hK K
 have HC := aH (show Calls Tryz.prog 38 #[.agg #[.slice u3.na 3 u3.nc, .slice u3.sa 1 u3.sc, .slice u3.ba 2 u3.bc, .slice u3.ga 1 u3.gc, .slice u3.la 1 u3.lc, .slice u3.ta 0 u3.tc], .slice (some ⟨gp, 0, none⟩) 3 3, .agg #[.slice A 2 ca, .slice (some ⟨bl, off, none⟩) 2 cb]] w13 _ from verify_any (pairN false) u3 [0, 8, -8] 3 (some ⟨gp, 0, none⟩) 3 [⟨#[48]⟩, ⟨#[45, 52]⟩] [⟨#[53]⟩, ⟨#[52]⟩] A (some ⟨bl, off, none⟩) 2 ca 2 cb w13 (pair_net HIN.out) (reads_blk (n := 3) (sz := 1) HP.out rfl) (by decide) (tab_below HTB.out HB.out) (HRA.out.reads.more lR) (HRB.out.reads.more lR) fx_sh1 fx_sh3 (by decide) (by decide))
 rw [fx_v1] at HC
 refine wpAnyC_oneW (i := 24) (by kernel_rfl) rfl (by kernel_rfl) (fun K hK => ?_)
 go_simp
 go_at_call 38
 refine HC.out.mono ?_
 rintro e w14 ⟨rfl, hb⟩
 clear HC
 have hbs := HB.out.size
 replace HB := aH (HB.out.trans (hb.mono hbs))
 clear hbs
 replace HP := bL HP hb
 replace HRA := aH (HRA.out.call hb)
 replace HRB := aH (HRB.out.call hb)
 replace HS := bL HS hb
 replace HCL := aH (cell_below HCL.out hb)
 replace HIN := aH (HIN.out.below hb)
 clear hb
 refine hK.out _ _ (fun _ => ⟨(HS.out.cell 0), (HS.out.cell 1), HCL.out⟩) ?_
 clear hK K
 clear HIN
 refine tkS ⟨(HS.out.cell 0), (HS.out.cell 1), HCL.out⟩ fun hSS => ?_
 refine tkP 25 (.bool true) rfl (Or.inl ⟨by kernel_rfl, ?_⟩) hSS ?_
 ·intro w _
  go_simp
 refine tkP 26 (.bool true) rfl (Or.inl ⟨by kernel_rfl, ?_⟩) hSS ?_
 ·intro w _
  go_simp
 refine tkP 27 (.bool true) rfl (Or.inl ⟨by kernel_rfl, ?_⟩) hSS ?_
 ·intro w _
  go_simp
 refine wpAnyC_all (l := [28, 29]) (by kernel_rfl) rfl ?_
 refine AllC.cons rfl (fun K hK => ?_) ?_
 ·skip
  have HC := aH (show Calls Tryz.prog 54 #[] w14 (fun e w' => ∃ v : NetV, e = .returned (.agg #[.slice v.na 3 v.nc, .slice v.sa 1 v.sc, .slice v.ba 2 v.bc, .slice v.ga 1 v.gc, .slice v.la 1 v.lc, .slice v.ta 0 v.tc]) ∧ NetIn w' (pairN false) v ∧ Below w14.heap.size w14 w') from (pair_any w14).mono fun e w' h => by obtain ⟨v, h1, h2, _, h3⟩ := h; exact ⟨v, h1, h2, h3⟩)
  rw [if_pos (by kernel_rfl)]
  go_simp
  go_at_call 54
  refine HC.out.mono ?_
  rintro e w15 ⟨u4, rfl, hin, hb⟩
  clear HC
  have hbs := HB.out.size
  replace HB := aH (HB.out.trans (hb.mono hbs))
  clear hbs
  replace HP := bL HP hb
  replace HRA := aH (HRA.out.call hb)
  replace HRB := aH (HRB.out.call hb)
  replace HS := bL HS hb
  replace HCL := aH (cell_below HCL.out hb)
  clear hb
  have HIN := aH (hin)
  clear hin
  refine hK.out _ _ (fun _ => ⟨(HS.out.cell 0), (HS.out.cell 1), HCL.out⟩) ?_
  clear hK K
  refine wpAnyC_oneW (i := 29) (by kernel_rfl) rfl (by kernel_rfl) (fun K hK => ?_)
  go_simp
  have hb := below_new w15 (.cells #[I 1, I 0, I 0] 3)
  have hx := Blk.new w15 3 #[I 1, I 0, I 0]
  have hbs := HB.out.size
  replace HB := aH (HB.out.trans (hb.mono hbs))
  clear hbs
  replace HP := bL HP hb
  replace HRA := aH (HRA.out.call hb)
  replace HRB := aH (HRB.out.call hb)
  replace HS := bL HS hb
  replace HCL := aH (cell_below HCL.out hb)
  replace HIN := aH (HIN.out.below hb)
  clear hb
  have HX := aH hx
  clear hx
  refine hK.out _ _ (fun _ => ⟨(HS.out.cell 0), (HS.out.cell 1), HCL.out⟩) ?_
  clear hK K
  generalize (w15.alloc (.cells #[I 1, I 0, I 0] 3)) = w16 at *
  generalize w15.heap.size = gx3 at *
  have HC := aH (show Calls Tryz.prog 37 #[.agg #[.slice u4.na 3 u4.nc, .slice u4.sa 1 u4.sc, .slice u4.ba 2 u4.bc, .slice u4.ga 1 u4.gc, .slice u4.la 1 u4.lc, .slice u4.ta 0 u4.tc], .slice (some ⟨gx3, 0, none⟩) 3 3] w16 _ from flowCheck_any (pairN false) u4 [1, 0, 0] 3 (some ⟨gx3, 0, none⟩) 3 w16 (pair_net HIN.out) (reads_blk (n := 3) (sz := 1) HX.out rfl) (by decide))
  rw [fx_chk] at HC
  refine wpAnyC_oneW (i := 30) (by kernel_rfl) rfl (by kernel_rfl) (fun K hK => ?_)
  go_simp
  go_at_call 37
  refine HC.out.mono ?_
  rintro e w17 ⟨rfl, hb⟩
  clear HC
  have hbs := HB.out.size
  replace HB := aH (HB.out.trans (hb.mono hbs))
  clear hbs
  replace HP := bL HP hb
  replace HRA := aH (HRA.out.call hb)
  replace HRB := aH (HRB.out.call hb)
  replace HS := bL HS hb
  replace HCL := aH (cell_below HCL.out hb)
  replace HIN := aH (HIN.out.below hb)
  replace HX := bL HX hb
  clear hb
  refine hK.out _ _ (fun _ => ⟨(HS.out.cell 0), (HS.out.cell 1), HCL.out⟩) ?_
  clear hK K
  refine tkS ⟨(HS.out.cell 0), (HS.out.cell 1), HCL.out⟩ fun hSS => ?_
  refine tkP 31 (.bool true) rfl (Or.inl ⟨by kernel_rfl, ?_⟩) hSS ?_
  ·intro w _
   go_simp
  refine tkP 32 (.bool true) rfl (Or.inl ⟨by kernel_rfl, ?_⟩) hSS ?_
  ·intro w _
   go_simp
  refine on1 33 fun K hK => ?_
  go_simp
  refine hK.out _ _ (fun h => absurd h (by decide)) ?_
  clear hK K
  refine wpAnyC_done (by kernel_rfl) ?_ _
  go_wp2
  go_ret
  exact ⟨rfl, HB.out⟩
 ·refine AllC.cons rfl (fun K hK => ?_) AllC.nil
  rw [if_pos (by kernel_rfl)]
  go_simp
  have hb := below_new w14 (.cells #[I 1, I 0, I 0] 3)
  have hx := Blk.new w14 3 #[I 1, I 0, I 0]
  have hbs := HB.out.size
  replace HB := aH (HB.out.trans (hb.mono hbs))
  clear hbs
  replace HP := bL HP hb
  replace HRA := aH (HRA.out.call hb)
  replace HRB := aH (HRB.out.call hb)
  replace HS := bL HS hb
  replace HCL := aH (cell_below HCL.out hb)
  clear hb
  have HX := aH hx
  clear hx
  refine hK.out _ _ (fun _ => ⟨(HS.out.cell 0), (HS.out.cell 1), HCL.out⟩) ?_
  clear hK K
  generalize (w14.alloc (.cells #[I 1, I 0, I 0] 3)) = w15 at *
  generalize w14.heap.size = gx3 at *
  have HC := aH (show Calls Tryz.prog 54 #[] w15 (fun e w' => ∃ v : NetV, e = .returned (.agg #[.slice v.na 3 v.nc, .slice v.sa 1 v.sc, .slice v.ba 2 v.bc, .slice v.ga 1 v.gc, .slice v.la 1 v.lc, .slice v.ta 0 v.tc]) ∧ NetIn w' (pairN false) v ∧ Below w15.heap.size w15 w') from (pair_any w15).mono fun e w' h => by obtain ⟨v, h1, h2, _, h3⟩ := h; exact ⟨v, h1, h2, h3⟩)
  refine wpAnyC_oneW (i := 28) (by kernel_rfl) rfl (by kernel_rfl) (fun K hK => ?_)
  go_simp
  go_at_call 54
  refine HC.out.mono ?_
  rintro e w16 ⟨u4, rfl, hin, hb⟩
  clear HC
  have hbs := HB.out.size
  replace HB := aH (HB.out.trans (hb.mono hbs))
  clear hbs
  replace HP := bL HP hb
  replace HRA := aH (HRA.out.call hb)
  replace HRB := aH (HRB.out.call hb)
  replace HS := bL HS hb
  replace HCL := aH (cell_below HCL.out hb)
  replace HX := bL HX hb
  clear hb
  have HIN := aH (hin)
  clear hin
  refine hK.out _ _ (fun _ => ⟨(HS.out.cell 0), (HS.out.cell 1), HCL.out⟩) ?_
  clear hK K
  have HC := aH (show Calls Tryz.prog 37 #[.agg #[.slice u4.na 3 u4.nc, .slice u4.sa 1 u4.sc, .slice u4.ba 2 u4.bc, .slice u4.ga 1 u4.gc, .slice u4.la 1 u4.lc, .slice u4.ta 0 u4.tc], .slice (some ⟨gx3, 0, none⟩) 3 3] w16 _ from flowCheck_any (pairN false) u4 [1, 0, 0] 3 (some ⟨gx3, 0, none⟩) 3 w16 (pair_net HIN.out) (reads_blk (n := 3) (sz := 1) HX.out rfl) (by decide))
  rw [fx_chk] at HC
  refine wpAnyC_oneW (i := 30) (by kernel_rfl) rfl (by kernel_rfl) (fun K hK => ?_)
  go_simp
  go_at_call 37
  refine HC.out.mono ?_
  rintro e w17 ⟨rfl, hb⟩
  clear HC
  have hbs := HB.out.size
  replace HB := aH (HB.out.trans (hb.mono hbs))
  clear hbs
  replace HP := bL HP hb
  replace HRA := aH (HRA.out.call hb)
  replace HRB := aH (HRB.out.call hb)
  replace HS := bL HS hb
  replace HCL := aH (cell_below HCL.out hb)
  replace HX := bL HX hb
  replace HIN := aH (HIN.out.below hb)
  clear hb
  refine hK.out _ _ (fun _ => ⟨(HS.out.cell 0), (HS.out.cell 1), HCL.out⟩) ?_
  clear hK K
  refine tkS ⟨(HS.out.cell 0), (HS.out.cell 1), HCL.out⟩ fun hSS => ?_
  refine tkP 31 (.bool true) rfl (Or.inl ⟨by kernel_rfl, ?_⟩) hSS ?_
  ·intro w _
   go_simp
  refine tkP 32 (.bool true) rfl (Or.inl ⟨by kernel_rfl, ?_⟩) hSS ?_
  ·intro w _
   go_simp
  refine on1 33 fun K hK => ?_
  go_simp
  refine hK.out _ _ (fun h => absurd h (by decide)) ?_
  clear hK K
  refine wpAnyC_done (by kernel_rfl) ?_ _
  go_wp2
  go_ret
  exact ⟨rfl, HB.out⟩
end Go.Proofs.YtenbglfkdldheaaGreatDoor
