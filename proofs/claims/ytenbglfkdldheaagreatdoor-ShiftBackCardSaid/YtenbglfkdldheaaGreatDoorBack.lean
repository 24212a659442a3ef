/- ShiftBack: the walk. ShiftBack returns true for every input: a transfer back has the opposite effect, and transfers from a to b and from b to c have that of one from a to c. No conditions. The row's listed variables hold what the program's text lays (the card ties them). -/
import Derived.Test.YtenbglfkdldheaaGreatDoorQXF
import Derived.Test.YtenbglfkdldheaaGreatDoorQDR
import Derived.ShutString
import Derived.ChangeMaps5
set_option maxRecDepth 100000
set_option maxHeartbeats 16000000
namespace Go.Proofs.YtenbglfkdldheaaGreatDoor
section
open Go.RowKit
theorem zH {n : NetD} {a b : ByteArray} (h : (bH n a b).2 = 0) : (bH n a b).1.length = n.branches.length := by
 unfold bH at h ⊢
 split at h
 ·rename_i hc
  exact absurd h hc
 ·split at h
  ·exact absurd h (by decide)
  ·rename_i h1 h2
   rw [if_neg h1, if_neg h2]
   split at h
   ·exact absurd h (by decide)
   ·rename_i h3
    rw [if_neg h3]
    split at h
    ·rename_i h4
     rw [if_pos h4]
     exact eU _ _ _
    ·exact absurd h (by decide)
theorem aGg {w : World} {r : List Rat × Int} {e : Ending} {w' : World} (h : xL w r e w') : ∃ A m c, e = .returned (.tuple #[.slice A m c, I r.2]) ∧ (r.2 = 0 → r.1.all bS = true ∧ Row w' w.heap.size 51 1 (.slice A m c) r.1.length ((mkS (r.1.map aL)).map Sv)) ∧ Below w.heap.size w w' := by
 obtain ⟨v, h1, h2, h3, h4⟩ := h
 by_cases hc : r.2 = 0
 ·obtain ⟨h5, h6⟩ := h2 hc
  obtain ⟨A, c, rfl⟩ := h6.val
  exact ⟨A, _, c, h1, fun _ => ⟨h5, h6⟩, h4⟩
 ·obtain rfl := h3 hc
  exact ⟨_, _, _, h1, fun h => absurd h hc, h4⟩
theorem vQ (n : NetD) (v : NetV) (a b c : ByteArray) (w : World) (hN : Net w n v) (htab : Tab w) : Calls Tryz.prog 10 #[v.val n, .string a, .string b, .string c] w fun e w' => e = .returned (.bool true) ∧ Below w.heap.size w w' := by
 have hz := aK w (Obj.cells (v.parts n) 29)
 have HN := aH (hN.below hz)
 have HG := aH (Blk.new w 29 (v.parts n))
 have HB := aH hz
 have HTB := aH htab
 clear hz hN htab 
 unfold NetV.val NetV.parts at *
 go_enter Tryz.func10, Tryz.ntmps10
 have HC := aH (vP (w.alloc (Obj.cells #[.slice v.na n.nodes.length v.nc, .slice v.sa n.switches.length v.sc, .slice v.ba n.branches.length v.bc, .slice v.ga n.gens.length v.gc, .slice v.la n.loads.length v.lc, .slice v.ta n.stores.length v.tc] 29)) (aO HTB.out HB.out))
 go_wp2_with fail
 refine HC.out.mono ?_
 rintro e w1 ⟨rfl, hb⟩
 clear HC
 have hbs := HB.out.size
 replace HB := aH (HB.out.trans (hb.mono hbs))
 clear hbs
 replace HN := aH (HN.out.below hb)
 replace HG := bL HG hb
 clear hb
 have x0 := HG.out.cell 0
 have x1 := HG.out.cell 1
 have x2 := HG.out.cell 2
 have x3 := HG.out.cell 3
 have x4 := HG.out.cell 4
 have x5 := HG.out.cell 5
 have HC := aH (aKu n v w1)
 unfold NetV.val NetV.parts at HC
 go_wp2_with fail
 refine HC.out.mono ?_
 rintro e w2 ⟨rfl, hb⟩
 clear HC
 clear x0 x1 x2 x3 x4 x5
 have hbs := HB.out.size
 replace HB := aH (HB.out.trans (hb.mono hbs))
 clear hbs
 replace HN := aH (HN.out.below hb)
 replace HG := bL HG hb
 clear hb
 cases hw : mA n with
 | true =>
  go_wp2
  go_ret
  exact ⟨rfl, HB.out⟩
 | false =>
  have HW := aH hw
  clear hw
  have x0 := HG.out.cell 0
  have x1 := HG.out.cell 1
  have x2 := HG.out.cell 2
  have x3 := HG.out.cell 3
  have x4 := HG.out.cell 4
  have x5 := HG.out.cell 5
  have HC := aH ((gS n v a b w2 HN.out (aO HTB.out HB.out)).mono fun e w' h => aGg h)
  unfold NetV.val NetV.parts at HC
  go_wp2_with fail
  refine HC.out.mono ?_
  rintro e w3 ⟨XA, Xm, Xc, rfl, hok, hb⟩
  clear HC
  clear x0 x1 x2 x3 x4 x5
  have HX := aH hok
  clear hok
  have hbs := HB.out.size
  replace HB := aH (HB.out.trans (hb.mono hbs))
  clear hbs
  replace HN := aH (HN.out.below hb)
  replace HG := bL HG hb
  clear hb
  have x0 := HG.out.cell 0
  have x1 := HG.out.cell 1
  have x2 := HG.out.cell 2
  have x3 := HG.out.cell 3
  have x4 := HG.out.cell 4
  have x5 := HG.out.cell 5
  have HC := aH ((gS n v b a w3 HN.out (aO HTB.out HB.out)).mono fun e w' h => aGg h)
  unfold NetV.val NetV.parts at HC
  go_wp2_with fail
  refine HC.out.mono ?_
  rintro e w4 ⟨YA, Ym, Yc, rfl, hok, hb⟩
  clear HC
  clear x0 x1 x2 x3 x4 x5
  replace HX := aH (fun h => And.intro (HX.out h).1 ((HX.out h).2.call hb))
  have HY := aH hok
  clear hok
  have hbs := HB.out.size
  replace HB := aH (HB.out.trans (hb.mono hbs))
  clear hbs
  replace HN := aH (HN.out.below hb)
  replace HG := bL HG hb
  clear hb
  have x0 := HG.out.cell 0
  have x1 := HG.out.cell 1
  have x2 := HG.out.cell 2
  have x3 := HG.out.cell 3
  have x4 := HG.out.cell 4
  have x5 := HG.out.cell 5
  have HC := aH ((gS n v b c w4 HN.out (aO HTB.out HB.out)).mono fun e w' h => aGg h)
  unfold NetV.val NetV.parts at HC
  go_wp2_with fail
  refine HC.out.mono ?_
  rintro e w5 ⟨ZA, Zm, Zc, rfl, hok, hb⟩
  clear HC
  clear x0 x1 x2 x3 x4 x5
  replace HX := aH (fun h => And.intro (HX.out h).1 ((HX.out h).2.call hb))
  replace HY := aH (fun h => And.intro (HY.out h).1 ((HY.out h).2.call hb))
  have HZ := aH hok
  clear hok
  have hbs := HB.out.size
  replace HB := aH (HB.out.trans (hb.mono hbs))
  clear hbs
  replace HN := aH (HN.out.below hb)
  replace HG := bL HG hb
  clear hb
  have x0 := HG.out.cell 0
  have x1 := HG.out.cell 1
  have x2 := HG.out.cell 2
  have x3 := HG.out.cell 3
  have x4 := HG.out.cell 4
  have x5 := HG.out.cell 5
  have HC := aH ((gS n v a c w5 HN.out (aO HTB.out HB.out)).mono fun e w' h => aGg h)
  unfold NetV.val NetV.parts at HC
  go_wp2_with fail
  refine HC.out.mono ?_
  rintro e w6 ⟨VA, Vm, Vc, rfl, hok, hb⟩
  clear HC
  clear x0 x1 x2 x3 x4 x5
  replace HX := aH (fun h => And.intro (HX.out h).1 ((HX.out h).2.call hb))
  replace HY := aH (fun h => And.intro (HY.out h).1 ((HY.out h).2.call hb))
  replace HZ := aH (fun h => And.intro (HZ.out h).1 ((HZ.out h).2.call hb))
  have HV := aH hok
  clear hok
  have hbs := HB.out.size
  replace HB := aH (HB.out.trans (hb.mono hbs))
  clear hbs
  replace HN := aH (HN.out.below hb)
  replace HG := bL HG hb
  clear hb
  have HLW := aH (aCf HW.out a b c)
  have h12 := HLW.out.1
  have HCD := aH h12
  generalize hca : (bH n a b).2 = e1 at *
  rw [← h12] at *
  generalize hcb : (bH n b c).2 = e2 at *
  generalize hcc : (bH n a c).2 = e3 at *
  have te : (e1 != e1) = false := by simp
  have HCA := aH hca
  have HCB := aH hcb
  have HCC := aH hcc
  clear hca hcb hcc h12
  by_cases hz : e1 = 0 ∧ e2 = 0
  ·obtain ⟨rfl, rfl⟩ := hz
   have hb := aK w6 (.cells #[I 0, I 0] 34)
   have hx := Blk.new w6 34 #[I 0, I 0]
   replace HX := aH (fun h => And.intro (HX.out h).1 ((HX.out h).2.call hb))
   replace HY := aH (fun h => And.intro (HY.out h).1 ((HY.out h).2.call hb))
   replace HZ := aH (fun h => And.intro (HZ.out h).1 ((HZ.out h).2.call hb))
   replace HV := aH (fun h => And.intro (HV.out h).1 ((HV.out h).2.call hb))
   have hbs := HB.out.size
   replace HB := aH (HB.out.trans (hb.mono hbs))
   clear hbs
   replace HN := aH (HN.out.below hb)
   replace HG := bL HG hb
   clear hb
   have HC := aH (pQ [0, 0] 2 (some ⟨w6.heap.size, 0, none⟩) 2 (w6.alloc (.cells #[I 0, I 0] 34)) (w6.alloc (.cells #[I 0, I 0] 34)).heap.size (cO (n := 2) (sz := 1) hx rfl) (by decide))
   rw [show fS [0, 0] = true from rfl] at HC
   clear hx
   go_wp2_with fail
   refine HC.out.mono ?_
   rintro e w7 ⟨rfl, rfl⟩
   clear HC
   generalize (w6.alloc (.cells #[I 0, I 0] 34)) = w8 at *
   obtain ⟨h3, h4, h5⟩ := HLW.out.2 (by trivial) (by trivial)
   subst h3
   obtain ⟨fx, hx⟩ := HX.out (by trivial)
   obtain ⟨fy, hy⟩ := HY.out (by first | trivial | (rw [← (aCf HW.out a b c).1, HCA.out]))
   obtain ⟨fz, hz⟩ := HZ.out (by trivial)
   obtain ⟨fv, hv⟩ := HV.out (by trivial)
   clear HX HY HZ HV te
   have lx := zH HCA.out
   have lz := zH HCB.out
   have lv := zH HCC.out
   have hb10 := (mB HW.out).2.1
   have HFX := aH fx
   have HFY := aH fy
   have HFZ := aH fz
   have HFV := aH fv
   have HV1 := aH h4
   have HY1 := aH h5
   have HLX := aH lx
   have HLZ := aH lz
   have HLV := aH lv
   clear fx fy fz fv
   obtain ⟨_, _, e⟩ := hx.val
   injection e with e1 e2 e3
   subst e1 e2 e3
   obtain ⟨_, _, e⟩ := hy.val
   injection e with e1 e2 e3
   subst e1 e2 e3
   obtain ⟨_, _, e⟩ := hz.val
   injection e with e1 e2 e3
   subst e1 e2 e3
   obtain ⟨_, _, e⟩ := hv.val
   injection e with e1 e2 e3
   subst e1 e2 e3
   have RX := aH hx
   have RY := aH hy
   have RZ := aH hz
   have RV := aH hv
   clear hx hy hz hv h4 h5 lx lz lv
   have HZF := aH (show (dB (bH n a b).1 (bH n b c).1).all bS = true by rw [← HV1.out]; exact HFV.out)
   have HSF := aH (show (gH (dY (SL ⟨#[45, 49]⟩)) (bH n a b).1).all bS = true by rw [show dY (SL ⟨#[45, 49]⟩) = -1 from by decide +kernel, ← HY1.out]; exact HFY.out)
   have hle : (bH n a b).1.length ≤ 40 := by rw [HLX.out]; omega
   have HLE := aH hle
   clear hle hb10
   have hb := aK w8 (.cells #[.slice XA (bH n a b).1.length Xc] 47)
   have hx := Blk.new w8 47 #[.slice XA (bH n a b).1.length Xc]
   have hbs := HB.out.size
   replace HB := aH (HB.out.trans (hb.mono hbs))
   clear hbs
   replace HN := aH (HN.out.below hb)
   replace HG := bL HG hb
   replace RX := aH (RX.out.call hb)
   replace RY := aH (RY.out.call hb)
   replace RZ := aH (RZ.out.call hb)
   replace RV := aH (RV.out.call hb)
   clear hb
   have B1 := aH hx
   clear hx
   have hb := aK (w8.alloc (.cells #[.slice XA (bH n a b).1.length Xc] 47)) (.cells #[.slice ZA (bH n b c).1.length Zc] 47)
   have hx := Blk.new (w8.alloc (.cells #[.slice XA (bH n a b).1.length Xc] 47)) 47 #[.slice ZA (bH n b c).1.length Zc]
   have hbs := HB.out.size
   replace HB := aH (HB.out.trans (hb.mono hbs))
   clear hbs
   replace HN := aH (HN.out.below hb)
   replace HG := bL HG hb
   replace RX := aH (RX.out.call hb)
   replace RY := aH (RY.out.call hb)
   replace RZ := aH (RZ.out.call hb)
   replace RV := aH (RV.out.call hb)
   replace B1 := bL B1 hb
   clear hb
   have B2 := aH hx
   clear hx
   have HC := aH (aDz HFX.out HFZ.out (by rw [HLX.out, HLZ.out]) HLE.out HZF.out (some ⟨w8.heap.size, 0, none⟩) (some ⟨(w8.alloc (.cells #[.slice XA (bH n a b).1.length Xc] 47)).heap.size, 0, none⟩) 1 1 ((w8.alloc (.cells #[.slice XA (bH n a b).1.length Xc] 47)).alloc (.cells #[.slice ZA (bH n b c).1.length Zc] 47)) (nA B1.out (vC RX.out)) (nA B2.out (vC RZ.out)) (aO HTB.out HB.out))
   try simp only [World.size_alloc] at HC
   go_wp2_with fail
   refine HC.out.mono ?_
   rintro e w9 ⟨SA, sc, rfl, hsm, hb⟩
   clear HC
   have hb3 : Below ((w8.alloc (.cells #[.slice XA (bH n a b).1.length Xc] 47)).alloc (.cells #[.slice ZA (bH n b c).1.length Zc] 47)).heap.size ((w8.alloc (.cells #[.slice XA (bH n a b).1.length Xc] 47)).alloc (.cells #[.slice ZA (bH n b c).1.length Zc] 47)) w9 := by simp only [World.size_alloc]; exact hb
   clear hb B1 B2
   have hbs := HB.out.size
   replace HB := aH (HB.out.trans (hb3.mono hbs))
   clear hbs
   replace HN := aH (HN.out.below hb3)
   replace HG := bL HG hb3
   replace RX := aH (RX.out.call hb3)
   replace RY := aH (RY.out.call hb3)
   replace RZ := aH (RZ.out.call hb3)
   replace RV := aH (RV.out.call hb3)
   clear hb3
   have HS := aH (hsm)
   clear hsm
   have hb := aK w9 (.cells #[.slice XA (bH n a b).1.length Xc] 47)
   have hx := Blk.new w9 47 #[.slice XA (bH n a b).1.length Xc]
   have hbs := HB.out.size
   replace HB := aH (HB.out.trans (hb.mono hbs))
   clear hbs
   replace HN := aH (HN.out.below hb)
   replace HG := bL HG hb
   replace RX := aH (RX.out.call hb)
   replace RY := aH (RY.out.call hb)
   replace RZ := aH (RZ.out.call hb)
   replace RV := aH (RV.out.call hb)
   replace HS := aH (HS.out.below hb)
   clear hb
   have B1 := aH hx
   clear hx
   have HC := aH (aEa HFX.out HLE.out ⟨#[45, 49]⟩ (by decide +kernel) (by decide) HSF.out (some ⟨w9.heap.size, 0, none⟩) 1 (w9.alloc (.cells #[.slice XA (bH n a b).1.length Xc] 47)) (nA B1.out (vC RX.out)) (aO HTB.out HB.out))
   go_wp2_with fail
   refine HC.out.mono ?_
   rintro e w10 ⟨MA, mc, rfl, hsm, hb⟩
   clear HC
   clear B1
   have hbs := HB.out.size
   replace HB := aH (HB.out.trans (hb.mono hbs))
   clear hbs
   replace HN := aH (HN.out.below hb)
   replace HG := bL HG hb
   replace RX := aH (RX.out.call hb)
   replace RY := aH (RY.out.call hb)
   replace RZ := aH (RZ.out.call hb)
   replace RV := aH (RV.out.call hb)
   replace HS := aH (HS.out.below hb)
   clear hb
   have HM := aH (hsm)
   clear hsm
   have hb := aK w10 (.cells #[I 0, I 0, I 0] 34)
   have hx := Blk.new w10 34 #[I 0, I 0, I 0]
   have hbs := HB.out.size
   replace HB := aH (HB.out.trans (hb.mono hbs))
   clear hbs
   replace HN := aH (HN.out.below hb)
   replace HG := bL HG hb
   replace RX := aH (RX.out.call hb)
   replace RY := aH (RY.out.call hb)
   replace RZ := aH (RZ.out.call hb)
   replace RV := aH (RV.out.call hb)
   replace HS := aH (HS.out.below hb)
   replace HM := aH (HM.out.below hb)
   clear hb
   have HC := aH (pQ [0, 0, 0] 3 (some ⟨w10.heap.size, 0, none⟩) 3 (w10.alloc (.cells #[I 0, I 0, I 0] 34)) (w10.alloc (.cells #[I 0, I 0, I 0] 34)).heap.size (cO (n := 3) (sz := 1) hx rfl) (by decide))
   rw [show fS [0, 0, 0] = true from rfl] at HC
   clear hx
   go_wp2_with fail
   refine HC.out.mono ?_
   rintro e w11 ⟨rfl, rfl⟩
   clear HC
   generalize (w10.alloc (.cells #[I 0, I 0, I 0] 34)) = w12 at *
   have hl1 : ∀ l ∈ [mkS ((dB (bH n a b).1 (bH n b c).1).map aL)], l.length ≤ 1000000 := fun l hl => by rw [List.mem_singleton.1 hl, aEu, ← HV1.out, HLV.out]; have := (mB HW.out).2.1; omega
   have hl2 : ∀ l ∈ [mkS ((gH (dY (SL ⟨#[45, 49]⟩)) (bH n a b).1).map aL)], l.length ≤ 1000000 := fun l hl => by rw [List.mem_singleton.1 hl, aEu, gH, List.length_map, HLX.out]; have := (mB HW.out).2.1; omega
   have hb := aK w12 (.cells #[.slice VA (bH n a c).1.length Vc] 47)
   have hx := Blk.new w12 47 #[.slice VA (bH n a c).1.length Vc]
   have hbs := HB.out.size
   replace HB := aH (HB.out.trans (hb.mono hbs))
   clear hbs
   replace HN := aH (HN.out.below hb)
   replace HG := bL HG hb
   replace RX := aH (RX.out.call hb)
   replace RY := aH (RY.out.call hb)
   replace RZ := aH (RZ.out.call hb)
   replace RV := aH (RV.out.call hb)
   replace HS := aH (HS.out.below hb)
   replace HM := aH (HM.out.below hb)
   clear hb
   have B1 := aH hx
   clear hx
   have HRW := aH (show SMat (w12.alloc (.cells #[.slice VA (bH n a c).1.length Vc] 47)) (some ⟨w12.heap.size, 0, none⟩) 1 [mkS ((dB (bH n a b).1 (bH n b c).1).map aL)] by rw [← HV1.out]; exact nA B1.out (vC RV.out))
   have HC := aH (tF [mkS ((dB (bH n a b).1 (bH n b c).1).map aL)] [mkS ((dB (bH n a b).1 (bH n b c).1).map aL)] 1 1 SA (some ⟨w12.heap.size, 0, none⟩) sc 1 (w12.alloc (.cells #[.slice VA (bH n a c).1.length Vc] 47)) HS.out HRW.out (by decide) hl1)
   rw [decide_eq_true rfl] at HC
   go_wp2_with fail
   refine HC.out.mono ?_
   rintro e w13 ⟨rfl, hb⟩
   clear HC
   clear HRW B1
   have hbs := HB.out.size
   replace HB := aH (HB.out.trans (hb.mono hbs))
   clear hbs
   replace HN := aH (HN.out.below hb)
   replace HG := bL HG hb
   replace RX := aH (RX.out.call hb)
   replace RY := aH (RY.out.call hb)
   replace RZ := aH (RZ.out.call hb)
   replace RV := aH (RV.out.call hb)
   replace HS := aH (HS.out.below hb)
   replace HM := aH (HM.out.below hb)
   clear hb
   have hb := aK w13 (.cells #[.slice YA (bH n b a).1.length Yc] 47)
   have hx := Blk.new w13 47 #[.slice YA (bH n b a).1.length Yc]
   have hbs := HB.out.size
   replace HB := aH (HB.out.trans (hb.mono hbs))
   clear hbs
   replace HN := aH (HN.out.below hb)
   replace HG := bL HG hb
   replace RX := aH (RX.out.call hb)
   replace RY := aH (RY.out.call hb)
   replace RZ := aH (RZ.out.call hb)
   replace RV := aH (RV.out.call hb)
   replace HS := aH (HS.out.below hb)
   replace HM := aH (HM.out.below hb)
   clear hb
   have B1 := aH hx
   clear hx
   have HRW := aH (show SMat (w13.alloc (.cells #[.slice YA (bH n b a).1.length Yc] 47)) (some ⟨w13.heap.size, 0, none⟩) 1 [mkS ((gH (dY (SL ⟨#[45, 49]⟩)) (bH n a b).1).map aL)] by rw [show dY (SL ⟨#[45, 49]⟩) = -1 from by decide +kernel, ← HY1.out]; exact nA B1.out (vC RY.out))
   have HC := aH (tF [mkS ((gH (dY (SL ⟨#[45, 49]⟩)) (bH n a b).1).map aL)] [mkS ((gH (dY (SL ⟨#[45, 49]⟩)) (bH n a b).1).map aL)] 1 1 MA (some ⟨w13.heap.size, 0, none⟩) mc 1 (w13.alloc (.cells #[.slice YA (bH n b a).1.length Yc] 47)) HM.out HRW.out (by decide) hl2)
   rw [decide_eq_true rfl] at HC
   go_wp2_with fail
   refine HC.out.mono ?_
   rintro e w14 ⟨rfl, hb⟩
   clear HC
   clear HRW B1
   have hbs := HB.out.size
   replace HB := aH (HB.out.trans (hb.mono hbs))
   clear hbs
   replace HN := aH (HN.out.below hb)
   replace HG := bL HG hb
   replace RX := aH (RX.out.call hb)
   replace RY := aH (RY.out.call hb)
   replace RZ := aH (RZ.out.call hb)
   replace RV := aH (RV.out.call hb)
   replace HS := aH (HS.out.below hb)
   replace HM := aH (HM.out.below hb)
   clear hb
   go_wp2
   go_ret
   exact ⟨rfl, HB.out⟩
  ·have hfb : fS [e1, e2] = false := by
    rw [Bool.eq_false_iff]
    intro h
    have h2 := (aId _).1 h
    exact hz ⟨h2 e1 (by simp), h2 e2 (by simp)⟩
   have hb := aK w6 (.cells #[I e1, I e2] 34)
   have hx := Blk.new w6 34 #[I e1, I e2]
   replace HX := aH (fun h => And.intro (HX.out h).1 ((HX.out h).2.call hb))
   replace HY := aH (fun h => And.intro (HY.out h).1 ((HY.out h).2.call hb))
   replace HZ := aH (fun h => And.intro (HZ.out h).1 ((HZ.out h).2.call hb))
   replace HV := aH (fun h => And.intro (HV.out h).1 ((HV.out h).2.call hb))
   have hbs := HB.out.size
   replace HB := aH (HB.out.trans (hb.mono hbs))
   clear hbs
   replace HN := aH (HN.out.below hb)
   replace HG := bL HG hb
   clear hb
   have HC := aH (pQ [e1, e2] 2 (some ⟨w6.heap.size, 0, none⟩) 2 (w6.alloc (.cells #[I e1, I e2] 34)) (w6.alloc (.cells #[I e1, I e2] 34)).heap.size (cO (n := 2) (sz := 1) hx rfl) (by decide))
   rw [show fS [e1, e2] = false from hfb] at HC
   clear hx
   go_wp2_with fail
   refine HC.out.mono ?_
   rintro e w7 ⟨rfl, rfl⟩
   clear HC
   generalize (w6.alloc (.cells #[I e1, I e2] 34)) = w8 at *
   go_wp2
   go_ret
   exact ⟨rfl, HB.out⟩
theorem vR (n : NetD) (v : NetV) (a b c : ByteArray) (w : World) (hN : Net w n v) (_ : a.size ≤ 9223372036854775807) (_ : b.size ≤ 9223372036854775807) (_ : c.size ≤ 9223372036854775807) (htab : Tab w) : Calls Tryz.prog 10 #[v.val n, .string a, .string b, .string c] w fun e w' => e = .returned (.bool true) ∧ Below w.heap.size w w' :=
 vQ n v a b c w hN htab
end
section
open Go.ChangeShapes Go.WideShapes Go.ChangeAt Go.RowKit Go.ChangeMaps
theorem vG (os : Os) (args : Array Value) : laidMetH Tryz.prog Rows.shiftBackRow.laid ((World.doorLaid Tryz.prog 62 os).forCall (fun _ _ => 0) ⟨#[], args, []⟩).memory :=
 laidMetH_of_parts3 (fuel := 8) (laidMet_of_run' 8 (by kernel_rfl) (by kernel_rfl)) (by kernel_rfl) (by kernel_rfl)
set_option linter.unusedVariables false in
theorem qZ (os : Os) (started : os.Started) (H : Type) (enc : TypeId × Value → H) :
  ReturnsInHanded {} Tryz.checked os 10 .any (fun w args => (Rows.shiftBackSpec.pre enc Tryz.prog Tryz.f10 [] false w args ∧ laidMetH Tryz.prog Rows.shiftBackRow.laid w) ∧ sizedMet enc Tryz.prog Tryz.f10 (OpenSpec.ofChange Rows.shiftBackSpec) false w args)
   (Rows.shiftBackSpec.post enc Tryz.prog Tryz.f10 false true false false) := by
 refine returnsInHanded_of_change_and (C := Tryz.checked) (X := fun w _ => laidMetH Tryz.prog Rows.shiftBackRow.laid w) (fun _ _ _ hh h => h.of_heap hh) own started (by kernel_rfl) Tryz.func10
  (ChangeSpec.witness_shaped (enc := enc) (C := Tryz.checked) (os := os) (X := fun w _ => laidMetH Tryz.prog Rows.shiftBackRow.laid w) false (World.doorLaid Tryz.prog 62 os) #[.agg #[.slice none 0 0, .slice none 0 0, .slice none 0 0, .slice none 0 0, .slice none 0 0, .slice none 0 0], .string ⟨#[]⟩, .string ⟨#[]⟩, .string ⟨#[]⟩] 8 rfl (World.shaped_of_RefB (by kernel_rfl) (by kernel_rfl)) (by kernel_rfl) (by kernel_rfl) (by kernel_rfl) (vG os _)) ?_
 intro W base args ds gs before hval0 hW _ _ hL _
 have hval : ∀ (j : Nat) t v, Tryz.f10.params[j]? = some t → args[j]? = some v → Value.okWide Tryz.prog W .any base t v := hval0
 have hW' := hW
 obtain ⟨p, q, hA0, hV, rfl, hfz, hnd⟩ := hW
 have hA : DataW.TrodAll enc Tryz.prog W 0 (fun _ => true) true Tryz.f10.params.toList args.toList ds p := hA0
 rw [Tryz.params10] at hA hval
 obtain ⟨v0, vs0, d0, ds0, p0, q0, hargs, rfl, rfl, h0, r0⟩ := trodAll_cons hA
 obtain ⟨v1, vs1, d1, ds1, p1, q1, rfl, rfl, rfl, h1, r1⟩ := trodAll_cons r0
 obtain ⟨v2, vs2, d2, ds2, p2, q2, rfl, rfl, rfl, h2, r2⟩ := trodAll_cons r1
 obtain ⟨v3, vs3, d3, ds3, p3, q3, rfl, rfl, rfl, h3, r3⟩ := trodAll_cons r2
 obtain ⟨rfl, rfl, rfl⟩ := trodAll_nil r3
 obtain rfl : args = #[v0, v1, v2, v3] := by cases args; simp_all
 obtain ⟨rfl, rfl⟩ := trodVars_none hV
 have k0 := h0
 have lt0 : ∀ x ∈ p0, x.block < W.heap.size := by obtain ⟨m, hm⟩ := k0; exact DataW.trod_lt m _ _ _ hm
 obtain ⟨n0, nv0, rfl, hn0⟩ := aJu (hval 0 29 v0 rfl rfl) h0
 obtain ⟨s1, rfl, rfl, rfl, ws1⟩ := open_string Tryz.underlying9 (hval 1 9 v1 rfl rfl) h1
 obtain ⟨s2, rfl, rfl, rfl, ws2⟩ := open_string Tryz.underlying9 (hval 2 9 v2 rfl rfl) h2
 obtain ⟨s3, rfl, rfl, rfl, ws3⟩ := open_string Tryz.underlying9 (hval 3 9 v3 rfl rfl) h3
 clear hA0 hval0
 refine (vR n0 nv0 s1 s2 s3 W hn0 (oG ws1) (oG ws2) (oG ws3) (tab_of_laid hL)).mono fun e W' ⟨he, bel⟩ => ?_
 subst he
 exact ⟨_, rfl, _, _, _, [], _, [], hW', trodAll_mk1 (shut_bool Tryz.underlying4 _), (trodAll_cons_mk (Below.trod aOz (by kernel_rfl) (of_decide_eq_true (by kernel_rfl)) k0 bel lt0) (trodAll_cons_mk (shut_string Tryz.underlying9 ws1) (trodAll_cons_mk (shut_string Tryz.underlying9 ws2) (trodAll_cons_mk (shut_string Tryz.underlying9 ws3) trodAll_mk0)))), rfl, bel.frame _, fun h => by cases h⟩
end
end Go.Proofs.YtenbglfkdldheaaGreatDoor
