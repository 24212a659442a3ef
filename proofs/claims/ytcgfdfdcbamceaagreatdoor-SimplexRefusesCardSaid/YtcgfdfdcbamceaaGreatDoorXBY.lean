/- simplexFact. The keep's small: at most n rows and columns, and texts of at most 12 letters. -/
import Derived.Test.YtcgfdfdcbamceaaGreatDoorXBX
import Derived.Test.YtcgfdfdcbamceaaGreatDoorXAY
import Derived.Deep.LoopGhost
namespace Go.Proofs.YtcgfdfdcbamceaaGreatDoor
open Go.RowKit
theorem sh1_lit {l : List ByteArray} (h : ∀ s ∈ l, s.size ≤ 1000) : Sh1 l := fun s hs => Nat.le_trans (h s hs) (by decide)
theorem eight_shp : ShP eA eB eC := ⟨fun l hl => sh1_lit (by simp only [eA, List.mem_singleton] at hl; subst hl; decide +kernel), sh1_lit (by decide +kernel), sh1_lit (by decide +kernel)⟩
theorem val1_lit {l : List ByteArray} (h : l.all (fun s => decide (rchk (SL s) = 0)) = true) : Val1 l := fun s hs => of_decide_eq_true (List.all_eq_true.1 h s hs)
theorem eight_good : Good eA eB eC 1 2 ∧ GoodV eA eB eC 1 2 := good_of eight_prob eight_short (by decide) (by decide) (fun l hl => by
 simp only [eA, List.mem_singleton] at hl
 subst hl
 exact ⟨val1_lit (by decide +kernel), by decide⟩) (val1_lit (by decide +kernel)) (val1_lit (by decide +kernel))
theorem okV_lit {l : List (List UInt8)} {n : Nat} (hl : l.length = n) (h1 : Sh1 (mkS l)) (hv : ∀ q ∈ valsV l, SzQ q 12) (h : chkV (tx1 (mkS l)) = 0) : OkV (mkS l) n :=
 okV_of h1 h (by rw [mkS, List.length_map]; exact hl) (by rw [tx_mk]; exact fun q hq => (hv q hq).mono (by decide))
theorem eX : ∀ q ∈ valsV rX, SzQ q 12 := by
 rw [show valsV rX = [4, 0] by decide +kernel]
 intro q hq
 simp at hq
 rcases hq with rfl | rfl <;> exact small_sz12 (by simp)
theorem eY : ∀ q ∈ valsV rY, SzQ q 12 := by
 rw [show valsV rY = [2] by decide +kernel]
 intro q hq
 simp at hq
 subst hq
 exact small_sz12 (by simp)
theorem fit_lit {s : List UInt8} (h : SzQ (rval s) 12) : FitR 1000 (rval s) := (szQ_fitZ h).mono (by decide)
theorem eight_v1 : verP (tx2 eA) (tx1 eB) (tx1 eC) 0 (tx1 (mkS rX)) (tx1 (mkS rY)) (tx1 (mkS [])) (SL ⟨#[56]⟩) = 0 := by
 rw [tx_mk, tx_mk, tx_mk]
 exact eight_ver
theorem eight_v2 : verP (tx2 eA) (tx1 eB) (tx1 eC) 0 (tx1 (mkS rX)) (tx1 (mkS rY)) (tx1 (mkS [])) (SL ⟨#[57]⟩) = 21 := by
 rw [tx_mk, tx_mk, tx_mk]
 exact eight_bad
theorem eight_ver_any (A Ab Ac X Y R : Option Addr) (cx cy cr : Nat) (s : ByteArray) (w : World) (h : PrW w A 1 Ab 1 Ac 2 eA eB eC) (hr : RsW w X 2 Y 1 R 0 (mkS rX) (mkS rY) (mkS [])) (htab : Tab w) (hs : s.size ≤ 1000) (hv : SzQ (rval (SL s)) 12) :
  Calls Tryz.prog 11 #[.agg #[.slice A 1 1, .slice Ab 1 1, .slice Ac 2 2], .agg #[I 0, .slice X 2 cx, .slice Y 1 cy, .slice R 0 cr, .string s]] w fun e w' =>
   e = .returned (I (verP (tx2 eA) (tx1 eB) (tx1 eC) 0 (tx1 (mkS rX)) (tx1 (mkS rY)) (tx1 (mkS [])) (SL s))) ∧ Below w.heap.size w w' :=
 verify_any A Ab Ac 1 1 1 1 2 2 eA eB eC X Y R 2 cx 1 cy 0 cr 0 (mkS rX) (mkS rY) (mkS []) s w h hr eight_shp (sh1_lit (by decide +kernel)) (sh1_lit (by decide +kernel)) (sh1_lit (by decide +kernel)) (Nat.le_trans hs (by decide)) htab (fun _ => eight_good.2) (okV_lit rfl (sh1_lit (by decide +kernel)) eX) (okV_lit rfl (sh1_lit (by decide +kernel)) eY) (okV_lit rfl (sh1_lit (by decide +kernel)) (fun q h => by cases h)) (fun _ => fit_lit hv)
set_option maxRecDepth 100000 in
set_option maxHeartbeats 20000000 in
theorem simplexFact_any (w : World) (htab : Tab w) : Calls Tryz.prog 7 #[] w fun e w' => e = .returned (.bool true) ∧ Below w.heap.size w w' := by
 have HT := Lib.hid htab
 clear htab
 go_enter Tryz.func7, Tryz.ntmps7
 have HC := Lib.hid (eight_any w)
 go_wp2_with fail
 refine HC.out.mono ?_
 rintro e w1 ⟨A, Ab, Ac, rfl, hp, hb⟩
 clear HC
 have HB := Lib.hid hb
 clear hb
 have hs := psolve_any A Ab Ac 1 1 1 1 2 2 eA eB eC w1 hp eight_shp (tab_below HT.out HB.out) (fun _ => eight_good.1)
 rw [eight_sol, eight_chk] at hs
 have HC := Lib.hid hs
 clear hs hp
 go_wp2_with fail
 refine HC.out.mono ?_
 rintro e w2 ⟨v, rfl, hv, hb⟩
 clear HC
 replace HB := Lib.hid (HB.out.trans (hb.mono HB.out.size))
 clear hb
 obtain ⟨X, lx, cx, Y, ly, cy, R, lr, cr, rfl, hX, hY, hR⟩ := hv
 obtain rfl : lx = 2 := by have := hX.1; simpa [mkS, rX] using this.symm
 obtain rfl : ly = 1 := by have := hY.1; simpa [mkS, rY] using this.symm
 obtain rfl : lr = 0 := by have := hR.1; simpa [mkS] using this.symm
 have HRS := Lib.hid (show RsW w2 X 2 Y 1 R 0 (mkS rX) (mkS rY) (mkS []) from ⟨hX.reads, hY.reads, hR.reads⟩)
 clear hX hY hR
 have b1 := below_new w2 (.cells #[I 0, .slice X 2 cx, .slice Y 1 cy, .slice R 0 cr, .string ⟨#[56]⟩] 32)
 have b2 := below_new (w2.alloc (.cells #[I 0, .slice X 2 cx, .slice Y 1 cy, .slice R 0 cr, .string ⟨#[56]⟩] 32)) (.cells #[I 0, .slice X 2 cx, .slice Y 1 cy, .slice R 0 cr, .string ⟨#[57]⟩] 32)
 have hbt := b1.trans (b2.mono b1.size)
 have hB1 := (Blk.new w2 32 #[I 0, .slice X 2 cx, .slice Y 1 cy, .slice R 0 cr, .string ⟨#[56]⟩]).alloc (.cells #[I 0, .slice X 2 cx, .slice Y 1 cy, .slice R 0 cr, .string ⟨#[57]⟩] 32)
 have hB2 := Blk.new (w2.alloc (.cells #[I 0, .slice X 2 cx, .slice Y 1 cy, .slice R 0 cr, .string ⟨#[56]⟩] 32)) 32 #[I 0, .slice X 2 cx, .slice Y 1 cy, .slice R 0 cr, .string ⟨#[57]⟩]
 rw [World.size_alloc] at hB2
 have X0 := Lib.hid (show ((w2.alloc (.cells #[I 0, .slice X 2 cx, .slice Y 1 cy, .slice R 0 cr, .string ⟨#[56]⟩] 32)).alloc (.cells #[I 0, .slice X 2 cx, .slice Y 1 cy, .slice R 0 cr, .string ⟨#[57]⟩] 32)).cell? ⟨w2.heap.size, 0, none⟩ = some (I 0) from hB1.cell 0)
 have Y0 := Lib.hid (show ((w2.alloc (.cells #[I 0, .slice X 2 cx, .slice Y 1 cy, .slice R 0 cr, .string ⟨#[56]⟩] 32)).alloc (.cells #[I 0, .slice X 2 cx, .slice Y 1 cy, .slice R 0 cr, .string ⟨#[57]⟩] 32)).cell? ⟨w2.heap.size + 1, 0, none⟩ = some (I 0) from hB2.cell 0)
 have X1 := Lib.hid (show ((w2.alloc (.cells #[I 0, .slice X 2 cx, .slice Y 1 cy, .slice R 0 cr, .string ⟨#[56]⟩] 32)).alloc (.cells #[I 0, .slice X 2 cx, .slice Y 1 cy, .slice R 0 cr, .string ⟨#[57]⟩] 32)).cell? ⟨w2.heap.size, 1, none⟩ = some (.slice X 2 cx) from hB1.cell 1)
 have Y1 := Lib.hid (show ((w2.alloc (.cells #[I 0, .slice X 2 cx, .slice Y 1 cy, .slice R 0 cr, .string ⟨#[56]⟩] 32)).alloc (.cells #[I 0, .slice X 2 cx, .slice Y 1 cy, .slice R 0 cr, .string ⟨#[57]⟩] 32)).cell? ⟨w2.heap.size + 1, 1, none⟩ = some (.slice X 2 cx) from hB2.cell 1)
 have X2 := Lib.hid (show ((w2.alloc (.cells #[I 0, .slice X 2 cx, .slice Y 1 cy, .slice R 0 cr, .string ⟨#[56]⟩] 32)).alloc (.cells #[I 0, .slice X 2 cx, .slice Y 1 cy, .slice R 0 cr, .string ⟨#[57]⟩] 32)).cell? ⟨w2.heap.size, 2, none⟩ = some (.slice Y 1 cy) from hB1.cell 2)
 have Y2 := Lib.hid (show ((w2.alloc (.cells #[I 0, .slice X 2 cx, .slice Y 1 cy, .slice R 0 cr, .string ⟨#[56]⟩] 32)).alloc (.cells #[I 0, .slice X 2 cx, .slice Y 1 cy, .slice R 0 cr, .string ⟨#[57]⟩] 32)).cell? ⟨w2.heap.size + 1, 2, none⟩ = some (.slice Y 1 cy) from hB2.cell 2)
 have X3 := Lib.hid (show ((w2.alloc (.cells #[I 0, .slice X 2 cx, .slice Y 1 cy, .slice R 0 cr, .string ⟨#[56]⟩] 32)).alloc (.cells #[I 0, .slice X 2 cx, .slice Y 1 cy, .slice R 0 cr, .string ⟨#[57]⟩] 32)).cell? ⟨w2.heap.size, 3, none⟩ = some (.slice R 0 cr) from hB1.cell 3)
 have Y3 := Lib.hid (show ((w2.alloc (.cells #[I 0, .slice X 2 cx, .slice Y 1 cy, .slice R 0 cr, .string ⟨#[56]⟩] 32)).alloc (.cells #[I 0, .slice X 2 cx, .slice Y 1 cy, .slice R 0 cr, .string ⟨#[57]⟩] 32)).cell? ⟨w2.heap.size + 1, 3, none⟩ = some (.slice R 0 cr) from hB2.cell 3)
 have X4 := Lib.hid (show ((w2.alloc (.cells #[I 0, .slice X 2 cx, .slice Y 1 cy, .slice R 0 cr, .string ⟨#[56]⟩] 32)).alloc (.cells #[I 0, .slice X 2 cx, .slice Y 1 cy, .slice R 0 cr, .string ⟨#[57]⟩] 32)).cell? ⟨w2.heap.size, 4, none⟩ = some (.string ⟨#[56]⟩) from hB1.cell 4)
 have Y4 := Lib.hid (show ((w2.alloc (.cells #[I 0, .slice X 2 cx, .slice Y 1 cy, .slice R 0 cr, .string ⟨#[56]⟩] 32)).alloc (.cells #[I 0, .slice X 2 cx, .slice Y 1 cy, .slice R 0 cr, .string ⟨#[57]⟩] 32)).cell? ⟨w2.heap.size + 1, 4, none⟩ = some (.string ⟨#[57]⟩) from hB2.cell 4)
 replace HRS := Lib.hid (HRS.out.below hbt)
 replace HB := Lib.hid (HB.out.trans (hbt.mono HB.out.size))
 clear b1 b2 hbt hB1 hB2
 go_upto_region 4 with (fail)
 generalize (w2.alloc (.cells #[I 0, .slice X 2 cx, .slice Y 1 cy, .slice R 0 cr, .string ⟨#[56]⟩] 32)).alloc (.cells #[I 0, .slice X 2 cx, .slice Y 1 cy, .slice R 0 cr, .string ⟨#[57]⟩] 32) = w4 at *
 generalize w2.heap.size = gs at *
 have hd := below_draw w4
 replace HB := Lib.hid (HB.out.trans (hd.mono HB.out.size))
 replace HRS := Lib.hid (HRS.out.below hd)
 replace X0 := Lib.hid (cell_below X0.out hd)
 replace X1 := Lib.hid (cell_below X1.out hd)
 replace X2 := Lib.hid (cell_below X2.out hd)
 replace X3 := Lib.hid (cell_below X3.out hd)
 replace X4 := Lib.hid (cell_below X4.out hd)
 replace Y0 := Lib.hid (cell_below Y0.out hd)
 replace Y1 := Lib.hid (cell_below Y1.out hd)
 replace Y2 := Lib.hid (cell_below Y2.out hd)
 replace Y3 := Lib.hid (cell_below Y3.out hd)
 replace Y4 := Lib.hid (cell_below Y4.out hd)
 clear hd
 refine wp_region_c (fun w' => w'.cell? ⟨gs, 0, none⟩ = some (I 0) ∧ w'.cell? ⟨gs, 1, none⟩ = some (.slice X 2 cx) ∧ w'.cell? ⟨gs, 2, none⟩ = some (.slice Y 1 cy) ∧ w'.cell? ⟨gs, 3, none⟩ = some (.slice R 0 cr) ∧ w'.cell? ⟨gs, 4, none⟩ = some (.string ⟨#[56]⟩) ∧ w'.cell? ⟨gs + 1, 0, none⟩ = some (I 0) ∧ w'.cell? ⟨gs + 1, 1, none⟩ = some (.slice X 2 cx) ∧ w'.cell? ⟨gs + 1, 2, none⟩ = some (.slice Y 1 cy) ∧ w'.cell? ⟨gs + 1, 3, none⟩ = some (.slice R 0 cr) ∧ w'.cell? ⟨gs + 1, 4, none⟩ = some (.string ⟨#[57]⟩)) 30 (by kernel_rfl) ?_
 generalize w4.drew = w5 at *
 refine tkS ⟨X0.out, X1.out, X2.out, X3.out, X4.out, Y0.out, Y1.out, Y2.out, Y3.out, Y4.out⟩ fun hSS => ?_
 refine tq 0 (I 0) rfl ?_ hSS ?_
 ·rintro w ⟨s0, s1, s2, s3, s4, s5, s6, s7, s8, s9⟩
  go_simp
 try simp only [Act.put, putA]
 refine tq 1 (.bool true) rfl ?_ hSS ?_
 ·rintro w ⟨s0, s1, s2, s3, s4, s5, s6, s7, s8, s9⟩
  go_simp
 try simp only [Act.put]
 refine tq 2 (.bool true) rfl ?_ hSS ?_
 ·rintro w ⟨s0, s1, s2, s3, s4, s5, s6, s7, s8, s9⟩
  go_simp
 try simp only [Act.put]
 refine tq 3 (.pointer (some ⟨gs, 0, none⟩)) rfl ?_ hSS ?_
 ·rintro w ⟨s0, s1, s2, s3, s4, s5, s6, s7, s8, s9⟩
  go_simp
 try simp only [Act.put]
 refine tq 4 (I 0) rfl ?_ hSS ?_
 ·rintro w ⟨s0, s1, s2, s3, s4, s5, s6, s7, s8, s9⟩
  go_simp
 try simp only [Act.put]
 refine tq 5 (.bool true) rfl ?_ hSS ?_
 ·rintro w ⟨s0, s1, s2, s3, s4, s5, s6, s7, s8, s9⟩
  go_simp
 try simp only [Act.put]
 refine tq 6 (.bool true) rfl ?_ hSS ?_
 ·rintro w ⟨s0, s1, s2, s3, s4, s5, s6, s7, s8, s9⟩
  go_simp
 try simp only [Act.put]
 refine tq 7 (.bool true) rfl ?_ hSS ?_
 ·rintro w ⟨s0, s1, s2, s3, s4, s5, s6, s7, s8, s9⟩
  go_simp
 try simp only [Act.put]
 refine tq 8 (.pointer (some ⟨gs, 4, none⟩)) rfl ?_ hSS ?_
 ·rintro w ⟨s0, s1, s2, s3, s4, s5, s6, s7, s8, s9⟩
  go_simp
 try simp only [Act.put]
 refine tq 9 (.string ⟨#[56]⟩) rfl ?_ hSS ?_
 ·rintro w ⟨s0, s1, s2, s3, s4, s5, s6, s7, s8, s9⟩
  go_simp
 try simp only [Act.put]
 refine tq 10 (.bool true) rfl ?_ hSS ?_
 ·rintro w ⟨s0, s1, s2, s3, s4, s5, s6, s7, s8, s9⟩
  go_simp
 try simp only [Act.put]
 refine tq 11 (.bool true) rfl ?_ hSS ?_
 ·rintro w ⟨s0, s1, s2, s3, s4, s5, s6, s7, s8, s9⟩
  go_simp
 try simp only [Act.put]
 refine tq 12 (.bool true) rfl ?_ hSS ?_
 ·rintro w ⟨s0, s1, s2, s3, s4, s5, s6, s7, s8, s9⟩
  go_simp
 try simp only [Act.put]
 refine tq 14 (.agg #[I 0, .slice X 2 cx, .slice Y 1 cy, .slice R 0 cr, .string ⟨#[56]⟩]) rfl ?_ hSS ?_
 ·rintro w ⟨s0, s1, s2, s3, s4, s5, s6, s7, s8, s9⟩
  go_simp
 try simp only [Act.put]
 refine wpAnyC_oneW (i := 13) (by kernel_rfl) rfl (by kernel_rfl) (fun K hK => ?_)
 go_simp
 go_at_call 25
 refine (eight_any _).mono ?_
 rintro e w6 ⟨Aw6, Bw6, Cw6, rfl, hpp, hb⟩
 have HPP := Lib.hid hpp
 clear hpp
 replace HB := Lib.hid (HB.out.trans (hb.mono HB.out.size))
 replace X0 := Lib.hid (cell_below X0.out hb)
 replace X1 := Lib.hid (cell_below X1.out hb)
 replace X2 := Lib.hid (cell_below X2.out hb)
 replace X3 := Lib.hid (cell_below X3.out hb)
 replace X4 := Lib.hid (cell_below X4.out hb)
 replace Y0 := Lib.hid (cell_below Y0.out hb)
 replace Y1 := Lib.hid (cell_below Y1.out hb)
 replace Y2 := Lib.hid (cell_below Y2.out hb)
 replace Y3 := Lib.hid (cell_below Y3.out hb)
 replace Y4 := Lib.hid (cell_below Y4.out hb)
 replace HRS := Lib.hid (HRS.out.below hb)
 clear hb
 refine hK.out _ _ (fun _ => ⟨X0.out, X1.out, X2.out, X3.out, X4.out, Y0.out, Y1.out, Y2.out, Y3.out, Y4.out⟩) ?_
 clear hK K
 try simp only [Act.put, putA, putZ, putC]
 refine wpAnyC_oneW (i := 15) (by kernel_rfl) rfl (by kernel_rfl) (fun K hK => ?_)
 go_simp
 go_at_call 11
 refine (eight_ver_any Aw6 Bw6 Cw6 X Y R cx cy cr ⟨#[56]⟩ _ HPP.out HRS.out (tab_below HT.out HB.out) (by decide) (by rw [show rval (SL ⟨#[56]⟩) = 8 by decide +kernel]; exact small_sz12 (by simp))).mono ?_
 rintro e w7 ⟨rfl, hb⟩
 rw [eight_v1]
 replace HB := Lib.hid (HB.out.trans (hb.mono HB.out.size))
 replace X0 := Lib.hid (cell_below X0.out hb)
 replace X1 := Lib.hid (cell_below X1.out hb)
 replace X2 := Lib.hid (cell_below X2.out hb)
 replace X3 := Lib.hid (cell_below X3.out hb)
 replace X4 := Lib.hid (cell_below X4.out hb)
 replace Y0 := Lib.hid (cell_below Y0.out hb)
 replace Y1 := Lib.hid (cell_below Y1.out hb)
 replace Y2 := Lib.hid (cell_below Y2.out hb)
 replace Y3 := Lib.hid (cell_below Y3.out hb)
 replace Y4 := Lib.hid (cell_below Y4.out hb)
 replace HRS := Lib.hid (HRS.out.below hb)
 replace HPP := Lib.hid (HPP.out.below hb)
 clear hb
 refine hK.out _ _ (fun _ => ⟨X0.out, X1.out, X2.out, X3.out, X4.out, Y0.out, Y1.out, Y2.out, Y3.out, Y4.out⟩) ?_
 clear hK K
 try simp only [Act.put, putA, putZ, putC]
 refine tkS ⟨X0.out, X1.out, X2.out, X3.out, X4.out, Y0.out, Y1.out, Y2.out, Y3.out, Y4.out⟩ fun hSS => ?_
 refine tq 16 (.bool true) rfl ?_ hSS ?_
 ·rintro w ⟨s0, s1, s2, s3, s4, s5, s6, s7, s8, s9⟩
  go_simp
 try simp only [Act.put, putA]
 refine tq 17 (.bool true) rfl ?_ hSS ?_
 ·rintro w ⟨s0, s1, s2, s3, s4, s5, s6, s7, s8, s9⟩
  go_simp
 try simp only [Act.put]
 refine tq 18 (.bool true) rfl ?_ hSS ?_
 ·rintro w ⟨s0, s1, s2, s3, s4, s5, s6, s7, s8, s9⟩
  go_simp
 try simp only [Act.put]
 refine tq 20 (.agg #[I 0, .slice X 2 cx, .slice Y 1 cy, .slice R 0 cr, .string ⟨#[57]⟩]) rfl ?_ hSS ?_
 ·rintro w ⟨s0, s1, s2, s3, s4, s5, s6, s7, s8, s9⟩
  go_simp
 try simp only [Act.put]
 clear HPP
 refine wpAnyC_oneW (i := 19) (by kernel_rfl) rfl (by kernel_rfl) (fun K hK => ?_)
 go_simp
 go_at_call 25
 refine (eight_any _).mono ?_
 rintro e w8 ⟨Aw8, Bw8, Cw8, rfl, hpp, hb⟩
 have HPP := Lib.hid hpp
 clear hpp
 replace HB := Lib.hid (HB.out.trans (hb.mono HB.out.size))
 replace X0 := Lib.hid (cell_below X0.out hb)
 replace X1 := Lib.hid (cell_below X1.out hb)
 replace X2 := Lib.hid (cell_below X2.out hb)
 replace X3 := Lib.hid (cell_below X3.out hb)
 replace X4 := Lib.hid (cell_below X4.out hb)
 replace Y0 := Lib.hid (cell_below Y0.out hb)
 replace Y1 := Lib.hid (cell_below Y1.out hb)
 replace Y2 := Lib.hid (cell_below Y2.out hb)
 replace Y3 := Lib.hid (cell_below Y3.out hb)
 replace Y4 := Lib.hid (cell_below Y4.out hb)
 replace HRS := Lib.hid (HRS.out.below hb)
 clear hb
 refine hK.out _ _ (fun _ => ⟨X0.out, X1.out, X2.out, X3.out, X4.out, Y0.out, Y1.out, Y2.out, Y3.out, Y4.out⟩) ?_
 clear hK K
 try simp only [Act.put, putA, putZ, putC]
 refine wpAnyC_oneW (i := 21) (by kernel_rfl) rfl (by kernel_rfl) (fun K hK => ?_)
 go_simp
 go_at_call 11
 refine (eight_ver_any Aw8 Bw8 Cw8 X Y R cx cy cr ⟨#[57]⟩ _ HPP.out HRS.out (tab_below HT.out HB.out) (by decide) (by rw [show rval (SL ⟨#[57]⟩) = 9 by decide +kernel]; exact small_sz12 (by simp))).mono ?_
 rintro e w9 ⟨rfl, hb⟩
 rw [eight_v2]
 replace HB := Lib.hid (HB.out.trans (hb.mono HB.out.size))
 replace X0 := Lib.hid (cell_below X0.out hb)
 replace X1 := Lib.hid (cell_below X1.out hb)
 replace X2 := Lib.hid (cell_below X2.out hb)
 replace X3 := Lib.hid (cell_below X3.out hb)
 replace X4 := Lib.hid (cell_below X4.out hb)
 replace Y0 := Lib.hid (cell_below Y0.out hb)
 replace Y1 := Lib.hid (cell_below Y1.out hb)
 replace Y2 := Lib.hid (cell_below Y2.out hb)
 replace Y3 := Lib.hid (cell_below Y3.out hb)
 replace Y4 := Lib.hid (cell_below Y4.out hb)
 replace HRS := Lib.hid (HRS.out.below hb)
 replace HPP := Lib.hid (HPP.out.below hb)
 clear hb
 refine hK.out _ _ (fun _ => ⟨X0.out, X1.out, X2.out, X3.out, X4.out, Y0.out, Y1.out, Y2.out, Y3.out, Y4.out⟩) ?_
 clear hK K
 try simp only [Act.put, putA, putZ, putC]
 refine tkS ⟨X0.out, X1.out, X2.out, X3.out, X4.out, Y0.out, Y1.out, Y2.out, Y3.out, Y4.out⟩ fun hSS => ?_
 refine tq 22 (.bool true) rfl ?_ hSS ?_
 ·rintro w ⟨s0, s1, s2, s3, s4, s5, s6, s7, s8, s9⟩
  go_simp
 try simp only [Act.put, putA]
 refine tq 23 (.bool true) rfl ?_ hSS ?_
 ·rintro w ⟨s0, s1, s2, s3, s4, s5, s6, s7, s8, s9⟩
  go_simp
 try simp only [Act.put]
 refine tq 24 (.bool true) rfl ?_ hSS ?_
 ·rintro w ⟨s0, s1, s2, s3, s4, s5, s6, s7, s8, s9⟩
  go_simp
 try simp only [Act.put]
 clear HPP HRS
 refine wpAnyC_oneW (i := 25) (by kernel_rfl) rfl (by kernel_rfl) (fun K hK => ?_)
 go_simp
 have hb := below_new w9 (.cells #[.string ⟨#[49]⟩] 30)
 have HV := Lib.hid (reads_blk (xs := [Sv ⟨#[49]⟩]) (Blk.new w9 30 #[.string ⟨#[49]⟩]))
 replace HB := Lib.hid (HB.out.trans (hb.mono HB.out.size))
 replace X0 := Lib.hid (cell_below X0.out hb)
 replace X1 := Lib.hid (cell_below X1.out hb)
 replace X2 := Lib.hid (cell_below X2.out hb)
 replace X3 := Lib.hid (cell_below X3.out hb)
 replace X4 := Lib.hid (cell_below X4.out hb)
 replace Y0 := Lib.hid (cell_below Y0.out hb)
 replace Y1 := Lib.hid (cell_below Y1.out hb)
 replace Y2 := Lib.hid (cell_below Y2.out hb)
 replace Y3 := Lib.hid (cell_below Y3.out hb)
 replace Y4 := Lib.hid (cell_below Y4.out hb)
 clear hb
 refine hK.out _ _ (fun _ => ⟨X0.out, X1.out, X2.out, X3.out, X4.out, Y0.out, Y1.out, Y2.out, Y3.out, Y4.out⟩) ?_
 clear hK K
 try simp only [Act.put, putA, putZ, putC]
 generalize w9.alloc (.cells #[.string ⟨#[49]⟩] 30) = w10 at *
 generalize w9.heap.size = gv at *
 refine tq 26 (.agg #[.slice none 0 0, .slice (some ⟨gv, 0, none⟩) 1 1, .slice none 0 0]) rfl ?_ ⟨X0.out, X1.out, X2.out, X3.out, X4.out, Y0.out, Y1.out, Y2.out, Y3.out, Y4.out⟩ ?_
 ·rintro w ⟨s0, s1, s2, s3, s4, s5, s6, s7, s8, s9⟩
  go_simp
 try simp only [Act.put, putA]
 refine wpAnyC_oneW (i := 27) (by kernel_rfl) rfl (by kernel_rfl) (fun K hK => ?_)
 go_simp
 go_at_call 10
 refine (pchk_any none (some ⟨gv, 0, none⟩) none 0 0 1 1 0 0 [] [⟨#[49]⟩] [] _ ⟨⟨[], ⟨rfl, fun h => absurd h (by decide)⟩, rfl, fun i u l h => by simp at h⟩, HV.out, ⟨rfl, fun h => absurd h (by decide)⟩⟩ ⟨fun l h => (by cases h), sh1_lit (l := [⟨#[49]⟩]) (by decide +kernel), sh1_lit (l := []) (by decide +kernel)⟩ (tab_below HT.out HB.out)).mono ?_
 rintro e w11 ⟨rfl, hb⟩
 rw [one_bad]
 replace HB := Lib.hid (HB.out.trans (hb.mono HB.out.size))
 replace X0 := Lib.hid (cell_below X0.out hb)
 replace X1 := Lib.hid (cell_below X1.out hb)
 replace X2 := Lib.hid (cell_below X2.out hb)
 replace X3 := Lib.hid (cell_below X3.out hb)
 replace X4 := Lib.hid (cell_below X4.out hb)
 replace Y0 := Lib.hid (cell_below Y0.out hb)
 replace Y1 := Lib.hid (cell_below Y1.out hb)
 replace Y2 := Lib.hid (cell_below Y2.out hb)
 replace Y3 := Lib.hid (cell_below Y3.out hb)
 replace Y4 := Lib.hid (cell_below Y4.out hb)
 clear hb
 refine hK.out _ _ (fun _ => ⟨X0.out, X1.out, X2.out, X3.out, X4.out, Y0.out, Y1.out, Y2.out, Y3.out, Y4.out⟩) ?_
 clear hK K
 try simp only [Act.put, putA, putZ, putC]
 refine tkS ⟨X0.out, X1.out, X2.out, X3.out, X4.out, Y0.out, Y1.out, Y2.out, Y3.out, Y4.out⟩ fun hSS => ?_
 refine tq 28 (.bool true) rfl ?_ hSS ?_
 ·rintro w ⟨s0, s1, s2, s3, s4, s5, s6, s7, s8, s9⟩
  go_simp
 try simp only [Act.put, putA]
 refine tq 29 (.bool true) rfl ?_ hSS ?_
 ·rintro w ⟨s0, s1, s2, s3, s4, s5, s6, s7, s8, s9⟩
  go_simp
 try simp only [Act.put]
 refine on1 30 fun K hK => ?_
 go_simp
 refine hK.out _ _ (fun h => absurd h (by decide)) ?_
 clear hK K
 try simp only [Act.put, putA, putZ, putC]
 refine wpAnyC_done (by kernel_rfl) ?_ _
 go_wp2
 go_ret
 exact ⟨rfl, HB.out⟩
def lgT (s : ByteArray) : Bool := decide (12 < s.size)
def lgS (l : List ByteArray) : Bool := l.any lgT
def lgR (N : Nat) (l : List ByteArray) : Bool := decide (N < l.length) || lgS l
def lgM (N : Nat) (m : List (List ByteArray)) : Bool := decide (N < m.length) || m.any (lgR N)
theorem not_lt_le (a b : Nat) : decide (a ≤ b) = !decide (b < a) := by
 by_cases h : a ≤ b
 ·rw [decide_eq_true h, decide_eq_false (by omega)]; rfl
 ·rw [decide_eq_false h, decide_eq_true (by omega)]; rfl
theorem all_not_any {α : Type} (p : α → Bool) : ∀ l : List α, (l.all fun x => !p x) = !l.any p
 | [] => rfl
 | x :: l => by rw [List.all_cons, List.any_cons, all_not_any p l, Bool.not_or]
theorem smallB_lg (N : Nat) (m : List (List ByteArray)) : smallB N (tx2 m) = !lgM N m := by
 unfold smallB lgM
 rw [Bool.not_or, ← all_not_any, tx2, List.length_map, not_lt_le, List.all_map]
 congr 1
 congr 1
 funext l
 show (decide ((tx1 l).length ≤ N) && (tx1 l).all fun s => decide (s.length ≤ 12)) = !lgR N l
 unfold lgR lgS
 rw [Bool.not_or, ← all_not_any, tx1, List.length_map, not_lt_le, List.all_map]
 congr 1
 congr 1
 funext s
 show decide ((SL s).length ≤ 12) = _
 rw [SL_len, not_lt_le]
 rfl
set_option maxRecDepth 100000 in
theorem long_any (s : ByteArray) (w : World) : Calls Tryz.prog 29 #[.string s] w fun e w' => e = .returned (.bool (lgT s)) ∧ w' = w := by
 go_enter Tryz.func29, Tryz.ntmps29
 go_wp2
 go_ret
 exact ⟨ret_bool (decide_eq_decide.2 (by omega)), rfl⟩
set_option maxRecDepth 100000 in
set_option maxHeartbeats 400000 in
theorem idxlong_any (es : List ByteArray) (n : Nat) (A : Option Addr) (c : Nat) (w : World) (hr : Reads w w.heap.size 1 A n (es.map Sv)) (hn : n ≤ 1000000) :
  Calls Tryz.prog 58 #[.slice A n c, .func (.func 29) #[] #[]] w fun e w' => (∃ r, e = .returned (I r) ∧ decide (0 ≤ r) = es.any lgT) ∧ w' = w := by
 have HL := Lib.hid (show es.length = n by have := hr.1; simpa using this)
 have HR := Lib.hid hr
 clear hr
 go_enter Tryz.func58, Tryz.ntmps58
 go_wp2
 go_loopg [8] (n - 0) (fun r v wr => ∃ k : Nat, r = n - k ∧ v = I k ∧ k ≤ n ∧ wr = w ∧ Hid (es.any lgT = (es.drop k).any lgT))
 case atStart => exact ⟨0, rfl, rfl, by omega, rfl, rfl⟩
 case round =>
  obtain ⟨k, rfl, rfl, hk, rfl, HO⟩ := hrel
  by_cases hlt : k < n
  ·obtain ⟨x, hx⟩ : ∃ x, es[k]? = some x := ⟨_, List.getElem?_eq_getElem (by rw [HL.out]; exact hlt)⟩
   obtain ⟨b, off, u, rfl, _, hu, hc⟩ := HR.out.at1 hlt
   obtain rfl : u = Sv x := by
    rw [List.getElem?_map, hx] at hu
    simpa using hu.symm
   have HCC := Lib.hid (long_any x wr)
   clear hu
   have HO2 := Lib.hid (show es.any lgT = (lgT x || (es.drop (k + 1)).any lgT) by
    obtain ⟨h1, h2⟩ := List.getElem?_eq_some_iff.1 hx
    rw [HO.out, List.drop_eq_getElem_cons h1, h2]
    rfl)
   clear hx HO
   by_cases h0 : lgT x = true
   ·have HF := Lib.hid (show decide (0 ≤ (k : Int)) = es.any lgT by
     rw [HO2.out, h0, decide_eq_true (by omega)]; rfl)
    go_wp2_with fail
    refine HCC.out.mono ?_
    rintro e w' ⟨rfl, rfl⟩
    clear HCC
    rw [h0]
    clear HO2 h0
    go_wp2
    go_ret
    exact ⟨⟨_, rfl, HF.out⟩, rfl⟩
   ·have h0 : lgT x = false := by simpa using h0
    have HO3 := Lib.hid (show es.any lgT = (es.drop (k + 1)).any lgT by rw [HO2.out, h0]; rfl)
    go_wp2_with fail
    refine HCC.out.mono ?_
    rintro e w' ⟨rfl, rfl⟩
    clear HCC
    rw [h0]
    clear HO2 h0
    go_wp2
    go_roundg (n - (k + 1))
    case measure => omega
    case rel => exact ⟨k + 1, rfl, by go_num, by omega, rfl, HO3⟩
  ·have HF := Lib.hid (show decide (0 ≤ (-1 : Int)) = es.any lgT by
    rw [HO.out, List.drop_of_length_le (by rw [HL.out]; omega)]; rfl)
   clear HO
   go_wp2
   go_ret
   exact ⟨⟨_, rfl, HF.out⟩, rfl⟩
set_option maxRecDepth 100000 in
theorem contlong_any (es : List ByteArray) (n : Nat) (A : Option Addr) (c : Nat) (w : World) (hr : Reads w w.heap.size 1 A n (es.map Sv)) (hn : n ≤ 1000000) :
  Calls Tryz.prog 28 #[.slice A n c, .func (.func 29) #[] #[]] w fun e w' => e = .returned (.bool (lgS es)) ∧ w' = w := by
 have HX := Lib.hid (idxlong_any es n A c w hr hn)
 clear hr
 go_enter Tryz.func28, Tryz.ntmps28
 go_wp2_with fail
 refine HX.out.mono ?_
 rintro e w1 ⟨⟨r, rfl, hr⟩, rfl⟩
 have HR := Lib.hid hr
 clear hr HX
 go_wp2
 go_ret
 exact ⟨ret_bool HR.out, rfl⟩
set_option maxRecDepth 100000 in
theorem longrow_any (es : List ByteArray) (n : Nat) (A : Option Addr) (c : Nat) (N g : Nat) (w : World) (hr : Reads w w.heap.size 1 A n (es.map Sv)) (hg : w.cell? ⟨g, 0, none⟩ = some (I N)) (hN : N ≤ 1000000) :
  Calls Tryz.prog 27 #[.slice A n c, .pointer (some ⟨g, 0, none⟩)] w fun e w' => e = .returned (.bool (lgR N es)) ∧ w' = w := by
 have hl : es.length = n := by have := hr.1; simpa using this
 by_cases h : N < n
 ·have t : decide (N < n) = true := decide_eq_true h
  have HF := Lib.hid (show lgR N es = true by rw [lgR, hl, t]; rfl)
  clear hr hl
  go_enter Tryz.func27, Tryz.ntmps27
  go_wp2
  go_ret
  exact ⟨ret_bool HF.out.symm, rfl⟩
 ·have t : decide (N < n) = false := decide_eq_false h
  have HF := Lib.hid (show lgR N es = lgS es by rw [lgR, hl, t]; rfl)
  have HX := Lib.hid (contlong_any es n A c w hr (by omega))
  clear hr hl
  go_enter Tryz.func27, Tryz.ntmps27
  go_wp2_with fail
  refine HX.out.mono ?_
  rintro e w1 ⟨rfl, rfl⟩
  clear HX
  go_wp2
  go_ret
  exact ⟨ret_bool HF.out.symm, rfl⟩
set_option maxRecDepth 100000 in
set_option maxHeartbeats 400000 in
theorem idxrow_any (es : List (List ByteArray)) (n : Nat) (A : Option Addr) (c : Nat) (N g : Nat) (w : World) (hr : SMat w A n es) (hg : w.cell? ⟨g, 0, none⟩ = some (I N)) (hN : N ≤ 1000000) (hn : n ≤ 1000000) :
  Calls Tryz.prog 57 #[.slice A n c, .func (.func 27) #[] #[.pointer (some ⟨g, 0, none⟩)]] w fun e w' => (∃ r, e = .returned (I r) ∧ decide (0 ≤ r) = es.any (lgR N)) ∧ w' = w := by
 have HL := Lib.hid (show es.length = n by obtain ⟨_, _, h, _⟩ := hr; exact h)
 have HR := Lib.hid hr
 clear hr
 go_enter Tryz.func57, Tryz.ntmps57
 go_wp2
 go_loopg [8] (n - 0) (fun r v wr => ∃ k : Nat, r = n - k ∧ v = I k ∧ k ≤ n ∧ wr = w ∧ Hid (es.any (lgR N) = (es.drop k).any (lgR N)))
 case atStart => exact ⟨0, rfl, rfl, by omega, rfl, rfl⟩
 case round =>
  obtain ⟨k, rfl, rfl, hk, rfl, HO⟩ := hrel
  by_cases hlt : k < n
  ·obtain ⟨x, hx⟩ : ∃ x, es[k]? = some x := ⟨_, List.getElem?_eq_getElem (by rw [HL.out]; exact hlt)⟩
   obtain ⟨b, off, B, d, rfl, hc, hrx⟩ := HR.out.at_ hlt x hx
   have HCC := Lib.hid (longrow_any x x.length B d N g wr hrx hg hN)
   clear hrx
   have HO2 := Lib.hid (show es.any (lgR N) = ((lgR N) x || (es.drop (k + 1)).any (lgR N)) by
    obtain ⟨h1, h2⟩ := List.getElem?_eq_some_iff.1 hx
    rw [HO.out, List.drop_eq_getElem_cons h1, h2]
    rfl)
   clear hx HO
   by_cases h0 : (lgR N) x = true
   ·have HF := Lib.hid (show decide (0 ≤ (k : Int)) = es.any (lgR N) by
     rw [HO2.out, h0, decide_eq_true (by omega)]; rfl)
    go_wp2_with fail
    refine HCC.out.mono ?_
    rintro e w' ⟨rfl, rfl⟩
    clear HCC
    rw [h0]
    clear HO2 h0
    go_wp2
    go_ret
    exact ⟨⟨_, rfl, HF.out⟩, rfl⟩
   ·have h0 : (lgR N) x = false := by simpa using h0
    have HO3 := Lib.hid (show es.any (lgR N) = (es.drop (k + 1)).any (lgR N) by rw [HO2.out, h0]; rfl)
    go_wp2_with fail
    refine HCC.out.mono ?_
    rintro e w' ⟨rfl, rfl⟩
    clear HCC
    rw [h0]
    clear HO2 h0
    go_wp2
    go_roundg (n - (k + 1))
    case measure => omega
    case rel => exact ⟨k + 1, rfl, by go_num, by omega, rfl, HO3⟩
  ·have HF := Lib.hid (show decide (0 ≤ (-1 : Int)) = es.any (lgR N) by
    rw [HO.out, List.drop_of_length_le (by rw [HL.out]; omega)]; rfl)
   clear HO
   go_wp2
   go_ret
   exact ⟨⟨_, rfl, HF.out⟩, rfl⟩
set_option maxRecDepth 100000 in
theorem controw_any (es : List (List ByteArray)) (n : Nat) (A : Option Addr) (c : Nat) (N g : Nat) (w : World) (hr : SMat w A n es) (hg : w.cell? ⟨g, 0, none⟩ = some (I N)) (hN : N ≤ 1000000) (hn : n ≤ 1000000) :
  Calls Tryz.prog 26 #[.slice A n c, .func (.func 27) #[] #[.pointer (some ⟨g, 0, none⟩)]] w fun e w' => e = .returned (.bool (es.any (lgR N))) ∧ w' = w := by
 have HX := Lib.hid (idxrow_any es n A c N g w hr hg hN hn)
 clear hr hg
 go_enter Tryz.func26, Tryz.ntmps26
 go_wp2_with fail
 refine HX.out.mono ?_
 rintro e w1 ⟨⟨r, rfl, hr⟩, rfl⟩
 have HR := Lib.hid hr
 clear hr HX
 go_wp2
 go_ret
 exact ⟨ret_bool HR.out, rfl⟩
def SMs (w : World) (A : Option Addr) (n : Nat) (ms : List (List (List ByteArray))) : Prop :=
 ∃ vs, Reads w w.heap.size 1 A n vs ∧ ms.length = n ∧ ∀ (i : Nat) (u : Value) (m : List (List ByteArray)), vs[i]? = some u → ms[i]? = some m → ∃ B c, u = .slice B m.length c ∧ SMat w B m.length m
theorem SMs.below {w w' : World} {A : Option Addr} {n : Nat} {ms : List (List (List ByteArray))} (h : SMs w A n ms) (hb : Below w.heap.size w w') : SMs w' A n ms := by
 obtain ⟨vs, h1, h2, h3⟩ := h
 exact ⟨vs, (h1.below hb).more hb.size, h2, fun i u l a b => by
  obtain ⟨B, c, e, h⟩ := h3 i u l a b
  exact ⟨B, c, e, h.below hb⟩⟩
set_option maxRecDepth 100000 in
set_option maxHeartbeats 400000 in
theorem small_any (N : Nat) (ms : List (List (List ByteArray))) (n : Nat) (A : Option Addr) (c : Nat) (w : World) (hr : SMs w A n ms) (hN : N ≤ 1000000) (hn : n ≤ 1000000) :
  Calls Tryz.prog 8 #[I N, .slice A n c] w fun e w' => e = .returned (.bool (!ms.any (lgM N))) ∧ Below w.heap.size w w' := by
 have HL := Lib.hid (show ms.length = n by obtain ⟨_, _, h, _⟩ := hr; exact h)
 have hb0 : Below w.heap.size w (w.alloc (.cells #[I N] 3)) := (Below.refl _ _).alloc (Nat.le_refl _) _
 have HR := Lib.hid (hr.below hb0)
 have HB := Lib.hid hb0
 have hg : (w.alloc (.cells #[I N] 3)).cell? ⟨w.heap.size, 0, none⟩ = some (I N) := by rw [(Blk.new w _ _).cell]; rfl
 clear hr hb0
 go_enter Tryz.func8, Tryz.ntmps8
 go_wp2
 generalize w.alloc (Obj.cells #[I N] 3) = w1 at *
 go_loopg [9] (n - 0) (fun r v wr => ∃ k : Nat, r = n - k ∧ v = I k ∧ k ≤ n ∧ wr = w1 ∧ Hid (ms.any (lgM N) = (ms.drop k).any (lgM N)))
 case atStart => exact ⟨0, rfl, rfl, by omega, rfl, rfl⟩
 case round =>
  obtain ⟨k, rfl, rfl, hk, rfl, HO⟩ := hrel
  by_cases hlt : k < n
  ·obtain ⟨x, hx⟩ : ∃ x, ms[k]? = some x := ⟨_, List.getElem?_eq_getElem (by rw [HL.out]; exact hlt)⟩
   obtain ⟨vs, hr1, _, hr3⟩ := HR.out
   obtain ⟨b, off, u, rfl, _, hu, hc⟩ := hr1.at1 hlt
   obtain ⟨B, d, rfl, hrx⟩ := hr3 k u x hu hx
   have HO2 := Lib.hid (show ms.any (lgM N) = (lgM N x || (ms.drop (k + 1)).any (lgM N)) by
    obtain ⟨h1, h2⟩ := List.getElem?_eq_some_iff.1 hx
    rw [HO.out, List.drop_eq_getElem_cons h1, h2]
    rfl)
   clear hx HO hu hr1 hr3
   by_cases h : N < x.length
   ·have t : decide (N < x.length) = true := decide_eq_true h
    have HF := Lib.hid (show (!ms.any (lgM N)) = false by rw [HO2.out, lgM, t]; rfl)
    clear HO2 hrx
    generalize x.length = lx at *
    go_wp2
    go_ret
    exact ⟨ret_bool HF.out.symm, HB.out⟩
   ·have t : decide (N < x.length) = false := decide_eq_false h
    have HC := Lib.hid (controw_any x x.length B d N w.heap.size wr hrx hg hN (by omega))
    have HO3 := Lib.hid (show ms.any (lgM N) = (x.any (lgR N) || (ms.drop (k + 1)).any (lgM N)) by rw [HO2.out, lgM, t]; rfl)
    clear HO2 hrx
    go_wp2_with fail
    refine HC.out.mono ?_
    rintro e w' ⟨rfl, rfl⟩
    clear HC
    cases hx : x.any (lgR N) with
    | true =>
     have HF := Lib.hid (show (!ms.any (lgM N)) = false by rw [HO3.out, hx]; rfl)
     clear HO3 hx
     generalize x.length = lx at *
     go_wp2
     go_ret
     exact ⟨ret_bool HF.out.symm, HB.out⟩
    | false =>
     have HO4 := Lib.hid (show ms.any (lgM N) = (ms.drop (k + 1)).any (lgM N) by rw [HO3.out, hx]; rfl)
     clear HO3 hx
     generalize x.length = lx at *
     go_wp2
     go_roundg (n - (k + 1))
     case measure => omega
     case rel => exact ⟨k + 1, rfl, by go_num, by omega, rfl, HO4⟩
  ·have HF := Lib.hid (show (!ms.any (lgM N)) = true by rw [HO.out, List.drop_of_length_le (by rw [HL.out]; omega)]; rfl)
   clear HO
   go_wp2
   go_ret
   exact ⟨ret_bool HF.out.symm, HB.out⟩
end Go.Proofs.YtcgfdfdcbamceaaGreatDoor
