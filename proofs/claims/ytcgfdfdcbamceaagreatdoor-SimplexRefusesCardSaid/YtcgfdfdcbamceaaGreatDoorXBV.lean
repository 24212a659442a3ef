/- simplex.lengths. simplex.Verify. -/
import Derived.Test.YtcgfdfdcbamceaaGreatDoorXAY
import Derived.Test.YtcgfdfdcbamceaaGreatDoorXAZ
import Derived.Test.YtcgfdfdcbamceaaGreatDoorXBU
namespace Go.Proofs.YtcgfdfdcbamceaaGreatDoor
open Go.RowKit
def lenB (k m n lx ly lr : Nat) : Bool := if k = 0 then decide (lx = n ∧ ly = m ∧ lr = 0) else if k = 1 then decide (lx = 0 ∧ ly = m ∧ lr = 0) else decide (lx = n ∧ ly = 0 ∧ lr = n)
theorem idx_run (w : World) (k : Nat) (hk : k < 3) (x0 x1 x2 x3 x4 x5 x6 x7 x8 : Int) : (Instr.index 120 (.agg #[I x0, I x1, I x2, I x3, I x4, I x5, I x6, I x7, I x8]) (I k)).run Tryz.prog w = .ok (if k = 0 then .agg #[I x0, I x1, I x2] else if k = 1 then .agg #[I x3, I x4, I x5] else .agg #[I x6, I x7, I x8]) w := by
 have h : Tryz.prog.underlying 120 = some (.array 3 119) := by kernel_rfl
 have hk3 : k = 0 ∨ k = 1 ∨ k = 2 := by omega
 rcases hk3 with rfl | rfl | rfl
 ·simp [Instr.index, run_underlying h, asIntOf, part, go_sem]
 ·simp [Instr.index, run_underlying h, asIntOf, part, go_sem]
 ·simp [Instr.index, run_underlying h, asIntOf, part, go_sem]
theorem three_dec (a b c x y z : Nat) : (((a : Int) == x) && (((b : Int) == y) && ((c : Int) == z))) = decide (a = x ∧ b = y ∧ c = z) := by
 have e : ∀ p q : Nat, (((p : Int)) == q) = decide (p = q) := fun p q => by
  by_cases h : p = q
  ·rw [h]; simp
  ·rw [decide_eq_false h]
   exact beq_eq_false_iff_ne.2 fun k => h (by omega)
 rw [e, e, e]
 simp
theorem eq3_run (a b c x y z : Nat) (w : World) : (Op.equalIn 10000 119 (.agg #[I a, I b, I c]) (.agg #[I x, I y, I z])).run Tryz.prog w = .ok (decide (a = x ∧ b = y ∧ c = z)) w := by
 have u3 := Tryz.underlying3
 have a3 := Tryz.isAgg3
 have z3 := Tryz.sizeOf3
 rw [← three_dec, show (10000 : Nat) = 9999 + 1 from rfl, Op.equalIn]
 simp only [Sem.run_bind, run_underlying Tryz.underlying119, Result.andThen_ok]
 simp only [Std.Legacy.Range.forIn_eq_forIn_range', Std.Legacy.Range.size, Nat.sub_zero, Nat.add_sub_cancel, Nat.div_one, List.range'_succ, List.range'_zero, List.forIn_cons, List.forIn_nil]
 go_simp
 by_cases h1 : (a : Int) = x <;> by_cases h2 : (b : Int) = y <;> by_cases h3 : (c : Int) = z <;> simp [h1, h2, h3]
set_option maxRecDepth 100000 in
set_option maxHeartbeats 4000000 in
theorem lengths_any (k m n lx ly lr cx cy cr : Nat) (X Y R : Option Addr) (s : ByteArray) (w : World) (hk : k < 3) :
  Calls Tryz.prog 36 #[.agg #[I k, .slice X lx cx, .slice Y ly cy, .slice R lr cr, .string s], I m, I n] w fun e w' => e = .returned (.bool (lenB k m n lx ly lr)) ∧ Below w.heap.size w w' := by
 obtain ⟨r, hr⟩ : ∃ r, lenB k m n lx ly lr = r := ⟨_, rfl⟩
 rw [hr]
 have HL := Lib.hid hr
 clear hr
 have hb := below_new w (.cells #[I k, .slice X lx cx, .slice Y ly cy, .slice R lr cr, .string s] 32)
 have hB := Blk.new w 32 #[I k, .slice X lx cx, .slice Y ly cy, .slice R lr cr, .string s]
 have x0 : (w.alloc (.cells #[I k, .slice X lx cx, .slice Y ly cy, .slice R lr cr, .string s] 32)).cell? ⟨w.heap.size, 0, none⟩ = some (I k) := hB.cell 0
 have x1 : (w.alloc (.cells #[I k, .slice X lx cx, .slice Y ly cy, .slice R lr cr, .string s] 32)).cell? ⟨w.heap.size, 1, none⟩ = some (.slice X lx cx) := hB.cell 1
 have x2 : (w.alloc (.cells #[I k, .slice X lx cx, .slice Y ly cy, .slice R lr cr, .string s] 32)).cell? ⟨w.heap.size, 2, none⟩ = some (.slice Y ly cy) := hB.cell 2
 have x3 : (w.alloc (.cells #[I k, .slice X lx cx, .slice Y ly cy, .slice R lr cr, .string s] 32)).cell? ⟨w.heap.size, 3, none⟩ = some (.slice R lr cr) := hB.cell 3
 have HB := Lib.hid hb
 clear hb hB
 go_enter Tryz.func36, Tryz.ntmps36
 go_upto_region 1 with (fail)
 generalize w.alloc (.cells #[I k, .slice X lx cx, .slice Y ly cy, .slice R lr cr, .string s] 32) = w1 at *
 have hk3 : k = 0 ∨ k = 1 ∨ k = 2 := by omega
 rcases hk3 with rfl | rfl | rfl
 ·have tI : (Instr.index 120 (.agg #[I n, I m, I 0, I 0, I m, I 0, I n, I 0, I n]) (I 0)).run Tryz.prog w1 = .ok (.agg #[I n, I m, I 0]) w1 := idx_run w1 0 (by decide) n m 0 0 m 0 n 0 n
  go_upto_region 2 with (fail)
  have hb := below_new w1 (.cells #[I n, I m, I 0] 119)
  have hY := Blk.new w1 119 #[I n, I m, I 0]
  have y0 : (w1.alloc (.cells #[I n, I m, I 0] 119)).cell? ⟨w1.heap.size, 0, none⟩ = some (I n) := hY.cell 0
  have y1 : (w1.alloc (.cells #[I n, I m, I 0] 119)).cell? ⟨w1.heap.size, 1, none⟩ = some (I m) := hY.cell 1
  have y2 : (w1.alloc (.cells #[I n, I m, I 0] 119)).cell? ⟨w1.heap.size, 2, none⟩ = some (I 0) := hY.cell 2
  replace x1 := cell_below x1 hb
  replace x2 := cell_below x2 hb
  replace x3 := cell_below x3 hb
  replace HB := Lib.hid (HB.out.trans (hb.mono HB.out.size))
  clear hb hY tI x0
  generalize w1.alloc (.cells #[I n, I m, I 0] 119) = w2 at *
  have tE : (Op.equalIn 10000 119 (.agg #[I lx, I ly, I lr]) (.agg #[I n, I m, I 0])).run Tryz.prog w2 = .ok (decide (lx = n ∧ ly = m ∧ lr = 0)) w2 := eq3_run lx ly lr n m 0 w2
  have hd : decide (lx = n ∧ ly = m ∧ lr = 0) = r := HL.out
  rw [hd] at tE
  clear hd HL
  go_wp2
  go_ret
  exact ⟨rfl, HB.out⟩
 ·have tI : (Instr.index 120 (.agg #[I n, I m, I 0, I 0, I m, I 0, I n, I 0, I n]) (I 1)).run Tryz.prog w1 = .ok (.agg #[I 0, I m, I 0]) w1 := idx_run w1 1 (by decide) n m 0 0 m 0 n 0 n
  go_upto_region 2 with (fail)
  have hb := below_new w1 (.cells #[I 0, I m, I 0] 119)
  have hY := Blk.new w1 119 #[I 0, I m, I 0]
  have y0 : (w1.alloc (.cells #[I 0, I m, I 0] 119)).cell? ⟨w1.heap.size, 0, none⟩ = some (I 0) := hY.cell 0
  have y1 : (w1.alloc (.cells #[I 0, I m, I 0] 119)).cell? ⟨w1.heap.size, 1, none⟩ = some (I m) := hY.cell 1
  have y2 : (w1.alloc (.cells #[I 0, I m, I 0] 119)).cell? ⟨w1.heap.size, 2, none⟩ = some (I 0) := hY.cell 2
  replace x1 := cell_below x1 hb
  replace x2 := cell_below x2 hb
  replace x3 := cell_below x3 hb
  replace HB := Lib.hid (HB.out.trans (hb.mono HB.out.size))
  clear hb hY tI x0
  generalize w1.alloc (.cells #[I 0, I m, I 0] 119) = w2 at *
  have tE : (Op.equalIn 10000 119 (.agg #[I lx, I ly, I lr]) (.agg #[I 0, I m, I 0])).run Tryz.prog w2 = .ok (decide (lx = 0 ∧ ly = m ∧ lr = 0)) w2 := eq3_run lx ly lr 0 m 0 w2
  have hd : decide (lx = 0 ∧ ly = m ∧ lr = 0) = r := HL.out
  rw [hd] at tE
  clear hd HL
  go_wp2
  go_ret
  exact ⟨rfl, HB.out⟩
 ·have tI : (Instr.index 120 (.agg #[I n, I m, I 0, I 0, I m, I 0, I n, I 0, I n]) (I 2)).run Tryz.prog w1 = .ok (.agg #[I n, I 0, I n]) w1 := idx_run w1 2 (by decide) n m 0 0 m 0 n 0 n
  go_upto_region 2 with (fail)
  have hb := below_new w1 (.cells #[I n, I 0, I n] 119)
  have hY := Blk.new w1 119 #[I n, I 0, I n]
  have y0 : (w1.alloc (.cells #[I n, I 0, I n] 119)).cell? ⟨w1.heap.size, 0, none⟩ = some (I n) := hY.cell 0
  have y1 : (w1.alloc (.cells #[I n, I 0, I n] 119)).cell? ⟨w1.heap.size, 1, none⟩ = some (I 0) := hY.cell 1
  have y2 : (w1.alloc (.cells #[I n, I 0, I n] 119)).cell? ⟨w1.heap.size, 2, none⟩ = some (I n) := hY.cell 2
  replace x1 := cell_below x1 hb
  replace x2 := cell_below x2 hb
  replace x3 := cell_below x3 hb
  replace HB := Lib.hid (HB.out.trans (hb.mono HB.out.size))
  clear hb hY tI x0
  generalize w1.alloc (.cells #[I n, I 0, I n] 119) = w2 at *
  have tE : (Op.equalIn 10000 119 (.agg #[I lx, I ly, I lr]) (.agg #[I n, I 0, I n])).run Tryz.prog w2 = .ok (decide (lx = n ∧ ly = 0 ∧ lr = n)) w2 := eq3_run lx ly lr n 0 n w2
  have hd : decide (lx = n ∧ ly = 0 ∧ lr = n) = r := HL.out
  rw [hd] at tE
  clear hd HL
  go_wp2
  go_ret
  exact ⟨rfl, HB.out⟩
def verP (a : MT) (b c : List (List UInt8)) (k : Int) (x y r : List (List UInt8)) (v : List UInt8) : Int :=
 if chkP a b c ≠ 0 then chkP a b c else if chkV x ≠ 0 then chkV x else if chkV y ≠ 0 then chkV y else if chkV r ≠ 0 then chkV r
 else if k < 0 then 1 else if 2 < k then 1 else if lenB k.toNat b.length c.length x.length y.length r.length = false then 3
 else if k = 0 ∧ rchk v ≠ 0 then rchk v else if k ≠ 0 ∧ v ≠ [] then 3
 else if provedB k.toNat (valsM a) (valsV b) (valsV c) (valsV x) (valsV y) (valsV r) (rval v) b.length c.length = true then 0 else 21
structure GoodV (m : List (List ByteArray)) (lb lc : List ByteArray) (na nc : Nat) : Prop where
 ok : OkQ (valsM (tx2 m)) (valsV (tx1 lb)) (valsV (tx1 lc)) na nc
 va : Val2 m
 vb : Val1 lb
 vc : Val1 lc
 fa : ∀ i j, FitR 1000 (ent (valsM (tx2 m)) i j)
 fb : ∀ i, FitR 1000 ((valsV (tx1 lb)).getD i 0)
 fc : ∀ i, FitR 1000 ((valsV (tx1 lc)).getD i 0)
set_option maxRecDepth 100000 in
set_option maxHeartbeats 80000000 in
theorem verify_any (A Ab Ac : Option Addr) (na ca nb cb nc cc : Nat) (m : List (List ByteArray)) (lb lc : List ByteArray) (X Y R : Option Addr) (lx cx ly cy lr cr : Nat) (k : Int) (tx ty tr : List ByteArray) (s : ByteArray) (w : World) (h : PrW w A na Ab nb Ac nc m lb lc) (hr : RsW w X lx Y ly R lr tx ty tr) (hs : ShP m lb lc)
  (hx : Sh1 tx) (hy : Sh1 ty) (hrr : Sh1 tr) (hss : s.size ≤ 9223372036854775807) (htab : Tab w) (hg : chkP (tx2 m) (tx1 lb) (tx1 lc) = 0 → GoodV m lb lc na nc) (gx : chkV (tx1 tx) = 0 → OkV tx lx) (gy : chkV (tx1 ty) = 0 → OkV ty ly) (gr : chkV (tx1 tr) = 0 → OkV tr lr) (gv : rchk (SL s) = 0 → FitR 1000 (rval (SL s))) :
  Calls Tryz.prog 11 #[.agg #[.slice A na ca, .slice Ab nb cb, .slice Ac nc cc], .agg #[I k, .slice X lx cx, .slice Y ly cy, .slice R lr cr, .string s]] w fun e w' =>
   e = .returned (I (verP (tx2 m) (tx1 lb) (tx1 lc) k (tx1 tx) (tx1 ty) (tx1 tr) (SL s))) ∧ Below w.heap.size w w' := by
 obtain ⟨hla, hlb, hlc⟩ := h.lens
 have hlx : (tx1 tx).length = lx := by have := hr.vx.1; rw [List.length_map] at this; rw [tx1, List.length_map]; omega
 have hly : (tx1 ty).length = ly := by have := hr.vy.1; rw [List.length_map] at this; rw [tx1, List.length_map]; omega
 have hlr : (tx1 tr).length = lr := by have := hr.vr.1; rw [List.length_map] at this; rw [tx1, List.length_map]; omega
 have b1 := below_new w (.cells #[.slice A na ca, .slice Ab nb cb, .slice Ac nc cc] 27)
 have b2 := below_new (w.alloc (.cells #[.slice A na ca, .slice Ab nb cb, .slice Ac nc cc] 27)) (.cells #[I k, .slice X lx cx, .slice Y ly cy, .slice R lr cr, .string s] 32)
 have hbt := b1.trans (b2.mono b1.size)
 have HP := Lib.hid (h.below hbt)
 have HRS := Lib.hid (hr.below hbt)
 have HT := Lib.hid (tab_below htab hbt)
 have HB1 := Lib.hid hbt
 have hB := (Blk.new w 27 #[.slice A na ca, .slice Ab nb cb, .slice Ac nc cc]).below b2 (by simp)
 have hB5 := Blk.new (w.alloc (.cells #[.slice A na ca, .slice Ab nb cb, .slice Ac nc cc] 27)) 32 #[I k, .slice X lx cx, .slice Y ly cy, .slice R lr cr, .string s]
 rw [World.size_alloc] at hB5
 have P0 := Lib.hid (show ((w.alloc (.cells #[.slice A na ca, .slice Ab nb cb, .slice Ac nc cc] 27)).alloc (.cells #[I k, .slice X lx cx, .slice Y ly cy, .slice R lr cr, .string s] 32)).cell? ⟨w.heap.size, 0, none⟩ = some (.slice A na ca) from hB.cell 0)
 have P1 := Lib.hid (show ((w.alloc (.cells #[.slice A na ca, .slice Ab nb cb, .slice Ac nc cc] 27)).alloc (.cells #[I k, .slice X lx cx, .slice Y ly cy, .slice R lr cr, .string s] 32)).cell? ⟨w.heap.size, 1, none⟩ = some (.slice Ab nb cb) from hB.cell 1)
 have P2 := Lib.hid (show ((w.alloc (.cells #[.slice A na ca, .slice Ab nb cb, .slice Ac nc cc] 27)).alloc (.cells #[I k, .slice X lx cx, .slice Y ly cy, .slice R lr cr, .string s] 32)).cell? ⟨w.heap.size, 2, none⟩ = some (.slice Ac nc cc) from hB.cell 2)
 have Q0 := Lib.hid (show ((w.alloc (.cells #[.slice A na ca, .slice Ab nb cb, .slice Ac nc cc] 27)).alloc (.cells #[I k, .slice X lx cx, .slice Y ly cy, .slice R lr cr, .string s] 32)).cell? ⟨w.heap.size + 1, 0, none⟩ = some (I k) from hB5.cell 0)
 have Q1 := Lib.hid (show ((w.alloc (.cells #[.slice A na ca, .slice Ab nb cb, .slice Ac nc cc] 27)).alloc (.cells #[I k, .slice X lx cx, .slice Y ly cy, .slice R lr cr, .string s] 32)).cell? ⟨w.heap.size + 1, 1, none⟩ = some (.slice X lx cx) from hB5.cell 1)
 have Q2 := Lib.hid (show ((w.alloc (.cells #[.slice A na ca, .slice Ab nb cb, .slice Ac nc cc] 27)).alloc (.cells #[I k, .slice X lx cx, .slice Y ly cy, .slice R lr cr, .string s] 32)).cell? ⟨w.heap.size + 1, 2, none⟩ = some (.slice Y ly cy) from hB5.cell 2)
 have Q3 := Lib.hid (show ((w.alloc (.cells #[.slice A na ca, .slice Ab nb cb, .slice Ac nc cc] 27)).alloc (.cells #[I k, .slice X lx cx, .slice Y ly cy, .slice R lr cr, .string s] 32)).cell? ⟨w.heap.size + 1, 3, none⟩ = some (.slice R lr cr) from hB5.cell 3)
 have Q4 := Lib.hid (show ((w.alloc (.cells #[.slice A na ca, .slice Ab nb cb, .slice Ac nc cc] 27)).alloc (.cells #[I k, .slice X lx cx, .slice Y ly cy, .slice R lr cr, .string s] 32)).cell? ⟨w.heap.size + 1, 4, none⟩ = some (.string s) from hB5.cell 4)
 have HSH := Lib.hid hs
 have HX := Lib.hid hx
 have HY := Lib.hid hy
 have HRR := Lib.hid hrr
 have HSS := Lib.hid hss
 have HG := Lib.hid hg
 have GX := Lib.hid gx
 have GY := Lib.hid gy
 have GR := Lib.hid gr
 have GV := Lib.hid gv
 obtain ⟨z, hz⟩ : ∃ z, verP (tx2 m) (tx1 lb) (tx1 lc) k (tx1 tx) (tx1 ty) (tx1 tr) (SL s) = z := ⟨_, rfl⟩
 rw [hz]
 have HR := Lib.hid (show z = (if chkP (tx2 m) (tx1 lb) (tx1 lc) ≠ 0 then chkP (tx2 m) (tx1 lb) (tx1 lc) else if chkV (tx1 tx) ≠ 0 then chkV (tx1 tx) else if chkV (tx1 ty) ≠ 0 then chkV (tx1 ty) else if chkV (tx1 tr) ≠ 0 then chkV (tx1 tr) else if k < 0 then 1 else if 2 < k then 1 else if lenB k.toNat nb nc lx ly lr = false then 3 else if k = 0 ∧ rchk (SL s) ≠ 0 then rchk (SL s) else if k ≠ 0 ∧ SL s ≠ [] then 3 else if provedB k.toNat (valsM (tx2 m)) (valsV (tx1 lb)) (valsV (tx1 lc)) (valsV (tx1 tx)) (valsV (tx1 ty)) (valsV (tx1 tr)) (rval (SL s)) nb nc = true then 0 else 21) by rw [← hz, verP, hlb, hlc, hlx, hly, hlr])
 clear hz hlx hly hlr hla hlb hlc hB hB5 b1 b2 hbt h hr hs hx hy hrr hss htab hg gx gy gr gv
 go_enter Tryz.func11, Tryz.ntmps11
 go_upto_region 1 with (fail)
 generalize (w.alloc (.cells #[.slice A na ca, .slice Ab nb cb, .slice Ac nc cc] 27)).alloc (.cells #[I k, .slice X lx cx, .slice Y ly cy, .slice R lr cr, .string s] 32) = w2 at *
 have HB := Lib.hid (Below.refl w2.heap.size w2)
 have xP0 := cell_below P0.out HB.out
 have xP1 := cell_below P1.out HB.out
 have xP2 := cell_below P2.out HB.out
 have HC := Lib.hid (pchk_any A Ab Ac na ca nb cb nc cc m lb lc w2 HP.out HSH.out HT.out)
 go_wp2_with fail
 refine HC.out.mono ?_
 rintro e w3 ⟨rfl, hb⟩
 clear HC
 clear xP0 xP1 xP2
 replace HB := Lib.hid (HB.out.trans (hb.mono HB.out.size))
 clear hb
 generalize hq : chkP (tx2 m) (tx1 lb) (tx1 lc) = cq at HR ⊢
 by_cases h3 : cq = 0
 rotate_left
 ·have t3 : (cq != 0) = true := bne_iff_ne.2 h3
  rw [if_pos h3] at HR
  clear h3 hq
  go_wp2
  go_ret
  exact ⟨ret_int HR.out.symm, HB1.out.trans (HB.out.mono HB1.out.size)⟩
 have t3 : (cq != 0) = false := by rw [h3]; rfl
 rw [if_neg (fun k => k h3)] at HR
 have HGO := Lib.hid (HG.out (hq.trans h3))
 clear hq
 have xQ1 := cell_below Q1.out HB.out
 have xQ2 := cell_below Q2.out HB.out
 have xQ3 := cell_below Q3.out HB.out
 go_wp2
 clear t3 h3
 clear xQ1 xQ2 xQ3
 have hz := below_new w3 (.cells #[.slice X lx cx, .slice Y ly cy, .slice R lr cr] 25)
 have hY := Blk.new w3 25 #[.slice X lx cx, .slice Y ly cy, .slice R lr cr]
 replace HB := Lib.hid (HB.out.trans (hz.mono HB.out.size))
 have N0 := Lib.hid (show (w3.alloc (.cells #[.slice X lx cx, .slice Y ly cy, .slice R lr cr] 25)).cell? ⟨w3.heap.size, 0, none⟩ = some (.slice X lx cx) from hY.cell 0)
 have N1 := Lib.hid (show (w3.alloc (.cells #[.slice X lx cx, .slice Y ly cy, .slice R lr cr] 25)).cell? ⟨w3.heap.size, 1, none⟩ = some (.slice Y ly cy) from hY.cell 1)
 have N2 := Lib.hid (show (w3.alloc (.cells #[.slice X lx cx, .slice Y ly cy, .slice R lr cr] 25)).cell? ⟨w3.heap.size, 2, none⟩ = some (.slice R lr cr) from hY.cell 2)
 clear hz hY
 generalize w3.alloc (.cells #[.slice X lx cx, .slice Y ly cy, .slice R lr cr] 25) = w4 at *
 generalize w3.heap.size = gz at *
 have HN := Lib.hid (Below.refl w4.heap.size w4)
 refine wp_loop_rounds 4 ?_
 rw [rounds_succ]
 have zc := cell_below N0.out HN.out
 have HC := Lib.hid (chkV_any tx lx X cx w4 (HRS.out.below HB.out).vx HX.out (tab_below HT.out HB.out))
 go_wp2_with fail
 refine HC.out.mono ?_
 rintro e w5 ⟨rfl, hb⟩
 clear HC zc
 replace HB := Lib.hid (HB.out.trans (hb.mono HB.out.size))
 replace HN := Lib.hid (HN.out.trans (hb.mono HN.out.size))
 clear hb
 generalize hq : chkV (tx1 tx) = cq at HR ⊢
 by_cases h3 : cq = 0
 rotate_left
 ·have t3 : (cq != 0) = true := bne_iff_ne.2 h3
  rw [if_pos h3] at HR
  clear h3 hq
  go_wp2
  go_ret
  exact ⟨ret_int HR.out.symm, HB1.out.trans (HB.out.mono HB1.out.size)⟩
 have t3 : (cq != 0) = false := by rw [h3]; rfl
 rw [if_neg (fun k => k h3)] at HR
 have OX := Lib.hid (GX.out (hq.trans h3))
 clear hq
 go_wp2
 clear t3 h3
 rw [rounds_succ]
 have zc := cell_below N1.out HN.out
 have HC := Lib.hid (chkV_any ty ly Y cy w5 (HRS.out.below HB.out).vy HY.out (tab_below HT.out HB.out))
 go_wp2_with fail
 refine HC.out.mono ?_
 rintro e w6 ⟨rfl, hb⟩
 clear HC zc
 replace HB := Lib.hid (HB.out.trans (hb.mono HB.out.size))
 replace HN := Lib.hid (HN.out.trans (hb.mono HN.out.size))
 clear hb
 generalize hq : chkV (tx1 ty) = cq at HR ⊢
 by_cases h3 : cq = 0
 rotate_left
 ·have t3 : (cq != 0) = true := bne_iff_ne.2 h3
  rw [if_pos h3] at HR
  clear h3 hq
  go_wp2
  go_ret
  exact ⟨ret_int HR.out.symm, HB1.out.trans (HB.out.mono HB1.out.size)⟩
 have t3 : (cq != 0) = false := by rw [h3]; rfl
 rw [if_neg (fun k => k h3)] at HR
 have OY := Lib.hid (GY.out (hq.trans h3))
 clear hq
 go_wp2
 clear t3 h3
 rw [rounds_succ]
 have zc := cell_below N2.out HN.out
 have HC := Lib.hid (chkV_any tr lr R cr w6 (HRS.out.below HB.out).vr HRR.out (tab_below HT.out HB.out))
 go_wp2_with fail
 refine HC.out.mono ?_
 rintro e w7 ⟨rfl, hb⟩
 clear HC zc
 replace HB := Lib.hid (HB.out.trans (hb.mono HB.out.size))
 replace HN := Lib.hid (HN.out.trans (hb.mono HN.out.size))
 clear hb
 generalize hq : chkV (tx1 tr) = cq at HR ⊢
 by_cases h3 : cq = 0
 rotate_left
 ·have t3 : (cq != 0) = true := bne_iff_ne.2 h3
  rw [if_pos h3] at HR
  clear h3 hq
  go_wp2
  go_ret
  exact ⟨ret_int HR.out.symm, HB1.out.trans (HB.out.mono HB1.out.size)⟩
 have t3 : (cq != 0) = false := by rw [h3]; rfl
 rw [if_neg (fun k => k h3)] at HR
 have OR := Lib.hid (GR.out (hq.trans h3))
 clear hq
 go_wp2
 clear t3 h3
 rw [rounds_succ]
 go_upto_region 11 with (fail)
 clear N0 N1 N2 HN HRR HX HY GX GY GR HG
 have xQ0 := cell_below Q0.out HB.out
 by_cases hk0 : k < 0
 rotate_left
 have t1 : decide (k < 0) = false := decide_eq_false hk0
 rw [if_neg hk0] at HR
 by_cases hk2 : 2 < k
 rotate_left
 have t2 : decide (2 < k) = false := decide_eq_false hk2
 rw [if_neg hk2] at HR
 obtain ⟨kn, rfl⟩ : ∃ kn : Nat, k = kn := ⟨k.toNat, by omega⟩
 have hkn : kn < 3 := by omega
 rw [Int.toNat_natCast] at HR
 clear hk0 hk2
 have xP1 := cell_below P1.out HB.out
 have xP2 := cell_below P2.out HB.out
 have xQ1 := cell_below Q1.out HB.out
 have xQ2 := cell_below Q2.out HB.out
 have xQ3 := cell_below Q3.out HB.out
 have xQ4 := cell_below Q4.out HB.out
 have HC := Lib.hid (lengths_any kn nb nc lx ly lr cx cy cr X Y R s w7 hkn)
 go_wp2_with fail
 refine HC.out.mono ?_
 rintro e w8 ⟨rfl, hb⟩
 clear HC t1 t2
 clear xP1 xP2 xQ0 xQ1 xQ2 xQ3 xQ4
 replace HB := Lib.hid (HB.out.trans (hb.mono HB.out.size))
 clear hb
 cases hl : lenB kn nb nc lx ly lr with
 | false =>
  rw [hl, if_pos rfl] at HR
  go_wp2
  go_ret
  exact ⟨ret_int HR.out.symm, HB1.out.trans (HB.out.mono HB1.out.size)⟩
  | true =>
  rw [hl, if_neg (by decide)] at HR
  have xQ0 := cell_below Q0.out HB.out
  have xQ4 := cell_below Q4.out HB.out
  by_cases hk : kn = 0
  ·subst hk
   have HC := Lib.hid (rchk_any s w8 HSS.out (tab_below HT.out HB.out))
   go_wp2_with fail
   refine HC.out.mono ?_
   rintro e w9 ⟨rfl, hb⟩
   clear HC
   clear xQ0 xQ4
   replace HB := Lib.hid (HB.out.trans (hb.mono HB.out.size))
   clear hb
   generalize hq : rchk (SL s) = cq at HR ⊢
   by_cases h3 : cq = 0
   rotate_left
   ·have t3 : (cq != 0) = true := bne_iff_ne.2 h3
    rw [if_pos ⟨rfl, h3⟩] at HR
    clear h3 hq
    go_wp2
    go_ret
    exact ⟨ret_int HR.out.symm, HB1.out.trans (HB.out.mono HB1.out.size)⟩
   have t3 : (cq != 0) = false := by rw [h3]; rfl
   rw [if_neg (fun k => k.2 h3), if_neg (fun k => k.1 rfl)] at HR
   have HRC := Lib.hid (hq.trans h3)
   have HFV := Lib.hid (GV.out HRC.out)
   have HLL := Lib.hid (of_decide_eq_true (show decide (lx = nc ∧ ly = nb ∧ lr = 0) = true from hl))
   clear hq hl
   obtain rfl : nb = na := by have h1 := HGO.out.ok.hp.lb; have h2 := HP.out.lens.2.1; rw [valsV, List.length_map] at h1; omega
   have xP0 := cell_below P0.out HB.out
   have xP1 := cell_below P1.out HB.out
   have xP2 := cell_below P2.out HB.out
   have xQ0 := cell_below Q0.out HB.out
   have xQ1 := cell_below Q1.out HB.out
   have xQ2 := cell_below Q2.out HB.out
   have xQ3 := cell_below Q3.out HB.out
   have xQ4 := cell_below Q4.out HB.out
   have HC := Lib.hid (proved_any A Ab Ac nb ca cb nc cc m lb lc X Y R lx cx ly cy lr cr 0 tx ty tr s w9 (HP.out.below HB.out) (HRS.out.below HB.out) HSH.out HGO.out.va HGO.out.vb HGO.out.vc HGO.out.ok HGO.out.fa HGO.out.fb HGO.out.fc OX.out OY.out OR.out (by decide) (fun _ => ⟨HLL.out.1, HLL.out.2.1, HSS.out, HRC.out, HFV.out⟩) (fun e => absurd e (by decide)) (fun e => absurd e (by decide)))
   cases hp : provedB 0 (valsM (tx2 m)) (valsV (tx1 lb)) (valsV (tx1 lc)) (valsV (tx1 tx)) (valsV (tx1 ty)) (valsV (tx1 tr)) (rval (SL s)) nb nc with
   | false =>
    rw [hp] at HR
    rw [if_neg (by decide)] at HR
    rw [hp] at HC
    clear hp
    go_wp2_with fail
    refine HC.out.mono ?_
    rintro e w10 ⟨rfl, hb⟩
    clear HC
    clear xP0 xP1 xP2 xQ0 xQ1 xQ2 xQ3 xQ4
    replace HB := Lib.hid (HB.out.trans (hb.mono HB.out.size))
    clear hb
    go_wp2
    go_ret
    exact ⟨ret_int HR.out.symm, HB1.out.trans (HB.out.mono HB1.out.size)⟩
   | true =>
    rw [hp] at HR
    rw [if_pos rfl] at HR
    rw [hp] at HC
    clear hp
    go_wp2_with fail
    refine HC.out.mono ?_
    rintro e w10 ⟨rfl, hb⟩
    clear HC
    clear xP0 xP1 xP2 xQ0 xQ1 xQ2 xQ3 xQ4
    replace HB := Lib.hid (HB.out.trans (hb.mono HB.out.size))
    clear hb
    go_wp2
    go_ret
    exact ⟨ret_int HR.out.symm, HB1.out.trans (HB.out.mono HB1.out.size)⟩
  ·have tk : ((kn : Int) == 0) = false := beq_eq_false_iff_ne.2 fun e => hk (by omega)
   rw [if_neg (fun k => hk (by have := k.1; omega))] at HR
   by_cases hv : SL s = []
   rotate_left
   ·have tv : (s.toList == []) = false := by rw [beq_lit s [] [] (by decide +kernel)]; exact decide_eq_false hv
    rw [if_pos ⟨fun e => hk (by omega), hv⟩] at HR
    clear hv hk
    go_wp2
    go_ret
    exact ⟨ret_int HR.out.symm, HB1.out.trans (HB.out.mono HB1.out.size)⟩
   have tv : (s.toList == []) = true := by rw [beq_lit s [] [] (by decide +kernel)]; exact decide_eq_true hv
   rw [if_neg (fun k => k.2 hv)] at HR
   have HK := Lib.hid hk
   have HLL := Lib.hid hl
   clear hv hk hl
   clear xQ0 xQ4
   obtain rfl : nb = na := by have h1 := HGO.out.ok.hp.lb; have h2 := HP.out.lens.2.1; rw [valsV, List.length_map] at h1; omega
   have xP0 := cell_below P0.out HB.out
   have xP1 := cell_below P1.out HB.out
   have xP2 := cell_below P2.out HB.out
   have xQ0 := cell_below Q0.out HB.out
   have xQ1 := cell_below Q1.out HB.out
   have xQ2 := cell_below Q2.out HB.out
   have xQ3 := cell_below Q3.out HB.out
   have xQ4 := cell_below Q4.out HB.out
   have HC := Lib.hid (proved_any A Ab Ac nb ca cb nc cc m lb lc X Y R lx cx ly cy lr cr kn tx ty tr s w8 (HP.out.below HB.out) (HRS.out.below HB.out) HSH.out HGO.out.va HGO.out.vb HGO.out.vc HGO.out.ok HGO.out.fa HGO.out.fb HGO.out.fc OX.out OY.out OR.out hkn (fun e => absurd e HK.out) (fun e => by subst e; exact (of_decide_eq_true (show decide (lx = 0 ∧ ly = nb ∧ lr = 0) = true from HLL.out)).2.1) (fun e => by subst e; have h := of_decide_eq_true (show decide (lx = nc ∧ ly = 0 ∧ lr = nc) = true from HLL.out); exact ⟨h.1, h.2.2⟩))
   cases hp : provedB kn (valsM (tx2 m)) (valsV (tx1 lb)) (valsV (tx1 lc)) (valsV (tx1 tx)) (valsV (tx1 ty)) (valsV (tx1 tr)) (rval (SL s)) nb nc with
   | false =>
    rw [hp] at HR
    rw [if_neg (by decide)] at HR
    rw [hp] at HC
    clear hp
    go_wp2_with fail
    refine HC.out.mono ?_
    rintro e w10 ⟨rfl, hb⟩
    clear HC
    clear xP0 xP1 xP2 xQ0 xQ1 xQ2 xQ3 xQ4
    replace HB := Lib.hid (HB.out.trans (hb.mono HB.out.size))
    clear hb
    go_wp2
    go_ret
    exact ⟨ret_int HR.out.symm, HB1.out.trans (HB.out.mono HB1.out.size)⟩
   | true =>
    rw [hp] at HR
    rw [if_pos rfl] at HR
    rw [hp] at HC
    clear hp
    go_wp2_with fail
    refine HC.out.mono ?_
    rintro e w10 ⟨rfl, hb⟩
    clear HC
    clear xP0 xP1 xP2 xQ0 xQ1 xQ2 xQ3 xQ4
    replace HB := Lib.hid (HB.out.trans (hb.mono HB.out.size))
    clear hb
    go_wp2
    go_ret
    exact ⟨ret_int HR.out.symm, HB1.out.trans (HB.out.mono HB1.out.size)⟩
 ·have t1 : decide (k < 0) = true := decide_eq_true hk0
  rw [if_pos hk0] at HR
  go_wp2
  go_ret
  exact ⟨ret_int HR.out.symm, HB1.out.trans (HB.out.mono HB1.out.size)⟩
 ·have t2 : decide (2 < k) = true := decide_eq_true hk2
  rw [if_pos hk2] at HR
  go_wp2
  go_ret
  exact ⟨ret_int HR.out.symm, HB1.out.trans (HB.out.mono HB1.out.size)⟩
end Go.Proofs.YtcgfdfdcbamceaaGreatDoor
