/- simplex.Check. -/
import Derived.Test.YtcgfdfdcbamceaaGreatDoorXAY
import Derived.Test.YtcgfdfdcbamceaaGreatDoorXBB
import Derived.Test.YtcgfdfdcbamceaaGreatDoorXAZ
namespace Go.Proofs.YtcgfdfdcbamceaaGreatDoor
open Go.RowKit
def chkP (a : MT) (b c : List (List UInt8)) : Int :=
 if 40 < a.length ∨ 40 < c.length then 2 else if chkM a ≠ 0 then chkM a else if chkV b ≠ 0 then chkV b else if chkV c ≠ 0 then chkV c
 else if b.length ≠ a.length ∨ (0 < a.length ∧ wd a ≠ c.length) then 3 else 0
structure PrW (w : World) (A : Option Addr) (na : Nat) (Ab : Option Addr) (nb : Nat) (Ac : Option Addr) (nc : Nat) (m : List (List ByteArray)) (lb lc : List ByteArray) : Prop where
 ma : SMat w A na m
 vb : Reads w w.heap.size 1 Ab nb (lb.map Sv)
 vc : Reads w w.heap.size 1 Ac nc (lc.map Sv)
theorem PrW.below {w w' : World} {A Ab Ac : Option Addr} {na nb nc : Nat} {m : List (List ByteArray)} {lb lc : List ByteArray} (h : PrW w A na Ab nb Ac nc m lb lc) (hb : Below w.heap.size w w') : PrW w' A na Ab nb Ac nc m lb lc :=
 ⟨h.ma.below hb, (h.vb.below hb).more hb.size, (h.vc.below hb).more hb.size⟩
theorem PrW.lens {w : World} {A Ab Ac : Option Addr} {na nb nc : Nat} {m : List (List ByteArray)} {lb lc : List ByteArray} (h : PrW w A na Ab nb Ac nc m lb lc) : (tx2 m).length = na ∧ (tx1 lb).length = nb ∧ (tx1 lc).length = nc := by
 obtain ⟨_, _, h1, _⟩ := h.ma
 have h2 := h.vb.1
 have h3 := h.vc.1
 rw [List.length_map] at h2 h3
 exact ⟨by rw [tx2, List.length_map]; exact h1, by rw [tx1, List.length_map]; omega, by rw [tx1, List.length_map]; omega⟩
structure ShP (m : List (List ByteArray)) (lb lc : List ByteArray) : Prop where
 ma : Sh2 m
 vb : Sh1 lb
 vc : Sh1 lc
set_option maxRecDepth 100000 in
set_option maxHeartbeats 20000000 in
theorem pchk_any (A Ab Ac : Option Addr) (na ca nb cb nc cc : Nat) (m : List (List ByteArray)) (lb lc : List ByteArray) (w : World) (h : PrW w A na Ab nb Ac nc m lb lc) (hs : ShP m lb lc) (htab : Tab w) :
  Calls Tryz.prog 10 #[.agg #[.slice A na ca, .slice Ab nb cb, .slice Ac nc cc]] w fun e w' => e = .returned (I (chkP (tx2 m) (tx1 lb) (tx1 lc))) ∧ Below w.heap.size w w' := by
 obtain ⟨hla, hlb, hlc⟩ := h.lens
 have hb := below_new w (.cells #[.slice A na ca, .slice Ab nb cb, .slice Ac nc cc] 27)
 have HP := Lib.hid (h.below hb)
 have HT := Lib.hid (tab_below htab hb)
 have hB := Blk.new w 27 #[.slice A na ca, .slice Ab nb cb, .slice Ac nc cc]
 have X0 := Lib.hid (show (w.alloc (.cells #[.slice A na ca, .slice Ab nb cb, .slice Ac nc cc] 27)).cell? ⟨w.heap.size, 0, none⟩ = some (.slice A na ca) from hB.cell 0)
 have X1 := Lib.hid (show (w.alloc (.cells #[.slice A na ca, .slice Ab nb cb, .slice Ac nc cc] 27)).cell? ⟨w.heap.size, 1, none⟩ = some (.slice Ab nb cb) from hB.cell 1)
 have X2 := Lib.hid (show (w.alloc (.cells #[.slice A na ca, .slice Ab nb cb, .slice Ac nc cc] 27)).cell? ⟨w.heap.size, 2, none⟩ = some (.slice Ac nc cc) from hB.cell 2)
 have HB := Lib.hid hb
 have HLA := Lib.hid hla
 have HLB := Lib.hid hlb
 have HLC := Lib.hid hlc
 have HSH := Lib.hid hs
 clear h hb htab hB hla hlb hlc hs
 have HR := Lib.hid (show chkP (tx2 m) (tx1 lb) (tx1 lc) = if 40 < na ∨ 40 < nc then 2 else if chkM (tx2 m) ≠ 0 then chkM (tx2 m) else if chkV (tx1 lb) ≠ 0 then chkV (tx1 lb) else if chkV (tx1 lc) ≠ 0 then chkV (tx1 lc) else if nb ≠ na ∨ (0 < na ∧ wd (tx2 m) ≠ nc) then 3 else 0 by rw [chkP, HLA.out, HLB.out, HLC.out])
 generalize chkP (tx2 m) (tx1 lb) (tx1 lc) = R at *
 go_enter Tryz.func10, Tryz.ntmps10
 go_upto_region 1 with (fail)
 generalize w.alloc (.cells #[.slice A na ca, .slice Ab nb cb, .slice Ac nc cc] 27) = w1 at *
 have x0 := X0.out
 have x1 := X1.out
 have x2 := X2.out
 by_cases h1 : 40 < na
 ·have t1 : decide (40 < (na : Int)) = true := decide_eq_true (by omega)
  rw [if_pos (Or.inl h1)] at HR
  clear h1
  go_wp2
  go_ret
  exact ⟨ret_int HR.out.symm, HB.out⟩
 have t1 : decide (40 < (na : Int)) = false := decide_eq_false (by omega)
 by_cases h2 : 40 < nc
 ·have t2 : decide (40 < (nc : Int)) = true := decide_eq_true (by omega)
  rw [if_pos (Or.inr h2)] at HR
  clear h1 h2
  go_wp2
  go_ret
  exact ⟨ret_int HR.out.symm, HB.out⟩
 have t2 : decide (40 < (nc : Int)) = false := decide_eq_false (by omega)
 rw [if_neg (by omega)] at HR
 have HC := Lib.hid (chkM_any m na A ca w1 HP.out.ma HSH.out.ma HT.out)
 go_wp2_with fail
 refine HC.out.mono ?_
 rintro e w2 ⟨rfl, hb⟩
 clear HC t1 t2 x0 x1 x2
 replace X0 := Lib.hid (cell_below X0.out hb)
 replace X1 := Lib.hid (cell_below X1.out hb)
 replace X2 := Lib.hid (cell_below X2.out hb)
 replace HP := Lib.hid (HP.out.below hb)
 replace HT := Lib.hid (tab_below HT.out hb)
 replace HB := Lib.hid (HB.out.trans (hb.mono HB.out.size))
 clear hb
 have x0 := X0.out
 have x1 := X1.out
 have x2 := X2.out
 generalize hq : chkM (tx2 m) = cq at HR ⊢
 by_cases h3 : cq = 0
 rotate_left
 ·have t3 : (cq != 0) = true := bne_iff_ne.2 h3
  rw [if_pos h3] at HR
  clear h3 hq
  go_wp2
  go_ret
  exact ⟨ret_int HR.out.symm, HB.out⟩
 have t3 : (cq != 0) = false := by rw [h3]; rfl
 rw [if_neg (fun k => k h3)] at HR
 clear hq
 go_wp2
 clear t3 h3
 refine wp_loop_rounds 3 ?_
 rw [rounds_succ]
 go_wp2_with fail
 have hz := below_new w2 (.cells #[.slice Ab nb cb, .slice Ac nc cc] 25)
 have hY := Blk.new w2 25 #[.slice Ab nb cb, .slice Ac nc cc]
 have Y1 := Lib.hid (show (w2.alloc (.cells #[.slice Ab nb cb, .slice Ac nc cc] 25)).cell? ⟨w2.heap.size, 1, none⟩ = some (.slice Ac nc cc) from hY.cell 1)
 clear hY x0 x1 x2
 skip
 replace X0 := Lib.hid (cell_below X0.out hz)
 replace X1 := Lib.hid (cell_below X1.out hz)
 replace X2 := Lib.hid (cell_below X2.out hz)
 replace HP := Lib.hid (HP.out.below hz)
 replace HT := Lib.hid (tab_below HT.out hz)
 replace HB := Lib.hid (HB.out.trans (hz.mono HB.out.size))
 clear hz
 have x0 := X0.out
 have x1 := X1.out
 have x2 := X2.out
 have HC := Lib.hid (chkV_any lb nb Ab cb _ HP.out.vb HSH.out.vb HT.out)
 refine HC.out.mono ?_
 rintro e w3 ⟨rfl, hb⟩
 clear HC x0 x1 x2
 replace Y1 := Lib.hid (cell_below Y1.out hb)
 replace X0 := Lib.hid (cell_below X0.out hb)
 replace X1 := Lib.hid (cell_below X1.out hb)
 replace X2 := Lib.hid (cell_below X2.out hb)
 replace HP := Lib.hid (HP.out.below hb)
 replace HT := Lib.hid (tab_below HT.out hb)
 replace HB := Lib.hid (HB.out.trans (hb.mono HB.out.size))
 clear hb
 have x0 := X0.out
 have x1 := X1.out
 have x2 := X2.out
 have y1 := Y1.out
 generalize hq : chkV (tx1 lb) = cq at HR ⊢
 by_cases h3 : cq = 0
 rotate_left
 ·have t3 : (cq != 0) = true := bne_iff_ne.2 h3
  rw [if_pos h3] at HR
  clear h3 hq
  go_wp2
  go_ret
  exact ⟨ret_int HR.out.symm, HB.out⟩
 have t3 : (cq != 0) = false := by rw [h3]; rfl
 rw [if_neg (fun k => k h3)] at HR
 clear hq
 go_wp2
 clear t3 h3
 rw [rounds_succ]
 go_wp2_with fail
 have HC := Lib.hid (chkV_any lc nc Ac cc _ HP.out.vc HSH.out.vc HT.out)
 refine HC.out.mono ?_
 rintro e w4 ⟨rfl, hb⟩
 clear HC x0 x1 x2 y1 Y1
 replace X0 := Lib.hid (cell_below X0.out hb)
 replace X1 := Lib.hid (cell_below X1.out hb)
 replace X2 := Lib.hid (cell_below X2.out hb)
 replace HP := Lib.hid (HP.out.below hb)
 replace HT := Lib.hid (tab_below HT.out hb)
 replace HB := Lib.hid (HB.out.trans (hb.mono HB.out.size))
 clear hb
 have x0 := X0.out
 have x1 := X1.out
 have x2 := X2.out
 generalize hq : chkV (tx1 lc) = cq at HR ⊢
 by_cases h3 : cq = 0
 rotate_left
 ·have t3 : (cq != 0) = true := bne_iff_ne.2 h3
  rw [if_pos h3] at HR
  clear h3 hq
  go_wp2
  go_ret
  exact ⟨ret_int HR.out.symm, HB.out⟩
 have t3 : (cq != 0) = false := by rw [h3]; rfl
 rw [if_neg (fun k => k h3)] at HR
 clear hq
 go_wp2
 rw [rounds_succ]
 go_upto_region 13 with (fail)
 clear t3 h3 x0 x1 x2
 have hd := below_draw w4
 replace X0 := Lib.hid (cell_below X0.out hd)
 replace X1 := Lib.hid (cell_below X1.out hd)
 replace X2 := Lib.hid (cell_below X2.out hd)
 replace HP := Lib.hid (HP.out.below hd)
 replace HB := Lib.hid (HB.out.trans (hd.mono HB.out.size))
 clear hd HT
 by_cases h4 : nb = na
 rotate_left
 ·have tn : ((nb : Int) != (na : Int)) = true := bne_iff_ne.2 fun e => h4 (by omega)
  rw [if_pos (Or.inl h4)] at HR
  refine wp_region_c (fun w' => w'.cell? ⟨w.heap.size, 0, none⟩ = some (.slice A na ca) ∧ w'.cell? ⟨w.heap.size, 1, none⟩ = some (.slice Ab nb cb) ∧ w'.cell? ⟨w.heap.size, 2, none⟩ = some (.slice Ac nc cc)) 23 (by kernel_rfl) ?_
  generalize w4.drew = w5 at *
  refine tq 0 (.pointer (some ⟨w.heap.size, 1, none⟩)) rfl ?_ ⟨X0.out, X1.out, X2.out⟩ ?_
  ·rintro w ⟨s0, s1, s2⟩
   go_simp
  try simp only [Act.put, putA]
  refine tq 1 (.slice Ab nb cb) rfl ?_ ⟨X0.out, X1.out, X2.out⟩ ?_
  ·rintro w ⟨s0, s1, s2⟩
   go_simp
  try simp only [Act.put]
  refine tq 2 (I nb) rfl ?_ ⟨X0.out, X1.out, X2.out⟩ ?_
  ·rintro w ⟨s0, s1, s2⟩
   go_simp
  try simp only [Act.put]
  refine tq 3 (.pointer (some ⟨w.heap.size, 0, none⟩)) rfl ?_ ⟨X0.out, X1.out, X2.out⟩ ?_
  ·rintro w ⟨s0, s1, s2⟩
   go_simp
  try simp only [Act.put]
  refine tq 4 (.slice A na ca) rfl ?_ ⟨X0.out, X1.out, X2.out⟩ ?_
  ·rintro w ⟨s0, s1, s2⟩
   go_simp
  try simp only [Act.put]
  refine tq 5 (I na) rfl ?_ ⟨X0.out, X1.out, X2.out⟩ ?_
  ·rintro w ⟨s0, s1, s2⟩
   go_simp
  try simp only [Act.put]
  refine tq 6 (.bool ((nb : Int) != (na : Int))) rfl ?_ ⟨X0.out, X1.out, X2.out⟩ ?_
  ·rintro w ⟨s0, s1, s2⟩
   go_simp
  try simp only [Act.put]
  refine tq 7 (.bool ((nb : Int) != (na : Int))) rfl ?_ ⟨X0.out, X1.out, X2.out⟩ ?_
  ·rintro w ⟨s0, s1, s2⟩
   go_simp
  try simp only [Act.put]
  rw [tn]
  refine tk8 8 undef rfl (Or.inr ⟨by kernel_rfl, rfl⟩) ⟨X0.out, X1.out, X2.out⟩ ?_
  try simp only [Act.put]
  refine tk8 9 undef rfl (Or.inr ⟨by kernel_rfl, rfl⟩) ⟨X0.out, X1.out, X2.out⟩ ?_
  try simp only [Act.put]
  refine tk8 10 undef rfl (Or.inr ⟨by kernel_rfl, rfl⟩) ⟨X0.out, X1.out, X2.out⟩ ?_
  try simp only [Act.put]
  refine tk8 11 undef rfl (Or.inr ⟨by kernel_rfl, rfl⟩) ⟨X0.out, X1.out, X2.out⟩ ?_
  try simp only [Act.put]
  refine tk8 12 undef rfl (Or.inr ⟨by kernel_rfl, rfl⟩) ⟨X0.out, X1.out, X2.out⟩ ?_
  try simp only [Act.put]
  refine tk8 13 undef rfl (Or.inr ⟨by kernel_rfl, rfl⟩) ⟨X0.out, X1.out, X2.out⟩ ?_
  try simp only [Act.put]
  refine tk8 14 undef rfl (Or.inr ⟨by kernel_rfl, rfl⟩) ⟨X0.out, X1.out, X2.out⟩ ?_
  try simp only [Act.put]
  refine tk8 15 undef rfl (Or.inr ⟨by kernel_rfl, rfl⟩) ⟨X0.out, X1.out, X2.out⟩ ?_
  try simp only [Act.put]
  refine tk8 16 undef rfl (Or.inr ⟨by kernel_rfl, rfl⟩) ⟨X0.out, X1.out, X2.out⟩ ?_
  try simp only [Act.put]
  refine tk8 17 undef rfl (Or.inr ⟨by kernel_rfl, rfl⟩) ⟨X0.out, X1.out, X2.out⟩ ?_
  try simp only [Act.put]
  refine tk8 18 undef rfl (Or.inr ⟨by kernel_rfl, rfl⟩) ⟨X0.out, X1.out, X2.out⟩ ?_
  try simp only [Act.put]
  refine tk8 19 undef rfl (Or.inr ⟨by kernel_rfl, rfl⟩) ⟨X0.out, X1.out, X2.out⟩ ?_
  try simp only [Act.put]
  refine tk8 20 undef rfl (Or.inr ⟨by kernel_rfl, rfl⟩) ⟨X0.out, X1.out, X2.out⟩ ?_
  try simp only [Act.put]
  refine tk8 21 undef rfl (Or.inr ⟨by kernel_rfl, rfl⟩) ⟨X0.out, X1.out, X2.out⟩ ?_
  try simp only [Act.put]
  refine tk8 22 undef rfl (Or.inr ⟨by kernel_rfl, rfl⟩) ⟨X0.out, X1.out, X2.out⟩ ?_
  try simp only [Act.put]
  clear tn h4
  refine on1 23 fun K hK => ?_
  go_simp
  refine hK.out _ _ (fun h => absurd h (by decide)) ?_
  clear hK K
  try simp only [Act.put, putA, putZ, putC]
  refine wpAnyC_done (by kernel_rfl) ?_ _
  go_wp2
  go_ret
  exact ⟨ret_int HR.out.symm, HB.out⟩
 have tn : ((nb : Int) != (na : Int)) = false := by rw [h4]; simp
 by_cases h5 : 0 < na
 rotate_left
 ·have t5 : decide (0 < (na : Int)) = false := decide_eq_false (by omega)
  rw [if_neg (by omega)] at HR
  refine wp_region_c (fun w' => w'.cell? ⟨w.heap.size, 0, none⟩ = some (.slice A na ca) ∧ w'.cell? ⟨w.heap.size, 1, none⟩ = some (.slice Ab nb cb) ∧ w'.cell? ⟨w.heap.size, 2, none⟩ = some (.slice Ac nc cc)) 23 (by kernel_rfl) ?_
  generalize w4.drew = w5 at *
  refine tq 0 (.pointer (some ⟨w.heap.size, 1, none⟩)) rfl ?_ ⟨X0.out, X1.out, X2.out⟩ ?_
  ·rintro w ⟨s0, s1, s2⟩
   go_simp
  try simp only [Act.put, putA]
  refine tq 1 (.slice Ab nb cb) rfl ?_ ⟨X0.out, X1.out, X2.out⟩ ?_
  ·rintro w ⟨s0, s1, s2⟩
   go_simp
  try simp only [Act.put]
  refine tq 2 (I nb) rfl ?_ ⟨X0.out, X1.out, X2.out⟩ ?_
  ·rintro w ⟨s0, s1, s2⟩
   go_simp
  try simp only [Act.put]
  refine tq 3 (.pointer (some ⟨w.heap.size, 0, none⟩)) rfl ?_ ⟨X0.out, X1.out, X2.out⟩ ?_
  ·rintro w ⟨s0, s1, s2⟩
   go_simp
  try simp only [Act.put]
  refine tq 4 (.slice A na ca) rfl ?_ ⟨X0.out, X1.out, X2.out⟩ ?_
  ·rintro w ⟨s0, s1, s2⟩
   go_simp
  try simp only [Act.put]
  refine tq 5 (I na) rfl ?_ ⟨X0.out, X1.out, X2.out⟩ ?_
  ·rintro w ⟨s0, s1, s2⟩
   go_simp
  try simp only [Act.put]
  refine tq 6 (.bool ((nb : Int) != (na : Int))) rfl ?_ ⟨X0.out, X1.out, X2.out⟩ ?_
  ·rintro w ⟨s0, s1, s2⟩
   go_simp
  try simp only [Act.put]
  refine tq 7 (.bool ((nb : Int) != (na : Int))) rfl ?_ ⟨X0.out, X1.out, X2.out⟩ ?_
  ·rintro w ⟨s0, s1, s2⟩
   go_simp
  try simp only [Act.put]
  rw [tn]
  refine tq 8 (.pointer (some ⟨w.heap.size, 0, none⟩)) rfl ?_ ⟨X0.out, X1.out, X2.out⟩ ?_
  ·rintro w ⟨s0, s1, s2⟩
   go_simp
  try simp only [Act.put]
  refine tq 9 (.slice A na ca) rfl ?_ ⟨X0.out, X1.out, X2.out⟩ ?_
  ·rintro w ⟨s0, s1, s2⟩
   go_simp
  try simp only [Act.put]
  refine tq 10 (I na) rfl ?_ ⟨X0.out, X1.out, X2.out⟩ ?_
  ·rintro w ⟨s0, s1, s2⟩
   go_simp
  try simp only [Act.put]
  refine tq 11 (.bool false) rfl ?_ ⟨X0.out, X1.out, X2.out⟩ ?_
  ·rintro w ⟨s0, s1, s2⟩
   go_simp
  try simp only [Act.put]
  refine tq 12 (.bool false) rfl ?_ ⟨X0.out, X1.out, X2.out⟩ ?_
  ·rintro w ⟨s0, s1, s2⟩
   go_simp
  try simp only [Act.put]
  refine tk8 13 undef rfl (Or.inr ⟨by kernel_rfl, rfl⟩) ⟨X0.out, X1.out, X2.out⟩ ?_
  try simp only [Act.put]
  refine tk8 14 undef rfl (Or.inr ⟨by kernel_rfl, rfl⟩) ⟨X0.out, X1.out, X2.out⟩ ?_
  try simp only [Act.put]
  refine tk8 15 undef rfl (Or.inr ⟨by kernel_rfl, rfl⟩) ⟨X0.out, X1.out, X2.out⟩ ?_
  try simp only [Act.put]
  refine tk8 16 undef rfl (Or.inr ⟨by kernel_rfl, rfl⟩) ⟨X0.out, X1.out, X2.out⟩ ?_
  try simp only [Act.put]
  refine tk8 17 undef rfl (Or.inr ⟨by kernel_rfl, rfl⟩) ⟨X0.out, X1.out, X2.out⟩ ?_
  try simp only [Act.put]
  refine tk8 18 undef rfl (Or.inr ⟨by kernel_rfl, rfl⟩) ⟨X0.out, X1.out, X2.out⟩ ?_
  try simp only [Act.put]
  refine tk8 19 undef rfl (Or.inr ⟨by kernel_rfl, rfl⟩) ⟨X0.out, X1.out, X2.out⟩ ?_
  try simp only [Act.put]
  refine tk8 20 undef rfl (Or.inr ⟨by kernel_rfl, rfl⟩) ⟨X0.out, X1.out, X2.out⟩ ?_
  try simp only [Act.put]
  refine tk8 21 undef rfl (Or.inr ⟨by kernel_rfl, rfl⟩) ⟨X0.out, X1.out, X2.out⟩ ?_
  try simp only [Act.put]
  refine tq 22 (.bool false) rfl ?_ ⟨X0.out, X1.out, X2.out⟩ ?_
  ·rintro w ⟨s0, s1, s2⟩
   go_simp
  try simp only [Act.put]
  clear tn h4 t5
  refine on1 23 fun K hK => ?_
  go_simp
  refine hK.out _ _ (fun h => absurd h (by decide)) ?_
  clear hK K
  try simp only [Act.put, putA, putZ, putC]
  refine wpAnyC_done (by kernel_rfl) ?_ _
  go_wp2
  go_ret
  exact ⟨ret_int HR.out.symm, HB.out⟩
 have t5 : decide (0 < (na : Int)) = true := decide_eq_true (by omega)
 obtain ⟨x, hx⟩ : ∃ x, m[0]? = some x := ⟨_, List.getElem?_eq_getElem (by have := HLA.out; rw [tx2, List.length_map] at this; omega)⟩
 have HWD := Lib.hid (show wd (tx2 m) = x.length by rw [wd_tx, head_get m x [] hx])
 obtain ⟨b0, o0, B0, c0, rfl, hc, _⟩ := HP.out.ma.at_ h5 x hx
 rw [Nat.add_zero] at hc
 have XR := Lib.hid hc
 clear hc hx
 rw [HWD.out] at HR
 clear HWD HP HLA HLB HLC HSH
 generalize x.length = l0 at *
 by_cases h6 : l0 = nc
 ·have t6 : ((l0 : Int) != (nc : Int)) = false := by rw [h6]; simp
  rw [if_neg (by omega)] at HR
  refine wp_region_c (fun w' => w'.cell? ⟨w.heap.size, 0, none⟩ = some (.slice (some ⟨b0, o0, none⟩) na ca) ∧ w'.cell? ⟨w.heap.size, 1, none⟩ = some (.slice Ab nb cb) ∧ w'.cell? ⟨w.heap.size, 2, none⟩ = some (.slice Ac nc cc) ∧ w'.cell? ⟨b0, o0, none⟩ = some (.slice B0 l0 c0)) 23 (by kernel_rfl) ?_
  generalize w4.drew = w5 at *
  refine tkS ⟨X0.out, X1.out, X2.out, XR.out⟩ fun hSS => ?_
  refine tq 0 (.pointer (some ⟨w.heap.size, 1, none⟩)) rfl ?_ hSS ?_
  ·rintro w ⟨s0, s1, s2, s3⟩
   go_simp
  try simp only [Act.put, putA]
  refine tq 1 (.slice Ab nb cb) rfl ?_ hSS ?_
  ·rintro w ⟨s0, s1, s2, s3⟩
   go_simp
  try simp only [Act.put]
  refine tq 2 (I nb) rfl ?_ hSS ?_
  ·rintro w ⟨s0, s1, s2, s3⟩
   go_simp
  try simp only [Act.put]
  refine tq 3 (.pointer (some ⟨w.heap.size, 0, none⟩)) rfl ?_ hSS ?_
  ·rintro w ⟨s0, s1, s2, s3⟩
   go_simp
  try simp only [Act.put]
  refine tq 4 (.slice (some ⟨b0, o0, none⟩) na ca) rfl ?_ hSS ?_
  ·rintro w ⟨s0, s1, s2, s3⟩
   go_simp
  try simp only [Act.put]
  refine tq 5 (I na) rfl ?_ hSS ?_
  ·rintro w ⟨s0, s1, s2, s3⟩
   go_simp
  try simp only [Act.put]
  refine tq 6 (.bool ((nb : Int) != (na : Int))) rfl ?_ hSS ?_
  ·rintro w ⟨s0, s1, s2, s3⟩
   go_simp
  try simp only [Act.put]
  refine tq 7 (.bool ((nb : Int) != (na : Int))) rfl ?_ hSS ?_
  ·rintro w ⟨s0, s1, s2, s3⟩
   go_simp
  try simp only [Act.put]
  rw [tn]
  refine tkS ⟨X0.out, X1.out, X2.out, XR.out⟩ fun hSS => ?_
  refine tq 8 (.pointer (some ⟨w.heap.size, 0, none⟩)) rfl ?_ hSS ?_
  ·rintro w ⟨s0, s1, s2, s3⟩
   go_simp
  try simp only [Act.put]
  refine tq 9 (.slice (some ⟨b0, o0, none⟩) na ca) rfl ?_ hSS ?_
  ·rintro w ⟨s0, s1, s2, s3⟩
   go_simp
  try simp only [Act.put]
  refine tq 10 (I na) rfl ?_ hSS ?_
  ·rintro w ⟨s0, s1, s2, s3⟩
   go_simp
  try simp only [Act.put]
  refine tq 11 (.bool true) rfl ?_ hSS ?_
  ·rintro w ⟨s0, s1, s2, s3⟩
   go_simp
  try simp only [Act.put]
  refine tq 12 (.bool true) rfl ?_ hSS ?_
  ·rintro w ⟨s0, s1, s2, s3⟩
   go_simp
  try simp only [Act.put]
  refine tq 13 (.pointer (some ⟨w.heap.size, 0, none⟩)) rfl ?_ hSS ?_
  ·rintro w ⟨s0, s1, s2, s3⟩
   go_simp
  try simp only [Act.put]
  refine tq 14 (.slice (some ⟨b0, o0, none⟩) na ca) rfl ?_ hSS ?_
  ·rintro w ⟨s0, s1, s2, s3⟩
   go_simp
  try simp only [Act.put]
  refine tq 15 (.pointer (some ⟨b0, o0, none⟩)) rfl ?_ hSS ?_
  ·rintro w ⟨s0, s1, s2, s3⟩
   go_simp
  try simp only [Act.put]
  refine tq 16 (.slice B0 l0 c0) rfl ?_ hSS ?_
  ·rintro w ⟨s0, s1, s2, s3⟩
   go_simp
  try simp only [Act.put]
  refine tq 17 (I l0) rfl ?_ hSS ?_
  ·rintro w ⟨s0, s1, s2, s3⟩
   go_simp
  try simp only [Act.put]
  refine tq 18 (.pointer (some ⟨w.heap.size, 2, none⟩)) rfl ?_ hSS ?_
  ·rintro w ⟨s0, s1, s2, s3⟩
   go_simp
  try simp only [Act.put]
  refine tq 19 (.slice Ac nc cc) rfl ?_ hSS ?_
  ·rintro w ⟨s0, s1, s2, s3⟩
   go_simp
  try simp only [Act.put]
  refine tq 20 (I nc) rfl ?_ hSS ?_
  ·rintro w ⟨s0, s1, s2, s3⟩
   go_simp
  try simp only [Act.put]
  refine tq 21 (.bool false) rfl ?_ hSS ?_
  ·rintro w ⟨s0, s1, s2, s3⟩
   go_simp
  try simp only [Act.put]
  refine tq 22 (.bool false) rfl ?_ hSS ?_
  ·rintro w ⟨s0, s1, s2, s3⟩
   go_simp
  try simp only [Act.put]
  clear tn h4 t5 t6 h6
  refine on1 23 fun K hK => ?_
  go_simp
  refine hK.out _ _ (fun h => absurd h (by decide)) ?_
  clear hK K
  try simp only [Act.put, putA, putZ, putC]
  refine wpAnyC_done (by kernel_rfl) ?_ _
  go_wp2
  go_ret
  exact ⟨ret_int HR.out.symm, HB.out⟩
 ·have t6 : ((l0 : Int) != (nc : Int)) = true := bne_iff_ne.2 fun e => h6 (by omega)
  rw [if_pos (Or.inr ⟨h5, h6⟩)] at HR
  refine wp_region_c (fun w' => w'.cell? ⟨w.heap.size, 0, none⟩ = some (.slice (some ⟨b0, o0, none⟩) na ca) ∧ w'.cell? ⟨w.heap.size, 1, none⟩ = some (.slice Ab nb cb) ∧ w'.cell? ⟨w.heap.size, 2, none⟩ = some (.slice Ac nc cc) ∧ w'.cell? ⟨b0, o0, none⟩ = some (.slice B0 l0 c0)) 23 (by kernel_rfl) ?_
  generalize w4.drew = w5 at *
  refine tkS ⟨X0.out, X1.out, X2.out, XR.out⟩ fun hSS => ?_
  refine tq 0 (.pointer (some ⟨w.heap.size, 1, none⟩)) rfl ?_ hSS ?_
  ·rintro w ⟨s0, s1, s2, s3⟩
   go_simp
  try simp only [Act.put, putA]
  refine tq 1 (.slice Ab nb cb) rfl ?_ hSS ?_
  ·rintro w ⟨s0, s1, s2, s3⟩
   go_simp
  try simp only [Act.put]
  refine tq 2 (I nb) rfl ?_ hSS ?_
  ·rintro w ⟨s0, s1, s2, s3⟩
   go_simp
  try simp only [Act.put]
  refine tq 3 (.pointer (some ⟨w.heap.size, 0, none⟩)) rfl ?_ hSS ?_
  ·rintro w ⟨s0, s1, s2, s3⟩
   go_simp
  try simp only [Act.put]
  refine tq 4 (.slice (some ⟨b0, o0, none⟩) na ca) rfl ?_ hSS ?_
  ·rintro w ⟨s0, s1, s2, s3⟩
   go_simp
  try simp only [Act.put]
  refine tq 5 (I na) rfl ?_ hSS ?_
  ·rintro w ⟨s0, s1, s2, s3⟩
   go_simp
  try simp only [Act.put]
  refine tq 6 (.bool ((nb : Int) != (na : Int))) rfl ?_ hSS ?_
  ·rintro w ⟨s0, s1, s2, s3⟩
   go_simp
  try simp only [Act.put]
  refine tq 7 (.bool ((nb : Int) != (na : Int))) rfl ?_ hSS ?_
  ·rintro w ⟨s0, s1, s2, s3⟩
   go_simp
  try simp only [Act.put]
  rw [tn]
  refine tkS ⟨X0.out, X1.out, X2.out, XR.out⟩ fun hSS => ?_
  refine tq 8 (.pointer (some ⟨w.heap.size, 0, none⟩)) rfl ?_ hSS ?_
  ·rintro w ⟨s0, s1, s2, s3⟩
   go_simp
  try simp only [Act.put]
  refine tq 9 (.slice (some ⟨b0, o0, none⟩) na ca) rfl ?_ hSS ?_
  ·rintro w ⟨s0, s1, s2, s3⟩
   go_simp
  try simp only [Act.put]
  refine tq 10 (I na) rfl ?_ hSS ?_
  ·rintro w ⟨s0, s1, s2, s3⟩
   go_simp
  try simp only [Act.put]
  refine tq 11 (.bool true) rfl ?_ hSS ?_
  ·rintro w ⟨s0, s1, s2, s3⟩
   go_simp
  try simp only [Act.put]
  refine tq 12 (.bool true) rfl ?_ hSS ?_
  ·rintro w ⟨s0, s1, s2, s3⟩
   go_simp
  try simp only [Act.put]
  refine tq 13 (.pointer (some ⟨w.heap.size, 0, none⟩)) rfl ?_ hSS ?_
  ·rintro w ⟨s0, s1, s2, s3⟩
   go_simp
  try simp only [Act.put]
  refine tq 14 (.slice (some ⟨b0, o0, none⟩) na ca) rfl ?_ hSS ?_
  ·rintro w ⟨s0, s1, s2, s3⟩
   go_simp
  try simp only [Act.put]
  refine tq 15 (.pointer (some ⟨b0, o0, none⟩)) rfl ?_ hSS ?_
  ·rintro w ⟨s0, s1, s2, s3⟩
   go_simp
  try simp only [Act.put]
  refine tq 16 (.slice B0 l0 c0) rfl ?_ hSS ?_
  ·rintro w ⟨s0, s1, s2, s3⟩
   go_simp
  try simp only [Act.put]
  refine tq 17 (I l0) rfl ?_ hSS ?_
  ·rintro w ⟨s0, s1, s2, s3⟩
   go_simp
  try simp only [Act.put]
  refine tq 18 (.pointer (some ⟨w.heap.size, 2, none⟩)) rfl ?_ hSS ?_
  ·rintro w ⟨s0, s1, s2, s3⟩
   go_simp
  try simp only [Act.put]
  refine tq 19 (.slice Ac nc cc) rfl ?_ hSS ?_
  ·rintro w ⟨s0, s1, s2, s3⟩
   go_simp
  try simp only [Act.put]
  refine tq 20 (I nc) rfl ?_ hSS ?_
  ·rintro w ⟨s0, s1, s2, s3⟩
   go_simp
  try simp only [Act.put]
  refine tq 21 (.bool true) rfl ?_ hSS ?_
  ·rintro w ⟨s0, s1, s2, s3⟩
   go_simp
  try simp only [Act.put]
  refine tq 22 (.bool true) rfl ?_ hSS ?_
  ·rintro w ⟨s0, s1, s2, s3⟩
   go_simp
  try simp only [Act.put]
  clear tn h4 t5 t6 h6
  refine on1 23 fun K hK => ?_
  go_simp
  refine hK.out _ _ (fun h => absurd h (by decide)) ?_
  clear hK K
  try simp only [Act.put, putA, putZ, putC]
  refine wpAnyC_done (by kernel_rfl) ?_ _
  go_wp2
  go_ret
  exact ⟨ret_int HR.out.symm, HB.out⟩
end Go.Proofs.YtcgfdfdcbamceaaGreatDoor
