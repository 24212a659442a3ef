/- (*simplex.table).pivot. -/
import Derived.Test.YtcgfdfdcbamceaaGreatDoorXBJ
namespace Go.Proofs.YtcgfdfdcbamceaaGreatDoor
open Go.RowKit
def pvI (t : TabQ) (r c i : Nat) : List (List Rat) := t.rows.mapIdx fun a row => if a = r then pivRow t r c else if a < i then clearQ (pivRow t r c) c row else row
theorem pvI_start (t : TabQ) {r : Nat} (c : Nat) (hr : r < t.rows.length) : pvI t r c 0 = t.rows.set r (pivRow t r c) := by
 apply List.ext_getElem?
 intro a
 unfold pvI
 rw [List.getElem?_mapIdx, List.getElem?_set]
 by_cases e : a = r
 ·subst e
  rw [if_pos rfl, if_pos hr, List.getElem?_eq_getElem hr, Option.map_some, if_pos rfl]
 ·rw [if_neg (fun k => e k.symm)]
  cases t.rows[a]? with
  | none => rfl
  | some x => rw [Option.map_some, if_neg e, if_neg (by omega)]
theorem pvI_row (t : TabQ) {r c i a : Nat} (ha : a < t.rows.length) (h : i ≤ a) (hne : a ≠ r) : (pvI t r c i).getD a [] = t.rows.getD a [] := by
 unfold pvI
 rw [List.getD_eq_getElem?_getD, List.getElem?_mapIdx, List.getD_eq_getElem?_getD, List.getElem?_eq_getElem ha, Option.map_some, if_neg hne, if_neg (by omega)]
theorem pvI_piv (t : TabQ) {r c i : Nat} (ha : r < t.rows.length) : (pvI t r c i).getD r [] = pivRow t r c := by
 unfold pvI
 rw [List.getD_eq_getElem?_getD, List.getElem?_mapIdx, List.getElem?_eq_getElem ha, Option.map_some, if_pos rfl]
 rfl
theorem pvI_skip (t : TabQ) (r c : Nat) : pvI t r c (r + 1) = pvI t r c r := by
 apply List.ext_getElem?
 intro a
 unfold pvI
 rw [List.getElem?_mapIdx, List.getElem?_mapIdx]
 cases t.rows[a]? with
 | none => rfl
 | some x =>
  simp only [Option.map_some]
  by_cases e : a = r
  ·rw [if_pos e, if_pos e]
  ·rw [if_neg e, if_neg e]
   by_cases h : a < r
   ·rw [if_pos h, if_pos (by omega)]
   ·rw [if_neg h, if_neg (by omega)]
theorem pvI_step (t : TabQ) {r c i : Nat} (hi : i < t.rows.length) (hne : i ≠ r) : (pvI t r c i).set i (clearQ (pivRow t r c) c (t.rows.getD i [])) = pvI t r c (i + 1) := by
 apply List.ext_getElem?
 intro a
 unfold pvI
 rw [List.getElem?_set, List.getElem?_mapIdx, List.getElem?_mapIdx, List.length_mapIdx]
 by_cases e : i = a
 ·subst e
  rw [if_pos rfl, if_pos hi, List.getElem?_eq_getElem hi, Option.map_some, if_neg hne, if_pos (by omega), List.getD_eq_getElem?_getD, List.getElem?_eq_getElem hi]
  rfl
 ·rw [if_neg e]
  cases t.rows[a]? with
  | none => rfl
  | some x =>
   simp only [Option.map_some]
   by_cases h : a = r
   ·rw [if_pos h, if_pos h]
   ·rw [if_neg h, if_neg h]
    by_cases h2 : a < i
    ·rw [if_pos h2, if_pos (by omega)]
    ·rw [if_neg h2, if_neg (by omega)]
theorem pvI_end (t : TabQ) (r c : Nat) : pvI t r c t.rows.length = (pivQ t r c).rows := by
 apply List.ext_getElem?
 intro a
 unfold pvI pivQ
 simp only
 rw [List.getElem?_mapIdx, List.getElem?_mapIdx]
 by_cases h : a < t.rows.length
 ·rw [List.getElem?_eq_getElem h, Option.map_some, Option.map_some, if_pos h]
 ·rw [List.getElem?_eq_none (by omega)]
  rfl
theorem scP_piv (t : TabQ) (r c : Nat) : scP 0 (t.rows.getD r []).length (ent t.rows r c) (t.rows.getD r []) = pivRow t r c := by
 rw [scP_end]
 unfold scRow pivRow
 apply List.ext_getElem?
 intro a
 rw [List.getElem?_mapIdx, List.getElem?_map]
 cases (t.rows.getD r [])[a]? with
 | none => rfl
 | some x => rw [Option.map_some, Option.map_some, if_pos (Nat.zero_le _)]
set_option maxRecDepth 100000 in
set_option maxHeartbeats 40000000 in
theorem pivot_any (base g cv bt ot ct cb m V W r c : Nat) (A Ab : Option Addr) (vs : List Value) (t : TabQ) (w : World) (h : TBx w base g A cv vs bt ot ct Ab cb m V W t) (hr : r < m) (hc : c ≤ W) (hm : m ≤ 900) (hW : W ≤ 900) (hne : ent t.rows r c ≠ 0)
  (f1 : ∀ i k, i ≤ m → FitR 700000 (tabF t i k)) (f2 : ∀ i k, i ≤ m → FitR 700000 (tabF (pivQ t r c) i k)) (hbase : base ≤ w.heap.size) :
  Calls Tryz.prog 84 #[.pointer (some ⟨g, 0, none⟩), I r, I c] w fun e w' => e = .returned (.tuple #[]) ∧ TBx w' base g A cv vs bt ot ct Ab cb m V W (pivQ t r c) ∧ Below base w w' := by
 have hlen := h.sh.len
 have hrl := h.sh.rowAt hr
 have HR1 := Lib.hid (fun k => show FitR 700000 ((t.rows.getD r []).getD k 0) by have := f1 r k (by omega); rw [tabF_row h.sh hr] at this; exact this)
 have HRI := Lib.hid (fun i (hi : i < m) k => show FitR 700000 ((t.rows.getD i []).getD k 0) by have := f1 i k (by omega); rw [tabF_row h.sh hi] at this; exact this)
 have HTG := Lib.hid (fun k => show FitR 700000 (t.tgt.getD k 0) by have := f1 m k (Nat.le_refl _); rw [tabF_tgt h.sh] at this; exact this)
 have HPV := Lib.hid (fun k => show FitR 700000 ((pivRow t r c).getD k 0) by have := f2 r k (by omega); rw [tabF_row (h.sh.piv hr c) hr, ent_piv h.sh hr hr, if_pos rfl, ← pivRow_at] at this; exact this)
 have HLEN := Lib.hid hlen
 have HRL := Lib.hid hrl
 have HNE := Lib.hid hne
 have HBA := Lib.hid hbase
 clear f1 f2 hlen hrl hne
 have b1 := below_new w (.cells #[.pointer (some ⟨g, 0, none⟩)] 107)
 have b2 := below_new (w.alloc (.cells #[.pointer (some ⟨g, 0, none⟩)] 107)) (.cells #[I r] 3)
 have b3 := below_new ((w.alloc (.cells #[.pointer (some ⟨g, 0, none⟩)] 107)).alloc (.cells #[I r] 3)) (.cells #[I c] 3)
 have hT := ((h.call b1).call b2).call b3
 have hB := ((Below.refl base w).trans (b1.mono hbase)).trans ((b2.trans (b3.mono b2.size)).mono (Nat.le_trans hbase b1.size))
 have c1 := (((Blk.new w 107 #[.pointer (some ⟨g, 0, none⟩)]).below b2 (by simp)).below b3 (by simp; omega)).cell 0
 have c2 := (((Blk.new (w.alloc (.cells #[.pointer (some ⟨g, 0, none⟩)] 107)) 3 #[I r])).below b3 (by simp)).cell 0
 have c3 := (Blk.new ((w.alloc (.cells #[.pointer (some ⟨g, 0, none⟩)] 107)).alloc (.cells #[I r] 3)) 3 #[I c]).cell 0
 have hsz : (((w.alloc (.cells #[.pointer (some ⟨g, 0, none⟩)] 107)).alloc (.cells #[I r] 3)).alloc (.cells #[I c] 3)).heap.size = w.heap.size + 3 := by simp
 simp only [World.size_alloc] at c2 c3
 have HT := Lib.hid hT
 have HB := Lib.hid hB
 have C1 := Lib.hid c1
 have C2 := Lib.hid c2
 have C3 := Lib.hid c3
 have hgl := h.blk.lt
 obtain ⟨gv, ov, b, o, k0, hA, hu, _, hrow0, _, _, _, hbl, hgvl⟩ := h.row hr
 subst hA
 have HU := Lib.hid hu
 have HVL := Lib.hid (show ∀ (i : Nat) (b o l k : Nat), vs[i]? = some (Value.slice (some ⟨b, o, none⟩) l k) → b < w.heap.size from fun i b o l k hu => by
  have hi : i < m := by have := (List.getElem?_eq_some_iff.1 hu).1; have := h.lm.len; have := HLEN.out; omega
  obtain ⟨_, _, b2, o2, k2, _, hu2, _, _, _, _, _, hl2, _⟩ := h.row hi
  rw [hu] at hu2
  injection hu2 with hu2
  have := sl_addr hu2
  injection this with this
  injection this with this _
  omega)
 have HBT := Lib.hid (show bt < w.heap.size from (h.tg.lt (g := bt) rfl).2)
 clear h b1 b2 b3 hT hB c1 c2 c3 hu hrow0
 go_enter Tryz.func84, Tryz.ntmps84
 go_upto_region 1 with (fail)
 generalize ((w.alloc (.cells #[.pointer (some ⟨g, 0, none⟩)] 107)).alloc (.cells #[I r] 3)).alloc (.cells #[I c] 3) = w1 at *
 generalize hgt : w.heap.size = gt at *
 have HSZ := Lib.hid hsz
 clear hsz
 have hd := below_draw w1
 replace HB := Lib.hid (HB.out.trans (hd.mono (Nat.le_trans HBA.out (hgt ▸ HB.out.size))))
 replace HSZ := Lib.hid (show gt + 3 ≤ w1.drew.heap.size by rw [show w1.drew.heap.size = w1.heap.size from rfl, HSZ.out]; exact Nat.le_refl _)
 replace HT := Lib.hid (HT.out.call hd)
 replace C1 := Lib.hid (cell_below C1.out hd)
 replace C2 := Lib.hid (cell_below C2.out hd)
 replace C3 := Lib.hid (cell_below C3.out hd)
 clear hd
 obtain ⟨nb, B1, l1, q1, B2, l2, q2, hE, hrt⟩ := HT.out.el hr hc HU.out
 have EL := Lib.hid hE
 have RX := Lib.hid hrt
 have hg0 := HT.out.blk.cell 0
 have hrc := (show _ from (HT.out.row hr))
 obtain ⟨gv2, ov2, b2, o2, k2, hA2, hu2, hcl, _⟩ := hrc
 injection hA2 with hA2
 injection hA2 with e1 e2
 subst e1 e2
 rw [HU.out] at hu2
 injection hu2 with hu2
 rw [← hu2] at hcl
 have G0 := Lib.hid (show w1.drew.cell? ⟨g, 0, none⟩ = some (.slice (some ⟨gv, ov, none⟩) m cv) from hg0)
 have GR := Lib.hid hcl
 clear hE hrt hg0 hu2 hcl
 have hrm : (r : Int) < (m : Int) := by omega
 have hcw : c < V := by rw [HT.out.hv]; omega
 refine wp_region_c (fun w' => w'.cell? ⟨gt, 0, none⟩ = some (.pointer (some ⟨g, 0, none⟩)) ∧ w'.cell? ⟨gt + 1, 0, none⟩ = some (I r) ∧ w'.cell? ⟨gt + 1 + 1, 0, none⟩ = some (I c) ∧ w'.cell? ⟨g, 0, none⟩ = some (.slice (some ⟨gv, ov, none⟩) m cv) ∧ w'.cell? ⟨gv, ov + r, none⟩ = some (.slice (some ⟨b, o, none⟩) V k0) ∧ w'.cell? ⟨b, o + c * 4, none⟩ = some (.bool nb) ∧ w'.cell? ⟨b, o + c * 4 + 1, none⟩ = some (.slice B1 l1 q1) ∧ w'.cell? ⟨b, o + c * 4 + 2, none⟩ = some (.bool false) ∧ w'.cell? ⟨b, o + c * 4 + 3, none⟩ = some (.slice B2 l2 q2)) 11 (by kernel_rfl) ?_
 generalize w1.drew = w2 at *
 refine tkS ⟨C1.out, C2.out, C3.out, G0.out, GR.out, EL.out.c0, EL.out.c1, EL.out.c2, EL.out.c3⟩ fun hSS => ?_
 refine tq 0 (.pointer (some ⟨g, 0, none⟩)) rfl ?_ hSS ?_
 ·rintro w ⟨s0, s1, s2, s3, s4, s5, s6, s7, s8⟩
  go_simp
 try simp only [Act.put, putA]
 refine tq 1 (.pointer (some ⟨g, 0, none⟩)) rfl ?_ hSS ?_
 ·rintro w ⟨s0, s1, s2, s3, s4, s5, s6, s7, s8⟩
  go_simp
 try simp only [Act.put]
 refine tq 2 (.pointer (some ⟨g, 0, none⟩)) rfl ?_ hSS ?_
 ·rintro w ⟨s0, s1, s2, s3, s4, s5, s6, s7, s8⟩
  go_simp
 try simp only [Act.put]
 refine tq 3 (.slice (some ⟨gv, ov, none⟩) m cv) rfl ?_ hSS ?_
 ·rintro w ⟨s0, s1, s2, s3, s4, s5, s6, s7, s8⟩
  go_simp
 try simp only [Act.put]
 refine tq 4 (I r) rfl ?_ hSS ?_
 ·rintro w ⟨s0, s1, s2, s3, s4, s5, s6, s7, s8⟩
  go_simp
 try simp only [Act.put]
 refine tq 5 (.pointer (some ⟨gv, ov + r, none⟩)) rfl ?_ hSS ?_
 ·rintro w ⟨s0, s1, s2, s3, s4, s5, s6, s7, s8⟩
  go_simp
 try simp only [Act.put]
 refine tq 6 (.slice (some ⟨b, o, none⟩) V k0) rfl ?_ hSS ?_
 ·rintro w ⟨s0, s1, s2, s3, s4, s5, s6, s7, s8⟩
  go_simp
 try simp only [Act.put]
 refine tq 7 (I c) rfl ?_ hSS ?_
 ·rintro w ⟨s0, s1, s2, s3, s4, s5, s6, s7, s8⟩
  go_simp
 try simp only [Act.put]
 refine tq 8 (.pointer (some ⟨b, o + c * 4, none⟩)) rfl ?_ hSS ?_
 ·rintro w ⟨s0, s1, s2, s3, s4, s5, s6, s7, s8⟩
  go_simp
 try simp only [Act.put]
 refine tq 9 (.agg #[.bool nb, .slice B1 l1 q1, .bool false, .slice B2 l2 q2]) rfl ?_ hSS ?_
 ·rintro w ⟨s0, s1, s2, s3, s4, s5, s6, s7, s8⟩
  go_simp
 try simp only [Act.put]
 refine on1 10 fun K hK => ?_
 go_simp
 obtain ⟨vz, hb⟩ := boxes1 w2 (.bool false) (.slice none 0 0) (.bool false) (.slice none 0 0)
 have hdd := boxes1 w2 (.bool nb) (.slice B1 l1 q1) (.bool false) (.slice B2 l2 q2)
 have HDV := Lib.hid hdd.1
 have HDB := Lib.hid hdd.2
 have HTD := Lib.hid (HT.out.call hdd.2)
 have C1D := Lib.hid (cell_below C1.out hdd.2)
 have C2D := Lib.hid (cell_below C2.out hdd.2)
 have C3D := Lib.hid (cell_below C3.out hdd.2)
 have RXD := Lib.hid (RX.out.ext hdd.2)
 have HBD := Lib.hid (HB.out.trans (hdd.2.mono (Nat.le_trans HBA.out (hgt ▸ HB.out.size))))
 have HVZ := Lib.hid vz
 clear hdd vz
 replace C1 := Lib.hid (cell_below C1.out hb)
 replace C2 := Lib.hid (cell_below C2.out hb)
 replace C3 := Lib.hid (cell_below C3.out hb)
 replace G0 := Lib.hid (cell_below G0.out hb)
 replace GR := Lib.hid (cell_below GR.out hb)
 replace EL := Lib.hid (EL.out.below hb)
 clear hb
 unfold ratT at *
 refine hK.out _ _ (fun _ => ⟨C1.out, C2.out, C3.out, G0.out, GR.out, EL.out.c0, EL.out.c1, EL.out.c2, EL.out.c3⟩) ?_
 clear hK K
 try simp only [Act.put, putA, putZ, putC]
 have z0 := HVZ.out.c0
 have y0 := HVZ.out.f0
 have z1 := HVZ.out.c1
 have y1 := HVZ.out.f1
 have z2 := HVZ.out.c2
 have y2 := HVZ.out.f2
 have z3 := HVZ.out.c3
 have y3 := HVZ.out.f3
 refine on1 11 fun K hK => ?_
 go_simp
 refine hK.out _ _ (fun h => absurd h (by decide)) ?_
 clear hK K z0 z1 z2 z3 y0 y1 y2 y3 HVZ HT C1 C2 C3 G0 GR EL RX HB
 try simp only [Act.put, putA, putZ, putC]
 refine wpAnyC_done (by kernel_rfl) ?_ _
 have HGD := Lib.hid (show gt + 3 ≤ w2.heap.size from HSZ.out)
 replace HSZ := Lib.hid (Nat.le_trans HSZ.out HDB.out.size)
 have HVD := Lib.hid (show Vq _ w2.heap.size (ent t.rows r c) from ⟨_, _, _, _, _, _, _, HDV.out, RXD.out⟩)
 clear HDB HDV RXD
 generalize w2.alloc (.cells #[.bool nb, .slice B1 l1 q1, .bool false, .slice B2 l2 q2] 71) = w3 at *
 generalize w2.heap.size = gd at *
 have HVV := Lib.hid (show V = W + 1 from HTD.out.hv)
 have HT := HTD
 clear HTD
 have C1 := C1D
 clear C1D
 have C2 := C2D
 clear C2D
 have C3 := C3D
 clear C3D
 have HB := HBD
 clear HBD
 have q1 := C1.out
 have q2 := C2.out
 have q3 := HT.out.blk.cell 0
 change _ = some (Value.slice (some ⟨gv, ov, none⟩) m cv) at q3
 have q4 := HT.out.rowCell hr HU.out
 go_upto_region 2 with (fail)
 go_quiet (fail)
 have hd : Below w3.heap.size w3 (w3.drewN nq) := below_drewT w3 nq
 clear q1 q2 q3 q4
 replace HB := Lib.hid (HB.out.trans (hd.mono (Nat.le_trans HBA.out (hgt ▸ HB.out.size))))
 replace HSZ := Lib.hid (Nat.le_trans HSZ.out hd.size)
 replace HT := Lib.hid (HT.out.call hd)
 replace C1 := Lib.hid (cell_below C1.out hd)
 replace C2 := Lib.hid (cell_below C2.out hd)
 replace C3 := Lib.hid (cell_below C3.out hd)
 replace HVD := Lib.hid (HVD.out.below hd)
 clear hd
 generalize w3.drewN nq = w4 at *
 obtain ⟨R1, hR1⟩ : ∃ R, t.rows.getD r [] = R := ⟨_, rfl⟩
 rw [hR1] at HR1 HRL
 obtain ⟨d, hd0⟩ : ∃ d, ent t.rows r c = d := ⟨_, rfl⟩
 rw [hd0] at HNE HVD
 have HPE := Lib.hid (show scP 0 V d R1 = pivRow t r c by rw [← scP_piv, hR1, hd0, HVV.out, HRL.out])
 have HDF := Lib.hid (show FitR 700000 d by rw [← hd0]; show FitR 700000 ((t.rows.getD r []).getD c 0); rw [hR1]; exact HR1.out c)
 have HT0 := Lib.hid (show TBx w4 base g (some ⟨gv, ov, none⟩) cv vs bt ot ct Ab cb m V W { t with rows := t.rows.set r (scP 0 0 d R1) } by rw [scP_start, ← hR1, show t.rows.set r (t.rows.getD r []) = t.rows from set_getD_self t.rows r]; exact HT.out)
 clear HT hR1 hd0
 go_wp2
 go_loopg [28] (V - 0) (fun mm v wr => ∃ j : Nat, mm = V - j ∧ v = I j ∧ j ≤ V ∧ Hid (TBx wr base g (some ⟨gv, ov, none⟩) cv vs bt ot ct Ab cb m V W { t with rows := t.rows.set r (scP 0 j d R1) }) ∧ Hid (wr.cell? ⟨gt, 0, none⟩ = some (.pointer (some ⟨g, 0, none⟩))) ∧ Hid (wr.cell? ⟨gt + 1, 0, none⟩ = some (I r)) ∧ Hid (wr.cell? ⟨gt + 1 + 1, 0, none⟩ = some (I c)) ∧ Hid (Vq wr gd d) ∧ Hid (Below base w wr) ∧ Hid (gt + 3 ≤ wr.heap.size))
 case atStart => exact ⟨0, rfl, rfl, by omega, HT0, C1, C2, C3, HVD, HB, HSZ⟩
 case round =>
  clear HT0 C1 C2 C3 HVD HB HSZ
  obtain ⟨j, rfl, rfl, hj, HT, C1, C2, C3, HVD, HB, HSZ⟩ := hrel
  obtain ⟨wa, rfl⟩ : ∃ wa : World, wa = wr := ⟨_, rfl⟩
  by_cases hjl : j < V
  ·have hjw : j ≤ W := by have := HVV.out; omega
   have hrow := getD_set_self (m := t.rows) (i := r) (r := scP 0 j d R1) (by rw [HLEN.out]; exact hr)
   have HXX := Lib.hid (show (t.rows.set r (scP 0 j d R1)).set r (((t.rows.set r (scP 0 j d R1)).getD r []).set j (R1.getD j 0 / d)) = t.rows.set r (scP 0 (j + 1) d R1) by rw [hrow, scP_set d R1 (Nat.zero_le _) (by rw [HRL.out]; have := HVV.out; omega), List.set_set])
   obtain ⟨nb1, X1, x1, y1, X2, x2, y2, hE, hrt⟩ := HT.out.el (k := j) hr hjw HU.out
   have hval : ent (t.rows.set r (scP 0 j d R1)) r j = R1.getD j 0 := by rw [ent, hrow, scP_at _ _ _ _ _ (Nat.le_refl _)]
   replace hrt : Rt wa _ (ent (t.rows.set r (scP 0 j d R1)) r j) := hrt
   rw [hval] at hrt
   have EL := Lib.hid hE
   have RX := Lib.hid hrt
   have G0 := Lib.hid (show wa.cell? ⟨g, 0, none⟩ = some (.slice (some ⟨gv, ov, none⟩) m cv) from HT.out.blk.cell 0)
   have GR := Lib.hid (HT.out.rowCell hr HU.out)
   have HFX := Lib.hid (HR1.out j)
   clear hE hrt hval hrow
   generalize hxj : R1.getD j 0 = xj at *
   clear hxj
   go_upto_region 5 with (fail)
   have hd := below_draw wa
   replace HB := Lib.hid (HB.out.trans (hd.mono (Nat.le_trans HBA.out (hgt ▸ HB.out.size))))
   replace HSZ := Lib.hid (Nat.le_trans HSZ.out hd.size)
   replace HT := Lib.hid (HT.out.call hd)
   replace C1 := Lib.hid (cell_below C1.out hd)
   replace C2 := Lib.hid (cell_below C2.out hd)
   replace C3 := Lib.hid (cell_below C3.out hd)
   replace HVD := Lib.hid (HVD.out.below hd)
   replace EL := Lib.hid (EL.out.below hd)
   replace RX := Lib.hid (RX.out.ext hd)
   replace G0 := Lib.hid (cell_below G0.out hd)
   replace GR := Lib.hid (cell_below GR.out hd)
   clear hd
   obtain ⟨fb, P1, p1, q1, P2, p2, q2, hvf, hfs⟩ := HVD.out
   have VF := Lib.hid hvf
   have RF := Lib.hid hfs
   clear hvf hfs
   refine wp_region_c (fun w' => w'.cell? ⟨gt, 0, none⟩ = some (.pointer (some ⟨g, 0, none⟩)) ∧ w'.cell? ⟨gt + 1, 0, none⟩ = some (I r) ∧ w'.cell? ⟨g, 0, none⟩ = some (.slice (some ⟨gv, ov, none⟩) m cv) ∧ w'.cell? ⟨gv, ov + r, none⟩ = some (.slice (some ⟨b, o, none⟩) V k0) ∧ w'.cell? ⟨b, o + j * 4, none⟩ = some (.bool nb1) ∧ w'.cell? ⟨b, o + j * 4 + 1, none⟩ = some (.slice X1 x1 y1) ∧ w'.cell? ⟨b, o + j * 4 + 2, none⟩ = some (.bool false) ∧ w'.cell? ⟨b, o + j * 4 + 3, none⟩ = some (.slice X2 x2 y2) ∧ w'.cell? ⟨gd, 0, none⟩ = some (.bool fb) ∧ w'.cell? ⟨gd, 1, none⟩ = some (.slice P1 p1 q1) ∧ w'.cell? ⟨gd, 2, none⟩ = some (.bool false) ∧ w'.cell? ⟨gd, 3, none⟩ = some (.slice P2 p2 q2)) 21 (by kernel_rfl) ?_
   generalize wa.drew = wb at *
   refine tkS ⟨C1.out, C2.out, G0.out, GR.out, EL.out.c0, EL.out.c1, EL.out.c2, EL.out.c3, VF.out.c0, VF.out.c1, VF.out.c2, VF.out.c3⟩ fun hSS => ?_
   refine tq 0 (.pointer (some ⟨g, 0, none⟩)) rfl ?_ hSS ?_
   ·rintro w ⟨s0, s1, s2, s3, s4, s5, s6, s7, s8, s9, s10, s11⟩
    go_simp
   try simp only [Act.put, putA]
   refine tq 1 (.pointer (some ⟨g, 0, none⟩)) rfl ?_ hSS ?_
   ·rintro w ⟨s0, s1, s2, s3, s4, s5, s6, s7, s8, s9, s10, s11⟩
    go_simp
   try simp only [Act.put]
   refine tq 2 (.pointer (some ⟨g, 0, none⟩)) rfl ?_ hSS ?_
   ·rintro w ⟨s0, s1, s2, s3, s4, s5, s6, s7, s8, s9, s10, s11⟩
    go_simp
   try simp only [Act.put]
   refine tq 3 (.slice (some ⟨gv, ov, none⟩) m cv) rfl ?_ hSS ?_
   ·rintro w ⟨s0, s1, s2, s3, s4, s5, s6, s7, s8, s9, s10, s11⟩
    go_simp
   try simp only [Act.put]
   refine tq 4 (I r) rfl ?_ hSS ?_
   ·rintro w ⟨s0, s1, s2, s3, s4, s5, s6, s7, s8, s9, s10, s11⟩
    go_simp
   try simp only [Act.put]
   refine tq 5 (.pointer (some ⟨gv, ov + r, none⟩)) rfl ?_ hSS ?_
   ·rintro w ⟨s0, s1, s2, s3, s4, s5, s6, s7, s8, s9, s10, s11⟩
    go_simp
   try simp only [Act.put]
   refine tq 6 (.slice (some ⟨b, o, none⟩) V k0) rfl ?_ hSS ?_
   ·rintro w ⟨s0, s1, s2, s3, s4, s5, s6, s7, s8, s9, s10, s11⟩
    go_simp
   try simp only [Act.put]
   refine tq 7 (I j) rfl ?_ hSS ?_
   ·rintro w ⟨s0, s1, s2, s3, s4, s5, s6, s7, s8, s9, s10, s11⟩
    go_simp
   try simp only [Act.put]
   refine tq 8 (.pointer (some ⟨g, 0, none⟩)) rfl ?_ hSS ?_
   ·rintro w ⟨s0, s1, s2, s3, s4, s5, s6, s7, s8, s9, s10, s11⟩
    go_simp
   try simp only [Act.put]
   refine tq 9 (.pointer (some ⟨g, 0, none⟩)) rfl ?_ hSS ?_
   ·rintro w ⟨s0, s1, s2, s3, s4, s5, s6, s7, s8, s9, s10, s11⟩
    go_simp
   try simp only [Act.put]
   refine tq 10 (.pointer (some ⟨g, 0, none⟩)) rfl ?_ hSS ?_
   ·rintro w ⟨s0, s1, s2, s3, s4, s5, s6, s7, s8, s9, s10, s11⟩
    go_simp
   try simp only [Act.put]
   refine tq 11 (.slice (some ⟨gv, ov, none⟩) m cv) rfl ?_ hSS ?_
   ·rintro w ⟨s0, s1, s2, s3, s4, s5, s6, s7, s8, s9, s10, s11⟩
    go_simp
   try simp only [Act.put]
   refine tq 12 (I r) rfl ?_ hSS ?_
   ·rintro w ⟨s0, s1, s2, s3, s4, s5, s6, s7, s8, s9, s10, s11⟩
    go_simp
   try simp only [Act.put]
   refine tq 13 (.pointer (some ⟨gv, ov + r, none⟩)) rfl ?_ hSS ?_
   ·rintro w ⟨s0, s1, s2, s3, s4, s5, s6, s7, s8, s9, s10, s11⟩
    go_simp
   try simp only [Act.put]
   refine tq 14 (.slice (some ⟨b, o, none⟩) V k0) rfl ?_ hSS ?_
   ·rintro w ⟨s0, s1, s2, s3, s4, s5, s6, s7, s8, s9, s10, s11⟩
    go_simp
   try simp only [Act.put]
   refine tq 15 (I j) rfl ?_ hSS ?_
   ·rintro w ⟨s0, s1, s2, s3, s4, s5, s6, s7, s8, s9, s10, s11⟩
    go_simp
   try simp only [Act.put]
   refine tq 16 (.pointer (some ⟨b, o + j * 4, none⟩)) rfl ?_ hSS ?_
   ·rintro w ⟨s0, s1, s2, s3, s4, s5, s6, s7, s8, s9, s10, s11⟩
    go_simp
   try simp only [Act.put]
   refine tq 17 (.agg #[.bool nb1, .slice X1 x1 y1, .bool false, .slice X2 x2 y2]) rfl ?_ hSS ?_
   ·rintro w ⟨s0, s1, s2, s3, s4, s5, s6, s7, s8, s9, s10, s11⟩
    go_simp
   try simp only [Act.put]
   refine tq 18 (.agg #[.bool fb, .slice P1 p1 q1, .bool false, .slice P2 p2 q2]) rfl ?_ hSS ?_
   ·rintro w ⟨s0, s1, s2, s3, s4, s5, s6, s7, s8, s9, s10, s11⟩
    go_simp
   try simp only [Act.put]
   refine on1 19 fun K hK => ?_
   go_simp
   go_at_call 107
   refine (rdiv_any _ _ xj d _ RX.out RF.out (fun e => HNE.out (Rat.num_eq_zero.1 e)) (N := 700000) (by decide) HFX.out HDF.out).mono ?_
   rintro e w6 ⟨v6, rfl, hv, hb⟩
   replace HB := Lib.hid (HB.out.trans (hb.mono (Nat.le_trans HBA.out (hgt ▸ HB.out.size))))
   replace HSZ := Lib.hid (Nat.le_trans HSZ.out hb.size)
   replace HT := Lib.hid (HT.out.call hb)
   replace C1 := Lib.hid (cell_below C1.out hb)
   replace C2 := Lib.hid (cell_below C2.out hb)
   replace C3 := Lib.hid (cell_below C3.out hb)
   replace HVD := Lib.hid (HVD.out.below hb)
   replace EL := Lib.hid (EL.out.below hb)
   replace RX := Lib.hid (RX.out.ext hb)
   replace G0 := Lib.hid (cell_below G0.out hb)
   replace GR := Lib.hid (cell_below GR.out hb)
   replace VF := Lib.hid (VF.out.below hb)
   replace RF := Lib.hid (RF.out.ext hb)
   clear hb
   refine hK.out _ _ (fun _ => ⟨C1.out, C2.out, G0.out, GR.out, EL.out.c0, EL.out.c1, EL.out.c2, EL.out.c3, VF.out.c0, VF.out.c1, VF.out.c2, VF.out.c3⟩) ?_
   clear hK K
   try simp only [Act.put, putA, putZ, putC]
   refine tq 20 (.pointer (some ⟨b, o + j * 4, none⟩)) rfl ?_ ⟨C1.out, C2.out, G0.out, GR.out, EL.out.c0, EL.out.c1, EL.out.c2, EL.out.c3, VF.out.c0, VF.out.c1, VF.out.c2, VF.out.c3⟩ ?_
   ·rintro w ⟨s0, s1, s2, s3, s4, s5, s6, s7, s8, s9, s10, s11⟩
    go_simp
   try simp only [Act.put, putA]
   obtain ⟨tb, T1, t1, u3, T2, t2, u4, rfl⟩ := hv.bools
   obtain ⟨hp, hkw2, hbb⟩ := HT.out.put hr hjw HU.out hv
   have hF := Far.put4 (cs := #[]) hbb (o + j * 4) hkw2
   have HCN1 := Lib.hid (hF.cell C1.out (by show gt ≠ b; omega))
   have HCN2 := Lib.hid (hF.cell C2.out (by show gt + 1 ≠ b; omega))
   have HCN3 := Lib.hid (hF.cell C3.out (by show gt + 1 + 1 ≠ b; omega))
   have HTN := Lib.hid (show TBx _ base g (some ⟨gv, ov, none⟩) cv vs bt ot ct Ab cb m V W { t with rows := t.rows.set r (scP 0 (j + 1) d R1) } by rw [← HXX.out]; exact hp)
   have HVN := Lib.hid (HVD.out.put4 hkw2 (by have := HGD.out; omega))
   have HBN := Lib.hid (HB.out.trans hF.below)
   have HSN := Lib.hid (Nat.le_trans HSZ.out hF.size)
   clear hp hkw2 hbb hF hv
   unfold put4 at HTN HCN1 HCN2 HCN3 HVN HBN HSN
   have z0 := EL.out.c0
   have y0 := EL.out.f0
   have z1 := EL.out.c1
   have y1 := EL.out.f1
   have z2 := EL.out.c2
   have y2 := EL.out.f2
   have z3 := EL.out.c3
   have y3 := EL.out.f3
   clear HT C1 C2 C3 HVD EL RX G0 GR VF RF
   clear HXX HFX HB HSZ
   refine on1 21 fun K hK => ?_
   go_simp
   refine hK.out _ _ (fun h => absurd h (by decide)) ?_
   clear hK K z0 z1 z2 z3 y0 y1 y2 y3
   refine wpAnyC_done (by kernel_rfl) ?_ _
   go_wp2
   go_roundg (V - (j + 1))
   case measure => omega
   case rel => exact ⟨j + 1, rfl, by go_num, by omega, HTN, HCN1, HCN2, HCN3, HVN, HBN, HSN⟩
  ·obtain rfl : j = V := by omega
   have HT0 := Lib.hid (show TBx wa base g (some ⟨gv, ov, none⟩) cv vs bt ot ct Ab cb m j W { t with rows := pvI t r c 0 } by rw [pvI_start t c (by rw [HLEN.out]; exact hr), ← HPE.out]; exact HT.out)
   clear HT HVD HGD HR1 HRL HDF HNE HPE
   have q1 := C1.out
   have q3 : wa.cell? ⟨g, 0, none⟩ = some (.slice (some ⟨gv, ov, none⟩) m cv) := HT0.out.blk.cell 0
   go_wp2
   clear q1 q3
   go_loopg [59] (m - 0) (fun mm v wr => ∃ i : Nat, mm = m - i ∧ v = I i ∧ i ≤ m ∧ Hid (TBx wr base g (some ⟨gv, ov, none⟩) cv vs bt ot ct Ab cb m j W { t with rows := pvI t r c i }) ∧ Hid (wr.cell? ⟨gt, 0, none⟩ = some (.pointer (some ⟨g, 0, none⟩))) ∧ Hid (wr.cell? ⟨gt + 1, 0, none⟩ = some (I r)) ∧ Hid (wr.cell? ⟨gt + 1 + 1, 0, none⟩ = some (I c)) ∧ Hid (Below base w wr) ∧ Hid (gt + 3 ≤ wr.heap.size))
   case atStart => exact ⟨0, rfl, rfl, by omega, HT0, C1, C2, C3, HB, HSZ⟩
   case round =>
    clear HT0 C1 C2 C3 HB HSZ
    obtain ⟨i, rfl, rfl, hi, HT, C1, C2, C3, HB, HSZ⟩ := hrel
    obtain ⟨wb, rfl⟩ : ∃ wb : World, wb = wr := ⟨_, rfl⟩
    by_cases hil : i < m
    ·skip
     by_cases hir : i = r
     ·have ti : ((i : Int) != (r : Int)) = false := by rw [hir]; simp
      have HTN := Lib.hid (show TBx wb base g (some ⟨gv, ov, none⟩) cv vs bt ot ct Ab cb m j W { t with rows := pvI t r c (i + 1) } by rw [show pvI t r c (i + 1) = pvI t r c i by rw [hir]; exact pvI_skip t r c]; exact HT.out)
      clear HT hir
      have q2 := C2.out
      go_wp2
      clear q2
      go_roundg (m - (i + 1))
      case measure => omega
      case rel => exact ⟨i + 1, rfl, by go_num, by omega, HTN, C1, C2, C3, HB, HSZ⟩
     ·have ti : ((i : Int) != (r : Int)) = true := bne_iff_ne.2 (by omega)
      obtain ⟨gv2, ov2, b2, o2, k2, hA2, hu2, hcl, hrow2, n4, n5, n6, hbl2, _⟩ := HT.out.row hil
      injection hA2 with hA2
      injection hA2 with e1 e2
      subst e1 e2
      have hro : (pvI t r c i).getD i [] = t.rows.getD i [] := pvI_row t (by rw [HLEN.out]; exact hil) (Nat.le_refl _) hir
      replace hrow2 : RRow wb base _ ((pvI t r c i).getD i []) := hrow2
      rw [hro] at hrow2
      have hpr : RRow wb base (.slice (some ⟨b, o, none⟩) j k0) ((pvI t r c i).getD r []) := HT.out.rowRow hr HU.out
      rw [pvI_piv t (by rw [HLEN.out]; exact hr)] at hpr
      have hnb : b ≠ b2 := fun e => HT.out.lm.apart i r _ _ b2 hir hu2 HU.out rfl (by rw [← e]; rfl)
      have hb2 := HVL.out i b2 o2 j k2 hu2
      have q1 := C1.out
      have q2 := C2.out
      have q3 : wb.cell? ⟨g, 0, none⟩ = some (.slice (some ⟨gv, ov, none⟩) m cv) := HT.out.blk.cell 0
      have HC := Lib.hid (clear_any base (gt + 1 + 1) gt (gt + 1) g gv ov cv m r c j b2 o2 k2 b o k0 (t.rows.getD i []) (pivRow t r c) wb C3.out C1.out C2.out q3 (HT.out.rowCell hr HU.out) (by omega) (by omega) (by omega) n4 n5 hnb hr (by omega) hcw (by have := HVV.out; omega) hrow2 hpr (HRI.out i hil) HPV.out (Nat.le_trans HBA.out (hgt ▸ HB.out.size)))
      have HU2 := Lib.hid hu2
      have HNX := Lib.hid (pvI_step t (c := c) (by rw [HLEN.out]; exact hil) hir)
      have HB2 := Lib.hid hb2
      clear hro hrow2 hpr hnb hu2 n4 n5 n6 hb2
      go_wp2_with fail
      refine HC.out.mono ?_
      rintro e w5 ⟨rfl, hrw, hF⟩
      clear HC q1 q2 q3 hcl hbl2
      have HTN := Lib.hid (show TBx w5 base g (some ⟨gv, ov, none⟩) cv vs bt ot ct Ab cb m j W { t with rows := pvI t r c (i + 1) } by rw [← HNX.out]; exact HT.out.farRow hil HU2.out hF hrw)
      have hb2 := HB2.out
      have HCN1 := Lib.hid (hF.cell C1.out (by show gt ≠ b2; omega))
      have HCN2 := Lib.hid (hF.cell C2.out (by show gt + 1 ≠ b2; omega))
      have HCN3 := Lib.hid (hF.cell C3.out (by show gt + 1 + 1 ≠ b2; omega))
      have HBN := Lib.hid (HB.out.trans hF.below)
      have HSN := Lib.hid (Nat.le_trans HSZ.out hF.size)
      clear hrw hF hb2 HT C1 C2 C3 HB HSZ HU2 HNX HB2 hir ti
      go_wp2
      go_roundg (m - (i + 1))
      case measure => omega
      case rel => exact ⟨i + 1, rfl, by go_num, by omega, HTN, HCN1, HCN2, HCN3, HBN, HSN⟩
    ·obtain rfl : i = m := by omega
     have HTE := Lib.hid (show TBx wb base g (some ⟨gv, ov, none⟩) cv vs bt ot ct Ab cb i j W { t with rows := (pivQ t r c).rows } by rw [← pvI_end, HLEN.out]; exact HT.out)
     have hpr : RRow wb base (.slice (some ⟨b, o, none⟩) j k0) ((pvI t r c i).getD r []) := HT.out.rowRow hr HU.out
     rw [pvI_piv t (by rw [HLEN.out]; exact hr)] at hpr
     obtain ⟨n4, n5, hbt⟩ := HT.out.tgtNe (by omega)
     have hnb : b ≠ bt := fun e => HT.out.ap r _ HU.out (by rw [← e]; rfl)
     have hbt2 := HBT.out
     have q1 := C1.out
     have q3 : wb.cell? ⟨g, 0, none⟩ = some (.slice (some ⟨gv, ov, none⟩) i cv) := HT.out.blk.cell 0
     have q4 : wb.cell? ⟨g, 1, none⟩ = some (.slice (some ⟨bt, ot, none⟩) j ct) := HT.out.blk.cell 1
     have HC := Lib.hid (clear_any base (gt + 1 + 1) gt (gt + 1) g gv ov cv i r c j bt ot ct b o k0 t.tgt (pivRow t r c) wb C3.out C1.out C2.out q3 (HT.out.rowCell hr HU.out) (by omega) (by omega) (by omega) n4 n5 hnb hr (by omega) hcw (by have := HVV.out; omega) HT.out.tg hpr HTG.out HPV.out (Nat.le_trans HBA.out (hgt ▸ HB.out.size)))
     clear hpr n4 n5 hnb HT
     go_wp2_with fail
     refine HC.out.mono ?_
     rintro e w5 ⟨rfl, hrw, hF⟩
     clear HC q1 q3 q4
     have HT := Lib.hid (HTE.out.farTgt hF hrw)
     replace C1 := Lib.hid (hF.cell C1.out (by show gt ≠ bt; omega))
     replace C2 := Lib.hid (hF.cell C2.out (by show gt + 1 ≠ bt; omega))
     replace C3 := Lib.hid (hF.cell C3.out (by show gt + 1 + 1 ≠ bt; omega))
     replace HB := Lib.hid (HB.out.trans hF.below)
     replace HSZ := Lib.hid (Nat.le_trans HSZ.out hF.size)
     clear hrw hF HTE hbt2 hbt
     go_upto_region 15 with (fail)
     have hd := below_draw w5
     replace HB := Lib.hid (HB.out.trans (hd.mono (Nat.le_trans HBA.out (hgt ▸ HB.out.size))))
     replace HSZ := Lib.hid (Nat.le_trans HSZ.out hd.size)
     replace HT := Lib.hid (HT.out.call hd)
     replace C1 := Lib.hid (cell_below C1.out hd)
     replace C2 := Lib.hid (cell_below C2.out hd)
     replace C3 := Lib.hid (cell_below C3.out hd)
     clear hd
     obtain ⟨b9, o9, hAb, hb9, hl9, hc9, hf9, hT9, hB9⟩ := HT.out.basAt hr c
     have q0 := HT.out.blk.cell 2
     subst hAb
     change _ = some (Value.slice (some ⟨b9, o9, none⟩) i cb) at q0
     have G2 := Lib.hid q0
     have HT9 := Lib.hid hT9
     have HB9 := Lib.hid (HB.out.trans hB9)
     have HC9 := Lib.hid hc9
     have HF9 := Lib.hid hf9
     clear q0 hT9 hB9 hc9 hf9
     refine wp_region_c (fun w' => w'.cell? ⟨gt, 0, none⟩ = some (.pointer (some ⟨g, 0, none⟩)) ∧ w'.cell? ⟨gt + 1, 0, none⟩ = some (I r) ∧ w'.cell? ⟨gt + 1 + 1, 0, none⟩ = some (I c) ∧ w'.cell? ⟨g, 2, none⟩ = some (.slice (some ⟨b9, o9, none⟩) i cb)) 7 (by kernel_rfl) ?_
     generalize w5.drew = w7 at *
     refine tkS ⟨C1.out, C2.out, C3.out, G2.out⟩ fun hSS => ?_
     refine tq 0 (.pointer (some ⟨g, 0, none⟩)) rfl ?_ hSS ?_
     ·rintro w ⟨s0, s1, s2, s3⟩
      go_simp
     try simp only [Act.put, putA]
     refine tq 1 (.pointer (some ⟨g, 0, none⟩)) rfl ?_ hSS ?_
     ·rintro w ⟨s0, s1, s2, s3⟩
      go_simp
     try simp only [Act.put]
     refine tq 2 (.pointer (some ⟨g, 2, none⟩)) rfl ?_ hSS ?_
     ·rintro w ⟨s0, s1, s2, s3⟩
      go_simp
     try simp only [Act.put]
     refine tq 3 (.slice (some ⟨b9, o9, none⟩) i cb) rfl ?_ hSS ?_
     ·rintro w ⟨s0, s1, s2, s3⟩
      go_simp
     try simp only [Act.put]
     refine tq 4 (I r) rfl ?_ hSS ?_
     ·rintro w ⟨s0, s1, s2, s3⟩
      go_simp
     try simp only [Act.put]
     refine tq 5 (I c) rfl ?_ hSS ?_
     ·rintro w ⟨s0, s1, s2, s3⟩
      go_simp
     try simp only [Act.put]
     refine tq 6 (.pointer (some ⟨b9, o9 + r, none⟩)) rfl ?_ hSS ?_
     ·rintro w ⟨s0, s1, s2, s3⟩
      go_simp
     try simp only [Act.put]
     have z0 := HC9.out
     have y0 := HF9.out
     refine on1 7 fun K hK => ?_
     go_simp
     refine hK.out _ _ (fun h => absurd h (by decide)) ?_
     clear hK K z0 y0
     refine wpAnyC_done (by kernel_rfl) ?_ _
     go_wp2
     exact bodyPost_end (v := .tuple #[]) (by simp [results, go_sem]) rfl ⟨rfl, HT9.out, HB9.out⟩
end Go.Proofs.YtcgfdfdcbamceaaGreatDoor
