/- (*simplex.table).settle. (*simplex.table).values. simplex.solve: what its walk needs besides. The result of simplex.solve in memory, and what the phases give. -/
import Derived.Test.YtcgfdfdcbamceaaGreatDoorXBK
import Derived.Test.YtcgfdfdcbamceaaGreatDoorXAC
import Derived.Test.YtcgfdfdcbamceaaGreatDoorXAZ
import Derived.Test.YtcgfdfdcbamceaaGreatDoorXBL
import Derived.Test.YtcgfdfdcbamceaaGreatDoorXBE
import Derived.Test.YtcgfdfdcbamceaaGreatDoorXAD
import Derived.Test.YtcgfdfdcbamceaaGreatDoorXBH
import Derived.Test.YtcgfdfdcbamceaaGreatDoorXBO
namespace Go.Proofs.YtcgfdfdcbamceaaGreatDoor
open Go.RowKit
def findD (p : Nat → Bool) (n k : Nat) : Option Nat := ((List.range n).drop k).find? p
theorem findD_step {p : Nat → Bool} {n k : Nat} (hk : k < n) : findD p n k = if p k = true then some k else findD p n (k + 1) := by
 unfold findD
 rw [List.drop_eq_getElem_cons (by rw [List.length_range]; exact hk), List.find?_cons, List.getElem_range]
 cases p k <;> rfl
theorem findD_end (p : Nat → Bool) (n : Nat) : findD p n n = none := by
 unfold findD
 rw [List.drop_of_length_le (by rw [List.length_range]; exact Nat.le_refl _)]
 rfl
def zeroK (t : TabQ) (x i : Nat) : TabQ := { t with rows := t.rows.mapIdx fun j r => if j < i then r.set x 0 else r }
theorem zeroK_rows (t : TabQ) (x i j : Nat) : (zeroK t x i).rows[j]? = t.rows[j]?.map fun r => if j < i then r.set x 0 else r := List.getElem?_mapIdx
theorem zeroK_zero (t : TabQ) (x : Nat) : zeroK t x 0 = t := by
 have h : (zeroK t x 0).rows = t.rows := by
  refine List.ext_getElem? fun j => ?_
  rw [zeroK_rows]
  cases t.rows[j]? with
  | none => rfl
  | some r => rw [Option.map_some, if_neg (by omega)]
 show TabQ.mk _ t.tgt t.bas t.cols = t
 rw [show (t.rows.mapIdx fun j r => if j < 0 then r.set x 0 else r) = t.rows from h]
theorem zeroK_all (t : TabQ) (x : Nat) : zeroK t x t.rows.length = zeroC t x := by
 have h : (zeroK t x t.rows.length).rows = (zeroC t x).rows := by
  refine List.ext_getElem? fun j => ?_
  rw [zeroK_rows, show (zeroC t x).rows = t.rows.map fun r => r.set x 0 from rfl, List.getElem?_map]
  cases h : t.rows[j]? with
  | none => rfl
  | some r => rw [Option.map_some, Option.map_some, if_pos (List.getElem?_eq_some_iff.1 h).1]
 show TabQ.mk _ t.tgt t.bas t.cols = TabQ.mk _ t.tgt t.bas t.cols
 rw [show (t.rows.mapIdx fun j r => if j < t.rows.length then r.set x 0 else r) = t.rows.map fun r => r.set x 0 from h]
theorem zeroK_row (t : TabQ) (x : Nat) {i : Nat} (hi : i < t.rows.length) : (zeroK t x i).rows.getD i [] = t.rows.getD i [] := by
 rw [List.getD_eq_getElem?_getD, zeroK_rows, List.getElem?_eq_getElem hi, Option.map_some, if_neg (by omega), List.getD_eq_getElem?_getD, List.getElem?_eq_getElem hi]
theorem zeroK_step (t : TabQ) (x : Nat) {i : Nat} (hi : i < t.rows.length) : { zeroK t x i with rows := (zeroK t x i).rows.set i (((zeroK t x i).rows.getD i []).set x 0) } = zeroK t x (i + 1) := by
 have h : (zeroK t x i).rows.set i (((zeroK t x i).rows.getD i []).set x 0) = (zeroK t x (i + 1)).rows := by
  refine List.ext_getElem? fun j => ?_
  rw [zeroK_row t x hi, zeroK_rows, List.getElem?_set]
  by_cases e : i = j
  ·subst e
   rw [if_pos rfl, if_pos (by show _ < (zeroK t x i).rows.length; rw [zeroK, List.length_mapIdx]; exact hi), List.getElem?_eq_getElem hi, Option.map_some, if_pos (by omega), List.getD_eq_getElem?_getD, List.getElem?_eq_getElem hi]
   rfl
  ·rw [if_neg e, zeroK_rows]
   cases t.rows[j]? with
   | none => rfl
   | some r =>
    rw [Option.map_some, Option.map_some]
    by_cases h : j < i
    ·rw [if_pos h, if_pos (by omega)]
    ·rw [if_neg h, if_neg (by omega)]
 show TabQ.mk _ t.tgt t.bas t.cols = TabQ.mk _ t.tgt t.bas t.cols
 rw [h]
 rfl
theorem ne_sign {q : Rat} : (q.num.sign != 0) = (q != 0) := by
 by_cases h : q = 0
 ·rw [h]; rfl
 ·rw [bne_iff_ne.2 h, bne_iff_ne.2 fun e => h (sign_zero.1 e)]
set_option maxRecDepth 100000 in
set_option maxHeartbeats 40000000 in
theorem settle_any (base g cv bt ot ct cb m V W x : Nat) (A Ab : Option Addr) (vs : List Value) (t : TabQ) (w : World) (h : TBx w base g A cv vs bt ot ct Ab cb m V W t) (hm : m ≤ 900) (hW : W ≤ 900) (hx : x ≤ W)
  (HF0 : ∀ j, j ≤ m → ∀ i k, i ≤ m → FitR 350000 (tabF (settN t x j) i k)) (hbase : base ≤ w.heap.size) :
  Calls Tryz.prog 62 #[.pointer (some ⟨g, 0, none⟩), I x] w fun e w' => e = .returned (.tuple #[]) ∧ TBx w' base g A cv vs bt ot ct Ab cb m V W (settleQ t x) ∧ Below base w w' := by
 have HT := Lib.hid (show TBx w base g A cv vs bt ot ct Ab cb m V W (settN t x 0) from h)
 have HFT := Lib.hid HF0
 have HBA := Lib.hid hbase
 have HB := Lib.hid (Below.refl base w)
 have HVV := Lib.hid h.hv
 have HBL := Lib.hid h.sh.bas
 clear h HF0
 go_enter Tryz.func62, Tryz.ntmps62
 have q2 : w.cell? ⟨g, 2, none⟩ = some (.slice Ab m cb) := HT.out.blk.cell 2
 go_wp2
 clear q2
 go_loopg [13] (m - 0) (fun mm iv wr => ∃ i : Nat, mm = m - i ∧ iv = I i ∧ i ≤ m ∧ Hid (TBx wr base g A cv vs bt ot ct Ab cb m V W (settN t x i)) ∧ Hid (Below base w wr))
 case atStart => exact ⟨0, rfl, rfl, by omega, HT, HB⟩
 case round =>
  clear HT HB
  obtain ⟨i, rfl, rfl, hi, HT, HB⟩ := hrel
  obtain ⟨wa, rfl⟩ : ∃ wa : World, wa = wr := ⟨_, rfl⟩
  by_cases hil : i < m
  ·have HSN := Lib.hid (show settN t x (i + 1) = if basF (settN t x i) i ≠ x then settN t x i else match (List.range x).find? fun k => ent (settN t x i).rows i k != 0 with | none => settN t x i | some k => pivQ (settN t x i) i k from rfl)
   have HF1 := Lib.hid (HFT.out i (by omega))
   have HF2 := Lib.hid (HFT.out (i + 1) (by omega))
   generalize settN t x i = u at *
   obtain ⟨b8, o8, hAb, _, _, hc8, _⟩ := HT.out.basAt hil 0
   subst hAb
   by_cases hbx : basF u i = x
   ·have tb : (((basF u i : Nat) : Int) != (x : Int)) = false := by rw [hbx]; simp
    have tbn : (basF u i != x) = false := by rw [hbx]; simp
    have HSM := Lib.hid (show settN t x (i + 1) = match findD (fun k => ent u.rows i k != 0) x 0 with | none => u | some k => pivQ u i k by rw [HSN.out, if_neg (fun k => k hbx)]; rfl)
    clear HSN
    generalize basF u i = bi at *
    go_wp2
    clear hc8 tb tbn
    go_loopg [22] (x - 0) (fun mm kv wr => ∃ k : Nat, mm = x - k ∧ kv = I k ∧ k ≤ x ∧ Hid (settN t x (i + 1) = match findD (fun k => ent u.rows i k != 0) x k with | none => u | some k => pivQ u i k) ∧ Hid (TBx wr base g A cv vs bt ot ct (some ⟨b8, o8, none⟩) cb m V W u) ∧ Hid (Below base w wr))
    case atStart => exact ⟨0, rfl, rfl, by omega, HSM, HT, HB⟩
    case round =>
     clear HSM HT HB
     obtain ⟨k, rfl, rfl, hk, HSM, HT, HB⟩ := hrel
     obtain ⟨wb, rfl⟩ : ∃ wb : World, wb = wr := ⟨_, rfl⟩
     by_cases hkx : k < x
     ·have hkw : k ≤ W := by omega
      have HFS := Lib.hid (findD_step (p := fun k => ent u.rows i k != 0) hkx)
      obtain ⟨gv, ov, b, o, k0, hA, hu, hcl, _, _, _, _, hbl, hgl⟩ := HT.out.row hil
      subst hA
      obtain ⟨nb, B1, l1, c1, B2, l2, c2, hE, hrt⟩ := HT.out.el hil hkw hu
      have q0 : wb.cell? ⟨g, 0, none⟩ = some (.slice (some ⟨gv, ov, none⟩) m cv) := HT.out.blk.cell 0
      have e0 := hE.c0
      have e1 := hE.c1
      have e2 := hE.c2
      have e3 := hE.c3
      have hkv : k < V := by have := HVV.out; omega
      have HC := Lib.hid (rsign_any _ _ wb hrt)
      go_wp2_with fail
      refine HC.out.mono ?_
      rintro e wc ⟨rfl, hb⟩
      clear HC q0 e0 e1 e2 e3 hcl hE hrt hbl hgl hu
      replace HB := Lib.hid (HB.out.trans (hb.mono (Nat.le_trans HBA.out HB.out.size)))
      replace HT := Lib.hid (HT.out.call hb)
      clear hb
      by_cases hz : ent u.rows i k = 0
      ·have tz : ((ent u.rows i k).num.sign != 0) = false := by rw [ne_sign, hz]; rfl
       have HSM2 := Lib.hid (show settN t x (i + 1) = match findD (fun k => ent u.rows i k != 0) x (k + 1) with | none => u | some k => pivQ u i k by rw [HSM.out, HFS.out, if_neg (by rw [hz]; decide)])
       generalize (ent u.rows i k).num.sign = sg at *
       clear HSM HFS hz
       go_wp2
       go_roundg (x - (k + 1))
       case measure => omega
       case rel => exact ⟨k + 1, rfl, by go_num, by omega, HSM2, HT, HB⟩
      ·have tz : ((ent u.rows i k).num.sign != 0) = true := by rw [ne_sign]; exact bne_iff_ne.2 hz
       have HSQ := Lib.hid (show settN t x (i + 1) = pivQ u i k by rw [HSM.out, HFS.out, if_pos (bne_iff_ne.2 hz)])
       rw [HSQ.out] at HF2
       have HC := Lib.hid (pivot_any base g cv bt ot ct cb m V W i k (some ⟨gv, ov, none⟩) (some ⟨b8, o8, none⟩) vs u wc HT.out hil hkw hm hW hz (fun a b h => (HF1.out a b h).mono (Nat.le_of_ble_eq_true rfl)) (fun a b h => (HF2.out a b h).mono (Nat.le_of_ble_eq_true rfl)) (Nat.le_trans HBA.out HB.out.size))
       generalize (ent u.rows i k).num.sign = sg at *
       clear HSM HFS hz
       go_wp2_with fail
       refine HC.out.mono ?_
       rintro e wd ⟨rfl, hT, hb⟩
       clear HC HT
       replace HB := Lib.hid (HB.out.trans hb)
       have HTN := Lib.hid (show TBx wd base g (some ⟨gv, ov, none⟩) cv vs bt ot ct (some ⟨b8, o8, none⟩) cb m V W (settN t x (i + 1)) by rw [HSQ.out]; exact hT)
       clear hT hb HSQ
       go_wp2
       go_roundg (m - (i + 1))
       case measure => omega
       case rel => exact ⟨i + 1, rfl, by go_num, by omega, HTN, HB⟩
     ·obtain rfl : k = x := by omega
      have HTN := Lib.hid (show TBx wb base g A cv vs bt ot ct (some ⟨b8, o8, none⟩) cb m V W (settN t k (i + 1)) by rw [HSM.out, findD_end]; exact HT.out)
      clear HSM HT
      go_wp2
      go_roundg (m - (i + 1))
      case measure => omega
      case rel => exact ⟨i + 1, rfl, by go_num, by omega, HTN, HB⟩
   ·have tb : (((basF u i : Nat) : Int) != (x : Int)) = true := bne_iff_ne.2 fun e => hbx (by omega)
    have tbn : (basF u i != x) = true := bne_iff_ne.2 hbx
    have HTN := Lib.hid (show TBx wa base g A cv vs bt ot ct (some ⟨b8, o8, none⟩) cb m V W (settN t x (i + 1)) by rw [HSN.out, if_pos hbx]; exact HT.out)
    clear HSN HT
    generalize basF u i = bi at *
    go_wp2
    go_roundg (m - (i + 1))
    case measure => omega
    case rel => exact ⟨i + 1, rfl, by go_num, by omega, HTN, HB⟩
  ·obtain rfl : i = m := by omega
   have HSQ := Lib.hid (show settleQ t x = zeroC (settN t x i) x by rw [settleQ, HBL.out])
   have HRL := Lib.hid HT.out.sh.len
   generalize settN t x i = u at *
   have HT0 := Lib.hid (show TBx wa base g A cv vs bt ot ct Ab cb i V W (zeroK u x 0) by rw [zeroK_zero]; exact HT.out)
   clear HT HFT HBL
   have q0 : wa.cell? ⟨g, 0, none⟩ = some (.slice A i cv) := HT0.out.blk.cell 0
   go_wp2
   clear q0
   go_loopg [48] (i - 0) (fun mm jv wr => ∃ j : Nat, mm = i - j ∧ jv = I j ∧ j ≤ i ∧ Hid (TBx wr base g A cv vs bt ot ct Ab cb i V W (zeroK u x j)) ∧ Hid (Below base w wr))
   case atStart => exact ⟨0, rfl, rfl, by omega, HT0, HB⟩
   case round =>
    clear HT0 HB
    obtain ⟨j, rfl, rfl, hj, HT, HB⟩ := hrel
    obtain ⟨wb, rfl⟩ : ∃ wb : World, wb = wr := ⟨_, rfl⟩
    by_cases hjl : j < i
    ·have HZS := Lib.hid (zeroK_step u x (by rw [HRL.out]; exact hjl))
     obtain ⟨gv, ov, b, o, k0, hA, hu, hcl, _, _, _, _, hbl, hgl⟩ := HT.out.row hjl
     subst hA
     obtain ⟨nb, B1, l1, c1, B2, l2, c2, hE, _⟩ := HT.out.el hjl hx hu
     have EL := Lib.hid hE
     have HU := Lib.hid hu
     have CI := Lib.hid hcl
     have G0 := Lib.hid (show wb.cell? ⟨g, 0, none⟩ = some (.slice (some ⟨gv, ov, none⟩) i cv) from HT.out.blk.cell 0)
     have hxv : x < V := by have := HVV.out; omega
     clear hE hu hcl hbl hgl
     go_upto_region 14 with (fail)
     have hd := below_draw wb
     replace HB := Lib.hid (HB.out.trans (hd.mono (Nat.le_trans HBA.out HB.out.size)))
     replace HT := Lib.hid (HT.out.call hd)
     replace EL := Lib.hid (EL.out.below hd)
     replace CI := Lib.hid (cell_below CI.out hd)
     replace G0 := Lib.hid (cell_below G0.out hd)
     clear hd
     refine wp_region_c (fun w' => w'.cell? ⟨g, 0, none⟩ = some (.slice (some ⟨gv, ov, none⟩) i cv) ∧ w'.cell? ⟨gv, ov + j, none⟩ = some (.slice (some ⟨b, o, none⟩) V k0)) 10 (by kernel_rfl) ?_
     generalize wb.drew = wc at *
     refine tq 0 (.pointer (some ⟨g, 0, none⟩)) rfl ?_ ⟨G0.out, CI.out⟩ ?_
     ·rintro w ⟨s0, s1⟩
      go_simp
     try simp only [Act.put, putA]
     refine tq 1 (.pointer (some ⟨g, 0, none⟩)) rfl ?_ ⟨G0.out, CI.out⟩ ?_
     ·rintro w ⟨s0, s1⟩
      go_simp
     try simp only [Act.put]
     refine tq 2 (.pointer (some ⟨g, 0, none⟩)) rfl ?_ ⟨G0.out, CI.out⟩ ?_
     ·rintro w ⟨s0, s1⟩
      go_simp
     try simp only [Act.put]
     refine tq 3 (.slice (some ⟨gv, ov, none⟩) i cv) rfl ?_ ⟨G0.out, CI.out⟩ ?_
     ·rintro w ⟨s0, s1⟩
      go_simp
     try simp only [Act.put]
     refine tq 4 (I j) rfl ?_ ⟨G0.out, CI.out⟩ ?_
     ·rintro w ⟨s0, s1⟩
      go_simp
     try simp only [Act.put]
     refine tq 5 (.pointer (some ⟨gv, ov + j, none⟩)) rfl ?_ ⟨G0.out, CI.out⟩ ?_
     ·rintro w ⟨s0, s1⟩
      go_simp
     try simp only [Act.put]
     refine tq 6 (.slice (some ⟨b, o, none⟩) V k0) rfl ?_ ⟨G0.out, CI.out⟩ ?_
     ·rintro w ⟨s0, s1⟩
      go_simp
     try simp only [Act.put]
     refine tq 7 (I x) rfl ?_ ⟨G0.out, CI.out⟩ ?_
     ·rintro w ⟨s0, s1⟩
      go_simp
     try simp only [Act.put]
     refine on1 8 fun K hK => ?_
     go_simp
     go_at_call 66
     refine (rwhole_any 0 _ (by decide) (by decide)).mono ?_
     rintro e wd ⟨v7, rfl, hv, hb⟩
     replace HB := Lib.hid (HB.out.trans (hb.mono (Nat.le_trans HBA.out HB.out.size)))
     replace HT := Lib.hid (HT.out.call hb)
     replace EL := Lib.hid (EL.out.below hb)
     replace CI := Lib.hid (cell_below CI.out hb)
     replace G0 := Lib.hid (cell_below G0.out hb)
     clear hb
     refine hK.out _ _ (fun _ => ⟨G0.out, CI.out⟩) ?_
     clear hK K
     try simp only [Act.put, putA, putZ, putC]
     refine tq 9 (.pointer (some ⟨b, o + x * 4, none⟩)) rfl ?_ ⟨G0.out, CI.out⟩ ?_
     ·rintro w ⟨s0, s1⟩
      go_simp
     try simp only [Act.put, putA]
     obtain ⟨tb, T1, t1, u3, T2, t2, u4, rfl⟩ := hv.bools
     obtain ⟨hp, hkw2, hbb⟩ := HT.out.put hjl hx HU.out hv
     have hF := Far.put4 (cs := #[]) hbb (o + x * 4) hkw2
     replace hp : TBx _ base g (some ⟨gv, ov, none⟩) cv vs bt ot ct Ab cb i V W { zeroK u x j with rows := (zeroK u x j).rows.set j (((zeroK u x j).rows.getD j []).set x 0) } := hp
     rw [HZS.out] at hp
     have HTN := Lib.hid hp
     have HBN := Lib.hid (HB.out.trans hF.below)
     clear hp hkw2 hbb hF hv
     unfold put4 at HTN HBN
     have z0 := EL.out.c0
     have y0 := EL.out.f0
     have z1 := EL.out.c1
     have y1 := EL.out.f1
     have z2 := EL.out.c2
     have y2 := EL.out.f2
     have z3 := EL.out.c3
     have y3 := EL.out.f3
     clear HT EL CI G0
     clear HZS HB
     refine on1 10 fun K hK => ?_
     go_simp
     refine hK.out _ _ (fun h => absurd h (by decide)) ?_
     clear hK K z0 z1 z2 z3 y0 y1 y2 y3
     refine wpAnyC_done (by kernel_rfl) ?_ _
     go_wp2
     go_roundg (i - (j + 1))
     case measure => omega
     case rel => exact ⟨j + 1, rfl, by go_num, by omega, HTN, HBN⟩
    ·obtain rfl : j = i := by omega
     go_wp2
     exact bodyPost_end (v := .tuple #[]) (by simp [results, go_sem]) rfl ⟨rfl, by rw [HSQ.out, ← zeroK_all, HRL.out]; exact HT.out, HB.out⟩
section
variable {w w' : World} {base g cv bt ot ct cb m V W b : Nat} {A Ab : Option Addr} {vs : List Value} {t : TabQ}
theorem TBx.off (h : TBx w base g A cv vs bt ot ct Ab cb m V W t) (F : Far base b w w') {cur : Array Value} (hB : Blk w b ratT cur) (hbt : bt ≠ b) (hne : ∀ (i : Nat) (u : Value), vs[i]? = some u → u.ownBlock ≠ some b) : TBx w' base g A cv vs bt ot ct Ab cb m V W t := by
 refine ⟨F.blk_ h.blk (TBx.ne_ty hB h.blk (by decide)), F.lm0 h.lm hB hne, F.row h.tg (fun e => hbt ?_), F.nrow h.ba fun e => ?_, h.sh, h.hv, h.ap⟩
 ·simpa [Value.ownBlock] using e
 ·obtain ⟨_, _, cs, hC⟩ := h.ba.blk e
  exact TBx.ne_ty hB hC (by decide) rfl
theorem TBx.new_ (h : TBx w base g A cv vs bt ot ct Ab cb m V W t) {v : Value} (hv : ∀ x, v.ownBlock = some x → w.heap.size ≤ x) : ∀ x, v.ownBlock = some x → bt ≠ x ∧ ∀ (i : Nat) (u : Value), vs[i]? = some u → u.ownBlock ≠ some x := fun x hx =>
 ⟨fun e => by have := (h.tg.lt (g := bt) rfl).2; have := hv x hx; omega, fun i u hu e => h.lm.newer (u := v) hv i u x hu hx e⟩
end
set_option maxRecDepth 100000 in
set_option maxHeartbeats 16000000 in
theorem values_of (base g cv bt ot ct cb m V W n : Nat) (A Ab : Option Addr) (vs : List Value) (t : TabQ) (w : World) (h : TBx w base g A cv vs bt ot ct Ab cb m V W t) (hm : m ≤ 900) (hW : W ≤ 900) (hn : n ≤ 900) (hbase : base ≤ w.heap.size) :
  Calls Tryz.prog 65 #[.pointer (some ⟨g, 0, none⟩), I n] w (RetV w (valN t n m)) := by
 have HB0 := Lib.hid (Below.refl w.heap.size w)
 have HBG := Lib.hid hbase
 have HT := Lib.hid h
 have HSH := Lib.hid h.sh
 clear h
 go_enter Tryz.func65, Tryz.ntmps65
 have HC := Lib.hid (zeros_any n w (by omega))
 go_wp2_with fail
 refine HC.out.mono ?_
 rintro e w1 ⟨v, rfl, hr, hb⟩
 clear HC
 have HNV := Lib.hid (HT.out.new_ (v := v) fun x hx => (hr.lt hx).1)
 replace HT := Lib.hid (HT.out.call hb)
 have HB := Lib.hid hb
 have HR := Lib.hid (show RRow w1 w.heap.size v (valN t n 0) from hr)
 clear hr hb HB0
 have q2 : w1.cell? ⟨g, 2, none⟩ = some (.slice Ab m cb) := HT.out.blk.cell 2
 go_wp2
 clear q2
 have HBA := Lib.hid (Nat.le_refl w.heap.size)
 go_loopg [15] (m - 0) (fun mm iv wr => ∃ i : Nat, mm = m - i ∧ iv = I i ∧ i ≤ m ∧ Hid (TBx wr base g A cv vs bt ot ct Ab cb m V W t) ∧ Hid (RRow wr w.heap.size v (valN t n i)) ∧ Hid (Below w.heap.size w wr))
 case atStart => exact ⟨0, rfl, rfl, by omega, HT, HR, HB⟩
 case round =>
  clear HT HR HB
  obtain ⟨i, rfl, rfl, hi, HT, HR, HB⟩ := hrel
  obtain ⟨wa, rfl⟩ : ∃ wa : World, wa = wr := ⟨_, rfl⟩
  by_cases hil : i < m
  ·obtain ⟨b8, o8, hAb, _, _, hc8, _⟩ := HT.out.basAt hil 0
   subst hAb
   have HVS := Lib.hid (show valN t n (i + 1) = if basF t i < n then (valN t n i).set (basF t i) (endQ t i) else valN t n i from rfl)
   have HEQ := Lib.hid (show endQ t i = ent t.rows i W from (end_at HSH.out hil).trans (tabF_row HSH.out hil W))
   generalize hbi : basF t i = bi at *
   clear hbi
   by_cases hbn : bi < n
   ·have tb : decide (((bi : Nat) : Int) < (n : Int)) = true := decide_eq_true (by omega)
    have tbn : decide (bi < n) = true := decide_eq_true hbn
    have HVN := Lib.hid (show valN t n (i + 1) = (valN t n i).set bi (ent t.rows i W) by rw [HVS.out, if_pos hbn, HEQ.out])
    clear HVS HEQ
    have hl9 := valN_len t n i
    obtain ⟨b9, o9, k9, mb, X1, x1, y1, X2, x2, y2, hv9, hE, _⟩ := HR.out.el (n := n) (k := bi) hl9 hbn
    have HC := Lib.hid (end_any base g cv bt ot ct cb m V W i A (some ⟨b8, o8, none⟩) vs t wa HT.out hil hm hW)
    subst hv9
    go_wp2_with fail
    refine HC.out.mono ?_
    rintro e wb ⟨v8, rfl, hv, hb⟩
    clear HC hc8 tb tbn
    have EL := Lib.hid (hE.below hb)
    replace HB := Lib.hid (HB.out.trans (hb.mono (Nat.le_trans HBA.out HB.out.size)))
    replace HT := Lib.hid (HT.out.call hb)
    replace HR := Lib.hid (HR.out.call hb)
    clear hb hE
    obtain ⟨tb, T1, t1, u3, T2, t2, u4, rfl⟩ := hv.bools
    obtain ⟨hp, hkw2, hbb⟩ := HR.out.putEl (k := bi) hbn hv
    rw [← HVN.out] at hp
    have hF := Far.put4 (cs := #[]) (Nat.le_trans HBG.out hbb) (o9 + bi * 4) hkw2
    have HRN := Lib.hid hp
    have HBN := Lib.hid (HB.out.trans (Far.put4 (cs := #[]) hbb (o9 + bi * 4) hkw2).below)
    obtain ⟨cur, hBk⟩ := HR.out.blk (g := b9) rfl
    have HTN := Lib.hid (HT.out.off hF hBk (HNV.out b9 rfl).1 (HNV.out b9 rfl).2)
    clear hp hkw2 hbb hF hv hBk
    unfold put4 at HTN HRN HBN
    have z0 := EL.out.c0
    have y0 := EL.out.f0
    have z1 := EL.out.c1
    have y1 := EL.out.f1
    have z2 := EL.out.c2
    have y2 := EL.out.f2
    have z3 := EL.out.c3
    have y3 := EL.out.f3
    clear HT HR HB HVN EL
    go_wp2
    go_roundg (m - (i + 1))
    case measure => omega
    case rel => exact ⟨i + 1, rfl, by go_num, by omega, HTN, HRN, HBN⟩
   ·have tb : decide (((bi : Nat) : Int) < (n : Int)) = false := decide_eq_false (by omega)
    have tbn : decide (bi < n) = false := decide_eq_false hbn
    have HRN := Lib.hid (show RRow wa w.heap.size v (valN t n (i + 1)) by rw [HVS.out, if_neg hbn]; exact HR.out)
    clear HVS HEQ HR
    go_wp2
    go_roundg (m - (i + 1))
    case measure => omega
    case rel => exact ⟨i + 1, rfl, by go_num, by omega, HT, HRN, HB⟩
  ·obtain rfl : i = m := by omega
   go_wp2
   go_ret
   exact ⟨_, rfl, HR.out, HB.out⟩
theorem RtL.take_ {w : World} : ∀ {qs : List Rat} {xs : List Value} (k : Nat), RtL w xs qs → RtL w (xs.take (k * 4)) (qs.take k)
 | [], xs, k, h => by rw [h.nil_iff]; simp [RtL]
 | q :: qs, xs, 0, h => by rw [Nat.zero_mul, List.take_zero, List.take_zero]; exact rfl
 | q :: qs, xs, k + 1, h => by
  obtain ⟨x0, x1, x2, x3, ys, rfl, h1, h2⟩ := h.cons
  rw [show (k + 1) * 4 = k * 4 + 1 + 1 + 1 + 1 by omega, List.take_succ_cons, List.take_succ_cons, List.take_succ_cons, List.take_succ_cons, List.take_succ_cons]
  exact .mk h1 (RtL.take_ k h2)
theorem RRow.part {w : World} {base g off V c : Nat} {qs : List Rat} (h : RRow w base (.slice (some ⟨g, off, none⟩) V c) qs) {k l : Nat} (hk : k + l ≤ V) : RV w (some ⟨g, off + k * 4, none⟩) l ((qs.drop k).take l) := by
 obtain ⟨xs, hr, hl⟩ := h.rv
 have hlx := hr.1
 refine ⟨(xs.drop (k * 4)).take (l * 4), ⟨?_, fun h0 => ?_⟩, (hl.drop_ k).take_ l⟩
 ·rw [List.length_take, List.length_drop]
  omega
 ·obtain ⟨b, o, e, hb, hc⟩ := hr.2 (by omega)
  injection e with e
  injection e with e1 e2 _
  subst e1 e2
  refine ⟨g, off + k * 4, rfl, hb, fun j u hu => ?_⟩
  rw [List.getElem?_take] at hu
  split at hu
  ·rw [List.getElem?_drop] at hu
   rw [Nat.add_assoc]
   exact hc _ u hu
  ·cases hu
theorem RRow.cap {w : World} {base V c : Nat} {A : Option Addr} {qs : List Rat} (h : RRow w base (.slice A V c) qs) (hV : 0 < V) : V ≤ c := by
 have hl := h.rv.len
 obtain ⟨⟨ys, hrow, _⟩, _⟩ := h
 obtain ⟨g', off', cap', cur, e, _, _, h3, _⟩ := hrow.form (by omega)
 injection e with _ _ e
 omega
section
variable {w w' : World} {base g cv bt ot ct cb m V W : Nat} {A Ab : Option Addr} {vs : List Value} {tv : Value} {t : TabQ}
theorem TBx.to0W (h : TBx w base g A cv vs bt ot ct Ab cb m V W t) {W' : Nat} (hW : m ≠ 0 → W' = W) : TB0 w base g A cv vs (.slice (some ⟨bt, ot, none⟩) V ct) Ab cb m (W' + 1) W' t := by
 refine ⟨h.blk, h.lm, h.ba, h.sh.len, fun r hr => ?_, h.sh.bas, rfl⟩
 by_cases hm : m = 0
 ·have := h.sh.len
  rw [List.length_eq_zero_iff.1 (by omega : t.rows.length = 0)] at hr
  cases hr
 ·rw [hW hm]
  exact h.sh.row r hr
theorem TB0.colsSet (h : TB0 w base g A cv vs tv Ab cb m V W t) (htv : noWord tv) (hg : base ≤ g) (K : Nat) :
  TB0 (w.setCell ⟨g, 3, none⟩ (I K)) base g A cv vs tv Ab cb m V W { t with cols := K } ∧ Below base w (w.setCell ⟨g, 3, none⟩ (I K)) := by
 have hk := kw_tab h.blk (fun u hu => by
  simp only [List.mem_cons, List.not_mem_nil, or_false] at hu
  rcases hu with rfl | rfl | rfl | rfl
  ·exact noWord_slice _ _ _
  ·exact htv
  ·exact noWord_slice _ _ _
  ·exact noWord_int _) 3 (I K)
 exact ⟨⟨h.blk.set_ 3 _, h.lm.far1 h.blk hk (by decide) (by decide), h.ba.far1 h.blk (by decide), h.len, h.row, h.bas, h.hv⟩, (Below.refl _ _).setCell (p := ⟨g, 3, none⟩) hg _⟩
end
section
variable {a : List (List Rat)} {b c : List Rat} {m n N : Nat}
theorem settle_rows (hN : 1 ≤ N) {t : TabQ} (hs : SettI m n a b t 0) (F2 : ∀ t', InvQ m (n + m + 1) (n + m + 1) (T1F m n a b) t' → ∀ i k, i ≤ m → FitR N (tabF t' i k)) :
  RowsB { settleQ t (n + m) with cols := n + m } m (W2 m n) ∧ (∀ i, i < m → basF { settleQ t (n + m) with cols := n + m } i < n + m) ∧ (∀ i k, i < m → FitR N (ent (settleQ t (n + m)).rows i k)) ∧ (∀ j, j ≤ m → ∀ i k, i ≤ m → FitR N (tabF (settN t (n + m) j) i k)) := by
 have hu0 := sett_inv hs m (Nat.le_refl _)
 have hbl := hs.inv.sh.bas
 have hF : ∀ j, j ≤ m → ∀ i k, i ≤ m → FitR N (tabF (settN t (n + m) j) i k) := fun j hj => F2 _ (sett_inv hs j hj).inv.toInvQ
 have hF1 := F2 _ hu0.inv.toInvQ
 refine ⟨?_, ?_, ?_, hF⟩
 all_goals rw [settleQ, hbl]
 all_goals generalize settN t (n + m) m = u at hu0 hF1
 all_goals have hv := hu0.inv
 all_goals have hsh := hv.sh
 ·by_cases hm : m = 0
  ·subst hm
   have hr : u.rows = [] := List.length_eq_zero_iff.1 hsh.len
   rw [show W2 0 n = n from if_pos rfl]
   exact ⟨(by show (u.rows.map _).length = 0; rw [hr]; rfl), fun r hx => (by rw [show ({ zeroC u (n + 0) with cols := n + 0 } : TabQ).rows = u.rows.map (fun r => r.set (n + 0) 0) from rfl, hr] at hx; cases hx), hsh.bas, fun i hi => absurd hi (by omega)⟩
  ·rw [show W2 m n = n + m + 1 from if_neg hm]
   refine ⟨by show (u.rows.map _).length = m; rw [List.length_map, hsh.len], fun r hr => ?_, hsh.bas, fun i hi j hj => ?_⟩
   ·obtain ⟨s, hs, rfl⟩ := List.mem_map.1 (show r ∈ u.rows.map _ from hr)
    rw [List.length_set, hsh.row s hs]
   ·have h1 := hv.bas.lt i hi
    have h2 := hu0.out i hi
    show ent (zeroC u (n + m)).rows j (basF u i) = _
    rw [zeroC_at hsh hj _ _ (by omega), if_neg (by omega), ← tabF_row hsh hj]
    exact hv.bas.unit i hi j (by omega)
 ·intro i hi
  have h1 := hv.bas.lt i hi
  have h2 := hu0.out i hi
  show basF u i < n + m
  omega
 ·intro i k hi
  by_cases hk : k ≤ n + m + 1
  ·rw [zeroC_at hsh hi _ _ hk]
   split
   ·exact fitR_zero.mono hN
   ·rw [← tabF_row hsh hi]
    exact hF1 i k (by omega)
  ·have hl := hsh.len
   have hx : u.rows[i]? = some (u.rows[i]'(by omega)) := List.getElem?_eq_getElem (by omega)
   rw [ent, zeroC, List.getD_eq_getElem?_getD (l := u.rows.map _), List.getElem?_map, hx, Option.map_some, Option.getD_some, getD_ge _ _ _ (by rw [List.length_set, hsh.row _ (List.getElem_mem _)]; omega)]
   exact fitR_zero.mono hN
end
abbrev slT : TypeId := 73
structure V8 (w : World) (g : Nat) (x0 x1 x2 x3 x4 x5 x6 x7 : Value) : Prop where
 c0 : w.cell? ⟨g, 0, none⟩ = some x0
 c1 : w.cell? ⟨g, 1, none⟩ = some x1
 c2 : w.cell? ⟨g, 2, none⟩ = some x2
 c3 : w.cell? ⟨g, 3, none⟩ = some x3
 c4 : w.cell? ⟨g, 4, none⟩ = some x4
 c5 : w.cell? ⟨g, 5, none⟩ = some x5
 c6 : w.cell? ⟨g, 6, none⟩ = some x6
 c7 : w.cell? ⟨g, 7, none⟩ = some x7
 f0 : w.frozen? ⟨g, 0, none⟩ = false
 f1 : w.frozen? ⟨g, 1, none⟩ = false
 f2 : w.frozen? ⟨g, 2, none⟩ = false
 f3 : w.frozen? ⟨g, 3, none⟩ = false
 f4 : w.frozen? ⟨g, 4, none⟩ = false
 f5 : w.frozen? ⟨g, 5, none⟩ = false
 f6 : w.frozen? ⟨g, 6, none⟩ = false
 f7 : w.frozen? ⟨g, 7, none⟩ = false
section
variable {w w' : World} {g : Nat} {x0 x1 x2 x3 x4 x5 x6 x7 u0 u1 u2 u3 u4 u5 u6 u7 : Value}
theorem V8.lt (h : V8 w g x0 x1 x2 x3 x4 x5 x6 x7) : g < w.heap.size := World.block_lt_of_cell? w ⟨g, 0, none⟩ h.c0
theorem Blk.v8 {t : TypeId} (h : Blk w g t #[x0, x1, x2, x3, x4, x5, x6, x7]) : V8 w g x0 x1 x2 x3 x4 x5 x6 x7 := ⟨h.cell 0, h.cell 1, h.cell 2, h.cell 3, h.cell 4, h.cell 5, h.cell 6, h.cell 7, h.frozen 0, h.frozen 1, h.frozen 2, h.frozen 3, h.frozen 4, h.frozen 5, h.frozen 6, h.frozen 7⟩
end
def set8 (w : World) (g : Nat) (u0 u1 u2 u3 u4 u5 u6 u7 : Value) : World := (((((((w.setCell ⟨g, 0, none⟩ u0).setCell ⟨g, 1, none⟩ u1).setCell ⟨g, 2, none⟩ u2).setCell ⟨g, 3, none⟩ u3).setCell ⟨g, 4, none⟩ u4).setCell ⟨g, 5, none⟩ u5).setCell ⟨g, 6, none⟩ u6).setCell ⟨g, 7, none⟩ u7
theorem V8.of_blk {w : World} {g : Nat} {t : TypeId} {cs : Array Value} (h : Blk w g t cs) (hs : cs.size = 8) (u0 u1 u2 u3 u4 u5 u6 u7 : Value) : Blk (set8 w g u0 u1 u2 u3 u4 u5 u6 u7) g t #[u0, u1, u2, u3, u4, u5, u6, u7] := by
 have h8 := (((((((h.set_ 0 u0).set_ 1 u1).set_ 2 u2).set_ 3 u3).set_ 4 u4).set_ 5 u5).set_ 6 u6).set_ 7 u7
 have e : (((((((cs.setIfInBounds 0 u0).setIfInBounds 1 u1).setIfInBounds 2 u2).setIfInBounds 3 u3).setIfInBounds 4 u4).setIfInBounds 5 u5).setIfInBounds 6 u6).setIfInBounds 7 u7 = #[u0, u1, u2, u3, u4, u5, u6, u7] := by
  obtain ⟨l⟩ := cs
  have hl : l.length = 8 := hs
  clear hs h8 h
  match l, hl with
  | [a, b, c, d, e, f, g, h], _ => simp only [List.setIfInBounds_toArray, List.set_cons_zero, List.set_cons_succ]
 rw [← e]
 exact h8
theorem set8_other (w : World) {g k : Nat} (u0 u1 u2 u3 u4 u5 u6 u7 : Value) (h : k ≠ g) : (set8 w g u0 u1 u2 u3 u4 u5 u6 u7).heap[k]? = w.heap[k]? := by
 unfold set8
 rw [Below.heap_setCell _ _ _ _ h, Below.heap_setCell _ _ _ _ h, Below.heap_setCell _ _ _ _ h, Below.heap_setCell _ _ _ _ h, Below.heap_setCell _ _ _ _ h, Below.heap_setCell _ _ _ _ h, Below.heap_setCell _ _ _ _ h, Below.heap_setCell _ _ _ _ h]
theorem kw_set8 {w : World} {g : Nat} {t : TypeId} {cs : Array Value} (h : Blk w g t cs) (hn : ∀ u ∈ cs.toList, noWord u) {u0 u1 u2 u3 u4 u5 u6 u7 : Value} (h0 : noWord u0) (h1 : noWord u1) (h2 : noWord u2) (h3 : noWord u3) (h4 : noWord u4) (h5 : noWord u5) (h6 : noWord u6) : Kw w (set8 w g u0 u1 u2 u3 u4 u5 u6 u7) := by
 have k0 := h.set_ 0 u0
 have n0 := all_set hn 0 h0
 have k1 := k0.set_ 1 u1
 have n1 := all_set n0 1 h1
 have k2 := k1.set_ 2 u2
 have n2 := all_set n1 2 h2
 have k3 := k2.set_ 3 u3
 have n3 := all_set n2 3 h3
 have k4 := k3.set_ 4 u4
 have n4 := all_set n3 4 h4
 have k5 := k4.set_ 5 u5
 have n5 := all_set n4 5 h5
 have k6 := k5.set_ 6 u6
 have n6 := all_set n5 6 h6
 exact (((((((kw_nw h hn 0 u0).trans (kw_nw k0 n0 1 u1)).trans (kw_nw k1 n1 2 u2)).trans (kw_nw k2 n2 3 u3)).trans (kw_nw k3 n3 4 u4)).trans (kw_nw k4 n4 5 u5)).trans (kw_nw k5 n5 6 u6)).trans (kw_nw k6 n6 7 u7)
theorem below_set8 {w w' : World} {g : Nat} (hb : Below w.heap.size w w') (hg : w.heap.size ≤ g) (u0 u1 u2 u3 u4 u5 u6 u7 : Value) : Below w.heap.size w (set8 w' g u0 u1 u2 u3 u4 u5 u6 u7) :=
 (((((((hb.setCell (p := ⟨g, 0, none⟩) hg u0).setCell (p := ⟨g, 1, none⟩) hg u1).setCell (p := ⟨g, 2, none⟩) hg u2).setCell (p := ⟨g, 3, none⟩) hg u3).setCell (p := ⟨g, 4, none⟩) hg u4).setCell (p := ⟨g, 5, none⟩) hg u5).setCell (p := ⟨g, 6, none⟩) hg u6).setCell (p := ⟨g, 7, none⟩) hg u7
def SolV (w : World) (base : Nat) (v : Value) (s : SolvedQ) : Prop := ∃ vx vy vr nb B1 l1 c1 B2 l2 c2, v = .agg #[I s.kind, vx, vy, vr, .bool nb, .slice B1 l1 c1, .bool false, .slice B2 l2 c2] ∧
 RRow w base vx s.x ∧ RRow w base vy s.y ∧ RRow w base vr s.ray ∧ (s.kind = 0 → Rt w (.agg #[.bool nb, .slice B1 l1 c1, .bool false, .slice B2 l2 c2]) s.value)
def RetSol (w : World) (s : SolvedQ) (e : Ending) (w' : World) : Prop := ∃ v, e = .returned v ∧ SolV w' w.heap.size v s ∧ Below w.heap.size w w'
def zeros8 : Array Value := #[I 0, .slice none 0 0, .slice none 0 0, .slice none 0 0, .bool false, .slice none 0 0, .bool false, .slice none 0 0]
theorem zeros8_noWord : ∀ u ∈ zeros8.toList, noWord u := fun u hu => by
 simp only [zeros8, List.mem_cons, List.not_mem_nil, or_false] at hu
 rcases hu with rfl | rfl | rfl | rfl | rfl | rfl | rfl | rfl
 ·exact noWord_int _
 ·exact noWord_slice _ _ _
 ·exact noWord_slice _ _ _
 ·exact noWord_slice _ _ _
 ·exact noWord_bool _
 ·exact noWord_slice _ _ _
 ·exact noWord_bool _
 ·exact noWord_slice _ _ _
theorem RRow.set8 {w : World} {base g : Nat} {v : Value} {qs : List Rat} {cs : Array Value} (h : RRow w base v qs) (hB : Blk w g slT cs) {u0 u1 u2 u3 u4 u5 u6 u7 : Value} (k : Kw w (Proofs.YtcgfdfdcbamceaaGreatDoor.set8 w g u0 u1 u2 u3 u4 u5 u6 u7)) : RRow (Proofs.YtcgfdfdcbamceaaGreatDoor.set8 w g u0 u1 u2 u3 u4 u5 u6 u7) base v qs :=
 h.keep k fun x hx => by
  obtain ⟨cur, hC⟩ := h.blk hx
  exact set8_other _ _ _ _ _ _ _ _ _ (TBx.ne_ty hB hC (by decide))
theorem sol_end {w0 w : World} {s : SolvedQ} {k : Int} {xs ys rs : List Rat} {q : Rat} {Ax Ay Ar B1 B2 : Option Addr} {lx cx ly cy lr cr l1 c1 l2 c2 : Nat} {nb : Bool} (hB : Blk w w0.heap.size slT zeros8) (hb : Below w0.heap.size w0 w) (hs : s = ⟨k, xs, ys, rs, q⟩) (hx : RRow w w0.heap.size (.slice Ax lx cx) xs) (hy : RRow w w0.heap.size (.slice Ay ly cy) ys) (hr : RRow w w0.heap.size (.slice Ar lr cr) rs)
  (hv : k = 0 → Rt w (.agg #[.bool nb, .slice B1 l1 c1, .bool false, .slice B2 l2 c2]) q) :
  V8 (set8 w w0.heap.size (I k) (.slice Ax lx cx) (.slice Ay ly cy) (.slice Ar lr cr) (.bool nb) (.slice B1 l1 c1) (.bool false) (.slice B2 l2 c2)) w0.heap.size (I k) (.slice Ax lx cx) (.slice Ay ly cy) (.slice Ar lr cr) (.bool nb) (.slice B1 l1 c1) (.bool false) (.slice B2 l2 c2) ∧
  RetSol w0 s (.returned (.agg #[I k, .slice Ax lx cx, .slice Ay ly cy, .slice Ar lr cr, .bool nb, .slice B1 l1 c1, .bool false, .slice B2 l2 c2])) (set8 w w0.heap.size (I k) (.slice Ax lx cx) (.slice Ay ly cy) (.slice Ar lr cr) (.bool nb) (.slice B1 l1 c1) (.bool false) (.slice B2 l2 c2)) := by
 have hk := kw_set8 hB zeros8_noWord (u0 := I k) (u1 := .slice Ax lx cx) (u2 := .slice Ay ly cy) (u3 := .slice Ar lr cr) (u4 := .bool nb) (u5 := .slice B1 l1 c1) (u6 := .bool false) (u7 := .slice B2 l2 c2) (noWord_int _) (noWord_slice _ _ _) (noWord_slice _ _ _) (noWord_slice _ _ _) (noWord_bool _) (noWord_slice _ _ _) (noWord_bool _)
 subst hs
 exact ⟨(V8.of_blk hB rfl _ _ _ _ _ _ _ _).v8, _, rfl, ⟨_, _, _, _, _, _, _, _, _, _, rfl, hx.set8 hB hk, hy.set8 hB hk, hr.set8 hB hk, fun e => (hv e).kw hk⟩, below_set8 hb (Nat.le_refl _) _ _ _ _ _ _ _ _⟩
section
variable {a : List (List Rat)} {b c : List Rat} {m n N : Nat}
theorem valN_fit {t : TabQ} {W : Nat} (h : ShQ t m W) (hN : 1 ≤ N) (f : ∀ i k, i ≤ m → FitR N (tabF t i k)) : ∀ i, i ≤ m → ∀ k, FitR N ((valN t n i).getD k 0)
 | 0, _, k => by
  rw [valN, getD_rep]
  exact fitR_zero.mono hN
 | i + 1, hi, k => by
  rw [valN]
  split
  ·rw [getD_set]
   split
   ·rw [end_at h (by omega)]
    exact f i W (by omega)
   ·exact valN_fit h hN f i (by omega) k
  ·exact valN_fit h hN f i (by omega) k
theorem last_tab (hp : ProbQ a b c m n) : lastQ (phase1 a b n).tgt = tabF (phase1 a b n) m (n + m + 1) := by
 have h1 := phase1_inv hp
 rw [lastQ, tabF_tgt h1.inv.sh, h1.inv.sh.tgt, Nat.add_sub_cancel]
theorem solveQ_neg (hp : ProbQ a b c m n) (h : tabF (phase1 a b n) m (n + m + 1) < 0) : solveQ a b c = ⟨1, [], ((phase1 a b n).tgt.drop n).take m, [], 0⟩ := by
 have hl := last_tab hp
 rw [solveQ, hp.lc, hp.len]
 simp only
 rw [if_pos (by rw [hl]; exact h)]
theorem sett0 (hp : ProbQ a b c m n) (h : ¬ tabF (phase1 a b n) m (n + m + 1) < 0) : SettI m n a b (phase1 a b n) 0 := by
 have h1 := phase1_inv hp
 refine ⟨h1.inv, ?_, fun i hi => absurd hi (by omega)⟩
 have k1 := Rat.not_lt.1 h
 have k2 := phase1_le h1.inv
 have k3 := bx_nn (W := n + m + 1) (T := tabF (phase1 a b n)) (bs := basF (phase1 a b n)) h1.inv.nn (k := n + m) (by omega)
 grind
theorem solveQ_best (hp : ProbQ a b c m n) (h : ¬ tabF (phase1 a b n) m (n + m + 1) < 0) (hk : (phase2 a c n (phase1 a b n)).2 = none) :
  solveQ a b c = ⟨0, valN (phase2 a c n (phase1 a b n)).1 n m, ((phase2 a c n (phase1 a b n)).1.tgt.drop n).take m, [], dotQ c (valN (phase2 a c n (phase1 a b n)).1 n m)⟩ := by
 have hl := last_tab hp
 have hb := (phase2_inv hp (sett0 hp h)).inv.sh.bas
 rw [solveQ, hp.lc, hp.len]
 simp only
 rw [if_neg (by rw [hl]; exact h), hk, hb]
 rfl
theorem solveQ_free (hp : ProbQ a b c m n) (h : ¬ tabF (phase1 a b n) m (n + m + 1) < 0) {k : Nat} (hk : (phase2 a c n (phase1 a b n)).2 = some k) :
  solveQ a b c = ⟨2, valN (phase2 a c n (phase1 a b n)).1 n m, [], rayN (phase2 a c n (phase1 a b n)).1 k n m, 0⟩ := by
 have hl := last_tab hp
 have hb := (phase2_inv hp (sett0 hp h)).inv.sh.bas
 rw [solveQ, hp.lc, hp.len]
 simp only
 rw [if_neg (by rw [hl]; exact h), hk, hb]
end
end Go.Proofs.YtcgfdfdcbamceaaGreatDoor
