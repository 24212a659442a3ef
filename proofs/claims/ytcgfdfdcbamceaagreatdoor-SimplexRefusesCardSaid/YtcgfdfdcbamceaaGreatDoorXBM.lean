/- (*simplex.table).improve. -/
import Derived.Test.YtcgfdfdcbamceaaGreatDoorXBK
import Derived.Test.YtcgfdfdcbamceaaGreatDoorXBL
namespace Go.Proofs.YtcgfdfdcbamceaaGreatDoor
open Go.RowKit
def enterK (t : TabQ) (k : Nat) : Option Nat := ((List.range t.cols).drop k).find? fun k => decide (t.tgt.getD k 0 < 0)
theorem enterK_zero (t : TabQ) : enterK t 0 = enterQ t := rfl
theorem enterK_step {t : TabQ} {k : Nat} (hk : k < t.cols) : enterK t k = if t.tgt.getD k 0 < 0 then some k else enterK t (k + 1) := by
 unfold enterK
 rw [List.drop_eq_getElem_cons (by rw [List.length_range]; exact hk), List.find?_cons, List.getElem_range]
 by_cases h : t.tgt.getD k 0 < 0
 ·rw [if_pos h, decide_eq_true h]
 ·rw [if_neg h, decide_eq_false h]
theorem enterK_end (t : TabQ) : enterK t t.cols = none := by
 unfold enterK
 rw [List.drop_of_length_le (by rw [List.length_range]; exact Nat.le_refl _)]
 rfl
def optI : Option Nat → Int
 | none => -1
 | some k => k
theorem num_lt0 {q : Rat} : q < 0 ↔ q.num < 0 := by
 rw [Rat.lt_iff]
 simp
theorem num_gt0 {q : Rat} : 0 < q ↔ 0 < q.num := by
 rw [Rat.lt_iff]
 simp
theorem neg_sign {q : Rat} : decide (q.num.sign < 0) = decide (q < 0) := by
 rw [decide_eq_decide, Int.sign_neg_iff, num_lt0]
structure RunS (m W K : Nat) (T0 : Nat → Nat → Rat) (t0 : TabQ) (f0 f : Nat) (t : TabQ) : Prop where
 run : ∃ (N : Nat) (T : Nat → Nat → Nat → Rat) (bs : Nat → Nat → Nat) (rr cc : Nat → Nat), RunF m W K N T bs rr cc ∧ T N = tabF t ∧ bs N = basF t ∧ K ^ m ≤ N + f
 inv : InvP m W K T0 t
 same : improveQ f t = improveQ f0 t0
section
variable {m W K f0 f : Nat} {T0 : Nat → Nat → Rat} {t0 t : TabQ}
theorem RunS.start (h : InvP m W K T0 t) (hf : K ^ m ≤ f) : RunS m W K T0 t f f t :=
 ⟨⟨0, fun _ => tabF t, fun _ => basF t, fun _ => 0, fun _ => 0, ⟨h.bas, h.nn, fun k hk => absurd hk (by omega), fun k hk => absurd hk (by omega), fun k hk => absurd hk (by omega)⟩, rfl, rfl, by omega⟩, h, rfl⟩
theorem RunS.pos (h : RunS m W K T0 t0 f0 f t) : ∃ f', f = f' + 1 := by
 obtain ⟨N, T, bs, rr, cc, hr, _, _, hN⟩ := h.run
 have := hr.short
 exact ⟨f - 1, by omega⟩
theorem RunS.none_ (h : RunS m W K T0 t0 f0 f t) (he : enterQ t = none) : improveQ f0 t0 = (t, none) := by
 obtain ⟨f', rfl⟩ := h.pos
 rw [← h.same, improveQ, he]
theorem RunS.free (h : RunS m W K T0 t0 f0 f t) {c : Nat} (he : enterQ t = some c) (hl : leaveQ t c = none) : improveQ f0 t0 = (t, some c) := by
 obtain ⟨f', rfl⟩ := h.pos
 rw [← h.same, improveQ, he]
 simp only
 rw [hl]
theorem RunS.step (h : RunS m W K T0 t0 f0 f t) {c r : Nat} (he : enterQ t = some c) (hl : leaveQ t c = some r) : ∃ f', f = f' + 1 ∧ RunS m W K T0 t0 f0 f' (pivQ t r c) ∧ r < m ∧ c < K ∧ ent t.rows r c ≠ 0 := by
 obtain ⟨f', rfl⟩ := h.pos
 have hs := step_of h.inv he hl
 have hi := h.inv
 obtain ⟨N, T, bs, rr, cc, hr, hT, hb, hN⟩ := h.run
 refine ⟨f', rfl, ⟨⟨N + 1, fun k => if k ≤ N then T k else tabF (pivQ t r c), fun k => if k ≤ N then bs k else basF (pivQ t r c), fun k => if k = N then r else rr k, fun k => if k = N then c else cc k, ?_, if_neg (by omega), if_neg (by omega), by omega⟩, hi.piv hs, ?_⟩, hs.hr, hs.hc, by
  have := hs.ne
  rw [tabF_row hi.sh hs.hr] at this
  exact this⟩
 ·refine ⟨?_, ?_, fun k hk => ?_, fun k hk => ?_, fun k hk => ?_⟩
  ·rw [if_pos (by omega), if_pos (by omega)]; exact hr.bas
  ·rw [if_pos (by omega)]; exact hr.nn
  ·by_cases kN : k = N
   ·subst kN
    simp only [Nat.le_refl, if_true]
    rw [hT, hb]
    exact hs
   ·simp only [if_pos (show k ≤ N by omega), if_neg kN]
    exact hr.step k (by omega)
  ·by_cases kN : k = N
   ·subst kN
    simp only [Nat.le_refl, if_true, if_neg (show ¬ k + 1 ≤ k by omega)]
    rw [hT]
    exact tabF_piv hi.sh hs.hr
   ·simp only [if_pos (show k ≤ N by omega), if_pos (show k + 1 ≤ N by omega), if_neg kN]
    exact hr.nextT k (by omega)
  ·by_cases kN : k = N
   ·subst kN
    simp only [Nat.le_refl, if_true, if_neg (show ¬ k + 1 ≤ k by omega)]
    rw [hb]
    exact basF_piv hi.sh hs.hr
   ·simp only [if_pos (show k ≤ N by omega), if_pos (show k + 1 ≤ N by omega), if_neg kN]
    exact hr.nextB k (by omega)
 ·rw [← h.same, improveQ, he]
  simp only
  rw [hl]
end
theorem leaveN_step (t : TabQ) (c W i : Nat) : leaveN t c W (i + 1) = if ent t.rows i c ≤ 0 then leaveN t c W i else match leaveN t c W i with
  | none => some i
  | some r => if betterQ t c W i r = true then some i else some r := rfl
theorem leaveN_lt {t : TabQ} {c W : Nat} : ∀ {n r : Nat}, leaveN t c W n = some r → r < n := fun {n r} h => ((leaveN_spec t c W n).2 r h).1
theorem pos_sign {q : Rat} : decide (q.num.sign ≤ 0) = decide (q ≤ 0) := by
 rw [decide_eq_decide]
 have h1 : q ≤ 0 ↔ q.num ≤ 0 := by
  rw [← Rat.not_lt, ← Int.not_lt, num_gt0]
 rw [h1]
 constructor
 ·intro h
  rcases Int.lt_or_le 0 q.num with k | k
  ·rw [Int.sign_eq_one_of_pos k] at h
   omega
  ·exact k
 ·intro h
  rcases Int.lt_or_eq_of_le h with k | k
  ·rw [Int.sign_eq_neg_one_of_neg k]
   decide
  ·rw [k]
   decide
set_option maxRecDepth 100000 in
set_option maxHeartbeats 40000000 in
theorem improve_any (base g cv bt ot ct cb m V W K : Nat) (A Ab : Option Addr) (vs : List Value) (T0 : Nat → Nat → Rat) (t0 : TabQ) (f0 : Nat) (w : World) (h : TBx w base g A cv vs bt ot ct Ab cb m V W t0) (hi : InvP m W K T0 t0) (hf : K ^ m ≤ f0) (hm : m ≤ 900) (hW : W ≤ 900)
  (HF0 : ∀ t', InvQ m W K T0 t' → ∀ i k, i ≤ m → FitR 350000 (tabF t' i k)) (hbase : base ≤ w.heap.size) :
  Calls Tryz.prog 60 #[.pointer (some ⟨g, 0, none⟩)] w fun e w' => e = .returned (I (optI (improveQ f0 t0).2)) ∧ TBx w' base g A cv vs bt ot ct Ab cb m V W (improveQ f0 t0).1 ∧ Below base w w' := by
 have HFT := Lib.hid HF0
 have HT := Lib.hid h
 have HRS := Lib.hid (RunS.start hi hf)
 have HB := Lib.hid (Below.refl base w)
 have HBA := Lib.hid hbase
 have HKW := Lib.hid hi.bas.kw
 have HVV := Lib.hid h.hv
 have hvv : V ≤ 901 := by have := h.hv; omega
 clear h hi hf HF0
 go_enter Tryz.func60, Tryz.ntmps60
 go_wp2
 go_loopg [3] (f0) (fun mm v wr => ∃ (f : Nat) (t : TabQ), mm = f ∧ Hid (RunS m W K T0 t0 f0 f t) ∧ Hid (TBx wr base g A cv vs bt ot ct Ab cb m V W t) ∧ Hid (Below base w wr))
 case atStart => exact ⟨f0, t0, rfl, HRS, HT, HB⟩
 case round =>
  clear HRS HT HB
  obtain ⟨f, t, rfl, HRS, HT, HB⟩ := hrel
  obtain ⟨wa, rfl⟩ : ∃ wa : World, wa = wr := ⟨_, rfl⟩
  have HFR := Lib.hid (fun i k h => HFT.out t HRS.out.inv.toInvQ i k h)
  have HSH := Lib.hid HRS.out.inv.sh
  have HCK := Lib.hid HRS.out.inv.cols
  have q3 : wa.cell? ⟨g, 3, none⟩ = some (I K) := by rw [← HCK.out]; exact HT.out.blk.cell 3
  have HEN := Lib.hid (enterK_zero t).symm
  go_wp2
  clear q3
  go_loopg [3, 12] (K - 0) (fun mm cv3 v wr => ∃ k : Nat, mm = K - k ∧ cv3 = I (-1) ∧ v = I k ∧ k ≤ K ∧ Hid (enterQ t = enterK t k) ∧ Hid (TBx wr base g A cv vs bt ot ct Ab cb m V W t) ∧ Hid (Below base w wr))
  case atStart => exact ⟨0, rfl, rfl, rfl, by omega, HEN, HT, HB⟩
  case round =>
   clear HEN HT HB
   obtain ⟨k, rfl, rfl, rfl, hk, HEN, HT, HB⟩ := hrel
   obtain ⟨wb, rfl⟩ : ∃ wb : World, wb = wr := ⟨_, rfl⟩
   by_cases hkl : k < K
   ·have hkv : k < V := by have := HKW.out; have := HVV.out; omega
    obtain ⟨b9, o9, nb, B1, l1, c1, B2, l2, c2, e9, hbl, hC, hrt⟩ := HT.out.tg.rv.form (k := k) hkv (t.tgt.getD k 0) (by rw [List.getD_eq_getElem?_getD, List.getElem?_eq_getElem (by rw [HSH.out.tgt, ← HVV.out]; exact hkv)]; rfl)
    injection e9 with e9
    injection e9 with e9 e8 _
    subst e9 e8
    have e0 := hC.c0
    have e1 := hC.c1
    have e2 := hC.c2
    have e3 := hC.c3
    have RX := Lib.hid hrt
    clear hC hrt
    have q1 : wb.cell? ⟨g, 1, none⟩ = some (.slice (some ⟨bt, ot, none⟩) V ct) := HT.out.blk.cell 1
    have HST := Lib.hid (enterK_step (t := t) (k := k) (by rw [HCK.out]; exact hkl))
    generalize hq : t.tgt.getD k 0 = q at *
    have HC := Lib.hid (rsign_any _ _ wb RX.out)
    go_wp2_with fail
    refine HC.out.mono ?_
    rintro e w5 ⟨rfl, hb⟩
    clear HC q1 e0 e1 e2 e3 RX hbl
    replace HB := Lib.hid (HB.out.trans (hb.mono (Nat.le_trans HBA.out HB.out.size)))
    replace HT := Lib.hid (HT.out.call hb)
    clear hb
    by_cases hn : q < 0
    ·have tn : decide (q.num.sign < 0) = true := by rw [neg_sign]; exact decide_eq_true hn
     have HE := Lib.hid (show enterQ t = some k by rw [HEN.out, HST.out, if_pos hn])
     generalize q.num.sign = sg at *
     clear hn HEN HST
     have q0 : w5.cell? ⟨g, 0, none⟩ = some (.slice A m cv) := HT.out.blk.cell 0
     have HLV := Lib.hid (show leaveN t k W 0 = none from rfl)
     have hkn : ¬ ((k : Int) < 0) := by omega
     go_wp2
     clear q0 tn
     go_loopg [5, 33] (m - 0) (fun mm rv iv wr => ∃ i : Nat, mm = m - i ∧ rv = I (optI (leaveN t k W i)) ∧ iv = I i ∧ i ≤ m ∧ Hid (TBx wr base g A cv vs bt ot ct Ab cb m V W t) ∧ Hid (Below base w wr))
     case atStart => exact ⟨0, rfl, rfl, rfl, by omega, HT, HB⟩
     case round =>
      clear HLV HT HB
      obtain ⟨i, rfl, rfl, rfl, hi, HT, HB⟩ := hrel
      obtain ⟨wc, rfl⟩ : ∃ wc : World, wc = wr := ⟨_, rfl⟩
      by_cases hil : i < m
      ·have hkw : k ≤ W := by have := HKW.out; omega
       have HLS := Lib.hid (leaveN_step t k W i)
       obtain ⟨gv, ov, b, o, k0, hA, hu, hcl, _, _, _, _, hbl, hgl⟩ := HT.out.row hil
       subst hA
       obtain ⟨nb, B1, l1, c1, B2, l2, c2, hE, hrt⟩ := HT.out.el hil hkw hu
       have HU := Lib.hid hu
       have RX := Lib.hid hrt
       have EL := Lib.hid hE
       have CI := Lib.hid hcl
       have e0 := hE.c0
       have e1 := hE.c1
       have e2 := hE.c2
       have e3 := hE.c3
       clear hE hrt hu
       have q0 : wc.cell? ⟨g, 0, none⟩ = some (.slice (some ⟨gv, ov, none⟩) m cv) := HT.out.blk.cell 0
       generalize hq2 : ent t.rows i k = q2 at *
       have HQ2 := Lib.hid hq2
       clear hq2
       have HC := Lib.hid (rsign_any _ _ wc RX.out)
       go_wp2_with fail
       refine HC.out.mono ?_
       rintro e w6 ⟨rfl, hb⟩
       clear HC q0 e0 e1 e2 e3 hbl hgl hcl
       replace HB := Lib.hid (HB.out.trans (hb.mono (Nat.le_trans HBA.out HB.out.size)))
       replace HT := Lib.hid (HT.out.call hb)
       replace RX := Lib.hid (RX.out.ext hb)
       replace EL := Lib.hid (EL.out.below hb)
       replace CI := Lib.hid (cell_below CI.out hb)
       clear hb
       by_cases hle : q2 ≤ 0
       ·have tn2 : decide (q2.num.sign ≤ 0) = true := by rw [pos_sign]; exact decide_eq_true hle
        have HLN := Lib.hid (show leaveN t k W (i + 1) = leaveN t k W i by rw [HLS.out, if_pos hle])
        generalize q2.num.sign = sg2 at *
        clear hle HLS RX EL CI
        go_wp2
        go_roundg (m - (i + 1))
        case measure => omega
        case rel => exact ⟨i + 1, rfl, by rw [HLN.out], by go_num, by omega, HT, HB⟩
       ·have tn2 : decide (q2.num.sign ≤ 0) = false := by rw [pos_sign]; exact decide_eq_false hle
        generalize q2.num.sign = sg2 at *
        rw [if_neg hle] at HLS
        clear hle
        cases hlv : leaveN t k W i with
        | none =>
         have HLN := Lib.hid (show leaveN t k W (i + 1) = some i by rw [HLS.out, hlv])
         clear hlv HLS RX EL CI
         unfold optI
         go_wp2
         go_roundg (m - (i + 1))
         case measure => omega
         case rel => exact ⟨i + 1, rfl, by rw [HLN.out]; rfl, by go_num, by omega, HT, HB⟩
        | some r =>
         have hri := leaveN_lt hlv
         have hrm : r < m := by omega
         have HLN := Lib.hid (show leaveN t k W (i + 1) = if betterQ t k W i r = true then some i else some r by rw [HLS.out, hlv])
         have HLV := Lib.hid hlv
         clear hlv HLS
         rw [show I (optI (some r)) = I r from rfl]
         obtain ⟨gv2, ov2, b2, o2, k2, hA2, hu2, hcl2, _, _, _, _, _, _⟩ := HT.out.row hrm
         injection hA2 with hA2
         injection hA2 with e1 e2
         subst e1 e2
         obtain ⟨mb, X1, x1, y1, X2, x2, y2, hE2, hrt2⟩ := HT.out.el hrm hkw hu2
         have RR := Lib.hid hrt2
         have ER := Lib.hid hE2
         have CR := Lib.hid hcl2
         have G0 := Lib.hid (show w6.cell? ⟨g, 0, none⟩ = some (.slice (some ⟨gv, ov, none⟩) m cv) from HT.out.blk.cell 0)
         clear hE2 hrt2 hcl2 hu2
         have hrn : ¬ ((r : Int) < 0) := by omega
         go_upto_region 17 with (fail)
         have hd := below_draw w6
         replace HB := Lib.hid (HB.out.trans (hd.mono (Nat.le_trans HBA.out HB.out.size)))
         replace HT := Lib.hid (HT.out.call hd)
         replace RX := Lib.hid (RX.out.ext hd)
         replace EL := Lib.hid (EL.out.below hd)
         replace CI := Lib.hid (cell_below CI.out hd)
         replace RR := Lib.hid (RR.out.ext hd)
         replace ER := Lib.hid (ER.out.below hd)
         replace CR := Lib.hid (cell_below CR.out hd)
         replace G0 := Lib.hid (cell_below G0.out hd)
         clear hd
         have hkv2 : k < V := by have := HVV.out; omega
         refine wp_region_c (fun w' => w'.cell? ⟨g, 0, none⟩ = some (.slice (some ⟨gv, ov, none⟩) m cv) ∧ w'.cell? ⟨gv, ov + i, none⟩ = some (.slice (some ⟨b, o, none⟩) V k0) ∧ w'.cell? ⟨gv, ov + r, none⟩ = some (.slice (some ⟨b2, o2, none⟩) V k2) ∧ w'.cell? ⟨b, o + k * 4, none⟩ = some (.bool nb) ∧ w'.cell? ⟨b, o + k * 4 + 1, none⟩ = some (.slice B1 l1 c1) ∧ w'.cell? ⟨b, o + k * 4 + 2, none⟩ = some (.bool false) ∧ w'.cell? ⟨b, o + k * 4 + 3, none⟩ = some (.slice B2 l2 c2) ∧ w'.cell? ⟨b2, o2 + k * 4, none⟩ = some (.bool mb) ∧ w'.cell? ⟨b2, o2 + k * 4 + 1, none⟩ = some (.slice X1 x1 y1) ∧ w'.cell? ⟨b2, o2 + k * 4 + 2, none⟩ = some (.bool false) ∧ w'.cell? ⟨b2, o2 + k * 4 + 3, none⟩ = some (.slice X2 x2 y2)) 29 (by kernel_rfl) ?_
         generalize w6.drew = w7 at *
         refine tkS ⟨G0.out, CI.out, CR.out, EL.out.c0, EL.out.c1, EL.out.c2, EL.out.c3, ER.out.c0, ER.out.c1, ER.out.c2, ER.out.c3⟩ fun hSS => ?_
         refine tq 0 (.pointer (some ⟨g, 0, none⟩)) rfl ?_ hSS ?_
         ·rintro w ⟨s0, s1, s2, s3, s4, s5, s6, s7, s8, s9, s10⟩
          go_simp
         try simp only [Act.put, putA]
         refine tq 1 (I i) rfl ?_ hSS ?_
         ·rintro w ⟨s0, s1, s2, s3, s4, s5, s6, s7, s8, s9, s10⟩
          go_simp
         try simp only [Act.put]
         refine tq 3 (.pointer (some ⟨g, 0, none⟩)) rfl ?_ hSS ?_
         ·rintro w ⟨s0, s1, s2, s3, s4, s5, s6, s7, s8, s9, s10⟩
          go_simp
         try simp only [Act.put]
         refine tq 4 (.pointer (some ⟨g, 0, none⟩)) rfl ?_ hSS ?_
         ·rintro w ⟨s0, s1, s2, s3, s4, s5, s6, s7, s8, s9, s10⟩
          go_simp
         try simp only [Act.put]
         refine tq 5 (.pointer (some ⟨g, 0, none⟩)) rfl ?_ hSS ?_
         ·rintro w ⟨s0, s1, s2, s3, s4, s5, s6, s7, s8, s9, s10⟩
          go_simp
         try simp only [Act.put]
         refine tq 6 (.slice (some ⟨gv, ov, none⟩) m cv) rfl ?_ hSS ?_
         ·rintro w ⟨s0, s1, s2, s3, s4, s5, s6, s7, s8, s9, s10⟩
          go_simp
         try simp only [Act.put]
         refine tq 7 (I r) rfl ?_ hSS ?_
         ·rintro w ⟨s0, s1, s2, s3, s4, s5, s6, s7, s8, s9, s10⟩
          go_simp
         try simp only [Act.put]
         refine tq 8 (.pointer (some ⟨gv, ov + r, none⟩)) rfl ?_ hSS ?_
         ·rintro w ⟨s0, s1, s2, s3, s4, s5, s6, s7, s8, s9, s10⟩
          go_simp
         try simp only [Act.put]
         refine tq 9 (.slice (some ⟨b2, o2, none⟩) V k2) rfl ?_ hSS ?_
         ·rintro w ⟨s0, s1, s2, s3, s4, s5, s6, s7, s8, s9, s10⟩
          go_simp
         try simp only [Act.put]
         refine tq 10 (I k) rfl ?_ hSS ?_
         ·rintro w ⟨s0, s1, s2, s3, s4, s5, s6, s7, s8, s9, s10⟩
          go_simp
         try simp only [Act.put]
         refine tq 11 (.pointer (some ⟨b2, o2 + k * 4, none⟩)) rfl ?_ hSS ?_
         ·rintro w ⟨s0, s1, s2, s3, s4, s5, s6, s7, s8, s9, s10⟩
          go_simp
         try simp only [Act.put]
         refine tq 12 (.agg #[.bool mb, .slice X1 x1 y1, .bool false, .slice X2 x2 y2]) rfl ?_ hSS ?_
         ·rintro w ⟨s0, s1, s2, s3, s4, s5, s6, s7, s8, s9, s10⟩
          go_simp
         try simp only [Act.put]
         refine tq 14 (.pointer (some ⟨g, 0, none⟩)) rfl ?_ hSS ?_
         ·rintro w ⟨s0, s1, s2, s3, s4, s5, s6, s7, s8, s9, s10⟩
          go_simp
         try simp only [Act.put]
         refine tq 15 (I r) rfl ?_ hSS ?_
         ·rintro w ⟨s0, s1, s2, s3, s4, s5, s6, s7, s8, s9, s10⟩
          go_simp
         try simp only [Act.put]
         refine tq 17 (.pointer (some ⟨g, 0, none⟩)) rfl ?_ hSS ?_
         ·rintro w ⟨s0, s1, s2, s3, s4, s5, s6, s7, s8, s9, s10⟩
          go_simp
         try simp only [Act.put]
         refine tq 18 (.pointer (some ⟨g, 0, none⟩)) rfl ?_ hSS ?_
         ·rintro w ⟨s0, s1, s2, s3, s4, s5, s6, s7, s8, s9, s10⟩
          go_simp
         try simp only [Act.put]
         refine tq 19 (.pointer (some ⟨g, 0, none⟩)) rfl ?_ hSS ?_
         ·rintro w ⟨s0, s1, s2, s3, s4, s5, s6, s7, s8, s9, s10⟩
          go_simp
         try simp only [Act.put]
         refine tq 20 (.slice (some ⟨gv, ov, none⟩) m cv) rfl ?_ hSS ?_
         ·rintro w ⟨s0, s1, s2, s3, s4, s5, s6, s7, s8, s9, s10⟩
          go_simp
         try simp only [Act.put]
         refine tq 21 (I i) rfl ?_ hSS ?_
         ·rintro w ⟨s0, s1, s2, s3, s4, s5, s6, s7, s8, s9, s10⟩
          go_simp
         try simp only [Act.put]
         refine tq 22 (.pointer (some ⟨gv, ov + i, none⟩)) rfl ?_ hSS ?_
         ·rintro w ⟨s0, s1, s2, s3, s4, s5, s6, s7, s8, s9, s10⟩
          go_simp
         try simp only [Act.put]
         refine tq 23 (.slice (some ⟨b, o, none⟩) V k0) rfl ?_ hSS ?_
         ·rintro w ⟨s0, s1, s2, s3, s4, s5, s6, s7, s8, s9, s10⟩
          go_simp
         try simp only [Act.put]
         refine tq 24 (I k) rfl ?_ hSS ?_
         ·rintro w ⟨s0, s1, s2, s3, s4, s5, s6, s7, s8, s9, s10⟩
          go_simp
         try simp only [Act.put]
         refine tq 25 (.pointer (some ⟨b, o + k * 4, none⟩)) rfl ?_ hSS ?_
         ·rintro w ⟨s0, s1, s2, s3, s4, s5, s6, s7, s8, s9, s10⟩
          go_simp
         try simp only [Act.put]
         refine tq 26 (.agg #[.bool nb, .slice B1 l1 c1, .bool false, .slice B2 l2 c2]) rfl ?_ hSS ?_
         ·rintro w ⟨s0, s1, s2, s3, s4, s5, s6, s7, s8, s9, s10⟩
          go_simp
         try simp only [Act.put]
         have HF1 := Lib.hid (show ∀ a, a < m → FitR 350000 (ent t.rows a W) from fun a ha => by have := HFR.out a W (by omega); rw [tabF_row HSH.out ha] at this; exact this)
         have HF2 := Lib.hid (show ∀ a, a < m → FitR 350000 (ent t.rows a k) from fun a ha => by have := HFR.out a k (by omega); rw [tabF_row HSH.out ha] at this; exact this)
         refine on1 2 fun K hK => ?_
         go_simp
         go_at_call 85
         refine (end_any base g cv bt ot ct cb m V W i (some ⟨gv, ov, none⟩) Ab vs t _ HT.out hil hm hW).mono ?_
         rintro e w8 ⟨v8, rfl, hv, hb⟩
         replace HB := Lib.hid (HB.out.trans (hb.mono (Nat.le_trans HBA.out HB.out.size)))
         replace HT := Lib.hid (HT.out.call hb)
         replace RX := Lib.hid (RX.out.ext hb)
         replace EL := Lib.hid (EL.out.below hb)
         replace CI := Lib.hid (cell_below CI.out hb)
         replace RR := Lib.hid (RR.out.ext hb)
         replace ER := Lib.hid (ER.out.below hb)
         replace CR := Lib.hid (cell_below CR.out hb)
         replace G0 := Lib.hid (cell_below G0.out hb)
         clear hb
         refine hK.out _ _ (fun _ => ⟨G0.out, CI.out, CR.out, EL.out.c0, EL.out.c1, EL.out.c2, EL.out.c3, ER.out.c0, ER.out.c1, ER.out.c2, ER.out.c3⟩) ?_
         clear hK K
         try simp only [Act.put, putA, putZ, putC]
         have RE1 := Lib.hid (hv)
         clear hv
         refine on1 13 fun K hK => ?_
         go_simp
         go_at_call 54
         refine (rmul_any _ _ (ent t.rows i W) (ent t.rows r k) _ RE1.out RR.out (N := 350000) (by decide) (HF1.out i hil) (HF2.out r hrm)).mono ?_
         rintro e w9 ⟨v9, rfl, hv, hb⟩
         replace HB := Lib.hid (HB.out.trans (hb.mono (Nat.le_trans HBA.out HB.out.size)))
         replace HT := Lib.hid (HT.out.call hb)
         replace RX := Lib.hid (RX.out.ext hb)
         replace EL := Lib.hid (EL.out.below hb)
         replace CI := Lib.hid (cell_below CI.out hb)
         replace RR := Lib.hid (RR.out.ext hb)
         replace ER := Lib.hid (ER.out.below hb)
         replace CR := Lib.hid (cell_below CR.out hb)
         replace G0 := Lib.hid (cell_below G0.out hb)
         replace RE1 := Lib.hid (RE1.out.ext hb)
         clear hb
         refine hK.out _ _ (fun _ => ⟨G0.out, CI.out, CR.out, EL.out.c0, EL.out.c1, EL.out.c2, EL.out.c3, ER.out.c0, ER.out.c1, ER.out.c2, ER.out.c3⟩) ?_
         clear hK K
         try simp only [Act.put, putA, putZ, putC]
         have RM1 := Lib.hid (hv)
         clear hv
         refine on1 16 fun K hK => ?_
         go_simp
         go_at_call 85
         refine (end_any base g cv bt ot ct cb m V W r (some ⟨gv, ov, none⟩) Ab vs t _ HT.out hrm hm hW).mono ?_
         rintro e w10 ⟨v10, rfl, hv, hb⟩
         replace HB := Lib.hid (HB.out.trans (hb.mono (Nat.le_trans HBA.out HB.out.size)))
         replace HT := Lib.hid (HT.out.call hb)
         replace RX := Lib.hid (RX.out.ext hb)
         replace EL := Lib.hid (EL.out.below hb)
         replace CI := Lib.hid (cell_below CI.out hb)
         replace RR := Lib.hid (RR.out.ext hb)
         replace ER := Lib.hid (ER.out.below hb)
         replace CR := Lib.hid (cell_below CR.out hb)
         replace G0 := Lib.hid (cell_below G0.out hb)
         replace RE1 := Lib.hid (RE1.out.ext hb)
         replace RM1 := Lib.hid (RM1.out.ext hb)
         clear hb
         refine hK.out _ _ (fun _ => ⟨G0.out, CI.out, CR.out, EL.out.c0, EL.out.c1, EL.out.c2, EL.out.c3, ER.out.c0, ER.out.c1, ER.out.c2, ER.out.c3⟩) ?_
         clear hK K
         try simp only [Act.put, putA, putZ, putC]
         have RE2 := Lib.hid (hv)
         clear hv
         rw [← HQ2.out] at RX
         refine on1 27 fun K hK => ?_
         go_simp
         go_at_call 54
         refine (rmul_any _ _ (ent t.rows r W) (ent t.rows i k) _ RE2.out RX.out (N := 350000) (by decide) (HF1.out r hrm) (HF2.out i hil)).mono ?_
         rintro e w11 ⟨v11, rfl, hv, hb⟩
         replace HB := Lib.hid (HB.out.trans (hb.mono (Nat.le_trans HBA.out HB.out.size)))
         replace HT := Lib.hid (HT.out.call hb)
         replace RX := Lib.hid (RX.out.ext hb)
         replace EL := Lib.hid (EL.out.below hb)
         replace CI := Lib.hid (cell_below CI.out hb)
         replace RR := Lib.hid (RR.out.ext hb)
         replace ER := Lib.hid (ER.out.below hb)
         replace CR := Lib.hid (cell_below CR.out hb)
         replace G0 := Lib.hid (cell_below G0.out hb)
         replace RE1 := Lib.hid (RE1.out.ext hb)
         replace RM1 := Lib.hid (RM1.out.ext hb)
         replace RE2 := Lib.hid (RE2.out.ext hb)
         clear hb
         refine hK.out _ _ (fun _ => ⟨G0.out, CI.out, CR.out, EL.out.c0, EL.out.c1, EL.out.c2, EL.out.c3, ER.out.c0, ER.out.c1, ER.out.c2, ER.out.c3⟩) ?_
         clear hK K
         try simp only [Act.put, putA, putZ, putC]
         have RM2 := Lib.hid (hv)
         clear hv
         refine on1 28 fun K hK => ?_
         go_simp
         go_at_call 49
         refine (rcmp_any _ _ (ent t.rows i W * ent t.rows r k) (ent t.rows r W * ent t.rows i k) _ RM1.out RM2.out (N := 700000) (Nat.le_of_ble_eq_true rfl) ((fitR_mul (HF1.out i hil) (HF2.out r hrm)).mono (Nat.le_of_ble_eq_true rfl)) ((fitR_mul (HF1.out r hrm) (HF2.out i hil)).mono (Nat.le_of_ble_eq_true rfl))).mono ?_
         rintro e w12 ⟨rfl, hb⟩
         replace HB := Lib.hid (HB.out.trans (hb.mono (Nat.le_trans HBA.out HB.out.size)))
         replace HT := Lib.hid (HT.out.call hb)
         replace RX := Lib.hid (RX.out.ext hb)
         replace EL := Lib.hid (EL.out.below hb)
         replace CI := Lib.hid (cell_below CI.out hb)
         replace RR := Lib.hid (RR.out.ext hb)
         replace ER := Lib.hid (ER.out.below hb)
         replace CR := Lib.hid (cell_below CR.out hb)
         replace G0 := Lib.hid (cell_below G0.out hb)
         replace RE1 := Lib.hid (RE1.out.ext hb)
         replace RM1 := Lib.hid (RM1.out.ext hb)
         replace RE2 := Lib.hid (RE2.out.ext hb)
         replace RM2 := Lib.hid (RM2.out.ext hb)
         clear hb
         refine hK.out _ _ (fun _ => ⟨G0.out, CI.out, CR.out, EL.out.c0, EL.out.c1, EL.out.c2, EL.out.c3, ER.out.c0, ER.out.c1, ER.out.c2, ER.out.c3⟩) ?_
         clear hK K
         try simp only [Act.put, putA, putZ, putC]
         refine on1 29 fun K hK => ?_
         go_simp
         refine hK.out _ _ (fun h => absurd h (by decide)) ?_
         clear hK K
         try simp only [Act.put, putA, putZ, putC]
         refine wpAnyC_done (by kernel_rfl) ?_ _
         rw [show ((ent t.rows i W * ent t.rows r k).num * ((ent t.rows r W * ent t.rows i k).den : Int) - (ent t.rows r W * ent t.rows i k).num * ((ent t.rows i W * ent t.rows r k).den : Int)).sign = cmpQ (ent t.rows i W * ent t.rows r k) (ent t.rows r W * ent t.rows i k) from rfl]
         have HBQ := Lib.hid (show betterQ t k W i r = (decide (ent t.rows i W * ent t.rows r k < ent t.rows r W * ent t.rows i k) || (decide (ent t.rows i W * ent t.rows r k = ent t.rows r W * ent t.rows i k) && decide (basF t i < basF t r))) from rfl)
         clear RX EL CI RR ER CR G0 RE1 RM1 RE2 RM2 HF1 HF2 HQ2
         generalize hx : ent t.rows i W * ent t.rows r k = x at *
         generalize hy : ent t.rows r W * ent t.rows i k = y at *
         clear hx hy
         rcases cmpQ_cases x y with h | h | h
         ·rw [h]
          have HLZ := Lib.hid (show leaveN t k W (i + 1) = some i by rw [HLN.out, HBQ.out, decide_eq_true ((cmpQ_lt x y).1 h), Bool.true_or]; rfl)
          clear h HLN HBQ
          go_upto_region 18 with (fail)
          go_quiet (fail)
          have hb : Below w12.heap.size w12 (w12.drewN nq) := below_drewT w12 nq
          replace HB := Lib.hid (HB.out.trans (hb.mono (Nat.le_trans HBA.out HB.out.size)))
          replace HT := Lib.hid (HT.out.call hb)
          clear hb
          generalize w12.drewN nq = w13 at *
          go_wp2
          go_roundg (m - (i + 1))
          case measure => omega
          case rel => exact ⟨i + 1, rfl, by rw [HLZ.out]; rfl, by go_num, by omega, HT, HB⟩
         ·rw [h]
          have hxy := (cmpQ_eq x y).1 h
          have hnl : ¬ x < y := fun k => by rw [hxy] at k; exact Rat.lt_irrefl k
          obtain ⟨b9, o9, hAb, _, _, hc9, _⟩ := HT.out.basAt hil 0
          obtain ⟨b8, o8, hAb2, _, _, hc8, _⟩ := HT.out.basAt hrm 0
          subst hAb
          injection hAb2 with hAb2
          injection hAb2 with e1 e2
          subst e1 e2
          have qb : w12.cell? ⟨g, 2, none⟩ = some (.slice (some ⟨b9, o9, none⟩) m cb) := HT.out.blk.cell 2
          by_cases hbb : basF t i < basF t r
          ·have tb : decide (((basF t i : Nat) : Int) < ((basF t r : Nat) : Int)) = true := decide_eq_true (by omega)
           have tbn : decide (basF t i < basF t r) = true := decide_eq_true hbb
           have HLZ := Lib.hid (show leaveN t k W (i + 1) = some i by rw [HLN.out, HBQ.out, decide_eq_true hxy, decide_eq_true hbb, Bool.true_and, Bool.or_true]; rfl)
           clear h HLN HBQ hbb
           generalize basF t i = bi at *
           generalize basF t r = br at *
           go_upto_region 18 with (fail)
           go_quiet (fail)
           have hb : Below w12.heap.size w12 (w12.drewN nq) := below_drewT w12 nq
           replace HB := Lib.hid (HB.out.trans (hb.mono (Nat.le_trans HBA.out HB.out.size)))
           replace HT := Lib.hid (HT.out.call hb)
           clear hb qb hc9 hc8
           generalize w12.drewN nq = w13 at *
           go_wp2
           go_roundg (m - (i + 1))
           case measure => omega
           case rel => exact ⟨i + 1, rfl, by rw [HLZ.out]; rfl, by go_num, by omega, HT, HB⟩
          ·have tb : decide (((basF t i : Nat) : Int) < ((basF t r : Nat) : Int)) = false := decide_eq_false (by omega)
           have tbn : decide (basF t i < basF t r) = false := decide_eq_false hbb
           have HLZ := Lib.hid (show leaveN t k W (i + 1) = some r by rw [HLN.out, HBQ.out, decide_eq_true hxy, decide_eq_false hnl, decide_eq_false hbb, Bool.and_false, Bool.or_false]; rfl)
           clear h HLN HBQ hbb
           generalize basF t i = bi at *
           generalize basF t r = br at *
           go_upto_region 18 with (fail)
           go_quiet (fail)
           have hb : Below w12.heap.size w12 (w12.drewN nq) := below_drewT w12 nq
           replace HB := Lib.hid (HB.out.trans (hb.mono (Nat.le_trans HBA.out HB.out.size)))
           replace HT := Lib.hid (HT.out.call hb)
           clear hb qb hc9 hc8
           generalize w12.drewN nq = w13 at *
           go_wp2
           go_roundg (m - (i + 1))
           case measure => omega
           case rel => exact ⟨i + 1, rfl, by rw [HLZ.out]; rfl, by go_num, by omega, HT, HB⟩
         ·rw [h]
          have hgt := (cmpQ_gt x y).1 h
          have hnl : ¬ x < y := Rat.not_lt.2 (Rat.le_of_lt hgt)
          have hne : ¬ x = y := fun k => by rw [k] at hgt; exact Rat.lt_irrefl hgt
          have HLZ := Lib.hid (show leaveN t k W (i + 1) = some r by rw [HLN.out, HBQ.out, decide_eq_false hnl, decide_eq_false hne, Bool.false_and, Bool.or_false]; rfl)
          clear h HLN HBQ hgt hnl hne
          go_upto_region 18 with (fail)
          go_quiet (fail)
          have hb : Below w12.heap.size w12 (w12.drewN nq) := below_drewT w12 nq
          replace HB := Lib.hid (HB.out.trans (hb.mono (Nat.le_trans HBA.out HB.out.size)))
          replace HT := Lib.hid (HT.out.call hb)
          clear hb
          generalize w12.drewN nq = w13 at *
          go_wp2
          go_roundg (m - (i + 1))
          case measure => omega
          case rel => exact ⟨i + 1, rfl, by rw [HLZ.out]; rfl, by go_num, by omega, HT, HB⟩
      ·obtain rfl : i = m := by omega
       have hew : endW t = W := by rw [endW, HSH.out.tgt]; omega
       have HLQ := Lib.hid (show leaveQ t k = leaveN t k W i by rw [leaveQ, hew, HSH.out.len])
       clear hew
       cases hlv : leaveN t k W i with
       | none =>
        have HR := Lib.hid (HRS.out.free HE.out (by rw [HLQ.out]; exact hlv))
        clear hlv
        unfold optI
        go_wp2
        go_ret
        rw [HR.out]
        exact ⟨rfl, HT.out, HB.out⟩
       | some r =>
        obtain ⟨f1, hf1, hrs, hrm, hkk, hne⟩ := HRS.out.step HE.out (by rw [HLQ.out]; exact hlv)
        have HRN := Lib.hid hrs
        have hrn : ¬ ((r : Int) < 0) := by omega
        rw [show I (optI (some r)) = I r from rfl]
        clear hlv
        have HC := Lib.hid (pivot_any base g cv bt ot ct cb i V W r k A Ab vs t wc HT.out hrm (by have := HKW.out; omega) hm hW hne (fun a b h => (HFR.out a b h).mono (Nat.le_of_ble_eq_true rfl)) (fun a b h => (HFT.out _ hrs.inv.toInvQ a b h).mono (Nat.le_of_ble_eq_true rfl)) (Nat.le_trans HBA.out HB.out.size))
        clear hrs hne
        go_wp2_with fail
        refine HC.out.mono ?_
        rintro e w6 ⟨rfl, hT, hb⟩
        clear HC HT
        replace HB := Lib.hid (HB.out.trans hb)
        have HT := Lib.hid hT
        clear hT hb
        subst hf1
        go_wp2
        go_roundg f1
        case measure => omega
        case rel => exact ⟨f1, _, rfl, HRN, HT, HB⟩
    ·have tn : decide (q.num.sign < 0) = false := by rw [neg_sign]; exact decide_eq_false hn
     have HEN2 := Lib.hid (show enterQ t = enterK t (k + 1) by rw [HEN.out, HST.out, if_neg hn])
     generalize q.num.sign = sg at *
     clear hn HEN HST hq
     go_wp2
     go_roundg (K - (k + 1))
     case measure => omega
     case rel => exact ⟨k + 1, rfl, rfl, by go_num, by omega, HEN2, HT, HB⟩
   ·obtain rfl : k = K := by omega
    have HR := Lib.hid (HRS.out.none_ (by rw [HEN.out, ← HCK.out]; exact enterK_end t))
    go_wp2
    go_ret
    rw [HR.out]
    exact ⟨rfl, HT.out, HB.out⟩
end Go.Proofs.YtcgfdfdcbamceaaGreatDoor
