/- matrix.Dot, matrix.Apply. matrix.Transpose, matrix.Dot, matrix.Apply. slices.Repeat at vectors of texts, of one element. matrix.Identity. -/
import Derived.Test.YtmnedfkinepnfaaGreatDoorJU
import Derived.Test.YtmnedfkinepnfaaGreatDoorJT
import Derived.Test.YtmnedfkinepnfaaGreatDoorJG
import Derived.Laws.CopyOwn
import Derived.Deep.RegionLaw
import Derived.Test.YtmnedfkinepnfaaGreatDoorJP
namespace Go.Proofs.YtmnedfkinepnfaaGreatDoor
open Go.RowKit

/-- a vector of strings that is read -/
def SV (w : World) (A : Option Addr) (n : Nat) (l : List ByteArray) : Prop := Reads w w.heap.size 1 A n (l.map Sv)
theorem SV.below {w w' : World} {A : Option Addr} {n : Nat} {l : List ByteArray} (h : SV w A n l) (hb : Below w.heap.size w w') : SV w' A n l := (Reads.below h hb).more hb.size
theorem SV.len {w : World} {A : Option Addr} {n : Nat} {l : List ByteArray} (h : SV w A n l) : l.length = n := by have := h.1; simpa using this
/-- what a function with a vector returns -/
def RetVT (w : World) (r : List (List UInt8) × Int) (e : Ending) (w' : World) : Prop :=
  ∃ A n c l, e = .returned (.tuple #[.slice A n c, I r.2]) ∧ SV w' A n l ∧ tx1 l = r.1 ∧ Sh1 l ∧ Below w.heap.size w w'
theorem RetVT.none_ {w w' : World} {c : Int} {r : List (List UInt8) × Int} (h : r = ([], c)) (hb : Below w.heap.size w w') : RetVT w r (.returned (.tuple #[.slice none 0 0, I c])) w' :=
  ⟨none, 0, 0, [], by rw [h], Reads.nil, by rw [h]; rfl, fun l h => by simp at h, hb⟩
theorem tx_none {w w' : World} {c : Int} {r : List UInt8 × Int} (h : r = ([], c)) (hb : Below w.heap.size w w') : RetTx w r (.returned (.tuple #[.string ⟨#[]⟩, I c])) w' := ⟨by rw [h], hb⟩
theorem val1_of {l : List ByteArray} (h : chkV (tx1 l) = 0) : Val1 l := fun s hs => (chkV_ok h).2 _ (List.mem_map.2 ⟨s, hs, rfl⟩)
theorem fit1_of {l : List ByteArray} (h : chkV (tx1 l) = 0) : Fit1 (valsV (tx1 l)) := fit_vals1 (chkV_ok h).2
theorem apply_first {a : MT} {b : List (List UInt8)} (h : firstE [chkM a, chkV b] ≠ 0) : applyM a b = ([], firstE [chkM a, chkV b]) := by
  rw [firstE2] at h ⊢
  unfold applyM
  by_cases ha : chkM a ≠ 0
  · rw [if_pos ha, if_pos ha]
  · rw [if_neg ha] at h ⊢
    rw [if_neg ha, if_pos h]
theorem dotFit40 {a b : List Rat} (hl : a.length ≤ 40) (ha : Fit1 a) (hb : Fit1 b) : DotFit 17000 a b :=
  dotFit_gen (N := 210) (K := 40) hl (by decide) (by decide) (fun j _ => ha.at_ j) (fun j _ => hb.at_ j)
set_option maxRecDepth 100000 in
set_option maxHeartbeats 4000000 in
theorem apply_bad (a : List (List ByteArray)) (na : Nat) (Aa : Option Addr) (ca : Nat) (b : List ByteArray) (nb : Nat) (Ab : Option Addr) (cb : Nat) (w : World) (ha : SMat w Aa na a) (sa : Sh2 a) (hb : SV w Ab nb b) (sb : Sh1 b) (htab : Tab w) (h0 : firstE [chkM (tx2 a), chkV (tx1 b)] ≠ 0) :
    Calls Tryz.prog 44 #[.slice Aa na ca, .slice Ab nb cb] w (RetVT w (applyM (tx2 a) (tx1 b))) := by
  have HE := Lib.hid (apply_first h0)
  have Ha := Lib.hid ha
  have Sa := Lib.hid sa
  have Hb := Lib.hid hb
  have Sb := Lib.hid sb
  have HTB := Lib.hid htab
  have hca := chkM_any a na Aa ca w (Ha.out) Sa.out (HTB.out)
  have HCA := Lib.hid hca
  clear hca ha sa hb sb htab
  go_enter Tryz.func44, Tryz.ntmps44
  go_wp2_with fail
  refine HCA.out.mono ?_
  rintro e w1 ⟨rfl, hb1⟩
  have HB1 := Lib.hid hb1
  have hcb := chkV_any b nb Ab cb w1 (Hb.out.below hb1) Sb.out (tab_below HTB.out hb1)
  have HCB := Lib.hid hcb
  clear hb1 HCA hcb
  go_wp2_with fail
  refine HCB.out.mono ?_
  rintro e w2 ⟨rfl, hb2⟩
  have HB2 := Lib.hid (HB1.out.trans (hb2.mono HB1.out.size))
  have HF := Lib.hid (first_any [chkM (tx2 a), chkV (tx1 b)] 2 (some ⟨w2.heap.size, 0, none⟩) 2 (w2.alloc (.cells #[I (chkM (tx2 a)), I (chkV (tx1 b))] errT)) (reads_e2 w2 errT _ _) (by omega))
  have HB3 := Lib.hid (HB2.out.alloc HB2.out.size (.cells #[I (chkM (tx2 a)), I (chkV (tx1 b))] errT))
  unfold errT at *
  clear hb2 HB1 HB2 HCB
  have tc : (firstE [chkM (tx2 a), chkV (tx1 b)] != 0) = true := bne_iff_ne.2 h0
  have HQ := Lib.hid (RetVT.none_ (w := w) HE.out HB3.out)
  clear h0 HE
  generalize firstE [chkM (tx2 a), chkV (tx1 b)] = fe at *
  go_wp2_with fail
  refine HF.out.mono ?_
  rintro e w3 ⟨rfl, rfl⟩
  clear HF
  go_wp2
  go_ret2
  exact HQ.out
set_option maxRecDepth 100000 in
set_option maxHeartbeats 4000000 in
theorem apply_good (a : List (List ByteArray)) (na : Nat) (Aa : Option Addr) (ca : Nat) (b : List ByteArray) (nb : Nat) (Ab : Option Addr) (cb : Nat) (w : World) (ha : SMat w Aa na a) (sa : Sh2 a) (hb : SV w Ab nb b) (sb : Sh1 b) (htab : Tab w) (h1 : chkM (tx2 a) = 0) (h2 : chkV (tx1 b) = 0) :
    Calls Tryz.prog 44 #[.slice Aa na ca, .slice Ab nb cb] w (RetVT w (applyM (tx2 a) (tx1 b))) := by
  have la : a.length = na := by obtain ⟨_, _, h, _⟩ := ha; exact h
  have lb := hb.len
  have VA := Lib.hid (chkM_ok h1)
  have LA := Lib.hid (show (tx2 a).length = na by rw [tx2, List.length_map, la])
  have LB := Lib.hid (show (tx1 b).length = nb by rw [tx1, List.length_map, lb])
  have hna : na ≤ 40 := by have := VA.out.hn; rw [LA.out] at this; exact this
  have hnb : nb ≤ 40 := by have := (chkV_ok h2).1; rw [LB.out] at this; exact this
  clear la lb
  have H1 := Lib.hid h1
  have H2 := Lib.hid h2
  clear h1 h2
  have Ha := Lib.hid ha
  have Sa := Lib.hid sa
  have Hb := Lib.hid hb
  have Sb := Lib.hid sb
  have HTB := Lib.hid htab
  have hca := chkM_any a na Aa ca w (Ha.out) Sa.out (HTB.out)
  rw [H1.out] at hca
  have HCA := Lib.hid hca
  clear hca ha sa hb sb htab
  go_enter Tryz.func44, Tryz.ntmps44
  go_wp2_with fail
  refine HCA.out.mono ?_
  rintro e w1 ⟨rfl, hb1⟩
  have HB1 := Lib.hid hb1
  have hcb := chkV_any b nb Ab cb w1 (Hb.out.below hb1) Sb.out (tab_below HTB.out hb1)
  rw [H2.out] at hcb
  have HCB := Lib.hid hcb
  clear hb1 HCA hcb
  go_wp2_with fail
  refine HCB.out.mono ?_
  rintro e w2 ⟨rfl, hb2⟩
  have HB2 := Lib.hid (HB1.out.trans (hb2.mono HB1.out.size))
  have HF := Lib.hid (first_any [0, 0] 2 (some ⟨w2.heap.size, 0, none⟩) 2 (w2.alloc (.cells #[I (0), I (0)] errT)) (reads_e2 w2 errT _ _) (by omega))
  have HB3 := Lib.hid (HB2.out.alloc HB2.out.size (.cells #[I (0), I (0)] errT))
  unfold errT at *
  clear hb2 HB1 HB2 HCB
  rw [show firstE [0, 0] = 0 from rfl] at HF
  go_wp2_with fail
  refine HF.out.mono ?_
  rintro e w3 ⟨rfl, rfl⟩
  generalize w2.alloc (.cells #[I 0, I 0] 25) = w3 at *
  clear HF
  have HW := Lib.hid (width_any a na Aa ca w3 (Ha.out.below HB3.out))
  by_cases h0 : 0 < na
  · have t0 : decide (0 < na) = true := decide_eq_true h0
    by_cases hw : wd (tx2 a) = nb
    · have tw : ((wd (tx2 a) : Int) != (nb : Int)) = false := by rw [hw]; simp
      have HRES := Lib.hid (show applyM (tx2 a) (tx1 b) = txV ((valsM (tx2 a)).map fun r => dotQ r (valsV (tx1 b))) by
        unfold applyM
        rw [H1.out, H2.out, if_neg (by decide), if_neg (by decide), if_neg (by rw [LA.out, LB.out]; exact fun h => h.2 hw)])
      have HQL := Lib.hid (show ∀ r ∈ valsM (tx2 a), r.length ≤ nb from fun r hr => by rw [VA.out.vals.row r hr]; omega)
      clear hw
      generalize hwe : wd (tx2 a) = wa at *
      clear hwe
      go_wp2_with fail
      refine HW.out.mono ?_
      rintro e w4 ⟨rfl, rfl⟩
      clear HW
      have HP := Lib.hid (parseAll_any b nb Ab cb w4 (Hb.out.below HB3.out) Sb.out (val1_of H2.out) (by omega))
      go_wp2_with fail
      refine HP.out.mono ?_
      rintro e wv ⟨v, rfl, hv, hb⟩
      have HB4 := Lib.hid (HB3.out.trans (hb.mono HB3.out.size))
      have HV := Lib.hid hv
      have HM := Lib.hid (values_any a na Aa ca wv (Ha.out.below HB4.out) Sa.out (val2_of VA.out) (by omega))
      clear hv hb HP HB3
      go_wp2_with fail
      refine HM.out.mono ?_
      rintro e w5 ⟨vx, xs, rfl, hx, hb⟩
      have HB5 := Lib.hid (HB4.out.trans (hb.mono HB4.out.size))
      have hv5 := HV.out.call hb
      obtain ⟨A1, c1, rfl⟩ := hv5.val
      obtain ⟨Ax, cx, rfl⟩ := hx.val
      have l1 : (valsV (tx1 b)).length = nb := by rw [valsV, List.length_map, LB.out]
      have l2 : (valsM (tx2 a)).length = na := by rw [valsM, List.length_map, LA.out]
      have hr := hv5.rv
      rw [l1] at hr ⊢
      rw [l2] at hx ⊢
      have RV5 := Lib.hid hr
      have RM5 := Lib.hid hx.rm
      have FB := Lib.hid (fit1_of H2.out)
      have FA := Lib.hid (fit_vals2 VA.out)
      have RA := Lib.hid (show Rect (valsM (tx2 a)) na wa from ⟨l2, VA.out.vals.row⟩)
      clear hb hv5 hx HV HM HB4 l1 l2 hr H1 H2 VA Ha Hb Sa Sb LA LB
      generalize hye : valsV (tx1 b) = y at *
      generalize hxe : valsM (tx2 a) = x at *
      have HR2 := Lib.hid (show applyM (tx2 a) (tx1 b) = txV (x.map fun r => dotQ r y) from HRES.out)
      clear hye hxe HRES
      go_wp2
      go_loopg [8, 35] (na - 0) (fun r o v wr => ∃ i : Nat, r = na - i ∧ v = I i ∧ i ≤ na ∧ Hid (RRow wr w5.heap.size o ((x.map fun r => dotQ r y).take i)) ∧ Hid (Below w5.heap.size w5 wr))
      case atStart => exact ⟨0, rfl, rfl, by omega, RRow.nil _ _, Below.refl _ _⟩
      case round =>
        obtain ⟨i, rfl, rfl, hi, HP, HB⟩ := hrel
        obtain ⟨wa, rfl⟩ : ∃ wa : World, wa = wr := ⟨_, rfl⟩
        by_cases hlt : i < na
        · obtain ⟨q, hq⟩ : ∃ q, x[i]? = some q := ⟨_, List.getElem?_eq_getElem (by rw [RA.out.len]; exact hlt)⟩
          obtain ⟨b1, o1, B1, c2, rfl, _, hc, hrq⟩ := (RM5.out.below HB.out).at_ hlt q hq
          have hql : q.length ≤ nb := HQL.out q (List.mem_of_getElem? hq)
          have hqf : Fit1 q := FA.out q (List.mem_of_getElem? hq)
          have HD := Lib.hid (dot_any q y q.length B1 A1 c2 nb c1 wa hrq (RV5.out.below HB.out) hql (by omega) (N := 17000) (by decide) (dotFit40 (by omega) hqf FB.out))
          have HX := Lib.hid (show ((x.map fun r => dotQ r y).take (i + 1)) = ((x.map fun r => dotQ r y).take i) ++ [dotQ q y] by rw [List.take_add_one, List.getElem?_map, hq]; rfl)
          have HLL := Lib.hid (show ((x.map fun r => dotQ r y).take i).length ≤ 1000000 by rw [List.length_take]; omega)
          clear hq hrq hql hqf
          go_wp2_with fail
          refine HD.out.mono ?_
          rintro e w6 ⟨v3, rfl, hv3, hb⟩
          obtain ⟨tb, t1, t2, t3, t4, t5, t6, rfl⟩ := hv3.bools
          have hb3 := below_new w6 (.cells #[.bool tb, .slice t1 t2 t3, .bool false, .slice t4 t5 t6] ratT)
          have HB6 := Lib.hid ((HB.out.trans (hb.mono HB.out.size)).trans (hb3.mono (HB.out.trans (hb.mono HB.out.size)).size))
          have HR6 := Lib.hid ((HP.out.call hb).call hb3)
          have HV6 := Lib.hid (hv3.ext hb3)
          have HBK := Lib.hid (Blk.new w6 ratT #[.bool tb, .slice t1 t2 t3, .bool false, .slice t4 t5 t6])
          unfold ratT at *
          clear hb hb3 hv3 HD HP HB hc
          go_wp2_with (at_builtin; refine wpList_app1 rfl _ _ rfl w5.heap.size _ _ rfl HR6.out w6.heap.size rfl HBK.out HV6.out HLL.out HB6.out.size ?_)
          intro v7 w7 hap
          have HN := Lib.hid (show RRow w7 w5.heap.size v7 ((x.map fun r => dotQ r y).take (i + 1)) by rw [HX.out]; exact hap.row)
          have HB7 := Lib.hid (HB6.out.trans (hap.below HR6.out HB6.out.size))
          obtain ⟨A7, c7, rfl⟩ := hap.row.val
          generalize (((x.map fun r => dotQ r y).take i) ++ [dotQ q y]).length = l7 at *
          clear hap HR6 HB6 HBK HV6 HX HLL
          go_wp2
          go_roundg (na - (i + 1))
          case measure => omega
          case rel => exact ⟨i + 1, rfl, by go_num, by omega, HN, HB7⟩
        · have hin : i = na := by omega
          subst hin
          have hr := HP.out
          rw [List.take_of_length_le (by rw [List.length_map, RA.out.len]; omega)] at hr
          obtain ⟨A7, c7, rfl⟩ := hr.val
          have hll : (x.map fun r => dotQ r y).length = i := by rw [List.length_map, RA.out.len]
          have hrv := hr.rv
          rw [hll] at hrv ⊢
          have HBT := Lib.hid (HB5.out.trans (HB.out.mono HB5.out.size))
          have HT := Lib.hid (textVec_any _ i A7 c7 wa hrv (by omega) (tab_below HTB.out HBT.out))
          clear hr hrv hll HP HB
          go_wp2_with fail
          refine HT.out.mono ?_
          rintro e w9 ⟨v9, rfl, k1, k2, hb⟩
          have HBF := Lib.hid (HBT.out.trans (hb.mono HBT.out.size))
          have HQ : Hid (RetVT w (applyM (tx2 a) (tx1 b)) (.returned (.tuple #[v9, I (txV (x.map fun r => dotQ r y)).2])) w9) := by
            cases hf : (x.map fun r => dotQ r y).all fitQ with
            | true =>
              have hrow := k1 hf
              obtain ⟨A9, c9, rfl⟩ := hrow.val
              refine ⟨A9, _, c9, mkS ((x.map fun r => dotQ r y).map qText), by rw [HR2.out], hrow.reads, ?_, sh_mk hf, HBF.out⟩
              rw [HR2.out, txV, if_pos hf, tx_mk]
            | false =>
              obtain rfl := k2 hf
              have he : txV (x.map fun r => dotQ r y) = ([], 2) := by rw [txV, if_neg (by simp [hf])]
              rw [he]
              exact RetVT.none_ (by rw [HR2.out, he]) HBF.out
          clear k1 k2 hb HT HBT HBF
          go_wp2
          go_ret2
          exact HQ.out
    · have tw : ((wd (tx2 a) : Int) != (nb : Int)) = true := bne_iff_ne.2 (by omega)
      have HQ := Lib.hid (RetVT.none_ (w := w) (c := 3) (r := applyM (tx2 a) (tx1 b)) (by
        unfold applyM
        rw [H1.out, H2.out, if_neg (by decide), if_neg (by decide), if_pos (by rw [LA.out, LB.out]; exact ⟨h0, hw⟩)]) HB3.out)
      clear hw
      generalize wd (tx2 a) = wa at *
      go_wp2_with fail
      refine HW.out.mono ?_
      rintro e w4 ⟨rfl, rfl⟩
      clear HW
      go_wp2
      go_ret2
      exact HQ.out
  · have t0 : decide (0 < na) = false := decide_eq_false h0
    have HRES := Lib.hid (show applyM (tx2 a) (tx1 b) = txV ((valsM (tx2 a)).map fun r => dotQ r (valsV (tx1 b))) by
      unfold applyM
      rw [H1.out, H2.out, if_neg (by decide), if_neg (by decide), if_neg (by rw [LA.out, LB.out]; exact fun h => h0 h.1)])
    have HQL := Lib.hid (show ∀ r ∈ valsM (tx2 a), r.length ≤ nb from fun r hr => by
      rw [List.eq_nil_of_length_eq_zero (LA.out.trans (by omega))] at hr
      cases hr)
    have HP := Lib.hid (parseAll_any b nb Ab cb w3 (Hb.out.below HB3.out) Sb.out (val1_of H2.out) (by omega))
    go_wp2_with fail
    refine HP.out.mono ?_
    rintro e w4 ⟨v, rfl, hv, hb⟩
    have HB4 := Lib.hid (HB3.out.trans (hb.mono HB3.out.size))
    have HV := Lib.hid hv
    have HM := Lib.hid (values_any a na Aa ca w4 (Ha.out.below HB4.out) Sa.out (val2_of VA.out) (by omega))
    clear hv hb HP HB3
    go_wp2_with fail
    refine HM.out.mono ?_
    rintro e w5 ⟨vx, xs, rfl, hx, hb⟩
    have HB5 := Lib.hid (HB4.out.trans (hb.mono HB4.out.size))
    have hv5 := HV.out.call hb
    obtain ⟨A1, c1, rfl⟩ := hv5.val
    obtain ⟨Ax, cx, rfl⟩ := hx.val
    have l1 : (valsV (tx1 b)).length = nb := by rw [valsV, List.length_map, LB.out]
    have l2 : (valsM (tx2 a)).length = na := by rw [valsM, List.length_map, LA.out]
    have hr := hv5.rv
    rw [l1] at hr ⊢
    rw [l2] at hx ⊢
    have RV5 := Lib.hid hr
    have RM5 := Lib.hid hx.rm
    have FB := Lib.hid (fit1_of H2.out)
    have FA := Lib.hid (fit_vals2 VA.out)
    have RA := Lib.hid (show Rect (valsM (tx2 a)) na (wd (tx2 a)) from ⟨l2, VA.out.vals.row⟩)
    clear hb hv5 hx HV HM HB4 l1 l2 hr H1 H2 VA Ha Hb Sa Sb LA LB
    generalize hye : valsV (tx1 b) = y at *
    generalize hxe : valsM (tx2 a) = x at *
    have HR2 := Lib.hid (show applyM (tx2 a) (tx1 b) = txV (x.map fun r => dotQ r y) from HRES.out)
    clear hye hxe HRES
    go_wp2
    clear t0 h0
    go_loopg [8, 35] (na - 0) (fun r o v wr => ∃ i : Nat, r = na - i ∧ v = I i ∧ i ≤ na ∧ Hid (RRow wr w5.heap.size o ((x.map fun r => dotQ r y).take i)) ∧ Hid (Below w5.heap.size w5 wr))
    case atStart => exact ⟨0, rfl, rfl, by omega, RRow.nil _ _, Below.refl _ _⟩
    case round =>
      obtain ⟨i, rfl, rfl, hi, HP, HB⟩ := hrel
      obtain ⟨wa, rfl⟩ : ∃ wa : World, wa = wr := ⟨_, rfl⟩
      by_cases hlt : i < na
      · obtain ⟨q, hq⟩ : ∃ q, x[i]? = some q := ⟨_, List.getElem?_eq_getElem (by rw [RA.out.len]; exact hlt)⟩
        obtain ⟨b1, o1, B1, c2, rfl, _, hc, hrq⟩ := (RM5.out.below HB.out).at_ hlt q hq
        have hql : q.length ≤ nb := HQL.out q (List.mem_of_getElem? hq)
        have hqf : Fit1 q := FA.out q (List.mem_of_getElem? hq)
        have HD := Lib.hid (dot_any q y q.length B1 A1 c2 nb c1 wa hrq (RV5.out.below HB.out) hql (by omega) (N := 17000) (by decide) (dotFit40 (by omega) hqf FB.out))
        have HX := Lib.hid (show ((x.map fun r => dotQ r y).take (i + 1)) = ((x.map fun r => dotQ r y).take i) ++ [dotQ q y] by rw [List.take_add_one, List.getElem?_map, hq]; rfl)
        have HLL := Lib.hid (show ((x.map fun r => dotQ r y).take i).length ≤ 1000000 by rw [List.length_take]; omega)
        clear hq hrq hql hqf
        go_wp2_with fail
        refine HD.out.mono ?_
        rintro e w6 ⟨v3, rfl, hv3, hb⟩
        obtain ⟨tb, t1, t2, t3, t4, t5, t6, rfl⟩ := hv3.bools
        have hb3 := below_new w6 (.cells #[.bool tb, .slice t1 t2 t3, .bool false, .slice t4 t5 t6] ratT)
        have HB6 := Lib.hid ((HB.out.trans (hb.mono HB.out.size)).trans (hb3.mono (HB.out.trans (hb.mono HB.out.size)).size))
        have HR6 := Lib.hid ((HP.out.call hb).call hb3)
        have HV6 := Lib.hid (hv3.ext hb3)
        have HBK := Lib.hid (Blk.new w6 ratT #[.bool tb, .slice t1 t2 t3, .bool false, .slice t4 t5 t6])
        unfold ratT at *
        clear hb hb3 hv3 HD HP HB hc
        go_wp2_with (at_builtin; refine wpList_app1 rfl _ _ rfl w5.heap.size _ _ rfl HR6.out w6.heap.size rfl HBK.out HV6.out HLL.out HB6.out.size ?_)
        intro v7 w7 hap
        have HN := Lib.hid (show RRow w7 w5.heap.size v7 ((x.map fun r => dotQ r y).take (i + 1)) by rw [HX.out]; exact hap.row)
        have HB7 := Lib.hid (HB6.out.trans (hap.below HR6.out HB6.out.size))
        obtain ⟨A7, c7, rfl⟩ := hap.row.val
        generalize (((x.map fun r => dotQ r y).take i) ++ [dotQ q y]).length = l7 at *
        clear hap HR6 HB6 HBK HV6 HX HLL
        go_wp2
        go_roundg (na - (i + 1))
        case measure => omega
        case rel => exact ⟨i + 1, rfl, by go_num, by omega, HN, HB7⟩
      · have hin : i = na := by omega
        subst hin
        have hr := HP.out
        rw [List.take_of_length_le (by rw [List.length_map, RA.out.len]; omega)] at hr
        obtain ⟨A7, c7, rfl⟩ := hr.val
        have hll : (x.map fun r => dotQ r y).length = i := by rw [List.length_map, RA.out.len]
        have hrv := hr.rv
        rw [hll] at hrv ⊢
        have HBT := Lib.hid (HB5.out.trans (HB.out.mono HB5.out.size))
        have HT := Lib.hid (textVec_any _ i A7 c7 wa hrv (by omega) (tab_below HTB.out HBT.out))
        clear hr hrv hll HP HB
        go_wp2_with fail
        refine HT.out.mono ?_
        rintro e w9 ⟨v9, rfl, k1, k2, hb⟩
        have HBF := Lib.hid (HBT.out.trans (hb.mono HBT.out.size))
        have HQ : Hid (RetVT w (applyM (tx2 a) (tx1 b)) (.returned (.tuple #[v9, I (txV (x.map fun r => dotQ r y)).2])) w9) := by
          cases hf : (x.map fun r => dotQ r y).all fitQ with
          | true =>
            have hrow := k1 hf
            obtain ⟨A9, c9, rfl⟩ := hrow.val
            refine ⟨A9, _, c9, mkS ((x.map fun r => dotQ r y).map qText), by rw [HR2.out], hrow.reads, ?_, sh_mk hf, HBF.out⟩
            rw [HR2.out, txV, if_pos hf, tx_mk]
          | false =>
            obtain rfl := k2 hf
            have he : txV (x.map fun r => dotQ r y) = ([], 2) := by rw [txV, if_neg (by simp [hf])]
            rw [he]
            exact RetVT.none_ (by rw [HR2.out, he]) HBF.out
        clear k1 k2 hb HT HBT HBF
        go_wp2
        go_ret2
        exact HQ.out
theorem applyM_any (a : List (List ByteArray)) (na : Nat) (Aa : Option Addr) (ca : Nat) (b : List ByteArray) (nb : Nat) (Ab : Option Addr) (cb : Nat) (w : World) (ha : SMat w Aa na a) (sa : Sh2 a) (hb : SV w Ab nb b) (sb : Sh1 b) (htab : Tab w) :
    Calls Tryz.prog 44 #[.slice Aa na ca, .slice Ab nb cb] w (RetVT w (applyM (tx2 a) (tx1 b))) := by
  by_cases h : firstE [chkM (tx2 a), chkV (tx1 b)] = 0
  · obtain ⟨h1, h2⟩ := first_zero h
    exact apply_good a na Aa ca b nb Ab cb w ha sa hb sb htab h1 h2
  · exact apply_bad a na Aa ca b nb Ab cb w ha sa hb sb htab h
end Go.Proofs.YtmnedfkinepnfaaGreatDoor
namespace Go.Proofs.YtmnedfkinepnfaaGreatDoor
open Go.RowKit

set_option maxRecDepth 100000 in
set_option maxHeartbeats 1000000 in
theorem transpose_any (a : List (List ByteArray)) (na : Nat) (A : Option Addr) (ca : Nat) (w : World) (ha : SMat w A na a) (sa : Sh2 a) (htab : Tab w) :
    Calls Tryz.prog 32 #[.slice A na ca] w (RetMT w (trM (tx2 a))) := by
  have la : a.length = na := by obtain ⟨_, _, h, _⟩ := ha; exact h
  have HCA := Lib.hid (chkM_any a na A ca w ha sa htab)
  have HA := Lib.hid ha
  have HTB := Lib.hid htab
  have HSA := Lib.hid sa
  clear ha htab sa
  by_cases h1 : chkM (tx2 a) = 0
  · have va := chkM_ok h1
    have hna : na ≤ 40 := by have := va.hn; simp [tx2] at this; omega
    have LA := Lib.hid (show (tx2 a).length = na by rw [tx2, List.length_map, la])
    have HRES := Lib.hid (show trM (tx2 a) = txM (trQ (valsM (tx2 a)) (wd (tx2 a))) by unfold trM; rw [if_neg (fun h => h h1)])
    have hwd : wd (tx2 a) ≤ 40 := by
      rcases va.hk with h | h
      · exact h
      · rw [wd_nil h]; omega
    have VA := Lib.hid va
    rw [h1] at HCA
    clear va h1
    go_enter Tryz.func32, Tryz.ntmps32
    go_wp2_with fail
    refine HCA.out.mono ?_
    rintro e w1 ⟨rfl, hb1⟩
    have HB1 := Lib.hid hb1
    have HX := Lib.hid (values_any a na A ca w1 (HA.out.below hb1) HSA.out (val2_of VA.out) (by omega))
    clear hb1 HCA
    go_wp2_with fail
    refine HX.out.mono ?_
    rintro e w2 ⟨vx, vxs, rfl, hx, hb⟩
    have HB2 := Lib.hid (HB1.out.trans (hb.mono HB1.out.size))
    obtain ⟨Ax, cx, rfl⟩ := hx.val
    have hr := VA.out.vals
    have hrl := hr.len
    have HTR := Lib.hid (transposed_any (valsM (tx2 a)) _ (wd (tx2 a)) Ax cx w2 hx.rm (by rw [hrl]; exact hr) (wdQ_vals _) (by rw [hrl, LA.out]; omega) (by omega))
    clear hb HX HB1 hx hr hrl
    go_wp2_with fail
    refine HTR.out.mono ?_
    rintro e w3 ⟨vz, vzs, rfl, hz, hb⟩
    have HB3 := Lib.hid (HB2.out.trans (hb.mono HB2.out.size))
    obtain ⟨Az, cz, rfl⟩ := hz.val
    have htl : (trQ (valsM (tx2 a)) (wd (tx2 a))).length = wd (tx2 a) := by simp [trQ]
    have HT := Lib.hid (textM_any (trQ (valsM (tx2 a)) (wd (tx2 a))) _ Az cz w3 hz.rm (by rw [htl]; omega) (fun r hr => by
      obtain ⟨j, _, rfl⟩ := List.mem_map.1 hr
      rw [List.length_map, valsM, List.length_map, LA.out]; omega) (tab_below HTB.out HB3.out))
    clear hb HTR HB2 hz htl
    go_wp2_with fail
    refine HT.out.mono ?_
    rintro e w4 ⟨A9, n9, c9, m9, rfl, k1, k2, k3, hb⟩
    have HQ := Lib.hid (show RetMT w (txM (trQ (valsM (tx2 a)) (wd (tx2 a)))) (.returned (.tuple #[.slice A9 n9 c9, I (txM (trQ (valsM (tx2 a)) (wd (tx2 a)))).2])) w4 from ⟨A9, n9, c9, m9, rfl, k1, k2, k3, HB3.out.trans (hb.mono HB3.out.size)⟩)
    clear k1 k2 k3 hb HT HB3
    go_wp2
    go_ret2
    rw [HRES.out]
    exact HQ.out
  · have HE := Lib.hid (show trM (tx2 a) = ([], chkM (tx2 a)) by unfold trM; rw [if_pos h1])
    have tc : (chkM (tx2 a) != 0) = true := bne_iff_ne.2 h1
    clear h1
    go_enter Tryz.func32, Tryz.ntmps32
    go_wp2_with fail
    refine HCA.out.mono ?_
    rintro e w1 ⟨rfl, hb1⟩
    have HQ := Lib.hid (RetMT.none_ (w := w) HE.out hb1)
    clear hb1 HCA HE
    generalize chkM (tx2 a) = cc at *
    go_wp2
    go_ret2
    exact HQ.out
end Go.Proofs.YtmnedfkinepnfaaGreatDoor
namespace Go.Proofs.YtmnedfkinepnfaaGreatDoor
open Go.RowKit

theorem size_str : (Tryz.prog.info? strT).map (·.size) = some 1 := by kernel_rfl

theorem mul_one_any (x n : Int) (w : World) (hx : x = 1) (h0 : 0 ≤ n) (h1 : n ≤ 1099511627776) :
    Calls Tryz.prog 131 #[.int .u64 x, .int .u64 n] w fun e w' => e = .returned (.tuple #[.int .u64 0, .int .u64 n]) ∧ w = w' := by
  subst hx
  obtain ⟨k, rfl⟩ := Int.eq_ofNat_of_zero_le h0
  refine (Tryz.bits_Mul 1 k (by omega) (by omega) w).mono fun e w' ⟨he, hw⟩ => ⟨?_, hw.symm⟩
  rw [he]
  have e1 : 1 * k / 18446744073709551616 = 0 := by rw [Nat.div_eq_of_lt]; omega
  have e2 : 1 * k % 18446744073709551616 = k := by rw [Nat.mod_eq_of_lt] <;> omega
  rw [e1, e2]
  rfl

theorem make_vec (n : Nat) (hn : n ≤ 1099511627776) (W : World) :
    (Instr.makeSlice vecT (.int .i64 (n : Int)) (.int .i64 (n : Int))).run Tryz.prog W = .ok (.slice (some ⟨W.heap.size, 0, none⟩) n n) (W.alloc (.cells (Array.replicate n (Value.string ⟨#[]⟩)) strT)) := by
  obtain ⟨i, hi, hz0, hz1, hz2⟩ := info_parts info_str
  have := run_make (P := Tryz.prog) W vecT strT i _ Tryz.underlying50 hi hz0 .i64 .i64 n n (by omega) (by omega) (by rw [hz2]; omega) (by omega)
  rw [this, Int.toNat_natCast, hz1, made_str]

theorem rep_splice (x : Value) (n m k : Nat) (_hk : m + k ≤ n) :
    splice (List.replicate m x ++ List.replicate (n - m) (Value.string ⟨#[]⟩)) m (List.replicate k x) = List.replicate (m + k) x ++ List.replicate (n - (m + k)) (Value.string ⟨#[]⟩) := by
  unfold splice
  rw [List.take_append_of_le_length (by simp), List.take_of_length_le (by simp), List.drop_append, List.drop_of_length_le (by simp)]
  simp
  rw [← List.append_assoc, List.replicate_append_replicate]
  congr 2
  omega

theorem rep_one (x : ByteArray) {w : World} {b off : Nat} {o : Obj} (n : Nat) (hb : b < w.heap.size) (hc : w.cell? ⟨b, off, none⟩ = some (Sv x)) :
    ∀ j v, (List.replicate (min 1 n) (Sv x))[j]? = some v → (w.alloc o).cell? ((⟨b, off, none⟩ : Addr).add j) = some v := by
  intro j v hv
  rw [List.getElem?_replicate] at hv
  split at hv
  · rename_i h
    obtain rfl : j = 0 := by omega
    rw [Addr.add_lit, World.cell?_alloc_lt _ _ _ hb, Nat.add_zero, hc]
    exact hv
  · cases hv

theorem rep_self (x : ByteArray) {w : World} {g n m k : Nat} (hg : w.heap[g]? = some (.cells (List.replicate m (Sv x) ++ List.replicate (n - m) (Value.string ⟨#[]⟩)).toArray strT (0, 0))) (hk : k ≤ m) :
    ∀ j v, (List.replicate k (Sv x))[j]? = some v → w.cell? ((⟨g, 0, none⟩ : Addr).add j) = some v := by
  intro j v hv
  rw [List.getElem?_replicate] at hv
  split at hv
  · rename_i h
    rw [Addr.add_lit, Nat.zero_add, cell_of_row w g j _ _ _ hg]
    simp only [List.getElem?_toArray]
    rw [List.getElem?_append_left (by simp; omega), List.getElem?_replicate, if_pos (by omega)]
    exact hv
  · cases hv

theorem rep_plain (x : ByteArray) (k : Nat) : ∀ v ∈ List.replicate k (Sv x), v.oneCell' = true := by
  intro v hv
  rw [List.mem_replicate] at hv
  rw [hv.2]
  rfl

theorem rep_start (x : ByteArray) (n : Nat) : splice (List.replicate n (Value.string ⟨#[]⟩)) 0 (List.replicate (min 1 n) (Sv x)) = List.replicate (min 1 n) (Sv x) ++ List.replicate (n - min 1 n) (Value.string ⟨#[]⟩) := by
  simp [splice]

/-- the loop of slices.Repeat: m cells are filled -/
structure RepInv (w : World) (g : Nat) (x : ByteArray) (n m : Nat) (wr : World) : Prop where
  le : m ≤ n
  pos : 1 ≤ m ∨ n = 0
  row : wr.heap[g]? = some (.cells (List.replicate m (Sv x) ++ List.replicate (n - m) (Value.string ⟨#[]⟩)).toArray strT (0, 0))
  below : Below g w wr

set_option maxRecDepth 100000 in
set_option maxHeartbeats 400000 in
theorem repeatV_any (x : ByteArray) (n : Nat) (b off c : Nat) (w : World) (hb : b < w.heap.size) (hc : w.cell? ⟨b, off, none⟩ = some (Sv x)) (hn : n ≤ 1099511627776) :
    Calls Tryz.prog 97 #[.slice (some ⟨b, off, none⟩) 1 c, I n] w fun e w' =>
      e = .returned (.slice (some ⟨w.heap.size, 0, none⟩) n n) ∧ Blk w' w.heap.size strT (Array.replicate n (Sv x)) ∧ Below w.heap.size w w' := by
  have hmk := make_vec n hn
  have hnn : (n : Int) ≤ 1099511627776 := by omega
  have HS := Lib.hid size_str
  have HG := Lib.hid (heap_alloc_new w (.cells (List.replicate n (Value.string ⟨#[]⟩)).toArray strT))
  have HF := Lib.hid (show 0 + (List.replicate (min 1 n) (Sv x)).length ≤ (List.replicate n (Value.string ⟨#[]⟩)).length by simp; omega)
  have HL := Lib.hid (show (List.replicate (min 1 n) (Sv x)).length = Nat.min 1 n by simp)
  simp only [List.toArray_replicate] at HG
  unfold strT vecT at *
  go_enter Tryz.func97, Tryz.ntmps97
  go_wp2_with (first | (go_at_call 131; refine (mul_one_any _ _ _ (by rfl) (by omega) (by omega)).mono ?_; rintro e w' ⟨rfl, rfl⟩) | (refine wpList_copy_splice rfl (.tmp 31) (.tmp 32) vecT vecT rfl strT Tryz.underlying50 HS.out (some ⟨w.heap.size, 0, none⟩) (some ⟨b, off, none⟩) n n 1 c (by rfl) (by rfl) w.heap.size 0 (List.replicate n (Value.string ⟨#[]⟩)) strT (by rw [List.toArray_replicate]; exact HG.out) (List.replicate (min 1 n) (Sv x)) HL.out (fun _ => ⟨rfl, _, rfl, rep_one x n hb hc⟩) HF.out (rep_plain x _) w.heap.size w ((Below.refl _ _).alloc (Nat.le_refl _) _) (Nat.le_refl _) ?_; intro w1 hg1 hb1))
  have HI : RepInv w w.heap.size x n (min 1 n) w1 := ⟨by omega, by omega, by have := hg1.out; rw [rep_start] at this; exact this, hb1⟩
  clear hg1 hb1 HG HF HL hmk
  go_loopw [8] (fun v wr => ∃ m : Nat, v = I m ∧ RepInv w w.heap.size x n m wr) (fun v _ => n - (intOf v).toNat)
  case atStart => exact ⟨_, rfl, HI⟩
  case round =>
    obtain ⟨m, rfl, h1, h2, h3, h4⟩ := hrel
    have H3 := Lib.hid h3
    clear h3
    by_cases hlt : m < n
    · have hm1 : (1 : Int) ≤ m := by omega
      have hmn : (m : Int) < n := by omega
      have hne : ¬ n = m := by omega
      have hlo : (0 : Int) ≤ (m : Int) := by omega
      have HL := Lib.hid (show (List.replicate (min m (n - m)) (Sv x)).length = Nat.min m (n - m) by simp)
      have HF := Lib.hid (show m + (List.replicate (min m (n - m)) (Sv x)).length ≤ (List.replicate m (Sv x) ++ List.replicate (n - m) (Value.string ⟨#[]⟩)).length by simp; omega)
      go_wp2
      go_region_law ((refine step_copy_splice rfl (.tmp 41) (.tmp 44) vecT vecT rfl strT Tryz.underlying50 HS.out (some ⟨w.heap.size, m, none⟩) (some ⟨w.heap.size, 0, none⟩) (n - m) (n - m) m n (by kernel_rfl) (by kernel_rfl) w.heap.size m (List.replicate m (Sv x) ++ List.replicate (n - m) (Value.string ⟨#[]⟩)) strT H3.out (List.replicate (min m (n - m)) (Sv x)) HL.out (fun _ => ⟨rfl, _, rfl, rep_self x (n := n) (m := m) H3.out (by omega)⟩) HF.out (rep_plain x _) w.heap.size w h4.drew (Nat.le_refl _) ?_; intro w2 hg2 hb2))
      have HN : RepInv w w.heap.size x n (m + min m (n - m)) w2 := ⟨by omega, by omega, by have := hg2.out; rw [rep_splice (Sv x) n m _ (by omega)] at this; exact this, hb2⟩
      clear hg2 hb2 H3 h4 HI HF HL
      have hk1 : (min m (n - m) : Nat) ≤ n := by omega
      have hk2 : 1 ≤ (min m (n - m) : Nat) := by omega
      generalize min m (n - m) = k at *
      have hw1 : IntKind.i64.wrap ((m : Int) + (k : Int)) = (m : Int) + k := IntWalk.i64_in _ (by omega)
      simp only [Act.put, hw1, List.getElem_toArray, List.getElem_cons_succ, List.getElem_cons_zero, List.setIfInBounds_toArray, List.set_cons_succ, List.set_cons_zero]
      clear hw1
      go_wp2
      go_roundw
      case rel => exact ⟨m + k, by go_num, HN⟩
      case measure => simp [intOf]; omega
    · obtain rfl : m = n := by omega
      go_wp2
      go_ret
      refine ⟨rfl, ?_, h4⟩
      have := H3.out
      simp only [Nat.sub_self, List.replicate_zero, List.append_nil, List.toArray_replicate] at this
      exact this

end Go.Proofs.YtmnedfkinepnfaaGreatDoor
namespace Go.Proofs.YtmnedfkinepnfaaGreatDoor
open Go.RowKit

theorem Row.ne_blk {w : World} {base : Nat} {e t : TypeId} {sz n g : Nat} {v : Value} {xs : List Value} {cs : Array Value} (h : Row w base e sz v n xs) (hB : Blk w g t cs) (hne : e ≠ t) : ∀ b, v.ownBlock = some b → b ≠ g := by
  intro b hb he
  rcases h.2 with ⟨hv, _⟩ | ⟨b', off', cap', cur', hv, _, hh', _⟩
  · rw [hv] at hb; simp [Value.ownBlock] at hb
  · rw [hv] at hb
    simp [Value.ownBlock] at hb
    subst hb he
    unfold Blk at hB hh'
    rw [hB] at hh'
    injection hh' with hh'
    injection hh' with _ hh'
    exact hne hh'.symm
theorem Row.set_away {w : World} {base : Nat} {e : TypeId} {sz n : Nat} {v : Value} {xs : List Value} (h : Row w base e sz v n xs) {p : Addr} (hne : ∀ g, v.ownBlock = some g → g ≠ p.block) (u : Value) : Row (w.setCell p u) base e sz v n xs := by
  obtain ⟨h1, h2⟩ := h
  refine ⟨h1, h2.imp id ?_⟩
  rintro ⟨g, off, cap, cur, rfl, hb, hh, r⟩
  exact ⟨g, off, cap, cur, rfl, hb, hh.far (hne g (by simp [Value.ownBlock])) u, r⟩
def idR (n i : Nat) : List ByteArray := (List.range n).map fun j => if i = j then ⟨#[49]⟩ else ⟨#[48]⟩
def idS (n : Nat) : List (List ByteArray) := (List.range n).map fun i => idR n i
theorem idS_len (n : Nat) : (idS n).length = n := by simp [idS]
theorem idR_len (n i : Nat) : (idR n i).length = n := by simp [idR]
theorem tx_idS (n : Nat) : tx2 (idS n) = idT n := by
  unfold tx2 idS idT tx1 idR
  rw [List.map_map]
  refine List.map_congr_left fun i _ => ?_
  show List.map SL (List.map _ _) = _
  rw [List.map_map]
  refine List.map_congr_left fun j _ => ?_
  show SL (if i = j then _ else _) = _
  split <;> rfl
theorem sh_idS (n : Nat) : Sh2 (idS n) := by
  intro l hl s hs
  obtain ⟨i, _, rfl⟩ := List.mem_map.1 hl
  obtain ⟨j, _, rfl⟩ := List.mem_map.1 hs
  split <;> decide
theorem idR_set (n i : Nat) (_hi : i < n) : ((Array.replicate n (Sv ⟨#[48]⟩)).setIfInBounds i (.string ⟨#[49]⟩)).toList = (idR n i).map Sv := by
  rw [Array.toList_setIfInBounds, Array.toList_replicate]
  apply List.ext_getElem
  · simp [idR]
  · intro j h1 h2
    simp [idR, List.getElem_set]
    split <;> rfl
theorem fillL_get {α : Type} {m : List α} (d : α) {k n j : Nat} (hm : m.length = n) (hk : k ≤ n) (_hj : j < n) (x : α) (h : (fillL m d k n)[j]? = some x) : (j < k ∧ m[j]? = some x) ∨ (k ≤ j ∧ x = d) := by
  unfold fillL at h
  by_cases hjk : j < k
  · rw [List.getElem?_append_left (by simp; omega), List.getElem?_take, if_pos hjk] at h
    exact .inl ⟨hjk, h⟩
  · rw [List.getElem?_append_right (by simp; omega)] at h
    exact .inr ⟨by omega, (List.mem_replicate.1 (List.mem_of_getElem? h)).2⟩
set_option maxRecDepth 100000 in
set_option maxHeartbeats 1000000 in
theorem identity_any (n : Nat) (w : World) (hn : n ≤ 40) : Calls Tryz.prog 34 #[I n] w (RetMT w (idT n, 0)) := by
  have hmk := make_vecs n (by omega)
  have t0 : decide ((n : Int) < 0) = false := decide_eq_false (by omega)
  have t1 : decide (40 < (n : Int)) = false := decide_eq_false (by omega)
  have HP : Hid (∃ vs, Row (w.alloc (.cells (Array.replicate n (Value.slice none 0 0)) vecT)) w.heap.size vecT 1 (.slice (some ⟨w.heap.size, 0, none⟩) n n) n vs ∧
      ∀ (j : Nat) (u : Value) (l : List ByteArray), vs[j]? = some u → (fillL (idS n) [] 0 n)[j]? = some l → Row (w.alloc (.cells (Array.replicate n (Value.slice none 0 0)) vecT)) w.heap.size strT 1 u l.length (l.map Sv)) := by
    refine ⟨List.replicate n (.slice none 0 0), ⟨by simp, .inr ⟨w.heap.size, 0, n, _, rfl, Nat.le_refl _, Blk.new _ _ _, by simp, by unfold maxLen; omega, by simp, by simp⟩⟩, fun j u l h1 h2 => ?_⟩
    rw [fillL_zero] at h2
    rw [(List.mem_replicate.1 (List.mem_of_getElem? h1)).2, (List.mem_replicate.1 (List.mem_of_getElem? h2)).2]
    exact Row.nil _ _ _ _
  have HB := Lib.hid (below_new w (.cells (Array.replicate n (Value.slice none 0 0)) vecT))
  unfold vecT at hmk
  go_enter Tryz.func34, Tryz.ntmps34
  go_wp2
  clear hmk
  go_loopg [16] (n - 0) (fun r v wr => ∃ k : Nat, r = n - k ∧ v = I k ∧ k ≤ n ∧ Hid (∃ vs, Row wr w.heap.size vecT 1 (.slice (some ⟨w.heap.size, 0, none⟩) n n) n vs ∧
      ∀ (j : Nat) (u : Value) (l : List ByteArray), vs[j]? = some u → (fillL (idS n) [] k n)[j]? = some l → Row wr w.heap.size strT 1 u l.length (l.map Sv)) ∧ Hid (Below w.heap.size w wr))
  case atStart => exact ⟨0, rfl, rfl, by omega, HP, HB⟩
  case round =>
    clear HP HB
    obtain ⟨k, rfl, rfl, hk, HP, HB⟩ := hrel
    obtain ⟨wa, rfl⟩ : ∃ wa : World, wa = wr := ⟨_, rfl⟩
    by_cases hlt : k < n
    · have hb1 := below_new wa (.cells #[.string ⟨#[48]⟩] strT)
      have HC := Lib.hid (repeatV_any ⟨#[48]⟩ n wa.heap.size 0 1 (wa.alloc (.cells #[.string ⟨#[48]⟩] strT)) (by simp) (by rw [(Blk.new wa strT _).cell]; rfl) (by omega))
      have HB1 := Lib.hid (HB.out.trans (hb1.mono HB.out.size))
      have HBN := Lib.hid hb1
      clear hb1
      unfold strT at *
      go_wp2_with fail
      refine HC.out.mono ?_
      rintro e w1 ⟨rfl, hB, hb⟩
      have hb2 := HBN.out.trans (hb.mono HBN.out.size)
      have HB2 := Lib.hid (HB.out.trans (hb2.mono HB.out.size))
      obtain ⟨vs, hr, hin⟩ := HP.out
      have hro := hr.call hb2
      have hg : wa.heap.size ≤ (wa.alloc (.cells #[.string ⟨#[48]⟩] 22)).heap.size := HBN.out.size
      have hga := HB.out.size
      generalize hgg : (wa.alloc (.cells #[.string ⟨#[48]⟩] 22)).heap.size = gg at *
      obtain ⟨g, off, cap, cur, e1, hbg, hBo, _, _, _, _⟩ := hro.form (by omega)
      obtain ⟨rfl, rfl⟩ := sl_inj e1
      have hvl : vs.length = n := by have := hr.1; omega
      obtain ⟨u, hu⟩ : ∃ u, vs[k]? = some u := ⟨_, List.getElem?_eq_getElem (by omega)⟩
      have hcell : w1.cell? ⟨w.heap.size, k, none⟩ = some u := by
        obtain ⟨b', off', e', _, hc⟩ := hro.reads.2 (by omega)
        injection e' with e'
        injection e' with e1 e2
        subst e1 e2
        have := hc k _ hu
        rwa [Nat.zero_add] at this
      have hfz := hBo.frozen k
      have hne : w.heap.size ≠ gg := by
        have h1 := World.block_lt_of_cell? w1 _ hcell
        have h2 : w.heap.size < wa.heap.size := by
          obtain ⟨g', off', cap', cur', e', _, hB', _⟩ := hr.form (by omega)
          obtain ⟨rfl, rfl⟩ := sl_inj e'
          exact hB'.lt
        omega
      have hB2 := hB.far (p := ⟨w.heap.size, k, none⟩) (Ne.symm hne) (.slice (some ⟨gg, 0, none⟩) n n)
      have hc2 : (w1.setCell ⟨w.heap.size, k, none⟩ (.slice (some ⟨gg, 0, none⟩) n n)).cell? ⟨gg, k, none⟩ = some (.string ⟨#[48]⟩) := by
        rw [hB2.cell]; simp [hlt]
      have hf2 := hB2.frozen k
      have hB3 := hB2.set_ k (.string ⟨#[49]⟩)
      have HN : Hid (∃ vs, Row ((w1.setCell ⟨w.heap.size, k, none⟩ (.slice (some ⟨gg, 0, none⟩) n n)).setCell ⟨gg, k, none⟩ (.string ⟨#[49]⟩)) w.heap.size vecT 1 (.slice (some ⟨w.heap.size, 0, none⟩) n n) n vs ∧
          ∀ (j : Nat) (u : Value) (l : List ByteArray), vs[j]? = some u → (fillL (idS n) [] (k + 1) n)[j]? = some l → Row ((w1.setCell ⟨w.heap.size, k, none⟩ (.slice (some ⟨gg, 0, none⟩) n n)).setCell ⟨gg, k, none⟩ (.string ⟨#[49]⟩)) w.heap.size strT 1 u l.length (l.map Sv)) := by
        refine ⟨vs.set k (.slice (some ⟨gg, 0, none⟩) n n), ?_, fun j u' l h1 h2 => ?_⟩
        · have h1 := hro.set_at (j := k) (by omega) (.slice (some ⟨gg, 0, none⟩) n n)
          rw [Nat.zero_add] at h1
          exact h1.set_away (p := ⟨gg, k, none⟩) (fun b hb' => by
            have : w.heap.size = b := by simpa [Value.ownBlock] using hb'
            rw [← this]; exact hne) _
        · have hj : j < n := by have := (List.getElem?_eq_some_iff.1 h1).1; simp at this; omega
          by_cases hjk : k = j
          · subst hjk
            rw [List.getElem?_set_self (by omega)] at h1
            injection h1 with h1
            subst h1
            rcases fillL_get [] (idS_len n) (by omega) hj l h2 with ⟨_, h3⟩ | ⟨h3, _⟩
            · have hl : l = idR n k := by
                unfold idS at h3
                rw [List.getElem?_map, List.getElem?_range hlt] at h3
                simpa using h3.symm
              subst hl
              rw [idR_len]
              refine ⟨by simp [idR_len], .inr ⟨gg, 0, n, _, rfl, by omega, hB3, by omega, by unfold maxLen; omega, by simp, ?_⟩⟩
              rw [List.drop_zero, idR_set n k hlt, List.take_of_length_le (by simp [idR_len])]
            · omega
          · rw [List.getElem?_set_ne hjk] at h1
            have h2' : (fillL (idS n) [] k n)[j]? = some l := by
              rw [← fillL_set (d := []) (idS_len n) hlt (x := idR n k) (by simp [idS, hlt]), List.getElem?_set_ne hjk] at h2
              exact h2
            have hrow := hin j u' l h1 h2'
            have hown : ∀ b, u'.ownBlock = some b → b < wa.heap.size := fun b hb' => (own_lt hrow hb').2.1
            have hr1 := hrow.call hb2
            exact (hr1.set_away (p := ⟨w.heap.size, k, none⟩) (hr1.ne_blk hBo (by decide)) _).set_away (p := ⟨gg, k, none⟩) (fun b hb' => by
              have := hown b hb'
              show b ≠ gg
              omega) _
      have HBN2 := Lib.hid ((HB2.out.setCell (p := ⟨w.heap.size, k, none⟩) (Nat.le_refl _) (.slice (some ⟨gg, 0, none⟩) n n)).setCell (p := ⟨gg, k, none⟩) (by show w.heap.size ≤ gg; omega) (.string ⟨#[49]⟩))
      clear HP HB HC HB1 HBN hB hb hb2 HB2 hr hin hro hBo e1 hvl hu hB2 hB3 hgg hbg hg hga
      go_wp2
      go_roundg (n - (k + 1))
      case measure => omega
      case rel => exact ⟨k + 1, rfl, by go_num, by omega, HN, HBN2⟩
    · have hkn : k = n := by omega
      subst hkn
      obtain ⟨vs, hr, hin⟩ := HP.out
      rw [fillL_end _ (idS_len k)] at hin
      have HS := Lib.hid (show Sows wa w.heap.size (.slice (some ⟨w.heap.size, 0, none⟩) k k) (idS k) from ⟨vs, by rw [idS_len]; exact hr, hin⟩)
      clear hr hin HP
      go_wp2
      go_ret2
      exact ⟨_, _, _, idS k, rfl, HS.out.smat, tx_idS k, sh_idS k, HB.out⟩
end Go.Proofs.YtmnedfkinepnfaaGreatDoor
