/- matrix.Dot, matrix.Apply. matrix.Transpose, matrix.Dot, matrix.Apply. slices.Repeat at vectors of texts, of one element. matrix.Identity. -/
import Derived.Test.YtgecdcjfncfmcaaGreatDoorJU
import Derived.Test.YtgecdcjfncfmcaaGreatDoorJT
import Derived.Test.YtgecdcjfncfmcaaGreatDoorJG
import Derived.Laws.CopyOwn
import Derived.Deep.RegionLaw
import Derived.Test.YtgecdcjfncfmcaaGreatDoorJP
namespace Go.Proofs.YtgecdcjfncfmcaaGreatDoor
open Go.RowKit

/-- a vector of strings that is read -/
def SV (w : World) (A : Option Addr) (n : Nat) (l : List ByteArray) : Prop := Reads w w.heap.size 1 A n (l.map Sv)
theorem SV.below {w w' : World} {A : Option Addr} {n : Nat} {l : List ByteArray} (h : SV w A n l) (hb : Below w.heap.size w w') : SV w' A n l := (Reads.below h hb).more hb.size
theorem SV.len {w : World} {A : Option Addr} {n : Nat} {l : List ByteArray} (h : SV w A n l) : l.length = n := by have := h.1; simpa using this
/-- what a function with a vector returns -/
def RetVT (w : World) (r : List (List UInt8) × Int) (e : Ending) (w' : World) : Prop :=
  ∃ A n c l, e = .returned (.tuple #[.slice A n c, I r.2]) ∧ SV w' A n l ∧ tx1 l = r.1 ∧ Sh1 l ∧ Below w.heap.size w w'
theorem RetVT.none_ {w w' : World} {c : Int} {r : List (List UInt8) × Int} (h : r = ([], c)) (hb : Below w.heap.size w w') : RetVT w r (.returned (.tuple #[.slice none 0 0, I c])) w' :=
  ⟨none, 0, 0, [], by rw [h], Reads.nil, by rw [h]; rfl, fun l h => by simp at h, hb⟩
theorem tx_none {w w' : World} {c : Int} {r : List UInt8 × Int} (h : r = ([], c)) (hb : Below w.heap.size w w') : RetTx w r (.returned (.tuple #[.string ⟨#[]⟩, I c])) w' := ⟨by rw [h], hb⟩
theorem val1_of {l : List ByteArray} (h : chkV (tx1 l) = 0) : Val1 l := fun s hs => (chkV_ok h).2 _ (List.mem_map.2 ⟨s, hs, rfl⟩)
theorem fit1_of {l : List ByteArray} (h : chkV (tx1 l) = 0) : Fit1 (valsV (tx1 l)) := fit_vals1 (chkV_ok h).2
theorem apply_first {a : MT} {b : List (List UInt8)} (h : firstE [chkM a, chkV b] ≠ 0) : applyM a b = ([], firstE [chkM a, chkV b]) := by
  rw [firstE2] at h ⊢
  unfold applyM
  by_cases ha : chkM a ≠ 0
  · rw [if_pos ha, if_pos ha]
  · rw [if_neg ha] at h ⊢
    rw [if_neg ha, if_pos h]
theorem dotFit40 {a b : List Rat} (hl : a.length ≤ 40) (ha : Fit1 a) (hb : Fit1 b) : DotFit 17000 a b :=
  dotFit_gen (N := 210) (K := 40) hl (by decide) (by decide) (fun j _ => ha.at_ j) (fun j _ => hb.at_ j)
set_option maxRecDepth 100000 in
set_option maxHeartbeats 4000000 in
theorem apply_bad (a : List (List ByteArray)) (na : Nat) (Aa : Option Addr) (ca : Nat) (b : List ByteArray) (nb : Nat) (Ab : Option Addr) (cb : Nat) (w : World) (ha : SMat w Aa na a) (sa : Sh2 a) (hb : SV w Ab nb b) (sb : Sh1 b) (htab : Tab w) (h0 : firstE [chkM (tx2 a), chkV (tx1 b)] ≠ 0) :
    Calls Tryz.prog 62 #[.slice Aa na ca, .slice Ab nb cb] w (RetVT w (applyM (tx2 a) (tx1 b))) := by
  have HE := Lib.hid (apply_first h0)
  have Ha := Lib.hid ha
  have Sa := Lib.hid sa
  have Hb := Lib.hid hb
  have Sb := Lib.hid sb
  have HTB := Lib.hid htab
  have hca := chkM_any a na Aa ca w (Ha.out) Sa.out (HTB.out)
  have HCA := Lib.hid hca
  clear hca ha sa hb sb htab
  go_enter Tryz.func62, Tryz.ntmps62
  go_wp2_with fail
  refine HCA.out.mono ?_
  rintro e w1 ⟨rfl, hb1⟩
  have HB1 := Lib.hid hb1
  have hcb := chkV_any b nb Ab cb w1 (Hb.out.below hb1) Sb.out (tab_below HTB.out hb1)
  have HCB := Lib.hid hcb
  clear hb1 HCA hcb
  go_wp2_with fail
  refine HCB.out.mono ?_
  rintro e w2 ⟨rfl, hb2⟩
  have HB2 := Lib.hid (HB1.out.trans (hb2.mono HB1.out.size))
  have HF := Lib.hid (first_any [chkM (tx2 a), chkV (tx1 b)] 2 (some ⟨w2.heap.size, 0, none⟩) 2 (w2.alloc (.cells #[I (chkM (tx2 a)), I (chkV (tx1 b))] errT)) (reads_e2 w2 errT _ _) (by omega))
  have HB3 := Lib.hid (HB2.out.alloc HB2.out.size (.cells #[I (chkM (tx2 a)), I (chkV (tx1 b))] errT))
  unfold errT at *
  clear hb2 HB1 HB2 HCB
  have tc : (firstE [chkM (tx2 a), chkV (tx1 b)] != 0) = true := bne_iff_ne.2 h0
  have HQ := Lib.hid (RetVT.none_ (w := w) HE.out HB3.out)
  clear h0 HE
  generalize firstE [chkM (tx2 a), chkV (tx1 b)] = fe at *
  go_wp2_with fail
  refine HF.out.mono ?_
  rintro e w3 ⟨rfl, rfl⟩
  clear HF
  go_wp2
  go_ret2
  exact HQ.out
set_option maxRecDepth 100000 in
set_option maxHeartbeats 4000000 in
theorem apply_good (a : List (List ByteArray)) (na : Nat) (Aa : Option Addr) (ca : Nat) (b : List ByteArray) (nb : Nat) (Ab : Option Addr) (cb : Nat) (w : World) (ha : SMat w Aa na a) (sa : Sh2 a) (hb : SV w Ab nb b) (sb : Sh1 b) (htab : Tab w) (h1 : chkM (tx2 a) = 0) (h2 : chkV (tx1 b) = 0) :
    Calls Tryz.prog 62 #[.slice Aa na ca, .slice Ab nb cb] w (RetVT w (applyM (tx2 a) (tx1 b))) := by
  have la : a.length = na := by obtain ⟨_, _, h, _⟩ := ha; exact h
  have lb := hb.len
  have VA := Lib.hid (chkM_ok h1)
  have LA := Lib.hid (show (tx2 a).length = na by rw [tx2, List.length_map, la])
  have LB := Lib.hid (show (tx1 b).length = nb by rw [tx1, List.length_map, lb])
  have hna : na ≤ 40 := by have := VA.out.hn; rw [LA.out] at this; exact this
  have hnb : nb ≤ 40 := by have := (chkV_ok h2).1; rw [LB.out] at this; exact this
  clear la lb
  have H1 := Lib.hid h1
  have H2 := Lib.hid h2
  clear h1 h2
  have Ha := Lib.hid ha
  have Sa := Lib.hid sa
  have Hb := Lib.hid hb
  have Sb := Lib.hid sb
  have HTB := Lib.hid htab
  have hca := chkM_any a na Aa ca w (Ha.out) Sa.out (HTB.out)
  rw [H1.out] at hca
  have HCA := Lib.hid hca
  clear hca ha sa hb sb htab
  go_enter Tryz.func62, Tryz.ntmps62
  go_wp2_with fail
  refine HCA.out.mono ?_
  rintro e w1 ⟨rfl, hb1⟩
  have HB1 := Lib.hid hb1
  have hcb := chkV_any b nb Ab cb w1 (Hb.out.below hb1) Sb.out (tab_below HTB.out hb1)
  rw [H2.out] at hcb
  have HCB := Lib.hid hcb
  clear hb1 HCA hcb
  go_wp2_with fail
  refine HCB.out.mono ?_
  rintro e w2 ⟨rfl, hb2⟩
  have HB2 := Lib.hid (HB1.out.trans (hb2.mono HB1.out.size))
  have HF := Lib.hid (first_any [0, 0] 2 (some ⟨w2.heap.size, 0, none⟩) 2 (w2.alloc (.cells #[I (0), I (0)] errT)) (reads_e2 w2 errT _ _) (by omega))
  have HB3 := Lib.hid (HB2.out.alloc HB2.out.size (.cells #[I (0), I (0)] errT))
  unfold errT at *
  clear hb2 HB1 HB2 HCB
  rw [show firstE [0, 0] = 0 from rfl] at HF
  go_wp2_with fail
  refine HF.out.mono ?_
  rintro e w3 ⟨rfl, rfl⟩
  generalize w2.alloc (.cells #[I 0, I 0] 34) = w3 at *
  clear HF
  have HW := Lib.hid (width_any a na Aa ca w3 (Ha.out.below HB3.out))
  by_cases h0 : 0 < na
  · have t0 : decide (0 < na) = true := decide_eq_true h0
    by_cases hw : wd (tx2 a) = nb
    · have tw : ((wd (tx2 a) : Int) != (nb : Int)) = false := by rw [hw]; simp
      have HRES := Lib.hid (show applyM (tx2 a) (tx1 b) = txV ((valsM (tx2 a)).map fun r => dotQ r (valsV (tx1 b))) by
        unfold applyM
        rw [H1.out, H2.out, if_neg (by decide), if_neg (by decide), if_neg (by rw [LA.out, LB.out]; exact fun h => h.2 hw)])
      have HQL := Lib.hid (show ∀ r ∈ valsM (tx2 a), r.length ≤ nb from fun r hr => by rw [VA.out.vals.row r hr]; omega)
      clear hw
      generalize hwe : wd (tx2 a) = wa at *
      clear hwe
      go_wp2_with fail
      refine HW.out.mono ?_
      rintro e w4 ⟨rfl, rfl⟩
      clear HW
      have HP := Lib.hid (parseAll_any b nb Ab cb w4 (Hb.out.below HB3.out) Sb.out (val1_of H2.out) (by omega))
      go_wp2_with fail
      refine HP.out.mono ?_
      rintro e wv ⟨v, rfl, hv, hb⟩
      have HB4 := Lib.hid (HB3.out.trans (hb.mono HB3.out.size))
      have HV := Lib.hid hv
      have HM := Lib.hid (values_any a na Aa ca wv (Ha.out.below HB4.out) Sa.out (val2_of VA.out) (by omega))
      clear hv hb HP HB3
      go_wp2_with fail
      refine HM.out.mono ?_
      rintro e w5 ⟨vx, xs, rfl, hx, hb⟩
      have HB5 := Lib.hid (HB4.out.trans (hb.mono HB4.out.size))
      have hv5 := HV.out.call hb
      obtain ⟨A1, c1, rfl⟩ := hv5.val
      obtain ⟨Ax, cx, rfl⟩ := hx.val
      have l1 : (valsV (tx1 b)).length = nb := by rw [valsV, List.length_map, LB.out]
      have l2 : (valsM (tx2 a)).length = na := by rw [valsM, List.length_map, LA.out]
      have hr := hv5.rv
      rw [l1] at hr ⊢
      rw [l2] at hx ⊢
      have RV5 := Lib.hid hr
      have RM5 := Lib.hid hx.rm
      have FB := Lib.hid (fit1_of H2.out)
      have FA := Lib.hid (fit_vals2 VA.out)
      have RA := Lib.hid (show Rect (valsM (tx2 a)) na wa from ⟨l2, VA.out.vals.row⟩)
      clear hb hv5 hx HV HM HB4 l1 l2 hr H1 H2 VA Ha Hb Sa Sb LA LB
      generalize hye : valsV (tx1 b) = y at *
      generalize hxe : valsM (tx2 a) = x at *
      have HR2 := Lib.hid (show applyM (tx2 a) (tx1 b) = txV (x.map fun r => dotQ r y) from HRES.out)
      clear hye hxe HRES
      go_wp2
      go_loopg [8, 35] (na - 0) (fun r o v wr => ∃ i : Nat, r = na - i ∧ v = I i ∧ i ≤ na ∧ Hid (RRow wr w5.heap.size o ((x.map fun r => dotQ r y).take i)) ∧ Hid (Below w5.heap.size w5 wr))
      case atStart => exact ⟨0, rfl, rfl, by omega, RRow.nil _ _, Below.refl _ _⟩
      case round =>
        obtain ⟨i, rfl, rfl, hi, HP, HB⟩ := hrel
        obtain ⟨wa, rfl⟩ : ∃ wa : World, wa = wr := ⟨_, rfl⟩
        by_cases hlt : i < na
        · obtain ⟨q, hq⟩ : ∃ q, x[i]? = some q := ⟨_, List.getElem?_eq_getElem (by rw [RA.out.len]; exact hlt)⟩
          obtain ⟨b1, o1, B1, c2, rfl, _, hc, hrq⟩ := (RM5.out.below HB.out).at_ hlt q hq
          have hql : q.length ≤ nb := HQL.out q (List.mem_of_getElem? hq)
          have hqf : Fit1 q := FA.out q (List.mem_of_getElem? hq)
          have HD := Lib.hid (dot_any q y q.length B1 A1 c2 nb c1 wa hrq (RV5.out.below HB.out) hql (by omega) (N := 17000) (by decide) (dotFit40 (by omega) hqf FB.out))
          have HX := Lib.hid (show ((x.map fun r => dotQ r y).take (i + 1)) = ((x.map fun r => dotQ r y).take i) ++ [dotQ q y] by rw [List.take_add_one, List.getElem?_map, hq]; rfl)
          have HLL := Lib.hid (show ((x.map fun r => dotQ r y).take i).length ≤ 1000000 by rw [List.length_take]; omega)
          clear hq hrq hql hqf
          go_wp2_with fail
          refine HD.out.mono ?_
          rintro e w6 ⟨v3, rfl, hv3, hb⟩
          obtain ⟨tb, t1, t2, t3, t4, t5, t6, rfl⟩ := hv3.bools
          have hb3 := below_new w6 (.cells #[.bool tb, .slice t1 t2 t3, .bool false, .slice t4 t5 t6] ratT)
          have HB6 := Lib.hid ((HB.out.trans (hb.mono HB.out.size)).trans (hb3.mono (HB.out.trans (hb.mono HB.out.size)).size))
          have HR6 := Lib.hid ((HP.out.call hb).call hb3)
          have HV6 := Lib.hid (hv3.ext hb3)
          have HBK := Lib.hid (Blk.new w6 ratT #[.bool tb, .slice t1 t2 t3, .bool false, .slice t4 t5 t6])
          unfold ratT at *
          clear hb hb3 hv3 HD HP HB hc
          go_wp2_with (at_builtin; refine wpList_app1 rfl _ _ rfl w5.heap.size _ _ rfl HR6.out w6.heap.size rfl HBK.out HV6.out HLL.out HB6.out.size ?_)
          intro v7 w7 hap
          have HN := Lib.hid (show RRow w7 w5.heap.size v7 ((x.map fun r => dotQ r y).take (i + 1)) by rw [HX.out]; exact hap.row)
          have HB7 := Lib.hid (HB6.out.trans (hap.below HR6.out HB6.out.size))
          obtain ⟨A7, c7, rfl⟩ := hap.row.val
          generalize (((x.map fun r => dotQ r y).take i) ++ [dotQ q y]).length = l7 at *
          clear hap HR6 HB6 HBK HV6 HX HLL
          go_wp2
          go_roundg (na - (i + 1))
          case measure => omega
          case rel => exact ⟨i + 1, rfl, by go_num, by omega, HN, HB7⟩
        · have hin : i = na := by omega
          subst hin
          have hr := HP.out
          rw [List.take_of_length_le (by rw [List.length_map, RA.out.len]; omega)] at hr
          obtain ⟨A7, c7, rfl⟩ := hr.val
          have hll : (x.map fun r => dotQ r y).length = i := by rw [List.length_map, RA.out.len]
          have hrv := hr.rv
          rw [hll] at hrv ⊢
          have HBT := Lib.hid (HB5.out.trans (HB.out.mono HB5.out.size))
          have HT := Lib.hid (textVec_any _ i A7 c7 wa hrv (by omega) (tab_below HTB.out HBT.out))
          clear hr hrv hll HP HB
          go_wp2_with fail
          refine HT.out.mono ?_
          rintro e w9 ⟨v9, rfl, k1, k2, hb⟩
          have HBF := Lib.hid (HBT.out.trans (hb.mono HBT.out.size))
          have HQ : Hid (RetVT w (applyM (tx2 a) (tx1 b)) (.returned (.tuple #[v9, I (txV (x.map fun r => dotQ r y)).2])) w9) := by
            cases hf : (x.map fun r => dotQ r y).all fitQ with
            | true =>
              have hrow := k1 hf
              obtain ⟨A9, c9, rfl⟩ := hrow.val
              refine ⟨A9, _, c9, mkS ((x.map fun r => dotQ r y).map qText), by rw [HR2.out], hrow.reads, ?_, sh_mk hf, HBF.out⟩
              rw [HR2.out, txV, if_pos hf, tx_mk]
            | false =>
              obtain rfl := k2 hf
              have he : txV (x.map fun r => dotQ r y) = ([], 2) := by rw [txV, if_neg (by simp [hf])]
              rw [he]
              exact RetVT.none_ (by rw [HR2.out, he]) HBF.out
          clear k1 k2 hb HT HBT HBF
          go_wp2
          go_ret2
          exact HQ.out
    · have tw : ((wd (tx2 a) : Int) != (nb : Int)) = true := bne_iff_ne.2 (by omega)
      have HQ := Lib.hid (RetVT.none_ (w := w) (c := 3) (r := applyM (tx2 a) (tx1 b)) (by
        unfold applyM
        rw [H1.out, H2.out, if_neg (by decide), if_neg (by decide), if_pos (by rw [LA.out, LB.out]; exact ⟨h0, hw⟩)]) HB3.out)
      clear hw
      generalize wd (tx2 a) = wa at *
      go_wp2_with fail
      refine HW.out.mono ?_
      rintro e w4 ⟨rfl, rfl⟩
      clear HW
      go_wp2
      go_ret2
      exact HQ.out
  · have t0 : decide (0 < na) = false := decide_eq_false h0
    have HRES := Lib.hid (show applyM (tx2 a) (tx1 b) = txV ((valsM (tx2 a)).map fun r => dotQ r (valsV (tx1 b))) by
      unfold applyM
      rw [H1.out, H2.out, if_neg (by decide), if_neg (by decide), if_neg (by rw [LA.out, LB.out]; exact fun h => h0 h.1)])
    have HQL := Lib.hid (show ∀ r ∈ valsM (tx2 a), r.length ≤ nb from fun r hr => by
      rw [List.eq_nil_of_length_eq_zero (LA.out.trans (by omega))] at hr
      cases hr)
    have HP := Lib.hid (parseAll_any b nb Ab cb w3 (Hb.out.below HB3.out) Sb.out (val1_of H2.out) (by omega))
    go_wp2_with fail
    refine HP.out.mono ?_
    rintro e w4 ⟨v, rfl, hv, hb⟩
    have HB4 := Lib.hid (HB3.out.trans (hb.mono HB3.out.size))
    have HV := Lib.hid hv
    have HM := Lib.hid (values_any a na Aa ca w4 (Ha.out.below HB4.out) Sa.out (val2_of VA.out) (by omega))
    clear hv hb HP HB3
    go_wp2_with fail
    refine HM.out.mono ?_
    rintro e w5 ⟨vx, xs, rfl, hx, hb⟩
    have HB5 := Lib.hid (HB4.out.trans (hb.mono HB4.out.size))
    have hv5 := HV.out.call hb
    obtain ⟨A1, c1, rfl⟩ := hv5.val
    obtain ⟨Ax, cx, rfl⟩ := hx.val
    have l1 : (valsV (tx1 b)).length = nb := by rw [valsV, List.length_map, LB.out]
    have l2 : (valsM (tx2 a)).length = na := by rw [valsM, List.length_map, LA.out]
    have hr := hv5.rv
    rw [l1] at hr ⊢
    rw [l2] at hx ⊢
    have RV5 := Lib.hid hr
    have RM5 := Lib.hid hx.rm
    have FB := Lib.hid (fit1_of H2.out)
    have FA := Lib.hid (fit_vals2 VA.out)
    have RA := Lib.hid (show Rect (valsM (tx2 a)) na (wd (tx2 a)) from ⟨l2, VA.out.vals.row⟩)
    clear hb hv5 hx HV HM HB4 l1 l2 hr H1 H2 VA Ha Hb Sa Sb LA LB
    generalize hye : valsV (tx1 b) = y at *
    generalize hxe : valsM (tx2 a) = x at *
    have HR2 := Lib.hid (show applyM (tx2 a) (tx1 b) = txV (x.map fun r => dotQ r y) from HRES.out)
    clear hye hxe HRES
    go_wp2
    clear t0 h0
    go_loopg [8, 35] (na - 0) (fun r o v wr => ∃ i : Nat, r = na - i ∧ v = I i ∧ i ≤ na ∧ Hid (RRow wr w5.heap.size o ((x.map fun r => dotQ r y).take i)) ∧ Hid (Below w5.heap.size w5 wr))
    case atStart => exact ⟨0, rfl, rfl, by omega, RRow.nil _ _, Below.refl _ _⟩
    case round =>
      obtain ⟨i, rfl, rfl, hi, HP, HB⟩ := hrel
      obtain ⟨wa, rfl⟩ : ∃ wa : World, wa = wr := ⟨_, rfl⟩
      by_cases hlt : i < na
      · obtain ⟨q, hq⟩ : ∃ q, x[i]? = some q := ⟨_, List.getElem?_eq_getElem (by rw [RA.out.len]; exact hlt)⟩
        obtain ⟨b1, o1, B1, c2, rfl, _, hc, hrq⟩ := (RM5.out.below HB.out).at_ hlt q hq
        have hql : q.length ≤ nb := HQL.out q (List.mem_of_getElem? hq)
        have hqf : Fit1 q := FA.out q (List.mem_of_getElem? hq)
        have HD := Lib.hid (dot_any q y q.length B1 A1 c2 nb c1 wa hrq (RV5.out.below HB.out) hql (by omega) (N := 17000) (by decide) (dotFit40 (by omega) hqf FB.out))
        have HX := Lib.hid (show ((x.map fun r => dotQ r y).take (i + 1)) = ((x.map fun r => dotQ r y).take i) ++ [dotQ q y] by rw [List.take_add_one, List.getElem?_map, hq]; rfl)
        have HLL := Lib.hid (show ((x.map fun r => dotQ r y).take i).length ≤ 1000000 by rw [List.length_take]; omega)
        clear hq hrq hql hqf
        go_wp2_with fail
        refine HD.out.mono ?_
        rintro e w6 ⟨v3, rfl, hv3, hb⟩
        obtain ⟨tb, t1, t2, t3, t4, t5, t6, rfl⟩ := hv3.bools
        have hb3 := below_new w6 (.cells #[.bool tb, .slice t1 t2 t3, .bool false, .slice t4 t5 t6] ratT)
        have HB6 := Lib.hid ((HB.out.trans (hb.mono HB.out.size)).trans (hb3.mono (HB.out.trans (hb.mono HB.out.size)).size))
        have HR6 := Lib.hid ((HP.out.call hb).call hb3)
        have HV6 := Lib.hid (hv3.ext hb3)
        have HBK := Lib.hid (Blk.new w6 ratT #[.bool tb, .slice t1 t2 t3, .bool false, .slice t4 t5 t6])
        unfold ratT at *
        clear hb hb3 hv3 HD HP HB hc
        go_wp2_with (at_builtin; refine wpList_app1 rfl _ _ rfl w5.heap.size _ _ rfl HR6.out w6.heap.size rfl HBK.out HV6.out HLL.out HB6.out.size ?_)
        intro v7 w7 hap
        have HN := Lib.hid (show RRow w7 w5.heap.size v7 ((x.map fun r => dotQ r y).take (i + 1)) by rw [HX.out]; exact hap.row)
        have HB7 := Lib.hid (HB6.out.trans (hap.below HR6.out HB6.out.size))
        obtain ⟨A7, c7, rfl⟩ := hap.row.val
        generalize (((x.map fun r => dotQ r y).take i) ++ [dotQ q y]).length = l7 at *
        clear hap HR6 HB6 HBK HV6 HX HLL
        go_wp2
        go_roundg (na - (i + 1))
        case measure => omega
        case rel => exact ⟨i + 1, rfl, by go_num, by omega, HN, HB7⟩
      · have hin : i = na := by omega
        subst hin
        have hr := HP.out
        rw [List.take_of_length_le (by rw [List.length_map, RA.out.len]; omega)] at hr
        obtain ⟨A7, c7, rfl⟩ := hr.val
        have hll : (x.map fun r => dotQ r y).length = i := by rw [List.length_map, RA.out.len]
        have hrv := hr.rv
        rw [hll] at hrv ⊢
        have HBT := Lib.hid (HB5.out.trans (HB.out.mono HB5.out.size))
        have HT := Lib.hid (textVec_any _ i A7 c7 wa hrv (by omega) (tab_below HTB.out HBT.out))
        clear hr hrv hll HP HB
        go_wp2_with fail
        refine HT.out.mono ?_
        rintro e w9 ⟨v9, rfl, k1, k2, hb⟩
        have HBF := Lib.hid (HBT.out.trans (hb.mono HBT.out.size))
        have HQ : Hid (RetVT w (applyM (tx2 a) (tx1 b)) (.returned (.tuple #[v9, I (txV (x.map fun r => dotQ r y)).2])) w9) := by
          cases hf : (x.map fun r => dotQ r y).all fitQ with
          | true =>
            have hrow := k1 hf
            obtain ⟨A9, c9, rfl⟩ := hrow.val
            refine ⟨A9, _, c9, mkS ((x.map fun r => dotQ r y).map qText), by rw [HR2.out], hrow.reads, ?_, sh_mk hf, HBF.out⟩
            rw [HR2.out, txV, if_pos hf, tx_mk]
          | false =>
            obtain rfl := k2 hf
            have he : txV (x.map fun r => dotQ r y) = ([], 2) := by rw [txV, if_neg (by simp [hf])]
            rw [he]
            exact RetVT.none_ (by rw [HR2.out, he]) HBF.out
        clear k1 k2 hb HT HBT HBF
        go_wp2
        go_ret2
        exact HQ.out
theorem applyM_any (a : List (List ByteArray)) (na : Nat) (Aa : Option Addr) (ca : Nat) (b : List ByteArray) (nb : Nat) (Ab : Option Addr) (cb : Nat) (w : World) (ha : SMat w Aa na a) (sa : Sh2 a) (hb : SV w Ab nb b) (sb : Sh1 b) (htab : Tab w) :
    Calls Tryz.prog 62 #[.slice Aa na ca, .slice Ab nb cb] w (RetVT w (applyM (tx2 a) (tx1 b))) := by
  by_cases h : firstE [chkM (tx2 a), chkV (tx1 b)] = 0
  · obtain ⟨h1, h2⟩ := first_zero h
    exact apply_good a na Aa ca b nb Ab cb w ha sa hb sb htab h1 h2
  · exact apply_bad a na Aa ca b nb Ab cb w ha sa hb sb htab h
end Go.Proofs.YtgecdcjfncfmcaaGreatDoor
namespace Go.Proofs.YtgecdcjfncfmcaaGreatDoor
open Go.RowKit

end Go.Proofs.YtgecdcjfncfmcaaGreatDoor
namespace Go.Proofs.YtgecdcjfncfmcaaGreatDoor
open Go.RowKit

theorem size_str : (Tryz.prog.info? strT).map (·.size) = some 1 := by kernel_rfl

theorem mul_one_any (x n : Int) (w : World) (hx : x = 1) (h0 : 0 ≤ n) (h1 : n ≤ 1099511627776) :
    Calls Tryz.prog 74 #[.int .u64 x, .int .u64 n] w fun e w' => e = .returned (.tuple #[.int .u64 0, .int .u64 n]) ∧ w = w' := by
  subst hx
  obtain ⟨k, rfl⟩ := Int.eq_ofNat_of_zero_le h0
  refine (Tryz.bits_Mul 1 k (by omega) (by omega) w).mono fun e w' ⟨he, hw⟩ => ⟨?_, hw.symm⟩
  rw [he]
  have e1 : 1 * k / 18446744073709551616 = 0 := by rw [Nat.div_eq_of_lt]; omega
  have e2 : 1 * k % 18446744073709551616 = k := by rw [Nat.mod_eq_of_lt] <;> omega
  rw [e1, e2]
  rfl

theorem make_vec (n : Nat) (hn : n ≤ 1099511627776) (W : World) :
    (Instr.makeSlice vecT (.int .i64 (n : Int)) (.int .i64 (n : Int))).run Tryz.prog W = .ok (.slice (some ⟨W.heap.size, 0, none⟩) n n) (W.alloc (.cells (Array.replicate n (Value.string ⟨#[]⟩)) strT)) := by
  obtain ⟨i, hi, hz0, hz1, hz2⟩ := info_parts info_str
  have := run_make (P := Tryz.prog) W vecT strT i _ Tryz.underlying31 hi hz0 .i64 .i64 n n (by omega) (by omega) (by rw [hz2]; omega) (by omega)
  rw [this, Int.toNat_natCast, hz1, made_str]

theorem rep_splice (x : Value) (n m k : Nat) (_hk : m + k ≤ n) :
    splice (List.replicate m x ++ List.replicate (n - m) (Value.string ⟨#[]⟩)) m (List.replicate k x) = List.replicate (m + k) x ++ List.replicate (n - (m + k)) (Value.string ⟨#[]⟩) := by
  unfold splice
  rw [List.take_append_of_le_length (by simp), List.take_of_length_le (by simp), List.drop_append, List.drop_of_length_le (by simp)]
  simp
  rw [← List.append_assoc, List.replicate_append_replicate]
  congr 2
  omega

theorem rep_one (x : ByteArray) {w : World} {b off : Nat} {o : Obj} (n : Nat) (hb : b < w.heap.size) (hc : w.cell? ⟨b, off, none⟩ = some (Sv x)) :
    ∀ j v, (List.replicate (min 1 n) (Sv x))[j]? = some v → (w.alloc o).cell? ((⟨b, off, none⟩ : Addr).add j) = some v := by
  intro j v hv
  rw [List.getElem?_replicate] at hv
  split at hv
  · rename_i h
    obtain rfl : j = 0 := by omega
    rw [Addr.add_lit, World.cell?_alloc_lt _ _ _ hb, Nat.add_zero, hc]
    exact hv
  · cases hv

theorem rep_self (x : ByteArray) {w : World} {g n m k : Nat} (hg : w.heap[g]? = some (.cells (List.replicate m (Sv x) ++ List.replicate (n - m) (Value.string ⟨#[]⟩)).toArray strT (0, 0))) (hk : k ≤ m) :
    ∀ j v, (List.replicate k (Sv x))[j]? = some v → w.cell? ((⟨g, 0, none⟩ : Addr).add j) = some v := by
  intro j v hv
  rw [List.getElem?_replicate] at hv
  split at hv
  · rename_i h
    rw [Addr.add_lit, Nat.zero_add, cell_of_row w g j _ _ _ hg]
    simp only [List.getElem?_toArray]
    rw [List.getElem?_append_left (by simp; omega), List.getElem?_replicate, if_pos (by omega)]
    exact hv
  · cases hv

theorem rep_plain (x : ByteArray) (k : Nat) : ∀ v ∈ List.replicate k (Sv x), v.oneCell' = true := by
  intro v hv
  rw [List.mem_replicate] at hv
  rw [hv.2]
  rfl

theorem rep_start (x : ByteArray) (n : Nat) : splice (List.replicate n (Value.string ⟨#[]⟩)) 0 (List.replicate (min 1 n) (Sv x)) = List.replicate (min 1 n) (Sv x) ++ List.replicate (n - min 1 n) (Value.string ⟨#[]⟩) := by
  simp [splice]

/-- the loop of slices.Repeat: m cells are filled -/
structure RepInv (w : World) (g : Nat) (x : ByteArray) (n m : Nat) (wr : World) : Prop where
  le : m ≤ n
  pos : 1 ≤ m ∨ n = 0
  row : wr.heap[g]? = some (.cells (List.replicate m (Sv x) ++ List.replicate (n - m) (Value.string ⟨#[]⟩)).toArray strT (0, 0))
  below : Below g w wr

end Go.Proofs.YtgecdcjfncfmcaaGreatDoor
namespace Go.Proofs.YtgecdcjfncfmcaaGreatDoor
open Go.RowKit

theorem Row.ne_blk {w : World} {base : Nat} {e t : TypeId} {sz n g : Nat} {v : Value} {xs : List Value} {cs : Array Value} (h : Row w base e sz v n xs) (hB : Blk w g t cs) (hne : e ≠ t) : ∀ b, v.ownBlock = some b → b ≠ g := by
  intro b hb he
  rcases h.2 with ⟨hv, _⟩ | ⟨b', off', cap', cur', hv, _, hh', _⟩
  · rw [hv] at hb; simp [Value.ownBlock] at hb
  · rw [hv] at hb
    simp [Value.ownBlock] at hb
    subst hb he
    unfold Blk at hB hh'
    rw [hB] at hh'
    injection hh' with hh'
    injection hh' with _ hh'
    exact hne hh'.symm
theorem Row.set_away {w : World} {base : Nat} {e : TypeId} {sz n : Nat} {v : Value} {xs : List Value} (h : Row w base e sz v n xs) {p : Addr} (hne : ∀ g, v.ownBlock = some g → g ≠ p.block) (u : Value) : Row (w.setCell p u) base e sz v n xs := by
  obtain ⟨h1, h2⟩ := h
  refine ⟨h1, h2.imp id ?_⟩
  rintro ⟨g, off, cap, cur, rfl, hb, hh, r⟩
  exact ⟨g, off, cap, cur, rfl, hb, hh.far (hne g (by simp [Value.ownBlock])) u, r⟩
def idR (n i : Nat) : List ByteArray := (List.range n).map fun j => if i = j then ⟨#[49]⟩ else ⟨#[48]⟩
def idS (n : Nat) : List (List ByteArray) := (List.range n).map fun i => idR n i
theorem idS_len (n : Nat) : (idS n).length = n := by simp [idS]
theorem idR_len (n i : Nat) : (idR n i).length = n := by simp [idR]
theorem tx_idS (n : Nat) : tx2 (idS n) = idT n := by
  unfold tx2 idS idT tx1 idR
  rw [List.map_map]
  refine List.map_congr_left fun i _ => ?_
  show List.map SL (List.map _ _) = _
  rw [List.map_map]
  refine List.map_congr_left fun j _ => ?_
  show SL (if i = j then _ else _) = _
  split <;> rfl
theorem sh_idS (n : Nat) : Sh2 (idS n) := by
  intro l hl s hs
  obtain ⟨i, _, rfl⟩ := List.mem_map.1 hl
  obtain ⟨j, _, rfl⟩ := List.mem_map.1 hs
  split <;> decide
theorem idR_set (n i : Nat) (_hi : i < n) : ((Array.replicate n (Sv ⟨#[48]⟩)).setIfInBounds i (.string ⟨#[49]⟩)).toList = (idR n i).map Sv := by
  rw [Array.toList_setIfInBounds, Array.toList_replicate]
  apply List.ext_getElem
  · simp [idR]
  · intro j h1 h2
    simp [idR, List.getElem_set]
    split <;> rfl
theorem fillL_get {α : Type} {m : List α} (d : α) {k n j : Nat} (hm : m.length = n) (hk : k ≤ n) (_hj : j < n) (x : α) (h : (fillL m d k n)[j]? = some x) : (j < k ∧ m[j]? = some x) ∨ (k ≤ j ∧ x = d) := by
  unfold fillL at h
  by_cases hjk : j < k
  · rw [List.getElem?_append_left (by simp; omega), List.getElem?_take, if_pos hjk] at h
    exact .inl ⟨hjk, h⟩
  · rw [List.getElem?_append_right (by simp; omega)] at h
    exact .inr ⟨by omega, (List.mem_replicate.1 (List.mem_of_getElem? h)).2⟩
end Go.Proofs.YtgecdcjfncfmcaaGreatDoor
