/- solve.square, solve.Inverse, solve.Det, solve.Solve. solve.Basis. solve.Kernel. Appends to rows of values that are no words, at any type; slices.Clone at vectors of texts; slices.IsSorted at ints; the keep's joined. -/
import Derived.Test.YtmnedfkinepnfaaGreatDoorSJE
import Derived.Test.YtmnedfkinepnfaaGreatDoorJY
import Derived.Test.YtmnedfkinepnfaaGreatDoorJT
import Derived.Test.YtmnedfkinepnfaaGreatDoorSJA
import Derived.Test.YtmnedfkinepnfaaGreatDoorSJD
import Derived.Test.YtmnedfkinepnfaaGreatDoorJW
import Derived.Test.YtmnedfkinepnfaaGreatDoorJG
namespace Go.Proofs.YtmnedfkinepnfaaGreatDoor
open Go.RowKit

theorem RetTV.vt {w0 w w' : World} {l : List Rat} {e : Ending} (h : RetTV w l e w') (hB : Below w0.heap.size w0 w) : RetVT w0 (txV l) e w' := by
  obtain ⟨v, rfl, k1, k2, hb⟩ := h
  have hbb := hB.trans (hb.mono hB.size)
  cases hf : l.all fitQ with
  | true =>
    have hrow := k1 hf
    obtain ⟨A9, c9, rfl⟩ := hrow.val
    refine ⟨A9, _, c9, mkS (l.map qText), rfl, hrow.reads, ?_, sh_mk hf, hbb⟩
    rw [txV, if_pos hf, tx_mk]
  | false =>
    obtain rfl := k2 hf
    have he : txV l = ([], 2) := by rw [txV, if_neg (by simp [hf])]
    rw [he]
    exact RetVT.none_ rfl hbb
theorem RetMT.far {w0 w w' : World} {r : MT × Int} {e : Ending} (h : RetMT w r e w') (hB : Below w0.heap.size w0 w) : RetMT w0 r e w' := by
  obtain ⟨A, n, c, m, h1, h2, h3, h4, hb⟩ := h
  exact ⟨A, n, c, m, h1, h2, h3, h4, hB.trans (hb.mono hB.size)⟩
theorem fit_int {N : Nat} {z : Int} (h1 : 1 ≤ N) (h2 : -4294967296 < z) (h3 : z < 4294967296) : FitR N (z : Rat) := ⟨by rw [Rat.num_intCast]; exact fits_one _ h1 _ h2 h3, by rw [Rat.den_intCast]; exact fits_one _ h1 _ (by decide) (by decide)⟩
theorem bnd_extI {M : MQ} {n : Nat} (h : Rect M n n) (hn : n ≤ 40) (hf : ∀ r ∈ M, ∀ x ∈ r, FitR 210 x) : Bnd (extI M n) n := by
  refine red_bnd (rect_extI h) hn (by omega) fun r hr x hx => ?_
  obtain ⟨a, ha, rfl⟩ := List.mem_mapIdx.1 hr
  rcases List.mem_append.1 hx with h1 | h1
  · exact hf _ (List.getElem_mem ha) x h1
  · rcases List.mem_or_eq_of_mem_set h1 with h2 | h2
    · rw [(List.mem_replicate.1 h2).2]; exact fitR_zero.mono (by omega)
    · rw [h2]; exact fit_int (z := 1) (by omega) (by omega) (by omega)
theorem bnd_extQ {M : MQ} {b : List Rat} {n w : Nat} (h : Rect M n w) (hn : n ≤ 40) (hw : w ≤ 40) (hf : ∀ r ∈ M, ∀ x ∈ r, FitR 210 x) (hb : ∀ x ∈ b, FitR 210 x) : Bnd (extQ M b) n := by
  refine red_bnd (rect_extQ h b) hn (by omega) fun r hr x hx => ?_
  obtain ⟨a, ha, rfl⟩ := List.mem_mapIdx.1 hr
  rcases List.mem_append.1 hx with h1 | h1
  · exact hf _ (List.getElem_mem ha) x h1
  · rw [List.mem_singleton.1 h1, List.getD_eq_getElem?_getD]
    cases e : b[a]? with
    | none => exact fitR_zero.mono (by omega)
    | some y => exact hb y (List.mem_of_getElem? e)
theorem fit_vec {l : List (List UInt8)} (h : ∀ s ∈ l, rchk s = 0) : ∀ x ∈ valsV l, FitR 210 x := fun x hx => by
  obtain ⟨s, hs, rfl⟩ := List.mem_map.1 hx
  exact val_fit (rchk_val _ (h s hs))
set_option maxRecDepth 100000 in
set_option maxHeartbeats 4000000 in
theorem ssquare_any (m : List (List ByteArray)) (n : Nat) (A : Option Addr) (c : Nat) (w : World) (hm : SMat w A n m) (hs : Sh2 m) (htab : Tab w) :
    Calls Tryz.prog 111 #[.slice A n c] w fun e w' => e = .returned (I (squareT (tx2 m))) ∧ Below w.heap.size w w' := by
  have hl : m.length = n := by obtain ⟨_, _, h, _⟩ := hm; exact h
  have HC := Lib.hid (chkM_any m n A c w hm hs htab)
  have HM := Lib.hid hm
  have LT := Lib.hid (show (tx2 m).length = n by rw [tx2, List.length_map, hl])
  have HLN := Lib.hid hl
  clear hm htab hl
  by_cases h0 : chkM (tx2 m) = 0
  · have HE := Lib.hid (show squareT (tx2 m) = if 0 < n ∧ wd (tx2 m) ≠ n then 3 else 0 by rw [squareT, if_neg (fun k => k h0), LT.out])
    rw [h0] at HC
    clear h0
    by_cases hn : 0 < n
    · have tp : decide (0 < n) = true := decide_eq_true hn
      obtain ⟨x0, hx0⟩ : ∃ x, m[0]? = some x := ⟨_, List.getElem?_eq_getElem (by rw [HLN.out]; exact hn)⟩
      have HW := Lib.hid (show wd (tx2 m) = x0.length by rw [wd_tx, head_get m x0 _ hx0])
      rw [HW.out] at HE
      go_enter Tryz.func111, Tryz.ntmps111
      go_wp2_with fail
      refine HC.out.mono ?_
      rintro e w1 ⟨rfl, hb⟩
      clear HC
      obtain ⟨b0, o0, B0, d0, rfl, hc0, _⟩ := (HM.out.below hb).at_ hn x0 hx0
      rw [Nat.add_zero] at hc0
      have HB := Lib.hid hb
      clear hx0 HM hb HW
      generalize x0.length = wa at *
      by_cases hw : wa = n
      · subst hw
        have tn : ((wa : Int) != wa) = false := by rw [bne_self_eq_false]
        rw [if_neg (fun h => h.2 rfl)] at HE
        go_wp2
        go_ret
        exact ⟨by rw [HE.out]; rfl, HB.out⟩
      · have tn : ((wa : Int) != (n : Int)) = true := bne_iff_ne.2 (by omega)
        rw [if_pos ⟨hn, hw⟩] at HE
        go_wp2
        go_ret
        exact ⟨by rw [HE.out]; rfl, HB.out⟩
    · have tp : decide (0 < n) = false := decide_eq_false hn
      rw [if_neg (fun h => hn h.1)] at HE
      go_enter Tryz.func111, Tryz.ntmps111
      go_wp2_with fail
      refine HC.out.mono ?_
      rintro e w1 ⟨rfl, hb⟩
      have HB := Lib.hid hb
      clear HC hb
      go_wp2
      go_ret
      exact ⟨by rw [HE.out]; rfl, HB.out⟩
  · have HE := Lib.hid (show squareT (tx2 m) = chkM (tx2 m) by rw [squareT, if_pos h0])
    have tc : (chkM (tx2 m) != 0) = true := bne_iff_ne.2 h0
    clear h0
    generalize chkM (tx2 m) = cc at *
    go_enter Tryz.func111, Tryz.ntmps111
    go_wp2_with fail
    refine HC.out.mono ?_
    rintro e w1 ⟨rfl, hb⟩
    have HB := Lib.hid hb
    clear HC hb
    go_wp2
    go_ret
    exact ⟨by rw [HE.out]; rfl, HB.out⟩
set_option maxRecDepth 100000 in
set_option maxHeartbeats 4000000 in
theorem sinverse_any (m : List (List ByteArray)) (n : Nat) (A : Option Addr) (c : Nat) (w : World) (hm : SMat w A n m) (hs : Sh2 m) (htab : Tab w) :
    Calls Tryz.prog 48 #[.slice A n c] w (RetMT w (invT (tx2 m))) := by
  have hl : m.length = n := by obtain ⟨_, _, h, _⟩ := hm; exact h
  have HC := Lib.hid (ssquare_any m n A c w hm hs htab)
  have HM := Lib.hid hm
  have HS := Lib.hid hs
  have HTB := Lib.hid htab
  have LT := Lib.hid (show (tx2 m).length = n by rw [tx2, List.length_map, hl])
  have HLN := Lib.hid hl
  clear hm htab hl hs
  by_cases h0 : squareT (tx2 m) = 0
  · have HE := Lib.hid (show invT (tx2 m) = if (redQ (extI (valsM (tx2 m)) n) n).2.length < n then ([], 10) else txM (invQ (valsM (tx2 m)) n) by rw [invT, if_neg (fun k => k h0), LT.out]; rfl)
    have HSQ := Lib.hid (square_ok h0)
    have HO := Lib.hid (chkM_mok HLN.out HSQ.out.2.2)
    rw [h0] at HC
    clear h0
    have HR := Lib.hid (show Rect (valsM (tx2 m)) n n by have h := HSQ.out.1.vals; rw [LT.out] at h; exact h)
    go_enter Tryz.func48, Tryz.ntmps48
    go_wp2_with fail
    refine HC.out.mono ?_
    rintro e w1 ⟨rfl, hb⟩
    have HB := Lib.hid hb
    have HV := Lib.hid (values_any m n A c w1 (HM.out.below hb) HS.out HO.out.val2 (by have := HO.out.n40; omega))
    clear HC hb
    go_wp2_with fail
    refine HV.out.mono ?_
    rintro e w2 ⟨v, vs, rfl, hLM, hb⟩
    replace HB := Lib.hid (HB.out.trans (hb.mono HB.out.size))
    obtain ⟨A1, c1, rfl⟩ := hLM.val
    rw [HR.out.1] at hLM ⊢
    have HI := Lib.hid (linv_any (valsM (tx2 m)) n A1 c1 w2 hLM.rm HR.out (by have := HO.out.n40; omega) (bnd_extI HR.out HO.out.n40 HO.out.fit))
    clear HV hb hLM
    go_wp2_with fail
    refine HI.out.mono ?_
    rintro e w3 ⟨v, vs, rfl, hLM, hb⟩
    replace HB := Lib.hid (HB.out.trans (hb.mono HB.out.size))
    clear HI hb
    by_cases hf : (redQ (extI (valsM (tx2 m)) n) n).2.length < n
    · have hir : invR (valsM (tx2 m)) n = ([], false) := by rw [invR, if_pos hf]
      rw [if_pos hf] at HE
      rw [hir] at hLM ⊢
      obtain ⟨A2, c2, rfl⟩ := hLM.val
      clear hir hf hLM
      go_wp2
      go_ret2
      exact RetMT.none_ HE.out HB.out
    · have hir : invR (valsM (tx2 m)) n = (invQ (valsM (tx2 m)) n, true) := by rw [invR, if_neg hf]
      rw [if_neg hf] at HE
      rw [hir] at hLM ⊢
      obtain ⟨A2, c2, rfl⟩ := hLM.val
      clear hir hf
      have hri := rect_inv HR.out
      rw [hri.1] at hLM ⊢
      have HT := Lib.hid (textM_any (invQ (valsM (tx2 m)) n) n A2 c2 w3 hLM.rm (by have := HO.out.n40; omega) (fun r hr => by rw [hri.2 r hr]; have := HO.out.n40; omega) (tab_below HTB.out HB.out))
      clear hLM hri
      go_wp2_with fail
      refine HT.out.mono ?_
      rintro e w4 hret
      have HQ := Lib.hid (hret.far HB.out)
      obtain ⟨A9, n9, c9, m9, rfl, -⟩ := hret
      clear HT HB
      go_wp2
      go_ret2
      rw [HE.out]
      exact HQ.out
  · have HE := Lib.hid (show invT (tx2 m) = ([], squareT (tx2 m)) by rw [invT, if_pos h0])
    have tc : (squareT (tx2 m) != 0) = true := bne_iff_ne.2 h0
    clear h0
    generalize squareT (tx2 m) = cc at *
    go_enter Tryz.func48, Tryz.ntmps48
    go_wp2_with fail
    refine HC.out.mono ?_
    rintro e w1 ⟨rfl, hb⟩
    have HB := Lib.hid hb
    clear HC hb
    go_wp2
    go_ret2
    exact RetMT.none_ HE.out HB.out
set_option maxRecDepth 100000 in
set_option maxHeartbeats 4000000 in
theorem sdet_any (m : List (List ByteArray)) (n : Nat) (A : Option Addr) (c : Nat) (w : World) (hm : SMat w A n m) (hs : Sh2 m) (htab : Tab w) (h5 : squareT (tx2 m) = 0 → n ≤ 5 ∧ ∀ r ∈ valsM (tx2 m), ∀ x ∈ r, FitR 14 x) :
    Calls Tryz.prog 49 #[.slice A n c] w (RetTx w (detT (tx2 m))) := by
  have hl : m.length = n := by obtain ⟨_, _, h, _⟩ := hm; exact h
  have HC := Lib.hid (ssquare_any m n A c w hm hs htab)
  have HM := Lib.hid hm
  have HS := Lib.hid hs
  have HTB := Lib.hid htab
  have LT := Lib.hid (show (tx2 m).length = n by rw [tx2, List.length_map, hl])
  have HLN := Lib.hid hl
  clear hm htab hl hs
  by_cases h0 : squareT (tx2 m) = 0
  · have HE := Lib.hid (show detT (tx2 m) = ratTx (detR (valsM (tx2 m)) n) by rw [detT, if_neg (fun k => k h0), LT.out])
    have HSQ := Lib.hid (square_ok h0)
    have HO := Lib.hid (chkM_mok HLN.out HSQ.out.2.2)
    rw [h0] at HC
    have HF := Lib.hid (h5 h0)
    clear h0 h5
    have HR := Lib.hid (show Rect (valsM (tx2 m)) n n by have h := HSQ.out.1.vals; rw [LT.out] at h; exact h)
    go_enter Tryz.func49, Tryz.ntmps49
    go_wp2_with fail
    refine HC.out.mono ?_
    rintro e w1 ⟨rfl, hb⟩
    have HB := Lib.hid hb
    have HV := Lib.hid (values_any m n A c w1 (HM.out.below hb) HS.out HO.out.val2 (by have := HO.out.n40; omega))
    clear HC hb
    go_wp2_with fail
    refine HV.out.mono ?_
    rintro e w2 ⟨v, vs, rfl, hLM, hb⟩
    replace HB := Lib.hid (HB.out.trans (hb.mono HB.out.size))
    obtain ⟨A1, c1, rfl⟩ := hLM.val
    rw [HR.out.1] at hLM ⊢
    have HI := Lib.hid (ldet_any (valsM (tx2 m)) n A1 c1 w2 hLM.rm HR.out (by have := HO.out.n40; omega) (N := 44531) (D := 29400) (by omega) (by omega) (bndD5 HR.out HF.out.1 HF.out.2))
    clear HV hb hLM
    generalize detR (valsM (tx2 m)) n = q at *
    go_wp2_with fail
    refine HI.out.mono ?_
    rintro e w3 ⟨v, rfl, hv, hb⟩
    replace HB := Lib.hid (HB.out.trans (hb.mono HB.out.size))
    clear HI hb
    obtain ⟨tb, t1, t2, t3, t4, t5, t6, rfl⟩ := hv.bools
    have HT := Lib.hid (rtext_any _ q w3 hv (tab_below HTB.out HB.out))
    clear hv
    go_wp2_with fail
    refine HT.out.mono ?_
    rintro e w4 ⟨s, rfl, hs, hb⟩
    replace HB := Lib.hid (HB.out.trans (hb.mono HB.out.size))
    clear HT hb
    by_cases h : fitQ q = true
    · have HQ := Lib.hid (show RetTx w (detT (tx2 m)) (.returned (.tuple #[.string s, I 0])) w4 from ⟨by rw [HE.out, ratTx, if_pos h, hs h], HB.out⟩)
      rw [h]
      clear hs
      go_wp2
      go_ret2
      exact HQ.out
    · have HQ := Lib.hid (show RetTx w (detT (tx2 m)) (.returned (.tuple #[.string ⟨#[]⟩, I 2])) w4 from ⟨by rw [HE.out, ratTx, if_neg h], HB.out⟩)
      have h := Bool.eq_false_iff.2 h
      rw [h]
      clear hs
      go_wp2
      go_ret2
      exact HQ.out
  · have HE := Lib.hid (show detT (tx2 m) = ([], squareT (tx2 m)) by rw [detT, if_pos h0])
    clear h5
    have tc : (squareT (tx2 m) != 0) = true := bne_iff_ne.2 h0
    clear h0
    generalize squareT (tx2 m) = cc at *
    go_enter Tryz.func49, Tryz.ntmps49
    go_wp2_with fail
    refine HC.out.mono ?_
    rintro e w1 ⟨rfl, hb⟩
    have HB := Lib.hid hb
    clear HC hb
    go_wp2
    go_ret2
    exact tx_none HE.out HB.out
theorem solR_len (m : MQ) (b : List Rat) (w : Nat) : (solR m b w).1.length ≤ w := by
  unfold solR
  simp only
  split
  · exact Nat.zero_le _
  · split
    · exact Nat.zero_le _
    · rw [List.length_map, List.length_take]; omega
set_option maxRecDepth 100000 in
set_option maxHeartbeats 4000000 in
theorem ssolve_any (m : List (List ByteArray)) (n : Nat) (A : Option Addr) (c : Nat) (b : List ByteArray) (nb : Nat) (Ab : Option Addr) (cb : Nat) (w : World) (hm : SMat w A n m) (hs : Sh2 m) (hv : SV w Ab nb b) (hsb : Sh1 b) (htab : Tab w) :
    Calls Tryz.prog 42 #[.slice A n c, .slice Ab nb cb] w (RetVT w (solveT (tx2 m) (tx1 b))) := by
  have hl : m.length = n := by obtain ⟨_, _, h, _⟩ := hm; exact h
  have hlb : b.length = nb := hv.len
  have HC := Lib.hid (chkM_any m n A c w hm hs htab)
  have HM := Lib.hid hm
  have HS := Lib.hid hs
  have HTB := Lib.hid htab
  have HBV := Lib.hid hv
  have HSB := Lib.hid hsb
  have LT := Lib.hid (show (tx2 m).length = n by rw [tx2, List.length_map, hl])
  have LB := Lib.hid (show (tx1 b).length = nb by rw [tx1, List.length_map, hlb])
  have HLN := Lib.hid hl
  clear hm htab hl hlb hs hv hsb
  by_cases h0 : chkM (tx2 m) = 0
  · have HO := Lib.hid (chkM_mok HLN.out h0)
    have HE0 := Lib.hid (show solveT (tx2 m) (tx1 b) = if chkV (tx1 b) ≠ 0 then ([], chkV (tx1 b)) else if nb ≠ n then ([], 3) else if (solR (valsM (tx2 m)) (valsV (tx1 b)) (wd (tx2 m))).2 = 0 then ([], 8) else if (solR (valsM (tx2 m)) (valsV (tx1 b)) (wd (tx2 m))).2 = 2 then ([], 10) else txV (solR (valsM (tx2 m)) (valsV (tx1 b)) (wd (tx2 m))).1 by rw [solveT, if_neg (fun k => k h0), LT.out, LB.out])
    rw [h0] at HC
    clear h0
    by_cases h1 : chkV (tx1 b) = 0
    · rw [if_neg (fun k => k h1)] at HE0
      have HOK := Lib.hid (chkV_ok h1)
      have HV1 := Lib.hid (val1_of h1)
      go_enter Tryz.func42, Tryz.ntmps42
      go_wp2_with fail
      refine HC.out.mono ?_
      rintro e w1 ⟨rfl, hb⟩
      have HB := Lib.hid hb
      have HC2 := Lib.hid (chkV_any b nb Ab cb w1 ((HBV.out.below hb)) HSB.out (tab_below HTB.out hb))
      rw [h1] at HC2
      clear HC hb h1
      go_wp2_with fail
      refine HC2.out.mono ?_
      rintro e w2 ⟨rfl, hb⟩
      replace HB := Lib.hid (HB.out.trans (hb.mono HB.out.size))
      clear HC2 hb
      by_cases hnb : nb = n
      · subst hnb
        have tn : ((nb : Int) != nb) = false := by rw [bne_self_eq_false]
        rw [if_neg (fun k => k rfl)] at HE0
        have hn40 : nb ≤ 40 := HO.out.n40
        have HV := Lib.hid (values_any m nb A c w2 (HM.out.below HB.out) HS.out HO.out.val2 (by omega))
        go_wp2_with fail
        refine HV.out.mono ?_
        rintro e w3 ⟨v, vs, rfl, hLM, hb⟩
        have HB0 := Lib.hid HB.out
        replace HB := Lib.hid (HB.out.trans (hb.mono HB.out.size))
        obtain ⟨A1, c1, rfl⟩ := hLM.val
        rw [HO.out.rect.1] at hLM ⊢
        have HL := Lib.hid hLM
        clear HV hb hLM HB0
        have HP := Lib.hid (parseAll_any b nb Ab cb w3 (HBV.out.below HB.out) HSB.out HV1.out (by omega))
        go_wp2_with fail
        refine HP.out.mono ?_
        rintro e w4 ⟨v, rfl, hr, hb⟩
        obtain ⟨A2, c2, rfl⟩ := hr.val
        have hvl : (valsV (tx1 b)).length = nb := by rw [valsV, List.length_map, LB.out]
        rw [hvl] at hr ⊢
        replace HB := Lib.hid (HB.out.trans (hb.mono HB.out.size))
        replace HL := Lib.hid (HL.out.call hb)
        have HI := Lib.hid (lsolve_any (valsM (tx2 m)) (valsV (tx1 b)) nb (wd (tx2 m)) A1 c1 A2 c2 w4 HL.out.rm hr.rv HO.out.rect HO.out.wdq (by omega) (by have := HO.out.w80; omega) (bnd_extQ HO.out.rect hn40 HO.out.w80 HO.out.fit (fit_vec HOK.out.2)))
        clear HP hr hb hvl HL
        have hSL : (solR (valsM (tx2 m)) (valsV (tx1 b)) (wd (tx2 m))).1.length ≤ 1000000 := by
          have h1 := solR_len (valsM (tx2 m)) (valsV (tx1 b)) (wd (tx2 m))
          have h2 := HO.out.w80
          omega
        generalize solR (valsM (tx2 m)) (valsV (tx1 b)) (wd (tx2 m)) = S at *
        go_wp2_with fail
        refine HI.out.mono ?_
        rintro e w5 ⟨v, rfl, hr, hb⟩
        obtain ⟨A3, c3, rfl⟩ := hr.val
        replace HB := Lib.hid (HB.out.trans (hb.mono HB.out.size))
        clear HI hb
        by_cases hz : S.2 = 0
        · rw [hz]
          rw [if_pos hz] at HE0
          clear hz hr
          go_wp2
          go_ret2
          exact RetVT.none_ HE0.out HB.out
        · rw [if_neg hz] at HE0
          have t0 : ((S.2 : Int) == 0) = false := beq_eq_false_iff_ne.2 (by omega)
          by_cases hz2 : S.2 = 2
          · rw [hz2]
            rw [if_pos hz2] at HE0
            clear hz hz2 hr t0
            go_wp2
            go_ret2
            exact RetVT.none_ HE0.out HB.out
          · rw [if_neg hz2] at HE0
            have t2 : ((S.2 : Int) == 2) = false := beq_eq_false_iff_ne.2 (by omega)
            have hrv := hr.rv
            have HT := Lib.hid (textVec_any S.1 S.1.length A3 c3 w5 hrv hSL (tab_below HTB.out HB.out))
            clear hr hrv
            generalize S.1.length = sl at *
            generalize hs2 : S.2 = s2 at *
            clear hs2
            go_wp2_with fail
            refine HT.out.mono ?_
            rintro e w6 hret
            have HQ := Lib.hid (hret.vt HB.out)
            obtain ⟨v9, rfl, -⟩ := hret
            clear HT HB
            go_wp2
            go_ret2
            rw [HE0.out]
            exact HQ.out
      · have tn : ((nb : Int) != (n : Int)) = true := bne_iff_ne.2 (by omega)
        rw [if_pos hnb] at HE0
        go_wp2
        go_ret2
        exact RetVT.none_ HE0.out HB.out
    · rw [if_pos h1] at HE0
      have tc : (chkV (tx1 b) != 0) = true := bne_iff_ne.2 h1
      clear h1
      go_enter Tryz.func42, Tryz.ntmps42
      go_wp2_with fail
      refine HC.out.mono ?_
      rintro e w1 ⟨rfl, hb⟩
      have HB := Lib.hid hb
      have HC2 := Lib.hid (chkV_any b nb Ab cb w1 ((HBV.out.below hb)) HSB.out (tab_below HTB.out hb))
      clear HC hb
      generalize chkV (tx1 b) = cc at *
      go_wp2_with fail
      refine HC2.out.mono ?_
      rintro e w2 ⟨rfl, hb⟩
      replace HB := Lib.hid (HB.out.trans (hb.mono HB.out.size))
      clear HC2 hb
      go_wp2
      go_ret2
      exact RetVT.none_ HE0.out HB.out
  · have HE := Lib.hid (show solveT (tx2 m) (tx1 b) = ([], chkM (tx2 m)) by rw [solveT, if_pos h0])
    have tc : (chkM (tx2 m) != 0) = true := bne_iff_ne.2 h0
    clear h0
    generalize chkM (tx2 m) = cc at *
    go_enter Tryz.func42, Tryz.ntmps42
    go_wp2_with fail
    refine HC.out.mono ?_
    rintro e w1 ⟨rfl, hb⟩
    have HB := Lib.hid hb
    clear HC hb
    go_wp2
    go_ret2
    exact RetVT.none_ HE.out HB.out
end Go.Proofs.YtmnedfkinepnfaaGreatDoor
namespace Go.Proofs.YtmnedfkinepnfaaGreatDoor
open Go.RowKit

theorem wdQ_trB (m : MQ) (w : Nat) : wdQ (trQ m w) = if w = 0 then 0 else m.length := by
  cases w with
  | zero => rfl
  | succ w =>
    rw [if_neg (by omega)]
    unfold wdQ trQ
    rw [List.range_succ_eq_map, List.map_cons, List.head?_cons, Option.getD_some, List.length_map]
theorem fit_trB {m : MQ} {n w N : Nat} (h : Rect m n w) (hf : ∀ r ∈ m, ∀ x ∈ r, FitR N x) : ∀ r ∈ trQ m w, ∀ x ∈ r, FitR N x := fun r hr x hx => by
  obtain ⟨j, hj, rfl⟩ := List.mem_map.1 hr
  obtain ⟨s, hs, rfl⟩ := List.mem_map.1 hx
  have hl := h.2 s hs
  have hj := List.mem_range.1 hj
  rw [List.getD_eq_getElem?_getD, List.getElem?_eq_getElem (by omega)]
  exact hf s hs _ (List.getElem_mem _)
def RetBas (w : World) (r : List Nat × Int) (e : Ending) (w' : World) : Prop := ∃ v, e = .returned (.tuple #[v, I r.2]) ∧ NRow w' w.heap.size intT v (ints r.1) ∧ Below w.heap.size w w'
set_option maxRecDepth 100000 in
set_option maxHeartbeats 8000000 in
theorem sbasis_any (mt : List (List ByteArray)) (n : Nat) (At : Option Addr) (c : Nat) (w : World) (hm : SMat w At n mt) (hs : Sh2 mt) (htab : Tab w) :
    Calls Tryz.prog 38 #[.slice At n c] w (RetBas w (basT (tx2 mt))) := by
  have hl : mt.length = n := by obtain ⟨_, _, h, _⟩ := hm; exact h
  have HC := Lib.hid (chkM_any mt n At c w hm hs htab)
  have HM0 := Lib.hid hm
  have HS0 := Lib.hid hs
  have LT := Lib.hid (show (tx2 mt).length = n by rw [tx2, List.length_map, hl])
  have HLN := Lib.hid hl
  clear hm htab hl hs
  by_cases h0 : chkM (tx2 mt) = 0
  · have HO := Lib.hid (chkM_mok HLN.out h0)
    have HE := Lib.hid (show basT (tx2 mt) = ((redQ (trQ (valsM (tx2 mt)) (wd (tx2 mt))) (if wd (tx2 mt) = 0 then 0 else n)).2, 0) by rw [basT, if_neg (fun k => k h0), LT.out])
    rw [h0] at HC
    clear h0
    go_enter Tryz.func38, Tryz.ntmps38
    go_wp2_with fail
    refine HC.out.mono ?_
    rintro e wz ⟨rfl, hb⟩
    have HBZ := Lib.hid hb
    have HV := Lib.hid (values_any mt n At c wz (HM0.out.below hb) HS0.out HO.out.val2 (by have := HO.out.n40; omega))
    clear HC hb
    go_wp2_with fail
    refine HV.out.mono ?_
    rintro e w0 ⟨v, vs, rfl, hLM, hb⟩
    replace HBZ := Lib.hid (HBZ.out.trans (hb.mono HBZ.out.size))
    clear HV hb
    obtain ⟨A, c0, rfl⟩ := hLM.val
    have hr := HO.out.rect
    have hwd := HO.out.wdq
    have hn40 := HO.out.n40
    have hw40 := HO.out.w80
    have HFT := Lib.hid HO.out.fit
    generalize valsM (tx2 mt) = m at *
    generalize wd (tx2 mt) = wd at *
    rw [hr.1] at hLM ⊢
    clear HO
    have hmk := make_mat wd (by omega)
    have HC := Lib.hid (lwidth_any m n A c0 w0 hLM.rm)
    rw [hwd] at HC
    have HM := Lib.hid hLM.rm
    have HR := Lib.hid hr
    clear hLM hr hwd
    unfold rowT at hmk
    go_wp2_with fail
    refine HC.out.mono ?_
    rintro e w1 ⟨rfl, rfl⟩
    clear HC
    have HP := Lib.hid (show ∃ vs, LM (w1.alloc (.cells (Array.replicate wd (Value.slice none 0 0)) rowT)) w1.heap.size (.slice (some ⟨w1.heap.size, 0, none⟩) wd wd) vs (trP m wd 0 0) from ⟨_, by rw [trP_start]; exact LM.start w1 wd (by unfold maxLen; omega)⟩)
    have HB := Lib.hid (below_new w1 (.cells (Array.replicate wd (Value.slice none 0 0)) rowT))
    go_wp2
    clear hmk
    go_loopg [25] (n - 0) (fun r v wr => ∃ i : Nat, r = n - i ∧ v = I i ∧ i ≤ n ∧ Hid (∃ vs, LM wr w1.heap.size (.slice (some ⟨w1.heap.size, 0, none⟩) wd wd) vs (trP m wd i 0)) ∧ Hid (Below w1.heap.size w1 wr))
    case atStart => exact ⟨0, rfl, rfl, by omega, HP, HB⟩
    case round =>
      clear HP HB
      obtain ⟨i, rfl, rfl, hi, HP, HB⟩ := hrel
      obtain ⟨wa, rfl⟩ : ∃ wa : World, wa = wr := ⟨_, rfl⟩
      by_cases hlt : i < n
      · obtain ⟨x, hx⟩ : ∃ x, m[i]? = some x := ⟨_, List.getElem?_eq_getElem (by rw [HR.out.len]; exact hlt)⟩
        obtain ⟨b, off, B, d, rfl, _, hc, hrx⟩ := HM.out.at_ hlt x hx
        have hc := (HB.out.cell (World.block_lt_of_cell? _ _ hc)).trans hc
        have hxl : x.length = wd := HR.out.row x (List.mem_of_getElem? hx)
        have HRX := Lib.hid hrx
        have HX := Lib.hid (show m.getD i [] = x by rw [List.getD_eq_getElem?_getD, hx]; rfl)
        rw [hxl] at hc HRX
        have HXL := Lib.hid hxl
        clear hx hrx hxl
        go_wp2
        clear hc
        go_loopg [31] (wd - 0) (fun r v wr => ∃ k : Nat, r = wd - k ∧ v = I k ∧ k ≤ wd ∧ Hid (∃ vs, LM wr w1.heap.size (.slice (some ⟨w1.heap.size, 0, none⟩) wd wd) vs (trP m wd i k)) ∧ Hid (Below w1.heap.size w1 wr))
        case atStart => exact ⟨0, rfl, rfl, by omega, HP, HB⟩
        case round =>
          clear HP HB
          obtain ⟨k, rfl, rfl, hk, HP, HB⟩ := hrel
          obtain ⟨wb, rfl⟩ : ∃ wb : World, wb = wr := ⟨_, rfl⟩
          by_cases hkl : k < wd
          · obtain ⟨q, hq⟩ : ∃ q, x[k]? = some q := ⟨_, List.getElem?_eq_getElem (by rw [HXL.out]; exact hkl)⟩
            obtain ⟨b2, o2, nb, B1, l1, c1, B2, l2, c2, rfl, _, hC, hrt⟩ := (HRX.out.below HB.out).form hkl q hq
            have HQ := Lib.hid (show (m.getD i []).getD k 0 = q by rw [HX.out, List.getD_eq_getElem?_getD, hq]; rfl)
            have hb1 := below_new wb (.cells #[.bool nb, .slice B1 l1 c1, .bool false, .slice B2 l2 c2] ratT)
            have hb2 := below_draw (wb.alloc (.cells #[.bool nb, .slice B1 l1 c1, .bool false, .slice B2 l2 c2] ratT))
            have HBox := Lib.hid ((boxes1 wb (.bool nb) (.slice B1 l1 c1) (.bool false) (.slice B2 l2 c2)).1.below hb2)
            have HRT := Lib.hid ((hrt.ext hb1).ext hb2)
            have HB1 := Lib.hid ((HB.out.trans (hb1.mono HB.out.size)).trans (hb2.mono (HB.out.trans (hb1.mono HB.out.size)).size))
            obtain ⟨vs, hLM⟩ := HP.out
            have hL1 := (hLM.call hb1).call hb2
            obtain ⟨g, o3, cap, Bu, cu, e3, _, _, hu, hcell, _, _⟩ := hL1.at_ (i := k) (by rw [trP_len]; exact hkl)
            obtain ⟨rfl, rfl⟩ := sl_inj e3
            rw [Nat.zero_add] at hcell
            have hget := trP_get m i hkl
            rw [List.getD_eq_getElem?_getD, hget, Option.getD_some] at hu hcell
            have HLT := Lib.hid (fun g hg => ((hLM.inner k _ _ hu hget).lt (g := g) hg).2)
            have HC0 := Lib.hid hcell
            have HU := Lib.hid hu
            have HL1 := Lib.hid hL1
            have HG := Lib.hid hget
            have q0 := hC.c0
            have q1 := hC.c1
            have q2 := hC.c2
            have q3 := hC.c3
            generalize hlu : ((m.take i).map fun r => r.getD k 0).length = lu at *
            have HLU := Lib.hid hlu
            have hlu6 : lu ≤ 1000000 := by rw [← hlu, List.length_map, List.length_take]; omega
            clear e3 hcell hu hget hL1 hLM hb1 hb2 hq hrt hC HP HB hlu
            unfold ratT at *
            go_upto_region 12 with (fail)
            clear q0 q1 q2 q3
            generalize hbx : wb.heap.size = bx at *
            refine wp_region_c (fun w' => w'.cell? ⟨w1.heap.size, k, none⟩ = some (.slice Bu lu cu) ∧ w'.cell? ⟨bx, 0, none⟩ = some (.bool nb) ∧ w'.cell? ⟨bx, 1, none⟩ = some (.slice B1 l1 c1) ∧ w'.cell? ⟨bx, 2, none⟩ = some (.bool false) ∧ w'.cell? ⟨bx, 3, none⟩ = some (.slice B2 l2 c2)) 10 (by kernel_rfl) ?_
            generalize (wb.alloc (Obj.cells #[Value.bool nb, Value.slice B1 l1 c1, Value.bool false, Value.slice B2 l2 c2] 82)).drew = W1 at *
            refine wpAnyC_take8 (i := 0) (oi := _) (v := .slice (some ⟨w1.heap.size, 0, none⟩) wd wd) rfl (by kernel_rfl) (by kernel_rfl) (by kernel_rfl) (by kernel_rfl) (by kernel_rfl) (by kernel_rfl) (fun _ _ _ h => h) (Or.inl ⟨by rfl, ?_⟩) ⟨HC0.out, HBox.out.c0, HBox.out.c1, HBox.out.c2, HBox.out.c3⟩ ?_
            · intro w hSw
              obtain ⟨s0, s1, s2, s3, s4⟩ := hSw
              go_simp
            try simp only [Act.put, List.setIfInBounds_toArray]
            refine wpAnyC_take8 (i := 1) (oi := _) (v := I k) rfl (by kernel_rfl) (by kernel_rfl) (by kernel_rfl) (by kernel_rfl) (by kernel_rfl) (by kernel_rfl) (fun _ _ _ h => h) (Or.inl ⟨by rfl, ?_⟩) ⟨HC0.out, HBox.out.c0, HBox.out.c1, HBox.out.c2, HBox.out.c3⟩ ?_
            · intro w hSw
              obtain ⟨s0, s1, s2, s3, s4⟩ := hSw
              go_simp
            try simp only [Act.put]
            refine wpAnyC_take8 (i := 2) (oi := _) (v := .slice (some ⟨w1.heap.size, 0, none⟩) wd wd) rfl (by kernel_rfl) (by kernel_rfl) (by kernel_rfl) (by kernel_rfl) (by kernel_rfl) (by kernel_rfl) (fun _ _ _ h => h) (Or.inl ⟨by rfl, ?_⟩) ⟨HC0.out, HBox.out.c0, HBox.out.c1, HBox.out.c2, HBox.out.c3⟩ ?_
            · intro w hSw
              obtain ⟨s0, s1, s2, s3, s4⟩ := hSw
              go_simp
            try simp only [Act.put]
            refine wpAnyC_take8 (i := 3) (oi := _) (v := I k) rfl (by kernel_rfl) (by kernel_rfl) (by kernel_rfl) (by kernel_rfl) (by kernel_rfl) (by kernel_rfl) (fun _ _ _ h => h) (Or.inl ⟨by rfl, ?_⟩) ⟨HC0.out, HBox.out.c0, HBox.out.c1, HBox.out.c2, HBox.out.c3⟩ ?_
            · intro w hSw
              obtain ⟨s0, s1, s2, s3, s4⟩ := hSw
              go_simp
            try simp only [Act.put]
            refine wpAnyC_take8 (i := 4) (oi := _) (v := .pointer (some ⟨w1.heap.size, k, none⟩)) rfl (by kernel_rfl) (by kernel_rfl) (by kernel_rfl) (by kernel_rfl) (by kernel_rfl) (by kernel_rfl) (fun _ _ _ h => h) (Or.inl ⟨by rfl, ?_⟩) ⟨HC0.out, HBox.out.c0, HBox.out.c1, HBox.out.c2, HBox.out.c3⟩ ?_
            · intro w hSw
              obtain ⟨s0, s1, s2, s3, s4⟩ := hSw
              go_simp
            try simp only [Act.put]
            refine wpAnyC_take8 (i := 5) (oi := _) (v := .slice Bu lu cu) rfl (by kernel_rfl) (by kernel_rfl) (by kernel_rfl) (by kernel_rfl) (by kernel_rfl) (by kernel_rfl) (fun _ _ _ h => h) (Or.inl ⟨by rfl, ?_⟩) ⟨HC0.out, HBox.out.c0, HBox.out.c1, HBox.out.c2, HBox.out.c3⟩ ?_
            · intro w hSw
              obtain ⟨s0, s1, s2, s3, s4⟩ := hSw
              go_simp
            try simp only [Act.put]
            refine wpAnyC_take8 (i := 6) (oi := _) (v := .agg #[.bool nb, .slice B1 l1 c1, .bool false, .slice B2 l2 c2]) rfl (by kernel_rfl) (by kernel_rfl) (by kernel_rfl) (by kernel_rfl) (by kernel_rfl) (by kernel_rfl) (fun _ _ _ h => h) (Or.inl ⟨by rfl, ?_⟩) ⟨HC0.out, HBox.out.c0, HBox.out.c1, HBox.out.c2, HBox.out.c3⟩ ?_
            · intro w hSw
              obtain ⟨s0, s1, s2, s3, s4⟩ := hSw
              go_simp
            try simp only [Act.put]
            refine wpAnyC_one (i := 7) (by kernel_rfl) rfl (fun K hK => ?_)
            go_simp
            have hb3 := below_new W1 (.cells #[.bool nb, .slice B1 l1 c1, .bool false, .slice B2 l2 c2] 82)
            have HC1 := Lib.hid (cell_below HC0.out hb3)
            have HBox1 := Lib.hid (HBox.out.below hb3)
            have HL2 := Lib.hid (HL1.out.call hb3)
            have HRT2 := Lib.hid (HRT.out.ext hb3)
            have HB2 := Lib.hid (HB1.out.trans (hb3.mono HB1.out.size))
            have hBlk := Blk.new W1 82 #[.bool nb, .slice B1 l1 c1, .bool false, .slice B2 l2 c2]
            refine hK.out _ _ (fun _ => ⟨HC1.out, HBox1.out.c0, HBox1.out.c1, HBox1.out.c2, HBox1.out.c3⟩) ?_
            clear hK K hb3 HC0 HBox HL1 HRT HB1
            try simp only [Act.put, List.setIfInBounds_toArray, List.set_cons_zero, List.set_cons_succ]
            generalize hgx : W1.heap.size = gx at *
            generalize W1.alloc (.cells #[.bool nb, .slice B1 l1 c1, .bool false, .slice B2 l2 c2] 82) = W2 at *
            have hru := HL2.out.inner k _ _ HU.out HG.out
            refine wpAnyC_one (i := 8) (by kernel_rfl) rfl (fun K hK => ?_)
            refine step_app1 (by rfl) _ _ (by rfl) w1.heap.size (.slice Bu lu cu) _ (by kernel_rfl) hru gx (by kernel_rfl) hBlk HRT2.out (by rw [HLU.out]; exact hlu6) HB2.out.size ?_
            intro v3 W3 hap
            obtain ⟨h1, h2, h3, h4, h5⟩ := HL2.out.app (trP_len _ _ _ _) hkl HU.out HG.out hap HB2.out.size
            rw [Nat.zero_add] at h1 h3 h4
            have HBox2 := Lib.hid (HBox1.out.keepB (hap.grown.block bx HBox1.out.lt (fun e => Nat.lt_irrefl _ (HLT.out bx e.symm))))
            refine hK.out _ _ (fun _ => ⟨h3, HBox2.out.c0, HBox2.out.c1, HBox2.out.c2, HBox2.out.c3⟩) ?_
            clear hK K
            try simp only [Act.put, List.setIfInBounds_toArray]
            refine wpAnyC_one (i := 9) (by kernel_rfl) rfl (fun K hK => ?_)
            go_simp
            refine hK.out _ _ (fun _ => ⟨h3, HBox2.out.c0, HBox2.out.c1, HBox2.out.c2, HBox2.out.c3⟩) ?_
            clear hK K HBox2 HBox1
            have hN := trP_set m i hkl
            rw [HQ.out] at hN
            rw [hN] at h1
            obtain ⟨A3, c3, rfl⟩ := hap.row.val
            have HN := Lib.hid (show ∃ vs, LM (W3.setCell ⟨w1.heap.size, k, none⟩ _) w1.heap.size (.slice (some ⟨w1.heap.size, 0, none⟩) wd wd) vs (trP m wd i (k + 1)) from ⟨_, h1⟩)
            have HB4 := Lib.hid ((HB2.out.trans h2).setCell (p := ⟨w1.heap.size, k, none⟩) (Nat.le_refl _) (.slice A3 (((m.take i).map fun r => r.getD k 0) ++ [q]).length c3))
            generalize (((m.take i).map fun r => r.getD k 0) ++ [q]).length = l3 at *
            clear h1 h2 h5 hap hru hN hBlk HL2 HRT2 HB2 HC1 HU HG HLT HLU HQ
            try simp only [Act.put, List.setIfInBounds_toArray, List.set_cons_zero, List.set_cons_succ]
            refine wpAnyC_one (i := 10) (by kernel_rfl) rfl (fun K hK => ?_)
            go_simp
            refine hK.out _ _ (fun h => absurd h (by decide)) ?_
            clear hK K
            refine wpAnyC_done (by kernel_rfl) ?_ _
            go_wp2
            go_roundg (wd - (k + 1))
            case measure => omega
            case rel => exact ⟨k + 1, rfl, by go_num, by omega, HN, HB4⟩
          · have hkn : k = wd := by omega
            subst hkn
            have HN := Lib.hid (show ∃ vs, LM wb w1.heap.size (.slice (some ⟨w1.heap.size, 0, none⟩) k k) vs (trP m k (i + 1) 0) by
              have := HP.out
              rwa [trP_next m k (by rw [HR.out.len]; exact hlt)] at this)
            clear HP
            go_wp2
            go_roundg (n - (i + 1))
            case measure => omega
            case rel => exact ⟨i + 1, rfl, by go_num, by omega, HN, HB⟩
      · have hin : i = n := by omega
        subst hin
        obtain ⟨vs, hLM⟩ := HP.out
        have he := trP_end m wd
        rw [HR.out.len] at he
        rw [he] at hLM
        have HRT := Lib.hid (rect_tr (k := wd) HR.out.1)
        have HW := Lib.hid (lwidth_any (trQ m wd) wd (some ⟨w1.heap.size, 0, none⟩) wd wa hLM.rm)
        rw [wdQ_trB, HR.out.1] at HW
        have hcl : (if wd = 0 then 0 else i) ≤ i := by split <;> omega
        have HX := Lib.hid (reduce_any (trQ m wd) wd i (if wd = 0 then 0 else i) (some ⟨w1.heap.size, 0, none⟩) wd wa hLM.rm HRT.out hcl (by omega) (by omega) (red_bnd HRT.out hw40 (by omega) (fit_trB HR.out HFT.out)))
        clear hLM HP he HM HFT hcl
        generalize (if wd = 0 then 0 else i) = cl at *
        go_wp2_with fail
        refine HW.out.mono ?_
        rintro e w9 ⟨rfl, rfl⟩
        clear HW
        go_wp2_with fail
        have hbs := HB.out.size
        have hbz := HBZ.out.size
        refine HX.out.mono ?_
        rintro e w3 ⟨v, vs, u, rfl, hLM, hN, hb⟩
        obtain ⟨A1, c1, rfl⟩ := hLM.val
        obtain ⟨A2, c2, rfl⟩ := hN.val
        have HN := Lib.hid (hN.less (Nat.le_trans hbz hbs))
        have HB3 := Lib.hid ((HBZ.out.trans (HB.out.mono HBZ.out.size)).trans (hb.mono (Nat.le_trans hbz hbs)))
        clear HX hLM hN hb hbs hbz HB HBZ
        generalize (ints (redQ (trQ m wd) cl).2).length = l3 at *
        generalize (redQ (trQ m wd) cl).1.length = l4 at *
        go_wp2
        go_ret2
        rw [HE.out]
        exact ⟨_, rfl, HN.out, HB3.out⟩
  · have HE := Lib.hid (show basT (tx2 mt) = ([], chkM (tx2 mt)) by rw [basT, if_pos h0])
    have tc : (chkM (tx2 mt) != 0) = true := bne_iff_ne.2 h0
    clear h0
    generalize chkM (tx2 mt) = cc at *
    go_enter Tryz.func38, Tryz.ntmps38
    go_wp2_with fail
    refine HC.out.mono ?_
    rintro e w1 ⟨rfl, hb⟩
    have HB := Lib.hid hb
    clear HC hb
    go_wp2
    go_ret2
    rw [HE.out]
    exact ⟨_, rfl, NRow.nil _ _ _, HB.out⟩
end Go.Proofs.YtmnedfkinepnfaaGreatDoor
namespace Go.Proofs.YtmnedfkinepnfaaGreatDoor
open Go.RowKit

abbrev boolT : TypeId := 4
theorem info_bool : (Tryz.prog.info? boolT).map (fun i => (i.zero, i.size, i.bytes)) = some (some (.bool false), 1, 1) := by kernel_rfl
theorem made_bool (n : Nat) : madeCells (Value.bool false).cells (n * 1) = Array.replicate n (.bool false) := by
  apply Array.ext
  · simp [size_madeCells]
  · intro i h1 h2
    simp [madeCells, Value.cells, Nat.mod_one]
theorem make_bool (n : Nat) (hn : n ≤ 1099511627776) (W : World) :
    (Instr.makeSlice 127 (.int .i64 (n : Int)) (.int .i64 (n : Int))).run Tryz.prog W = .ok (.slice (some ⟨W.heap.size, 0, none⟩) n n) (W.alloc (.cells (Array.replicate n (.bool false)) boolT)) := by
  obtain ⟨i, hi, hz0, hz1, hz2⟩ := info_parts info_bool
  have := run_make (P := Tryz.prog) W 127 boolT i _ Tryz.underlying127 hi hz0 .i64 .i64 n n (by omega) (by omega) (by rw [hz2]; omega) (by omega)
  rw [this, Int.toNat_natCast, hz1, made_bool]
/-- which columns are among the first t pivots -/
def flA (pv : List Nat) (t w : Nat) : Array Value := (Array.range w).map fun k => .bool ((pv.take t).contains k)
theorem flA_zero (pv : List Nat) (w : Nat) : Array.replicate w (Value.bool false) = flA pv 0 w := by
  apply Array.ext
  · simp [flA]
  · intro i h1 h2
    simp [flA]
theorem flA_size (pv : List Nat) (t w : Nat) : (flA pv t w).size = w := by simp [flA]
theorem flA_get (pv : List Nat) (t w : Nat) {k : Nat} (hk : k < w) : (flA pv t w)[k]? = some (.bool ((pv.take t).contains k)) := by
  unfold flA
  rw [Array.getElem?_map, Array.getElem?_range, if_pos hk]
  rfl
theorem flA_set {pv : List Nat} {t w p : Nat} (hp : pv[t]? = some p) : (flA pv t w).setIfInBounds p (.bool true) = flA pv (t + 1) w := by
  apply Array.ext
  · rw [Array.size_setIfInBounds, flA_size, flA_size]
  · intro i h1 h2
    rw [flA_size] at h2
    have e1 : ((flA pv t w).setIfInBounds p (.bool true))[i] = if p = i then .bool true else (flA pv t w)[i]'(by rw [flA_size]; exact h2) := Array.getElem_setIfInBounds _
    have g1 := flA_get pv t w h2
    have g2 := flA_get pv (t + 1) w h2
    rw [Array.getElem?_eq_getElem (by rw [flA_size]; exact h2)] at g1 g2
    rw [e1, Option.some.inj g1, Option.some.inj g2, List.take_add_one, hp]
    by_cases e : p = i
    · rw [if_pos e, e]
      simp
    · rw [if_neg e]
      congr 1
      rw [Bool.eq_iff_iff, List.contains_iff_mem, List.contains_iff_mem, List.mem_append]
      constructor
      · exact .inl
      · rintro (h | h)
        · exact h
        · simp at h; omega
theorem zero_slice_noWord (n : Nat) : ∀ u ∈ (Builtin.zeroCells (Value.slice none 0 0).cells n).toList, noWord u := by
  intro u hu
  unfold Builtin.zeroCells at hu
  rw [Array.toList_map, List.mem_map] at hu
  obtain ⟨i, _, rfl⟩ := hu
  have h1 : (Value.slice none 0 0).cells.size = 1 := rfl
  rw [h1, Nat.mod_one]
  intro n e
  cases e
/-- 'append(out, row)' at matrices of numbers -/
theorem wpList_appRow {w : World} {ops : Array Oper} {rest : List Oper} {o : Oper} {a : Act} {Q : Exit → Act → World → Prop} (hgd : o.guard = none) (s x : Operand)
    (ho : o.op = .call { callee := .builtin .append, args := #[s, x], argTypes := #[115, 115] }) (base : Nat) (v : Value) (xs : List Value) (hsv : a.eval s = v) (hr : NRow w base rowT v xs)
    (g : Nat) (hx : a.eval x = .slice (some ⟨g, 0, none⟩) 1 1) {B : Option Addr} {n c : Nat} (hB : Blk w g rowT #[.slice B n c]) (hl : xs.length ≤ 1000000) (hbase : base ≤ w.heap.size)
    (h : ∀ v' w', NApd w base rowT v (xs ++ [.slice B n c]) v' w' → wpList Tryz.prog ops Q rest (a.put o.dst v') w') : wpList Tryz.prog ops Q (o :: rest) a w := by
  refine wpList_plain hgd fun K hK => ?_
  obtain ⟨i, hi, hz0, hz1, hz2⟩ := info_parts info_row
  have hs : Reads w w.heap.size 1 (some ⟨g, 0, none⟩) 1 [.slice B n c] := ⟨rfl, fun _ => ⟨g, 0, rfl, hB.lt, fun j u hu => by
    rw [Nat.zero_add, hB.cell]
    simpa using hu⟩⟩
  obtain ⟨v', w', hrun, hap⟩ := run_append_nw (P := Tryz.prog) w base 115 o.type rowT i _ 24 Tryz.underlying115 hi hz0 hz1 hz2 rfl zero_slice_noWord v xs hr w.heap.size (some ⟨g, 0, none⟩) 1 1 [.slice B n c] hs (fun u hu => by
    obtain rfl : u = .slice B n c := by simpa using hu
    exact ⟨noWord_slice _ _ _, rfl⟩) (by unfold maxLen; omega) (by omega) hbase
  unfold Oper.wp execOp
  simp only [ho, resolve, invoke, builtin, Sem.run_bind, Sem.run_pure, Result.andThen_ok, List.map_toArray, List.map_cons, List.map_nil, hsv, hx, hrun]
  exact hK _ _ (h v' w' hap)
/-- one row more -/
theorem LM.snoc {w w' : World} {base : Nat} {v v' u : Value} {vs : List Value} {m : MQ} {qs : List Rat} (h : LM w base v vs m) (hN : NRow w base rowT v vs) (hr : RRow w base u qs)
    (hap : ∀ (j : Nat) (u' : Value) (g : Nat), vs[j]? = some u' → u.ownBlock = some g → u'.ownBlock ≠ some g) (ha : NApd w base rowT v (vs ++ [u]) v' w') : LM w' base v' (vs ++ [u]) (m ++ [qs]) := by
  have hl := h.len
  have key : ∀ {x : Value} {ys : List Rat}, RRow w base x ys → RRow w' base x ys := fun {x ys} hx => by
    refine hx.keep ha.kw fun g hg => ha.grown.block g (hx.lt hg).2 fun e => ?_
    obtain ⟨_, _, cur, hC⟩ := hN.blk e.symm
    exact hx.ne_outer hC hg
  refine ⟨?_, fun i x ys h1 h2 => ?_, fun i j x y g hij h1 h2 h3 => ?_⟩
  · have := ha.row.row
    rw [List.length_append, List.length_singleton, hl] at this
    rw [List.length_append, List.length_singleton]
    exact this
  · by_cases hi : i < vs.length
    · rw [List.getElem?_append_left hi] at h1
      rw [List.getElem?_append_left (by omega)] at h2
      exact key (h.inner i x ys h1 h2)
    · have hi2 : i = vs.length := by
        have := (List.getElem?_eq_some_iff.1 h1).1
        rw [List.length_append, List.length_singleton] at this
        omega
      subst hi2
      rw [List.getElem?_append_right (Nat.le_refl _), Nat.sub_self] at h1
      rw [List.getElem?_append_right (by omega), show vs.length - m.length = 0 by omega] at h2
      have h1 := Option.some.inj h1
      have h2 := Option.some.inj h2
      subst h1 h2
      exact key hr
  · have at_ : ∀ {k : Nat} {z : Value}, (vs ++ [u])[k]? = some z → (k < vs.length ∧ vs[k]? = some z) ∨ (k = vs.length ∧ z = u) := fun {k z} hz => by
      by_cases hk : k < vs.length
      · rw [List.getElem?_append_left hk] at hz
        exact .inl ⟨hk, hz⟩
      · have := (List.getElem?_eq_some_iff.1 hz).1
        rw [List.length_append, List.length_singleton] at this
        obtain rfl : k = vs.length := by omega
        rw [List.getElem?_append_right (Nat.le_refl _), Nat.sub_self] at hz
        exact .inr ⟨rfl, (Option.some.inj hz).symm⟩
    rcases at_ h1 with ⟨a1, a2⟩ | ⟨a1, a2⟩ <;> rcases at_ h2 with ⟨b1, b2⟩ | ⟨b1, b2⟩
    · exact h.apart i j x y g hij a2 b2 h3
    · subst b2
      intro h4
      exact hap i x g a2 h4 h3
    · subst a2
      exact hap j y g b2 h3
    · omega
/-- a matrix in the making -/
def GM (w : World) (base : Nat) (v : Value) (m : MQ) : Prop := ∃ vs, LM w base v vs m ∧ NRow w base rowT v vs
theorem GM.nil (w : World) (base : Nat) : GM w base (.slice none 0 0) [] := ⟨[], LM.nil _ _, NRow.nil _ _ _⟩
theorem GM.call {w w' : World} {base : Nat} {v : Value} {m : MQ} (h : GM w base v m) (hb : Below w.heap.size w w') : GM w' base v m := by
  obtain ⟨vs, h1, h2⟩ := h
  exact ⟨vs, h1.call hb, h2.call hb⟩
theorem GM.val {w : World} {base : Nat} {v : Value} {m : MQ} (h : GM w base v m) : ∃ A c, v = .slice A m.length c := by
  obtain ⟨vs, h1, h2⟩ := h
  exact h1.val
/-- the cells of number k of a row of its own -/
theorem RRow.el {w : World} {base : Nat} {v : Value} {qs : List Rat} (h : RRow w base v qs) {n k : Nat} (hn : qs.length = n) (hk : k < n) :
    ∃ b o c nb B1 l1 c1 B2 l2 c2, v = .slice (some ⟨b, o, none⟩) n c ∧ El w b (o + k * 4) (.bool nb) (.slice B1 l1 c1) (.bool false) (.slice B2 l2 c2) ∧ base ≤ b ∧ b < w.heap.size := by
  subst hn
  obtain ⟨A, c, rfl⟩ := h.val
  have hq : qs[k]? = some (qs.getD k 0) := by rw [List.getD_eq_getElem?_getD, List.getElem?_eq_getElem hk]; rfl
  obtain ⟨b, o, nb, B1, l1, c1, B2, l2, c2, rfl, hbl, hC, hrt⟩ := h.rv.form hk _ hq
  obtain ⟨cur, hB⟩ := h.blk (g := b) rfl
  exact ⟨b, o, c, nb, B1, l1, c1, B2, l2, c2, rfl, ⟨hC.c0, hC.c1, hC.c2, hC.c3, hB.frozen _, hB.frozen _, hB.frozen _, hB.frozen _⟩, (h.lt (g := b) rfl).1, hbl⟩
/-- what package solve's Kernel makes of the first k columns -/
def kerP (X : MQ) (pv : List Nat) (w k : Nat) : MQ := (frees pv k).map fun f => kerS X pv w f pv.length
theorem kerP_succ (X : MQ) (pv : List Nat) (w k : Nat) : kerP X pv w (k + 1) = kerP X pv w k ++ if pv.contains k = true then [] else [kerS X pv w k pv.length] := by
  unfold kerP
  rw [frees_succ, List.map_append]
  congr 1
  split <;> rfl
theorem kerP_len (X : MQ) (pv : List Nat) (w k : Nat) : (kerP X pv w k).length ≤ k := by
  unfold kerP frees
  rw [List.length_map]
  exact Nat.le_trans (List.length_filter_le _ _) (by rw [List.length_range]; exact Nat.le_refl _)
set_option maxRecDepth 100000 in
set_option maxHeartbeats 8000000 in
theorem skernel_any (mt : List (List ByteArray)) (n : Nat) (At : Option Addr) (c : Nat) (w : World) (hm : SMat w At n mt) (hs : Sh2 mt) (htab : Tab w) :
    Calls Tryz.prog 37 #[.slice At n c] w (RetMT w (kerT (tx2 mt))) := by
  have hl : mt.length = n := by obtain ⟨_, _, h, _⟩ := hm; exact h
  have HC := Lib.hid (chkM_any mt n At c w hm hs htab)
  have HM0 := Lib.hid hm
  have HS0 := Lib.hid hs
  have HTB := Lib.hid htab
  have LT := Lib.hid (show (tx2 mt).length = n by rw [tx2, List.length_map, hl])
  have HLN := Lib.hid hl
  clear hm htab hl hs
  by_cases h0 : chkM (tx2 mt) = 0
  · have HO := Lib.hid (chkM_mok HLN.out h0)
    have HE := Lib.hid (show kerT (tx2 mt) = txM (kerQ (valsM (tx2 mt)) (wd (tx2 mt))) by rw [kerT, if_neg (fun k => k h0)])
    rw [h0] at HC
    clear h0
    go_enter Tryz.func37, Tryz.ntmps37
    go_wp2_with fail
    refine HC.out.mono ?_
    rintro e wz ⟨rfl, hb⟩
    have HBZ := Lib.hid hb
    have HV := Lib.hid (values_any mt n At c wz (HM0.out.below hb) HS0.out HO.out.val2 (by have := HO.out.n40; omega))
    clear HC hb
    go_wp2_with fail
    refine HV.out.mono ?_
    rintro e w0 ⟨v, vs, rfl, hLM, hb⟩
    replace HBZ := Lib.hid (HBZ.out.trans (hb.mono HBZ.out.size))
    clear HV hb
    obtain ⟨A, c0, rfl⟩ := hLM.val
    have hr := HO.out.rect
    have hwd := HO.out.wdq
    have hn40 := HO.out.n40
    have hw40 := HO.out.w80
    have hbnd := HO.out.bnd
    generalize valsM (tx2 mt) = m at *
    generalize wd (tx2 mt) = W at *
    rw [hr.1] at hLM ⊢
    clear HO HM0 HS0
    have hmk := make_bool W (by omega)
    unfold boolT at hmk
    have HC := Lib.hid (lwidth_any m n A c0 w0 hLM.rm)
    rw [hwd] at HC
    have HX := Lib.hid (reduce_any m n W W A c0 w0 hLM.rm hr (Nat.le_refl _) (by omega) (by omega) hbnd)
    have HR := Lib.hid hr
    clear hLM hwd hbnd hr
    go_wp2_with fail
    refine HC.out.mono ?_
    rintro e w1 ⟨rfl, rfl⟩
    clear HC
    go_wp2_with fail
    have hbz := HBZ.out.size
    refine HX.out.mono ?_
    rintro e w2 ⟨v, vs, u, rfl, hLM, hN, hb⟩
    replace HBZ := Lib.hid (HBZ.out.trans (hb.mono hbz))
    have HQ := Lib.hid (red_inv HR.out W)
    have HPL := Lib.hid (piv_lt HR.out W)
    have HKQ := Lib.hid (show kerQ m W = kerP (redQ m W).1 (redQ m W).2 W W from rfl)
    have HRX := Lib.hid HQ.out.rect
    have hfew := HQ.out.few
    rw [HKQ.out] at HE
    generalize (redQ m W).1 = X at *
    generalize (redQ m W).2 = pv at *
    obtain ⟨Ax, cx, rfl⟩ := hLM.val
    obtain ⟨Ap, cp, rfl⟩ := hN.val
    rw [HRX.out.1] at hLM ⊢
    rw [ints_len] at hN ⊢
    have HL := Lib.hid hLM
    have HPR := Lib.hid (show Reads w2 w2.heap.size 1 Ap pv.length (ints pv) by have h := hN.row; rw [ints_len] at h; exact h.reads)
    clear HX hLM hN hb hbz HQ HKQ HR
    have HF := Lib.hid (show Blk (w2.alloc (.cells (Array.replicate W (Value.bool false)) boolT)) w2.heap.size boolT (flA pv 0 W) by rw [← flA_zero]; exact Blk.new _ _ _)
    have HB := Lib.hid (below_new w2 (.cells (Array.replicate W (Value.bool false)) boolT))
    unfold boolT at *
    generalize hP : pv.length = P at *
    have HP := Lib.hid hP
    clear hP
    go_wp2
    clear hmk
    go_loopg [36] (P - 0) (fun r v wr => ∃ t : Nat, r = P - t ∧ v = I t ∧ t ≤ P ∧ Hid (Blk wr w2.heap.size 4 (flA pv t W)) ∧ Hid (Below w2.heap.size w2 wr))
    case atStart => exact ⟨0, rfl, rfl, by omega, HF, HB⟩
    case round =>
      clear HF HB
      obtain ⟨t, rfl, rfl, ht, HF, HB⟩ := hrel
      obtain ⟨wa, rfl⟩ : ∃ wa : World, wa = wr := ⟨_, rfl⟩
      by_cases hlt : t < P
      · obtain ⟨p, hp⟩ : ∃ p, pv[t]? = some p := ⟨_, List.getElem?_eq_getElem (by rw [HP.out]; exact hlt)⟩
        obtain ⟨b, off, u, rfl, _, hu, hc⟩ := (HPR.out.below HB.out).at1 hlt
        obtain rfl : u = I p := by
          unfold ints at hu
          rw [List.getElem?_map, hp] at hu
          simpa using hu.symm
        have hpw := HPL.out p (List.mem_of_getElem? hp)
        have hcell : wa.cell? ⟨w2.heap.size, p, none⟩ = some (.bool ((pv.take t).contains p)) := by rw [HF.out.cell, flA_get _ _ _ hpw]
        have hfz := HF.out.frozen p
        have HN := Lib.hid (show Blk (wa.setCell ⟨w2.heap.size, p, none⟩ (.bool true)) w2.heap.size 4 (flA pv (t + 1) W) by rw [← flA_set hp]; exact HF.out.set_ p (.bool true))
        have HB2 := Lib.hid (HB.out.setCell (p := ⟨w2.heap.size, p, none⟩) (Nat.le_refl _) (.bool true))
        generalize (pv.take t).contains p = old at *
        clear hu HF HB hp
        go_wp2
        go_roundg (P - (t + 1))
        case measure => omega
        case rel => exact ⟨t + 1, rfl, by go_num, by omega, HN, HB2⟩
      · have htp : t = P := by omega
        subst htp
        have HFF := Lib.hid (show Blk wa w2.heap.size 4 (flA pv t W) from HF.out)
        have hgl := HF.out.lt
        have HB0 := Lib.hid (Below.refl wa.heap.size wa)
        have HG := Lib.hid (GM.nil wa wa.heap.size)
        replace HL := Lib.hid (HL.out.call HB.out)
        replace HPR := Lib.hid ((HPR.out.below HB.out).more HB.out.size)
        replace HBZ := Lib.hid (HBZ.out.trans (HB.out.mono HBZ.out.size))
        have HTK := Lib.hid (show pv.take t = pv by rw [List.take_of_length_le (by rw [HP.out]; exact Nat.le_refl _)])
        clear HF HB
        go_wp2
        go_loopg [12, 45] (W - 0) (fun r o v wr => ∃ k : Nat, ∃ vo : Value, o = vo ∧ r = W - k ∧ v = I k ∧ k ≤ W ∧ Hid (GM wr wa.heap.size o (kerP X pv W k)) ∧ Hid (Below wa.heap.size wa wr))
        case atStart => exact ⟨0, _, rfl, rfl, rfl, by omega, HG, HB0⟩
        case round =>
          clear HG HB0
          obtain ⟨k, vo, hvo, rfl, rfl, hk, HG, HB⟩ := hrel
          replace hvo := hvo.symm
          subst hvo
          obtain ⟨wb, rfl⟩ : ∃ wb : World, wb = wr := ⟨_, rfl⟩
          by_cases hlt : k < W
          · have hfc : wb.cell? ⟨w2.heap.size, k, none⟩ = some (.bool (pv.contains k)) := by rw [(HFF.out.below HB.out hgl).cell, flA_get _ _ _ hlt, HTK.out]
            have HKS := Lib.hid (kerP_succ X pv W k)
            cases hck : pv.contains k with
            | true =>
              rw [hck] at hfc
              have HGN := Lib.hid (show GM wb wa.heap.size vo (kerP X pv W (k + 1)) by rw [HKS.out, if_pos hck, List.append_nil]; exact HG.out)
              clear HG HKS hck
              go_wp2
              go_roundg (W - (k + 1))
              case measure => omega
              case rel => exact ⟨k + 1, _, rfl, rfl, by go_num, by omega, HGN, HB⟩
            | false =>
              rw [hck] at hfc
              have HZ := Lib.hid (zeros_any W wb (by omega))
              go_wp2_with fail
              refine HZ.out.mono ?_
              rintro e w5 ⟨v5, rfl, hr5, hb⟩
              clear HZ hfc
              have hrl : (List.replicate W (0 : Rat)).length = W := List.length_replicate
              obtain ⟨A5, c5, rfl⟩ := hr5.val
              rw [hrl] at hr5 ⊢
              have HR5 := Lib.hid hr5
              have HBW := Lib.hid hb
              have HC := Lib.hid (rwhole_any 1 w5 (by decide) (by decide))
              clear hr5 hb
              go_wp2_with fail
              refine HC.out.mono ?_
              rintro e w6 ⟨v6, rfl, hv6, hb⟩
              clear HC
              rw [rat_one_int] at hv6
              replace HR5 := Lib.hid (HR5.out.call hb)
              replace HBW := Lib.hid (HBW.out.trans (hb.mono HBW.out.size))
              clear hb
              obtain ⟨bx, ox, c5_, nb, B1, l1, c1, B2, l2, c2, e5, hE, hbx, hbxl⟩ := HR5.out.el hrl hlt
              injection e5 with e6 e7 e8
              subst e6 e8
              clear e7
              obtain ⟨tb, T1, t1, u1, T2, t2, u2, rfl⟩ := hv6.bools
              obtain ⟨hput, hkw, _⟩ := HR5.out.putEl (k := k) hlt hv6
              have HRK := Lib.hid (show RRow (put4 w6 bx (ox + k * 4) (.bool tb) (.slice T1 t1 u1) (.bool false) (.slice T2 t2 u2)) wb.heap.size (.slice (some ⟨bx, ox, none⟩) W c5) (kerS X pv W k 0) from hput)
              have HBX := Lib.hid (put4_below (o := ox + k * 4) HBW.out hbx (.bool tb) (.slice T1 t1 u1) (.bool false) (.slice T2 t2 u2))
              unfold put4 at HRK HBX
              have z0 := hE.c0
              have y0 := hE.f0
              have z1 := hE.c1
              have y1 := hE.f1
              have z2 := hE.c2
              have y2 := hE.f2
              have z3 := hE.c3
              have y3 := hE.f3
              clear hput hkw hE HR5 HBW hv6 hrl
              go_wp2
              clear z0 z1 z2 z3 y0 y1 y2 y3
              go_loopg [60] (t - 0) (fun r v wr => ∃ s : Nat, r = t - s ∧ v = I s ∧ s ≤ t ∧ Hid (RRow wr wb.heap.size (.slice (some ⟨bx, ox, none⟩) W c5) (kerS X pv W k s)) ∧ Hid (Below wb.heap.size wb wr))
              case atStart => exact ⟨0, rfl, rfl, by omega, HRK, HBX⟩
              case round =>
                clear HRK HBX
                obtain ⟨s, rfl, rfl, hs, HRK, HBX⟩ := hrel
                obtain ⟨wc, rfl⟩ : ∃ wc : World, wc = wr := ⟨_, rfl⟩
                have HBC := Lib.hid (HB.out.trans (HBX.out.mono HB.out.size))
                by_cases hst : s < t
                · obtain ⟨p, hp⟩ : ∃ p, pv[s]? = some p := ⟨_, List.getElem?_eq_getElem (by rw [HP.out]; exact hst)⟩
                  obtain ⟨b, off, u, rfl, _, hu, hc⟩ := (HPR.out.below HBC.out).at1 hst
                  obtain rfl : u = I p := by
                    unfold ints at hu
                    rw [List.getElem?_map, hp] at hu
                    simpa using hu.symm
                  have hpw := HPL.out p (List.mem_of_getElem? hp)
                  have HPG := Lib.hid (show pv.getD s 0 = p by rw [List.getD_eq_getElem?_getD, hp]; rfl)
                  have hsn : s < n := by omega
                  obtain ⟨g, off2, cap0, B0, cc0, e0, -⟩ := HL.out.at_ (i := s) (by rw [HRX.out.1]; exact hsn)
                  injection e0 with e1 e2 e3
                  subst e1 e3
                  clear e2
                  obtain ⟨b9, o9, c9, nb9, D1, d1, f1, D2, d2, f2, _, hcr, hEr, hrt, _, _⟩ := (HL.out.call HBC.out).el HRX.out hsn hlt
                  have e0 := hEr.c0
                  have e1 := hEr.c1
                  have e2 := hEr.c2
                  have e3 := hEr.c3
                  have HC := Lib.hid (rneg_any _ _ wc hrt)
                  clear hu hp hEr hrt
                  go_wp2_with fail
                  refine HC.out.mono ?_
                  rintro e w7 ⟨v7, rfl, hv7, hb⟩
                  clear HC hc hcr e0 e1 e2 e3
                  have HRK2 := Lib.hid (HRK.out.call hb)
                  have HBX2 := Lib.hid (HBX.out.trans (hb.mono HBX.out.size))
                  clear hb HRK HBX HBC
                  obtain ⟨bx_, ox_, c5_, nb, B1, l1, c1, B2, l2, c2, e5, hE, hbx, hbxl⟩ := HRK2.out.el (kerS_len _ _ _ _ _) hpw
                  injection e5 with e6 e7 e8
                  injection e6 with e6
                  injection e6 with e9 e10
                  subst e8 e9 e10
                  clear e7
                  obtain ⟨tb, T1, t1, u1, T2, t2, u2, rfl⟩ := hv7.bools
                  obtain ⟨hput, hkw, _⟩ := HRK2.out.putEl (k := p) hpw hv7
                  have HRN := Lib.hid (show RRow (put4 w7 bx (ox + p * 4) (.bool tb) (.slice T1 t1 u1) (.bool false) (.slice T2 t2 u2)) wb.heap.size (.slice (some ⟨bx, ox, none⟩) W c5) (kerS X pv W k (s + 1)) by rw [kerS, HPG.out]; exact hput)
                  have HBN := Lib.hid (put4_below (o := ox + p * 4) HBX2.out hbx (.bool tb) (.slice T1 t1 u1) (.bool false) (.slice T2 t2 u2))
                  unfold put4 at HRN HBN
                  have z0 := hE.c0
                  have y0 := hE.f0
                  have z1 := hE.c1
                  have y1 := hE.f1
                  have z2 := hE.c2
                  have y2 := hE.f2
                  have z3 := hE.c3
                  have y3 := hE.f3
                  clear hput hkw hE HRK2 HBX2 hv7 HPG
                  go_wp2
                  go_roundg (t - (s + 1))
                  case measure => omega
                  case rel => exact ⟨s + 1, rfl, by go_num, by omega, HRN, HBN⟩
                · have hsp : s = t := by omega
                  subst hsp
                  have HX9 := Lib.hid (show (kerP X pv W k) ++ [kerS X pv W k s] = kerP X pv W (k + 1) by rw [HKS.out, HP.out, if_neg (by rw [hck]; decide)])
                  have hz := below_new wc (.cells #[.slice (some ⟨bx, ox, none⟩) W c5] rowT)
                  have HBK := Lib.hid (Blk.new wc rowT #[.slice (some ⟨bx, ox, none⟩) W c5])
                  obtain ⟨vs9, hG1, hG2⟩ := HG.out
                  have hz2 := HBX.out.trans (hz.mono HBX.out.size)
                  have HG1 := Lib.hid (hG1.call hz2)
                  have HG2 := Lib.hid (hG2.call hz2)
                  have HRN := Lib.hid ((HRK.out.call hz).less HB.out.size)
                  have HAP := Lib.hid (hG1.newer (u := .slice (some ⟨bx, ox, none⟩) W c5) (fun g hg => (HRK.out.lt hg).1))
                  have HBC2 := Lib.hid (HBC.out.trans (hz.mono HBC.out.size))
                  have hvl : vs9.length ≤ 1000000 := by have h1 := hG1.len; have h2 := kerP_len X pv W k; omega
                  clear hz hz2 hG1 hG2 HRK HBX HBC HG HKS hck
                  unfold rowT at *
                  go_wp2_with (at_builtin; refine wpList_appRow rfl _ _ rfl wa.heap.size _ vs9 rfl HG2.out wc.heap.size rfl HBK.out hvl HBC2.out.size ?_)
                  intro v8 w8 hap
                  have HGN := Lib.hid (show GM w8 wa.heap.size v8 (kerP X pv W (k + 1)) by rw [← HX9.out]; exact ⟨_, HG1.out.snoc HG2.out HRN.out HAP.out hap, hap.row⟩)
                  have HBN := Lib.hid (HBC2.out.trans (HG2.out.row.belowG hap.grown HBC2.out.size))
                  obtain ⟨A8, c8, rfl⟩ := hap.row.val
                  generalize (vs9 ++ [Value.slice (some ⟨bx, ox, none⟩) W c5]).length = l8 at *
                  clear hap HG1 HG2 HRN HAP HBC2 HX9 HBK
                  go_wp2
                  go_roundg (W - (k + 1))
                  case measure => omega
                  case rel => exact ⟨k + 1, _, rfl, rfl, by go_num, by omega, HGN, HBN⟩
          · have hkw : k = W := by omega
            subst hkw
            obtain ⟨Ag, cg, rfl⟩ := HG.out.val
            obtain ⟨vs9, hG1, hG2⟩ := HG.out
            replace HBZ := Lib.hid (HBZ.out.trans (HB.out.mono HBZ.out.size))
            have hkl := kerP_len X pv k k
            have HT := Lib.hid (textM_any (kerP X pv k k) _ Ag cg wb hG1.rm (by omega) (fun r hr => by
              obtain ⟨f, _, rfl⟩ := List.mem_map.1 hr
              rw [kerS_len]; omega) (tab_below HTB.out HBZ.out))
            clear HG hG1 hG2 HB
            generalize (kerP X pv k k).length = gl at *
            go_wp2_with fail
            refine HT.out.mono ?_
            rintro e w9 hret
            have HQ := Lib.hid (hret.far HBZ.out)
            obtain ⟨A9, n9, c9, m9, rfl, -⟩ := hret
            clear HT HBZ
            go_wp2
            go_ret2
            rw [HE.out]
            exact HQ.out
  · have HE := Lib.hid (show kerT (tx2 mt) = ([], chkM (tx2 mt)) by rw [kerT, if_pos h0])
    have tc : (chkM (tx2 mt) != 0) = true := bne_iff_ne.2 h0
    clear h0
    generalize chkM (tx2 mt) = cc at *
    go_enter Tryz.func37, Tryz.ntmps37
    go_wp2_with fail
    refine HC.out.mono ?_
    rintro e w1 ⟨rfl, hb⟩
    have HB := Lib.hid hb
    clear HC hb
    go_wp2
    go_ret2
    exact RetMT.none_ HE.out HB.out
end Go.Proofs.YtmnedfkinepnfaaGreatDoor
namespace Go.Proofs.YtmnedfkinepnfaaGreatDoor
open Go.RowKit

/-- slices of type t have elements of type e: of one cell, that is no word -/
structure AppT (t e : TypeId) : Prop where
  und : Tryz.prog.underlying t = some (.slice e)
  inf : ∃ i z bytes, Tryz.prog.info? e = some i ∧ i.zero = some z ∧ i.size = 1 ∧ i.bytes = bytes ∧ bytes ≤ 1000 ∧ z.cells.size = 1 ∧ ∀ n, ∀ u ∈ (Builtin.zeroCells z.cells n).toList, noWord u
theorem app_run {t e : TypeId} (h : AppT t e) (w : World) (base : Nat) (ty : TypeId) (v : Value) (xs : List Value) (hr : NRow w base e v xs) (A : Option Addr) (m c : Nat) (news : List Value) (hs : Reads w w.heap.size 1 A m news) (hl : ∀ u ∈ news, noWord u ∧ u.oneCell' = true)
    (hlen : xs.length + m ≤ 1000000) (hbase : base ≤ w.heap.size) : ∃ v' w', (Builtin.append_ #[t, t] ty #[v, .slice A m c]).run Tryz.prog w = .ok v' w' ∧ NApd w base e v (xs ++ news) v' w' := by
  obtain ⟨i, z, bytes, h1, h2, h3, h4, h5, h6, h7⟩ := h.inf
  have hb : (xs.length + m) * bytes ≤ 1000000 * 1000 := Nat.mul_le_mul hlen h5
  exact run_append_nw (P := Tryz.prog) w base t ty e i z bytes h.und h1 h2 h3 h4 h6 h7 v xs hr w.heap.size A m c news hs hl (by unfold maxLen; omega) (by omega) hbase
theorem wpList_appG {w : World} {ops : Array Oper} {rest : List Oper} {o : Oper} {a : Act} {Q : Exit → Act → World → Prop} (hgd : o.guard = none) (s x : Operand) {t e : TypeId} (h : AppT t e)
    (ho : o.op = .call { callee := .builtin .append, args := #[s, x], argTypes := #[t, t] }) (base : Nat) (v : Value) (xs : List Value) (hsv : a.eval s = v) (hr : NRow w base e v xs)
    (A : Option Addr) (m c : Nat) (hx : a.eval x = .slice A m c) (news : List Value) (hs : Reads w w.heap.size 1 A m news) (hl : ∀ u ∈ news, noWord u ∧ u.oneCell' = true) (hlen : xs.length + m ≤ 1000000) (hbase : base ≤ w.heap.size)
    (hk : ∀ v' w', NApd w base e v (xs ++ news) v' w' → wpList Tryz.prog ops Q rest (a.put o.dst v') w') : wpList Tryz.prog ops Q (o :: rest) a w := by
  refine wpList_plain hgd fun K hK => ?_
  obtain ⟨v', w', hrun, hap⟩ := app_run h w base o.type v xs hr A m c news hs hl hlen hbase
  unfold Oper.wp execOp
  simp only [ho, resolve, invoke, builtin, Sem.run_bind, Sem.run_pure, Result.andThen_ok, List.map_toArray, List.map_cons, List.map_nil, hsv, hx, hrun]
  exact hK _ _ (hk v' w' hap)
theorem step_appG {w : World} {ops : Array Oper} {o : Oper} {a : Act} {K : Act → World → Prop} {Q : Exit → Act → World → Prop} {E : Prop} (hgd : o.guard = none) (s x : Operand) {t e : TypeId} (h : AppT t e)
    (ho : o.op = .call { callee := .builtin .append, args := #[s, x], argTypes := #[t, t] }) (base : Nat) (v : Value) (xs : List Value) (hsv : a.eval s = v) (hr : NRow w base e v xs)
    (A : Option Addr) (m c : Nat) (hx : a.eval x = .slice A m c) (news : List Value) (hs : Reads w w.heap.size 1 A m news) (hl : ∀ u ∈ news, noWord u ∧ u.oneCell' = true) (hlen : xs.length + m ≤ 1000000) (hbase : base ≤ w.heap.size)
    (hk : ∀ v' w', NApd w base e v (xs ++ news) v' w' → K (a.put o.dst v') w') : if Region.wanted o (yielded ops a.tmps) = true then Oper.wp Tryz.prog o a w K Q else E := by
  have hw : Region.wanted o (yielded ops a.tmps) = true := by simp [Region.wanted, hgd]
  rw [if_pos hw]
  obtain ⟨v', w', hrun, hap⟩ := app_run h w base o.type v xs hr A m c news hs hl hlen hbase
  unfold Oper.wp execOp
  simp only [ho, resolve, invoke, builtin, Sem.run_bind, Sem.run_pure, Result.andThen_ok, List.map_toArray, List.map_cons, List.map_nil, hsv, hx, hrun]
  exact hk v' w' hap
theorem noWord_str (s : ByteArray) : noWord (.string s) := fun m e => by cases e
theorem zero_noWord1 {z : Value} (hz : z.cells = #[z]) (hn : noWord z) (n : Nat) : ∀ u ∈ (Builtin.zeroCells z.cells n).toList, noWord u := by
  intro u hu
  unfold Builtin.zeroCells at hu
  rw [Array.toList_map, List.mem_map] at hu
  obtain ⟨i, _, rfl⟩ := hu
  rw [hz]
  have h1 : (#[z] : Array Value).size = 1 := rfl
  rw [h1, Nat.mod_one]
  exact hn
theorem app_vec : AppT vecT strT := ⟨Tryz.underlying50, by
  obtain ⟨i, hi, hz0, hz1, hz2⟩ := info_parts info_str
  exact ⟨i, _, _, hi, hz0, hz1, hz2, by omega, rfl, zero_noWord1 rfl (noWord_str _)⟩⟩
theorem info_vecP : (Tryz.prog.info? vecT).map (fun i => (i.zero, i.size, i.bytes)) = some (some (.slice none 0 0), 1, 24) := by kernel_rfl
theorem app_mat : AppT 46 vecT := ⟨Tryz.underlying46, by
  obtain ⟨i, hi, hz0, hz1, hz2⟩ := info_parts info_vecP
  exact ⟨i, _, _, hi, hz0, hz1, hz2, by omega, rfl, zero_noWord1 rfl (noWord_slice _ _ _)⟩⟩
theorem str_ok {l : List ByteArray} : ∀ u ∈ l.map Sv, noWord u ∧ u.oneCell' = true := fun u hu => by
  obtain ⟨s, _, rfl⟩ := List.mem_map.1 hu
  exact ⟨noWord_str s, rfl⟩
theorem nrow_empty (w : World) (e : TypeId) : NRow (w.alloc (.cells #[] e)) w.heap.size e (.slice (some ⟨w.heap.size, 0, none⟩) 0 0) [] := by
  refine ⟨⟨rfl, .inr ⟨w.heap.size, 0, 0, #[], rfl, Nat.le_refl _, Blk.new w e #[], Nat.le_refl _, by unfold maxLen; omega, Nat.le_refl _, rfl⟩⟩, fun g o n hg => ?_, fun u hu => (by cases hu)⟩
  have hg : w.heap.size = g := by simpa [Value.ownBlock] using hg
  subst hg
  rw [(Blk.new w e #[]).cell]
  simp
theorem NApd.below {w w' : World} {base : Nat} {e : TypeId} {v v' : Value} {xs ys : List Value} (h : NApd w base e v ys v' w') (hr : NRow w base e v xs) (hb : base ≤ w.heap.size) : Below base w w' := hr.row.belowG h.grown hb
theorem one_reads (w : World) (t : TypeId) (u : Value) : Reads (w.alloc (.cells #[u] t)) (w.alloc (.cells #[u] t)).heap.size 1 (some ⟨w.heap.size, 0, none⟩) 1 [u] := by
  have h := reads_lits w t [u]
  rw [World.size_alloc]
  exact h
set_option maxRecDepth 100000 in
set_option maxHeartbeats 1000000 in
theorem cloneV_any (l : List ByteArray) (n : Nat) (A : Option Addr) (c : Nat) (w : World) (hr : Reads w w.heap.size 1 A n (l.map Sv)) (hn : n ≤ 1000) :
    Calls Tryz.prog 109 #[.slice A n c] w fun e w' => ∃ v, e = .returned v ∧ NRow w' w.heap.size strT v (l.map Sv) ∧ Below w.heap.size w w' := by
  have q1 : ∀ (w : World) (a : Option Addr) (n c n' c' : Nat), (binOp .eql vecT (.slice a n c) (.slice none n' c')).run Tryz.prog w = .ok (.bool a.isNone) w := fun w a n c n' c' => Lib.run_eql_slice_nil w _ _ a n c n' c' Tryz.underlying50
  unfold vecT at q1
  cases A with
  | none =>
    have h0 : n = 0 := by
      by_cases h : 0 < n
      · obtain ⟨_, _, e, _⟩ := hr.2 h; cases e
      · omega
    subst h0
    have hl : l = [] := by have := hr.1; simpa using this
    subst hl
    clear hr
    go_enter Tryz.func109, Tryz.ntmps109
    go_wp2
    go_ret
    exact ⟨_, rfl, NRow.nil _ _ _, Below.refl _ _⟩
  | some ad =>
    have HB0 := Lib.hid (below_new w (.cells #[] strT))
    have HR := Lib.hid (hr.below HB0.out)
    have HN := Lib.hid (nrow_empty w strT)
    have HAP := Lib.hid app_vec
    clear hr
    unfold strT vecT at *
    go_enter Tryz.func109, Tryz.ntmps109
    go_wp2_with (at_builtin; refine wpList_appG rfl _ _ HAP.out rfl w.heap.size _ [] rfl HN.out (some ad) n c rfl (l.map Sv) (HR.out.more HB0.out.size) str_ok (by rw [List.length_nil]; omega) HB0.out.size ?_)
    intro v' w3 hap
    have HR3 := Lib.hid hap.row
    have HB3 := Lib.hid (HB0.out.trans (hap.below HN.out HB0.out.size))
    clear hap
    go_wp2
    go_ret
    exact ⟨_, rfl, HR3.out, HB3.out⟩
/-- a matrix of texts in the making -/
def GS (w : World) (base : Nat) (v : Value) (m : List (List ByteArray)) : Prop := ∃ vs, NRow w base vecT v vs ∧ vs.length = m.length ∧ ∀ (i : Nat) (u : Value) (l : List ByteArray), vs[i]? = some u → m[i]? = some l → NRow w base strT u (l.map Sv)
theorem GS.nil (w : World) (base : Nat) : GS w base (.slice none 0 0) [] := ⟨[], NRow.nil _ _ _, rfl, fun i u l h => by simp at h⟩
theorem GS.call {w w' : World} {base : Nat} {v : Value} {m : List (List ByteArray)} (h : GS w base v m) (hb : Below w.heap.size w w') : GS w' base v m := by
  obtain ⟨vs, h1, h2, h3⟩ := h
  exact ⟨vs, h1.call hb, h2, fun i u l a b => (h3 i u l a b).call hb⟩
theorem GS.smat {w : World} {base n c : Nat} {A : Option Addr} {m : List (List ByteArray)} (h : GS w base (.slice A n c) m) (hn : m.length = n) : SMat w A n m := by
  subst hn
  obtain ⟨vs, h1, h2, h3⟩ := h
  have hr := h1.row
  rw [h2] at hr
  refine ⟨vs, hr.reads, rfl, fun i u l a b => ?_⟩
  have h4 := h3 i u l a b
  obtain ⟨A', c', e⟩ := h4.val
  rw [List.length_map] at e
  subst e
  have h5 := h4.row
  rw [List.length_map] at h5
  exact ⟨A', c', rfl, h5.reads⟩
theorem GS.snoc {w w' : World} {base : Nat} {v v' u : Value} {vs : List Value} {m : List (List ByteArray)} {l : List ByteArray} (h1 : NRow w base vecT v vs) (h2 : vs.length = m.length) (h3 : ∀ (i : Nat) (u : Value) (l : List ByteArray), vs[i]? = some u → m[i]? = some l → NRow w base strT u (l.map Sv))
    (hr : NRow w base strT u (l.map Sv)) (ha : NApd w base vecT v (vs ++ [u]) v' w') : GS w' base v' (m ++ [l]) := by
  have key : ∀ {x : Value} {ys : List Value}, NRow w base strT x ys → NRow w' base strT x ys := fun {x ys} hx => by
    refine hx.keep fun g hg => ha.grown.block g (hx.blk hg).2.1 fun e => ?_
    obtain ⟨_, _, cur, hC⟩ := h1.blk e.symm
    exact own_ne hx.row hC (by decide) g hg rfl
  refine ⟨vs ++ [u], ha.row, by simp [h2], fun i x y a b => ?_⟩
  by_cases hi : i < vs.length
  · rw [List.getElem?_append_left hi] at a
    rw [List.getElem?_append_left (by omega)] at b
    exact key (h3 i x y a b)
  · have hi2 : i = vs.length := by
      have := (List.getElem?_eq_some_iff.1 a).1
      rw [List.length_append, List.length_singleton] at this
      omega
    subst hi2
    rw [List.getElem?_append_right (Nat.le_refl _), Nat.sub_self] at a
    rw [List.getElem?_append_right (by omega), show vs.length - m.length = 0 by omega] at b
    have a := Option.some.inj a
    have b := Option.some.inj b
    subst a b
    exact key hr
def joinS (m : List (List ByteArray)) (b : List ByteArray) : List (List ByteArray) := m.mapIdx fun i r => r ++ [b.getD i ⟨#[]⟩]
theorem joinS_len (m : List (List ByteArray)) (b : List ByteArray) : (joinS m b).length = m.length := List.length_mapIdx
theorem tx_join {m : List (List ByteArray)} {b : List ByteArray} : tx2 (joinS m b) = joinT (tx2 m) (tx1 b) := by
  apply List.ext_getElem?
  intro i
  unfold tx2 joinS joinT
  rw [List.getElem?_map, List.getElem?_mapIdx, List.getElem?_mapIdx, List.getElem?_map]
  cases m[i]? with
  | none => rfl
  | some r =>
    simp only [Option.map_some, tx1, List.map_append, List.map_cons, List.map_nil]
    congr 3
    rw [List.getD_eq_getElem?_getD, List.getD_eq_getElem?_getD, List.getElem?_map]
    cases b[i]? <;> rfl
theorem join_take {m : List (List ByteArray)} {b : List ByteArray} {k : Nat} {x : List ByteArray} {q : ByteArray} (hx : m[k]? = some x) (hq : b[k]? = some q) : (joinS m b).take (k + 1) = (joinS m b).take k ++ [x ++ [q]] := by
  rw [List.take_add_one]
  congr 1
  unfold joinS
  rw [List.getElem?_mapIdx, hx, Option.map_some, List.getD_eq_getElem?_getD, hq]
  rfl
theorem SV.at_ {w : World} {A : Option Addr} {n : Nat} {l : List ByteArray} (h : SV w A n l) {k : Nat} (hk : k < n) {q : ByteArray} (hq : l[k]? = some q) : ∃ b off, A = some ⟨b, off, none⟩ ∧ w.cell? ⟨b, off + k, none⟩ = some (.string q) := by
  obtain ⟨b, off, u, rfl, _, hu, hc⟩ := Reads.at1 h hk
  rw [List.getElem?_map, hq] at hu
  have hu := Option.some.inj hu
  subst hu
  exact ⟨b, off, rfl, hc⟩
set_option maxRecDepth 100000 in
set_option maxHeartbeats 8000000 in
theorem joined_any (m : List (List ByteArray)) (n : Nat) (A : Option Addr) (c : Nat) (b : List ByteArray) (nb : Nat) (Ab : Option Addr) (cb : Nat) (w : World) (hm : SMat w A n m) (hv : SV w Ab nb b) (hnb : n ≤ nb) (hn : n ≤ 1000) (hrow : ∀ r ∈ m, r.length ≤ 1000) :
    Calls Tryz.prog 43 #[.slice A n c, .slice Ab nb cb] w fun e w' => ∃ A' c', e = .returned (.slice A' n c') ∧ SMat w' A' n (joinS m b) ∧ Below w.heap.size w w' := by
  have hl : m.length = n := by obtain ⟨_, _, h, _⟩ := hm; exact h
  have hlb : b.length = nb := hv.len
  have HM := Lib.hid hm
  have HV := Lib.hid hv
  have HRW := Lib.hid hrow
  have HLN := Lib.hid hl
  have HLB := Lib.hid hlb
  clear hm hv hrow hl hlb
  have HG := Lib.hid (show GS w w.heap.size (.slice none 0 0) ((joinS m b).take 0) from GS.nil _ _)
  have HB := Lib.hid (Below.refl w.heap.size w)
  have HAV := Lib.hid app_vec
  have HAM := Lib.hid app_mat
  go_enter Tryz.func43, Tryz.ntmps43
  go_wp2
  go_loopg [5, 10] (n - 0) (fun r o v wr => ∃ k : Nat, ∃ vo : Value, o = vo ∧ r = n - k ∧ v = I k ∧ k ≤ n ∧ Hid (GS wr w.heap.size vo ((joinS m b).take k)) ∧ Hid (Below w.heap.size w wr))
  case atStart => exact ⟨0, _, rfl, rfl, rfl, by omega, HG, HB⟩
  case round =>
    clear HG HB
    obtain ⟨k, vo, hvo, rfl, rfl, hk, HG, HB⟩ := hrel
    replace hvo := hvo.symm
    subst hvo
    obtain ⟨wa, rfl⟩ : ∃ wa : World, wa = wr := ⟨_, rfl⟩
    by_cases hlt : k < n
    · obtain ⟨x, hx⟩ : ∃ x, m[k]? = some x := ⟨_, List.getElem?_eq_getElem (by rw [HLN.out]; exact hlt)⟩
      obtain ⟨q, hq⟩ : ∃ q, b[k]? = some q := ⟨_, List.getElem?_eq_getElem (by rw [HLB.out]; omega)⟩
      have hkb : k < nb := by omega
      obtain ⟨ba, oa, B, d, rfl, hc, hrx⟩ := (HM.out.below HB.out).at_ hlt x hx
      obtain ⟨b2, o2, rfl, hC0⟩ := HV.out.at_ hkb hq
      have hC := cell_below hC0 HB.out
      have hb2l := World.block_lt_of_cell? _ _ hC0
      clear hC0
      have HT := Lib.hid (join_take hx hq)
      have HXL := Lib.hid (HRW.out x (List.mem_of_getElem? hx))
      have hxl := HXL.out
      have hd := below_draw wa
      have CB := Lib.hid (cell_below hC hd)
      have HX := Lib.hid ((Reads.below hrx hd).more hd.size)
      have HG1 := Lib.hid (HG.out.call hd)
      have HB1 := Lib.hid (HB.out.trans (hd.mono HB.out.size))
      clear hx hq hC hrx hd HG HB
      generalize hln : x.length = ln at *
      have HLX := Lib.hid hln
      clear hln
      go_upto_region 5 with (fail)
      refine wp_region_c (fun w' => w'.cell? ⟨b2, o2 + k, none⟩ = some (.string q)) 11 (by kernel_rfl) ?_
      generalize wa.drew = W1 at *
      clear hc
      refine wpAnyC_take8 (i := 0) (oi := _) (v := vo) rfl (by kernel_rfl) (by kernel_rfl) (by kernel_rfl) (by kernel_rfl) (by kernel_rfl) (by kernel_rfl) (fun _ _ _ h => h) (Or.inl ⟨by rfl, ?_⟩) CB.out ?_
      · intro w hSw
        have s0 := hSw
        go_simp
      try simp only [Act.put, List.setIfInBounds_toArray]
      refine wpAnyC_take8 (i := 1) (oi := _) (v := .slice B ln d) rfl (by kernel_rfl) (by kernel_rfl) (by kernel_rfl) (by kernel_rfl) (by kernel_rfl) (by kernel_rfl) (fun _ _ _ h => h) (Or.inl ⟨by rfl, ?_⟩) CB.out ?_
      · intro w hSw
        have s0 := hSw
        go_simp
      try simp only [Act.put]
      refine wpAnyC_take8 (i := 3) (oi := _) (v := .slice (some ⟨b2, o2, none⟩) nb cb) rfl (by kernel_rfl) (by kernel_rfl) (by kernel_rfl) (by kernel_rfl) (by kernel_rfl) (by kernel_rfl) (fun _ _ _ h => h) (Or.inl ⟨by rfl, ?_⟩) CB.out ?_
      · intro w hSw
        have s0 := hSw
        go_simp
      try simp only [Act.put]
      refine wpAnyC_take8 (i := 4) (oi := _) (v := I k) rfl (by kernel_rfl) (by kernel_rfl) (by kernel_rfl) (by kernel_rfl) (by kernel_rfl) (by kernel_rfl) (fun _ _ _ h => h) (Or.inl ⟨by rfl, ?_⟩) CB.out ?_
      · intro w hSw
        have s0 := hSw
        go_simp
      try simp only [Act.put]
      refine wpAnyC_take8 (i := 5) (oi := _) (v := .pointer (some ⟨b2, o2 + k, none⟩)) rfl (by kernel_rfl) (by kernel_rfl) (by kernel_rfl) (by kernel_rfl) (by kernel_rfl) (by kernel_rfl) (fun _ _ _ h => h) (Or.inl ⟨by rfl, ?_⟩) CB.out ?_
      · intro w hSw
        have s0 := hSw
        go_simp
      try simp only [Act.put]
      refine wpAnyC_take8 (i := 6) (oi := _) (v := .string q) rfl (by kernel_rfl) (by kernel_rfl) (by kernel_rfl) (by kernel_rfl) (by kernel_rfl) (by kernel_rfl) (fun _ _ _ h => h) (Or.inl ⟨by rfl, ?_⟩) CB.out ?_
      · intro w hSw
        have s0 := hSw
        go_simp
      try simp only [Act.put]
      have HBW := Lib.hid (Below.refl W1.heap.size W1)
      refine wpAnyC_twoD (i := 2) (j := 7) (by kernel_rfl) rfl rfl (fun K hK => ?_) (fun K hK => ?_)
      · skip
        go_simp
        go_at_call 109
        refine (cloneV_any x ln B d W1 ((HX.out.below HBW.out).more HBW.out.size) hxl).mono ?_
        rintro e W3 ⟨v3, rfl, hr3, hb⟩
        have HR3 := Lib.hid (hr3.less HBW.out.size)
        replace HBW := Lib.hid (HBW.out.trans (hb.mono HBW.out.size))
        clear hr3 hb
        have CB2 := cell_below CB.out HBW.out
        refine hK.out _ _ (fun _ => CB2) ?_
        clear hK K CB2
        try simp only [Act.put, List.setIfInBounds_toArray, List.set_cons_zero, List.set_cons_succ]
        refine wpAnyC_one (i := 7) (by kernel_rfl) rfl (fun K hK => ?_)
        go_simp
        have hz := below_new W3 (.cells #[.string q] 22)
        have HX4 := Lib.hid (one_reads W3 22 (.string q))
        replace HR3 := Lib.hid (HR3.out.call hz)
        replace HBW := Lib.hid (HBW.out.trans (hz.mono HBW.out.size))
        clear hz
        have CB2 := cell_below CB.out HBW.out
        refine hK.out _ _ (fun _ => CB2) ?_
        clear hK K CB2
        try simp only [Act.put, List.setIfInBounds_toArray, List.set_cons_zero, List.set_cons_succ]
        generalize W3.heap.size = gx at *
        generalize W3.alloc (.cells #[.string q] 22) = W4 at *
        refine wpAnyC_one (i := 8) (by kernel_rfl) rfl (fun K hK => ?_)
        refine step_appG (by rfl) _ _ HAV.out (by rfl) W1.heap.size v3 (x.map Sv) (by kernel_rfl) HR3.out (some ⟨gx, 0, none⟩) 1 1 (by kernel_rfl) [.string q] HX4.out (fun u hu => by rw [List.mem_singleton.1 hu]; exact ⟨noWord_str _, rfl⟩) (by rw [List.length_map, HLX.out]; omega) HBW.out.size ?_
        intro v5 W5 hap
        have hb := hap.below HR3.out HBW.out.size
        have HR5 := Lib.hid (show NRow W5 W1.heap.size strT v5 ((x ++ [q]).map Sv) by have h := hap.row; rw [List.map_append]; exact h)
        replace HBW := Lib.hid (HBW.out.trans hb)
        clear hap hb HR3 HX4
        have CB2 := cell_below CB.out HBW.out
        refine hK.out _ _ (fun _ => CB2) ?_
        clear hK K CB2
        try simp only [Act.put, List.setIfInBounds_toArray]
        obtain ⟨A5, c5, rfl⟩ := HR5.out.val
        have hl5 : ((x ++ [q]).map Sv).length = ln + 1 := by rw [List.length_map, List.length_append, HLX.out]; rfl
        have h5 := HR5.out
        rw [hl5] at h5 ⊢
        have HR5 := Lib.hid h5
        clear hl5 h5
        refine wpAnyC_one (i := 9) (by kernel_rfl) rfl (fun K hK => ?_)
        go_simp
        have hz := below_new W5 (.cells #[.slice A5 (ln + 1) c5] 50)
        have HX6 := Lib.hid (one_reads W5 50 (.slice A5 (ln + 1) c5))
        have HR6 := Lib.hid (HR5.out.call hz)
        replace HBW := Lib.hid (HBW.out.trans (hz.mono HBW.out.size))
        clear hz HR5
        have CB2 := cell_below CB.out HBW.out
        refine hK.out _ _ (fun _ => CB2) ?_
        clear hK K CB2
        try simp only [Act.put, List.setIfInBounds_toArray, List.set_cons_zero, List.set_cons_succ]
        generalize W5.heap.size = gy at *
        generalize W5.alloc (.cells #[.slice A5 (ln + 1) c5] 50) = W6 at *
        obtain ⟨vs, hg1, hg2, hg3⟩ := HG1.out.call HBW.out
        have HG2 := Lib.hid hg1
        have hvl : vs.length ≤ 1000 := by rw [hg2, List.length_take, joinS_len]; have h := HLN.out; omega
        have HB6 := Lib.hid (HB1.out.trans (HBW.out.mono HB1.out.size))
        refine wpAnyC_one (i := 10) (by kernel_rfl) rfl (fun K hK => ?_)
        refine step_appG (by rfl) _ _ HAM.out (by rfl) w.heap.size vo vs (by kernel_rfl) HG2.out (some ⟨gy, 0, none⟩) 1 1 (by kernel_rfl) [.slice A5 (ln + 1) c5] HX6.out (fun u hu => by rw [List.mem_singleton.1 hu]; exact ⟨noWord_slice _ _ _, rfl⟩) (by omega) HB6.out.size ?_
        intro v7 W7 hap
        have HGN := Lib.hid (show GS W7 w.heap.size v7 ((joinS m b).take (k + 1)) by rw [HT.out]; exact GS.snoc hg1 hg2 hg3 (HR6.out.less HB1.out.size) hap)
        have hb7 := hap.below HG2.out HB6.out.size
        have HBN := Lib.hid (HB6.out.trans hb7)
        have CB7 : W7.cell? ⟨b2, o2 + k, none⟩ = some (.string q) := (hb7.cell (p := ⟨b2, o2 + k, none⟩) hb2l).trans (cell_below CB.out HBW.out)
        refine hK.out _ _ (fun _ => CB7) ?_
        clear hK K CB7 hap hg1 hg2 hg3 hb7
        try simp only [Act.put, List.setIfInBounds_toArray]
        clear HG2 HG1 HX6 HR6 HB6 HBW HB1 CB HX HT
        refine wpAnyC_one (i := 11) (by kernel_rfl) rfl (fun K hK => ?_)
        go_simp
        refine hK.out _ _ (fun h => absurd h (by decide)) ?_
        clear hK K
        refine wpAnyC_done (by kernel_rfl) ?_ _
        go_wp2
        go_roundg (n - (k + 1))
        case measure => omega
        case rel => exact ⟨k + 1, _, rfl, rfl, by go_num, by omega, HGN, HBN⟩
      · skip
        go_simp
        have hz := below_new W1 (.cells #[.string q] 22)
        have HX4 := Lib.hid (one_reads W1 22 (.string q))
        replace HBW := Lib.hid (HBW.out.trans (hz.mono HBW.out.size))
        clear hz
        have CB2 := cell_below CB.out HBW.out
        refine hK.out _ _ (fun _ => CB2) ?_
        clear hK K CB2
        try simp only [Act.put, List.setIfInBounds_toArray, List.set_cons_zero, List.set_cons_succ]
        have hgx : W1.heap.size ≤ W1.heap.size := Nat.le_refl _
        generalize hgxe : W1.heap.size = gx at hgx HX4
        generalize W1.alloc (.cells #[.string q] 22) = W3 at *
        refine wpAnyC_one (i := 2) (by kernel_rfl) rfl (fun K hK => ?_)
        go_simp
        go_at_call 109
        refine (cloneV_any x ln B d W3 ((HX.out.below HBW.out).more HBW.out.size) hxl).mono ?_
        rintro e W4 ⟨v3, rfl, hr3, hb⟩
        have HR3 := Lib.hid (hr3.less HBW.out.size)
        replace HBW := Lib.hid (HBW.out.trans (hb.mono HBW.out.size))
        replace HX4 := Lib.hid ((HX4.out.below hb).more hb.size)
        clear hr3 hb
        have CB2 := cell_below CB.out HBW.out
        refine hK.out _ _ (fun _ => CB2) ?_
        clear hK K CB2
        try simp only [Act.put, List.setIfInBounds_toArray, List.set_cons_zero, List.set_cons_succ]
        refine wpAnyC_one (i := 8) (by kernel_rfl) rfl (fun K hK => ?_)
        refine step_appG (by rfl) _ _ HAV.out (by rfl) W1.heap.size v3 (x.map Sv) (by kernel_rfl) HR3.out (some ⟨gx, 0, none⟩) 1 1 (by kernel_rfl) [.string q] HX4.out (fun u hu => by rw [List.mem_singleton.1 hu]; exact ⟨noWord_str _, rfl⟩) (by rw [List.length_map, HLX.out]; omega) HBW.out.size ?_
        intro v5 W5 hap
        have hb := hap.below HR3.out HBW.out.size
        have HR5 := Lib.hid (show NRow W5 W1.heap.size strT v5 ((x ++ [q]).map Sv) by have h := hap.row; rw [List.map_append]; exact h)
        replace HBW := Lib.hid (HBW.out.trans hb)
        clear hap hb HR3 HX4
        have CB2 := cell_below CB.out HBW.out
        refine hK.out _ _ (fun _ => CB2) ?_
        clear hK K CB2
        try simp only [Act.put, List.setIfInBounds_toArray]
        obtain ⟨A5, c5, rfl⟩ := HR5.out.val
        have hl5 : ((x ++ [q]).map Sv).length = ln + 1 := by rw [List.length_map, List.length_append, HLX.out]; rfl
        have h5 := HR5.out
        rw [hl5] at h5 ⊢
        have HR5 := Lib.hid h5
        clear hl5 h5
        refine wpAnyC_one (i := 9) (by kernel_rfl) rfl (fun K hK => ?_)
        go_simp
        have hz := below_new W5 (.cells #[.slice A5 (ln + 1) c5] 50)
        have HX6 := Lib.hid (one_reads W5 50 (.slice A5 (ln + 1) c5))
        have HR6 := Lib.hid (HR5.out.call hz)
        replace HBW := Lib.hid (HBW.out.trans (hz.mono HBW.out.size))
        clear hz HR5
        have CB2 := cell_below CB.out HBW.out
        refine hK.out _ _ (fun _ => CB2) ?_
        clear hK K CB2
        try simp only [Act.put, List.setIfInBounds_toArray, List.set_cons_zero, List.set_cons_succ]
        generalize W5.heap.size = gy at *
        generalize W5.alloc (.cells #[.slice A5 (ln + 1) c5] 50) = W6 at *
        obtain ⟨vs, hg1, hg2, hg3⟩ := HG1.out.call HBW.out
        have HG2 := Lib.hid hg1
        have hvl : vs.length ≤ 1000 := by rw [hg2, List.length_take, joinS_len]; have h := HLN.out; omega
        have HB6 := Lib.hid (HB1.out.trans (HBW.out.mono HB1.out.size))
        refine wpAnyC_one (i := 10) (by kernel_rfl) rfl (fun K hK => ?_)
        refine step_appG (by rfl) _ _ HAM.out (by rfl) w.heap.size vo vs (by kernel_rfl) HG2.out (some ⟨gy, 0, none⟩) 1 1 (by kernel_rfl) [.slice A5 (ln + 1) c5] HX6.out (fun u hu => by rw [List.mem_singleton.1 hu]; exact ⟨noWord_slice _ _ _, rfl⟩) (by omega) HB6.out.size ?_
        intro v7 W7 hap
        have HGN := Lib.hid (show GS W7 w.heap.size v7 ((joinS m b).take (k + 1)) by rw [HT.out]; exact GS.snoc hg1 hg2 hg3 (HR6.out.less HB1.out.size) hap)
        have hb7 := hap.below HG2.out HB6.out.size
        have HBN := Lib.hid (HB6.out.trans hb7)
        have CB7 : W7.cell? ⟨b2, o2 + k, none⟩ = some (.string q) := (hb7.cell (p := ⟨b2, o2 + k, none⟩) hb2l).trans (cell_below CB.out HBW.out)
        refine hK.out _ _ (fun _ => CB7) ?_
        clear hK K CB7 hap hg1 hg2 hg3 hb7
        try simp only [Act.put, List.setIfInBounds_toArray]
        clear HG2 HG1 HX6 HR6 HB6 HBW HB1 CB HX HT
        refine wpAnyC_one (i := 11) (by kernel_rfl) rfl (fun K hK => ?_)
        go_simp
        refine hK.out _ _ (fun h => absurd h (by decide)) ?_
        clear hK K
        refine wpAnyC_done (by kernel_rfl) ?_ _
        go_wp2
        go_roundg (n - (k + 1))
        case measure => omega
        case rel => exact ⟨k + 1, _, rfl, rfl, by go_num, by omega, HGN, HBN⟩
    · have hkn : k = n := by omega
      subst hkn
      have hg := HG.out
      rw [List.take_of_length_le (by rw [joinS_len, HLN.out]; exact Nat.le_refl _)] at hg
      obtain ⟨A9, c9, rfl⟩ : ∃ A9 c9, vo = .slice A9 k c9 := by
        obtain ⟨vs, h1, h2, _⟩ := hg
        obtain ⟨A9, c9, e⟩ := h1.val
        rw [h2, joinS_len, HLN.out] at e
        exact ⟨A9, c9, e⟩
      have HS := Lib.hid (hg.smat (by rw [joinS_len, HLN.out]))
      clear hg HG
      go_wp2
      go_ret
      exact ⟨_, _, rfl, HS.out, HB.out⟩
end Go.Proofs.YtmnedfkinepnfaaGreatDoor
