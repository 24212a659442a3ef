/- solve.square, solve.Inverse, solve.Det, solve.Solve. Appends to rows of values that are no words, at any type; slices.Clone at vectors of texts; slices.IsSorted at ints; the keep's joined. -/
import Derived.Test.YtgecdcjfncfmcaaGreatDoorSJE
import Derived.Test.YtgecdcjfncfmcaaGreatDoorJY
import Derived.Test.YtgecdcjfncfmcaaGreatDoorSJD
import Derived.Test.YtgecdcjfncfmcaaGreatDoorJW
import Derived.Test.YtgecdcjfncfmcaaGreatDoorSJA
import Derived.Test.YtgecdcjfncfmcaaGreatDoorJG
namespace Go.Proofs.YtgecdcjfncfmcaaGreatDoor
open Go.RowKit

theorem RetTV.vt {w0 w w' : World} {l : List Rat} {e : Ending} (h : RetTV w l e w') (hB : Below w0.heap.size w0 w) : RetVT w0 (txV l) e w' := by
  obtain ⟨v, rfl, k1, k2, hb⟩ := h
  have hbb := hB.trans (hb.mono hB.size)
  cases hf : l.all fitQ with
  | true =>
    have hrow := k1 hf
    obtain ⟨A9, c9, rfl⟩ := hrow.val
    refine ⟨A9, _, c9, mkS (l.map qText), rfl, hrow.reads, ?_, sh_mk hf, hbb⟩
    rw [txV, if_pos hf, tx_mk]
  | false =>
    obtain rfl := k2 hf
    have he : txV l = ([], 2) := by rw [txV, if_neg (by simp [hf])]
    rw [he]
    exact RetVT.none_ rfl hbb
theorem RetMT.far {w0 w w' : World} {r : MT × Int} {e : Ending} (h : RetMT w r e w') (hB : Below w0.heap.size w0 w) : RetMT w0 r e w' := by
  obtain ⟨A, n, c, m, h1, h2, h3, h4, hb⟩ := h
  exact ⟨A, n, c, m, h1, h2, h3, h4, hB.trans (hb.mono hB.size)⟩
theorem fit_int {N : Nat} {z : Int} (h1 : 1 ≤ N) (h2 : -4294967296 < z) (h3 : z < 4294967296) : FitR N (z : Rat) := ⟨by rw [Rat.num_intCast]; exact fits_one _ h1 _ h2 h3, by rw [Rat.den_intCast]; exact fits_one _ h1 _ (by decide) (by decide)⟩
theorem bnd_extI {M : MQ} {n : Nat} (h : Rect M n n) (hn : n ≤ 40) (hf : ∀ r ∈ M, ∀ x ∈ r, FitR 210 x) : Bnd (extI M n) n := by
  refine red_bnd (rect_extI h) hn (by omega) fun r hr x hx => ?_
  obtain ⟨a, ha, rfl⟩ := List.mem_mapIdx.1 hr
  rcases List.mem_append.1 hx with h1 | h1
  · exact hf _ (List.getElem_mem ha) x h1
  · rcases List.mem_or_eq_of_mem_set h1 with h2 | h2
    · rw [(List.mem_replicate.1 h2).2]; exact fitR_zero.mono (by omega)
    · rw [h2]; exact fit_int (z := 1) (by omega) (by omega) (by omega)
theorem bnd_extQ {M : MQ} {b : List Rat} {n w : Nat} (h : Rect M n w) (hn : n ≤ 40) (hw : w ≤ 40) (hf : ∀ r ∈ M, ∀ x ∈ r, FitR 210 x) (hb : ∀ x ∈ b, FitR 210 x) : Bnd (extQ M b) n := by
  refine red_bnd (rect_extQ h b) hn (by omega) fun r hr x hx => ?_
  obtain ⟨a, ha, rfl⟩ := List.mem_mapIdx.1 hr
  rcases List.mem_append.1 hx with h1 | h1
  · exact hf _ (List.getElem_mem ha) x h1
  · rw [List.mem_singleton.1 h1, List.getD_eq_getElem?_getD]
    cases e : b[a]? with
    | none => exact fitR_zero.mono (by omega)
    | some y => exact hb y (List.mem_of_getElem? e)
theorem fit_vec {l : List (List UInt8)} (h : ∀ s ∈ l, rchk s = 0) : ∀ x ∈ valsV l, FitR 210 x := fun x hx => by
  obtain ⟨s, hs, rfl⟩ := List.mem_map.1 hx
  exact val_fit (rchk_val _ (h s hs))
set_option maxRecDepth 100000 in
set_option maxHeartbeats 4000000 in
theorem ssquare_any (m : List (List ByteArray)) (n : Nat) (A : Option Addr) (c : Nat) (w : World) (hm : SMat w A n m) (hs : Sh2 m) (htab : Tab w) :
    Calls Tryz.prog 95 #[.slice A n c] w fun e w' => e = .returned (I (squareT (tx2 m))) ∧ Below w.heap.size w w' := by
  have hl : m.length = n := by obtain ⟨_, _, h, _⟩ := hm; exact h
  have HC := Lib.hid (chkM_any m n A c w hm hs htab)
  have HM := Lib.hid hm
  have LT := Lib.hid (show (tx2 m).length = n by rw [tx2, List.length_map, hl])
  have HLN := Lib.hid hl
  clear hm htab hl
  by_cases h0 : chkM (tx2 m) = 0
  · have HE := Lib.hid (show squareT (tx2 m) = if 0 < n ∧ wd (tx2 m) ≠ n then 3 else 0 by rw [squareT, if_neg (fun k => k h0), LT.out])
    rw [h0] at HC
    clear h0
    by_cases hn : 0 < n
    · have tp : decide (0 < n) = true := decide_eq_true hn
      obtain ⟨x0, hx0⟩ : ∃ x, m[0]? = some x := ⟨_, List.getElem?_eq_getElem (by rw [HLN.out]; exact hn)⟩
      have HW := Lib.hid (show wd (tx2 m) = x0.length by rw [wd_tx, head_get m x0 _ hx0])
      rw [HW.out] at HE
      go_enter Tryz.func95, Tryz.ntmps95
      go_wp2_with fail
      refine HC.out.mono ?_
      rintro e w1 ⟨rfl, hb⟩
      clear HC
      obtain ⟨b0, o0, B0, d0, rfl, hc0, _⟩ := (HM.out.below hb).at_ hn x0 hx0
      rw [Nat.add_zero] at hc0
      have HB := Lib.hid hb
      clear hx0 HM hb HW
      generalize x0.length = wa at *
      by_cases hw : wa = n
      · subst hw
        have tn : ((wa : Int) != wa) = false := by rw [bne_self_eq_false]
        rw [if_neg (fun h => h.2 rfl)] at HE
        go_wp2
        go_ret
        exact ⟨by rw [HE.out]; rfl, HB.out⟩
      · have tn : ((wa : Int) != (n : Int)) = true := bne_iff_ne.2 (by omega)
        rw [if_pos ⟨hn, hw⟩] at HE
        go_wp2
        go_ret
        exact ⟨by rw [HE.out]; rfl, HB.out⟩
    · have tp : decide (0 < n) = false := decide_eq_false hn
      rw [if_neg (fun h => hn h.1)] at HE
      go_enter Tryz.func95, Tryz.ntmps95
      go_wp2_with fail
      refine HC.out.mono ?_
      rintro e w1 ⟨rfl, hb⟩
      have HB := Lib.hid hb
      clear HC hb
      go_wp2
      go_ret
      exact ⟨by rw [HE.out]; rfl, HB.out⟩
  · have HE := Lib.hid (show squareT (tx2 m) = chkM (tx2 m) by rw [squareT, if_pos h0])
    have tc : (chkM (tx2 m) != 0) = true := bne_iff_ne.2 h0
    clear h0
    generalize chkM (tx2 m) = cc at *
    go_enter Tryz.func95, Tryz.ntmps95
    go_wp2_with fail
    refine HC.out.mono ?_
    rintro e w1 ⟨rfl, hb⟩
    have HB := Lib.hid hb
    clear HC hb
    go_wp2
    go_ret
    exact ⟨by rw [HE.out]; rfl, HB.out⟩
set_option maxRecDepth 100000 in
set_option maxHeartbeats 4000000 in
theorem sinverse_any (m : List (List ByteArray)) (n : Nat) (A : Option Addr) (c : Nat) (w : World) (hm : SMat w A n m) (hs : Sh2 m) (htab : Tab w) :
    Calls Tryz.prog 37 #[.slice A n c] w (RetMT w (invT (tx2 m))) := by
  have hl : m.length = n := by obtain ⟨_, _, h, _⟩ := hm; exact h
  have HC := Lib.hid (ssquare_any m n A c w hm hs htab)
  have HM := Lib.hid hm
  have HS := Lib.hid hs
  have HTB := Lib.hid htab
  have LT := Lib.hid (show (tx2 m).length = n by rw [tx2, List.length_map, hl])
  have HLN := Lib.hid hl
  clear hm htab hl hs
  by_cases h0 : squareT (tx2 m) = 0
  · have HE := Lib.hid (show invT (tx2 m) = if (redQ (extI (valsM (tx2 m)) n) n).2.length < n then ([], 10) else txM (invQ (valsM (tx2 m)) n) by rw [invT, if_neg (fun k => k h0), LT.out]; rfl)
    have HSQ := Lib.hid (square_ok h0)
    have HO := Lib.hid (chkM_mok HLN.out HSQ.out.2.2)
    rw [h0] at HC
    clear h0
    have HR := Lib.hid (show Rect (valsM (tx2 m)) n n by have h := HSQ.out.1.vals; rw [LT.out] at h; exact h)
    go_enter Tryz.func37, Tryz.ntmps37
    go_wp2_with fail
    refine HC.out.mono ?_
    rintro e w1 ⟨rfl, hb⟩
    have HB := Lib.hid hb
    have HV := Lib.hid (values_any m n A c w1 (HM.out.below hb) HS.out HO.out.val2 (by have := HO.out.n40; omega))
    clear HC hb
    go_wp2_with fail
    refine HV.out.mono ?_
    rintro e w2 ⟨v, vs, rfl, hLM, hb⟩
    replace HB := Lib.hid (HB.out.trans (hb.mono HB.out.size))
    obtain ⟨A1, c1, rfl⟩ := hLM.val
    rw [HR.out.1] at hLM ⊢
    have HI := Lib.hid (linv_any (valsM (tx2 m)) n A1 c1 w2 hLM.rm HR.out (by have := HO.out.n40; omega) (bnd_extI HR.out HO.out.n40 HO.out.fit))
    clear HV hb hLM
    go_wp2_with fail
    refine HI.out.mono ?_
    rintro e w3 ⟨v, vs, rfl, hLM, hb⟩
    replace HB := Lib.hid (HB.out.trans (hb.mono HB.out.size))
    clear HI hb
    by_cases hf : (redQ (extI (valsM (tx2 m)) n) n).2.length < n
    · have hir : invR (valsM (tx2 m)) n = ([], false) := by rw [invR, if_pos hf]
      rw [if_pos hf] at HE
      rw [hir] at hLM ⊢
      obtain ⟨A2, c2, rfl⟩ := hLM.val
      clear hir hf hLM
      go_wp2
      go_ret2
      exact RetMT.none_ HE.out HB.out
    · have hir : invR (valsM (tx2 m)) n = (invQ (valsM (tx2 m)) n, true) := by rw [invR, if_neg hf]
      rw [if_neg hf] at HE
      rw [hir] at hLM ⊢
      obtain ⟨A2, c2, rfl⟩ := hLM.val
      clear hir hf
      have hri := rect_inv HR.out
      rw [hri.1] at hLM ⊢
      have HT := Lib.hid (textM_any (invQ (valsM (tx2 m)) n) n A2 c2 w3 hLM.rm (by have := HO.out.n40; omega) (fun r hr => by rw [hri.2 r hr]; have := HO.out.n40; omega) (tab_below HTB.out HB.out))
      clear hLM hri
      go_wp2_with fail
      refine HT.out.mono ?_
      rintro e w4 hret
      have HQ := Lib.hid (hret.far HB.out)
      obtain ⟨A9, n9, c9, m9, rfl, -⟩ := hret
      clear HT HB
      go_wp2
      go_ret2
      rw [HE.out]
      exact HQ.out
  · have HE := Lib.hid (show invT (tx2 m) = ([], squareT (tx2 m)) by rw [invT, if_pos h0])
    have tc : (squareT (tx2 m) != 0) = true := bne_iff_ne.2 h0
    clear h0
    generalize squareT (tx2 m) = cc at *
    go_enter Tryz.func37, Tryz.ntmps37
    go_wp2_with fail
    refine HC.out.mono ?_
    rintro e w1 ⟨rfl, hb⟩
    have HB := Lib.hid hb
    clear HC hb
    go_wp2
    go_ret2
    exact RetMT.none_ HE.out HB.out
set_option maxRecDepth 100000 in
set_option maxHeartbeats 4000000 in
theorem sdet_any (m : List (List ByteArray)) (n : Nat) (A : Option Addr) (c : Nat) (w : World) (hm : SMat w A n m) (hs : Sh2 m) (htab : Tab w) (h5 : squareT (tx2 m) = 0 → n ≤ 5 ∧ ∀ r ∈ valsM (tx2 m), ∀ x ∈ r, FitR 14 x) :
    Calls Tryz.prog 38 #[.slice A n c] w (RetTx w (detT (tx2 m))) := by
  have hl : m.length = n := by obtain ⟨_, _, h, _⟩ := hm; exact h
  have HC := Lib.hid (ssquare_any m n A c w hm hs htab)
  have HM := Lib.hid hm
  have HS := Lib.hid hs
  have HTB := Lib.hid htab
  have LT := Lib.hid (show (tx2 m).length = n by rw [tx2, List.length_map, hl])
  have HLN := Lib.hid hl
  clear hm htab hl hs
  by_cases h0 : squareT (tx2 m) = 0
  · have HE := Lib.hid (show detT (tx2 m) = ratTx (detR (valsM (tx2 m)) n) by rw [detT, if_neg (fun k => k h0), LT.out])
    have HSQ := Lib.hid (square_ok h0)
    have HO := Lib.hid (chkM_mok HLN.out HSQ.out.2.2)
    rw [h0] at HC
    have HF := Lib.hid (h5 h0)
    clear h0 h5
    have HR := Lib.hid (show Rect (valsM (tx2 m)) n n by have h := HSQ.out.1.vals; rw [LT.out] at h; exact h)
    go_enter Tryz.func38, Tryz.ntmps38
    go_wp2_with fail
    refine HC.out.mono ?_
    rintro e w1 ⟨rfl, hb⟩
    have HB := Lib.hid hb
    have HV := Lib.hid (values_any m n A c w1 (HM.out.below hb) HS.out HO.out.val2 (by have := HO.out.n40; omega))
    clear HC hb
    go_wp2_with fail
    refine HV.out.mono ?_
    rintro e w2 ⟨v, vs, rfl, hLM, hb⟩
    replace HB := Lib.hid (HB.out.trans (hb.mono HB.out.size))
    obtain ⟨A1, c1, rfl⟩ := hLM.val
    rw [HR.out.1] at hLM ⊢
    have HI := Lib.hid (ldet_any (valsM (tx2 m)) n A1 c1 w2 hLM.rm HR.out (by have := HO.out.n40; omega) (N := 44531) (D := 29400) (by omega) (by omega) (bndD5 HR.out HF.out.1 HF.out.2))
    clear HV hb hLM
    generalize detR (valsM (tx2 m)) n = q at *
    go_wp2_with fail
    refine HI.out.mono ?_
    rintro e w3 ⟨v, rfl, hv, hb⟩
    replace HB := Lib.hid (HB.out.trans (hb.mono HB.out.size))
    clear HI hb
    obtain ⟨tb, t1, t2, t3, t4, t5, t6, rfl⟩ := hv.bools
    have HT := Lib.hid (rtext_any _ q w3 hv (tab_below HTB.out HB.out))
    clear hv
    go_wp2_with fail
    refine HT.out.mono ?_
    rintro e w4 ⟨s, rfl, hs, hb⟩
    replace HB := Lib.hid (HB.out.trans (hb.mono HB.out.size))
    clear HT hb
    by_cases h : fitQ q = true
    · have HQ := Lib.hid (show RetTx w (detT (tx2 m)) (.returned (.tuple #[.string s, I 0])) w4 from ⟨by rw [HE.out, ratTx, if_pos h, hs h], HB.out⟩)
      rw [h]
      clear hs
      go_wp2
      go_ret2
      exact HQ.out
    · have HQ := Lib.hid (show RetTx w (detT (tx2 m)) (.returned (.tuple #[.string ⟨#[]⟩, I 2])) w4 from ⟨by rw [HE.out, ratTx, if_neg h], HB.out⟩)
      have h := Bool.eq_false_iff.2 h
      rw [h]
      clear hs
      go_wp2
      go_ret2
      exact HQ.out
  · have HE := Lib.hid (show detT (tx2 m) = ([], squareT (tx2 m)) by rw [detT, if_pos h0])
    clear h5
    have tc : (squareT (tx2 m) != 0) = true := bne_iff_ne.2 h0
    clear h0
    generalize squareT (tx2 m) = cc at *
    go_enter Tryz.func38, Tryz.ntmps38
    go_wp2_with fail
    refine HC.out.mono ?_
    rintro e w1 ⟨rfl, hb⟩
    have HB := Lib.hid hb
    clear HC hb
    go_wp2
    go_ret2
    exact tx_none HE.out HB.out
theorem solR_len (m : MQ) (b : List Rat) (w : Nat) : (solR m b w).1.length ≤ w := by
  unfold solR
  simp only
  split
  · exact Nat.zero_le _
  · split
    · exact Nat.zero_le _
    · rw [List.length_map, List.length_take]; omega
set_option maxRecDepth 100000 in
set_option maxHeartbeats 4000000 in
theorem ssolve_any (m : List (List ByteArray)) (n : Nat) (A : Option Addr) (c : Nat) (b : List ByteArray) (nb : Nat) (Ab : Option Addr) (cb : Nat) (w : World) (hm : SMat w A n m) (hs : Sh2 m) (hv : SV w Ab nb b) (hsb : Sh1 b) (htab : Tab w) :
    Calls Tryz.prog 40 #[.slice A n c, .slice Ab nb cb] w (RetVT w (solveT (tx2 m) (tx1 b))) := by
  have hl : m.length = n := by obtain ⟨_, _, h, _⟩ := hm; exact h
  have hlb : b.length = nb := hv.len
  have HC := Lib.hid (chkM_any m n A c w hm hs htab)
  have HM := Lib.hid hm
  have HS := Lib.hid hs
  have HTB := Lib.hid htab
  have HBV := Lib.hid hv
  have HSB := Lib.hid hsb
  have LT := Lib.hid (show (tx2 m).length = n by rw [tx2, List.length_map, hl])
  have LB := Lib.hid (show (tx1 b).length = nb by rw [tx1, List.length_map, hlb])
  have HLN := Lib.hid hl
  clear hm htab hl hlb hs hv hsb
  by_cases h0 : chkM (tx2 m) = 0
  · have HO := Lib.hid (chkM_mok HLN.out h0)
    have HE0 := Lib.hid (show solveT (tx2 m) (tx1 b) = if chkV (tx1 b) ≠ 0 then ([], chkV (tx1 b)) else if nb ≠ n then ([], 3) else if (solR (valsM (tx2 m)) (valsV (tx1 b)) (wd (tx2 m))).2 = 0 then ([], 8) else if (solR (valsM (tx2 m)) (valsV (tx1 b)) (wd (tx2 m))).2 = 2 then ([], 10) else txV (solR (valsM (tx2 m)) (valsV (tx1 b)) (wd (tx2 m))).1 by rw [solveT, if_neg (fun k => k h0), LT.out, LB.out])
    rw [h0] at HC
    clear h0
    by_cases h1 : chkV (tx1 b) = 0
    · rw [if_neg (fun k => k h1)] at HE0
      have HOK := Lib.hid (chkV_ok h1)
      have HV1 := Lib.hid (val1_of h1)
      go_enter Tryz.func40, Tryz.ntmps40
      go_wp2_with fail
      refine HC.out.mono ?_
      rintro e w1 ⟨rfl, hb⟩
      have HB := Lib.hid hb
      have HC2 := Lib.hid (chkV_any b nb Ab cb w1 ((HBV.out.below hb)) HSB.out (tab_below HTB.out hb))
      rw [h1] at HC2
      clear HC hb h1
      go_wp2_with fail
      refine HC2.out.mono ?_
      rintro e w2 ⟨rfl, hb⟩
      replace HB := Lib.hid (HB.out.trans (hb.mono HB.out.size))
      clear HC2 hb
      by_cases hnb : nb = n
      · subst hnb
        have tn : ((nb : Int) != nb) = false := by rw [bne_self_eq_false]
        rw [if_neg (fun k => k rfl)] at HE0
        have hn40 : nb ≤ 40 := HO.out.n40
        have HV := Lib.hid (values_any m nb A c w2 (HM.out.below HB.out) HS.out HO.out.val2 (by omega))
        go_wp2_with fail
        refine HV.out.mono ?_
        rintro e w3 ⟨v, vs, rfl, hLM, hb⟩
        have HB0 := Lib.hid HB.out
        replace HB := Lib.hid (HB.out.trans (hb.mono HB.out.size))
        obtain ⟨A1, c1, rfl⟩ := hLM.val
        rw [HO.out.rect.1] at hLM ⊢
        have HL := Lib.hid hLM
        clear HV hb hLM HB0
        have HP := Lib.hid (parseAll_any b nb Ab cb w3 (HBV.out.below HB.out) HSB.out HV1.out (by omega))
        go_wp2_with fail
        refine HP.out.mono ?_
        rintro e w4 ⟨v, rfl, hr, hb⟩
        obtain ⟨A2, c2, rfl⟩ := hr.val
        have hvl : (valsV (tx1 b)).length = nb := by rw [valsV, List.length_map, LB.out]
        rw [hvl] at hr ⊢
        replace HB := Lib.hid (HB.out.trans (hb.mono HB.out.size))
        replace HL := Lib.hid (HL.out.call hb)
        have HI := Lib.hid (lsolve_any (valsM (tx2 m)) (valsV (tx1 b)) nb (wd (tx2 m)) A1 c1 A2 c2 w4 HL.out.rm hr.rv HO.out.rect HO.out.wdq (by omega) (by have := HO.out.w80; omega) (bnd_extQ HO.out.rect hn40 HO.out.w80 HO.out.fit (fit_vec HOK.out.2)))
        clear HP hr hb hvl HL
        have hSL : (solR (valsM (tx2 m)) (valsV (tx1 b)) (wd (tx2 m))).1.length ≤ 1000000 := by
          have h1 := solR_len (valsM (tx2 m)) (valsV (tx1 b)) (wd (tx2 m))
          have h2 := HO.out.w80
          omega
        generalize solR (valsM (tx2 m)) (valsV (tx1 b)) (wd (tx2 m)) = S at *
        go_wp2_with fail
        refine HI.out.mono ?_
        rintro e w5 ⟨v, rfl, hr, hb⟩
        obtain ⟨A3, c3, rfl⟩ := hr.val
        replace HB := Lib.hid (HB.out.trans (hb.mono HB.out.size))
        clear HI hb
        by_cases hz : S.2 = 0
        · rw [hz]
          rw [if_pos hz] at HE0
          clear hz hr
          go_wp2
          go_ret2
          exact RetVT.none_ HE0.out HB.out
        · rw [if_neg hz] at HE0
          have t0 : ((S.2 : Int) == 0) = false := beq_eq_false_iff_ne.2 (by omega)
          by_cases hz2 : S.2 = 2
          · rw [hz2]
            rw [if_pos hz2] at HE0
            clear hz hz2 hr t0
            go_wp2
            go_ret2
            exact RetVT.none_ HE0.out HB.out
          · rw [if_neg hz2] at HE0
            have t2 : ((S.2 : Int) == 2) = false := beq_eq_false_iff_ne.2 (by omega)
            have hrv := hr.rv
            have HT := Lib.hid (textVec_any S.1 S.1.length A3 c3 w5 hrv hSL (tab_below HTB.out HB.out))
            clear hr hrv
            generalize S.1.length = sl at *
            generalize hs2 : S.2 = s2 at *
            clear hs2
            go_wp2_with fail
            refine HT.out.mono ?_
            rintro e w6 hret
            have HQ := Lib.hid (hret.vt HB.out)
            obtain ⟨v9, rfl, -⟩ := hret
            clear HT HB
            go_wp2
            go_ret2
            rw [HE0.out]
            exact HQ.out
      · have tn : ((nb : Int) != (n : Int)) = true := bne_iff_ne.2 (by omega)
        rw [if_pos hnb] at HE0
        go_wp2
        go_ret2
        exact RetVT.none_ HE0.out HB.out
    · rw [if_pos h1] at HE0
      have tc : (chkV (tx1 b) != 0) = true := bne_iff_ne.2 h1
      clear h1
      go_enter Tryz.func40, Tryz.ntmps40
      go_wp2_with fail
      refine HC.out.mono ?_
      rintro e w1 ⟨rfl, hb⟩
      have HB := Lib.hid hb
      have HC2 := Lib.hid (chkV_any b nb Ab cb w1 ((HBV.out.below hb)) HSB.out (tab_below HTB.out hb))
      clear HC hb
      generalize chkV (tx1 b) = cc at *
      go_wp2_with fail
      refine HC2.out.mono ?_
      rintro e w2 ⟨rfl, hb⟩
      replace HB := Lib.hid (HB.out.trans (hb.mono HB.out.size))
      clear HC2 hb
      go_wp2
      go_ret2
      exact RetVT.none_ HE0.out HB.out
  · have HE := Lib.hid (show solveT (tx2 m) (tx1 b) = ([], chkM (tx2 m)) by rw [solveT, if_pos h0])
    have tc : (chkM (tx2 m) != 0) = true := bne_iff_ne.2 h0
    clear h0
    generalize chkM (tx2 m) = cc at *
    go_enter Tryz.func40, Tryz.ntmps40
    go_wp2_with fail
    refine HC.out.mono ?_
    rintro e w1 ⟨rfl, hb⟩
    have HB := Lib.hid hb
    clear HC hb
    go_wp2
    go_ret2
    exact RetVT.none_ HE.out HB.out
end Go.Proofs.YtgecdcjfncfmcaaGreatDoor
namespace Go.Proofs.YtgecdcjfncfmcaaGreatDoor
open Go.RowKit

/-- slices of type t have elements of type e: of one cell, that is no word -/
structure AppT (t e : TypeId) : Prop where
  und : Tryz.prog.underlying t = some (.slice e)
  inf : ∃ i z bytes, Tryz.prog.info? e = some i ∧ i.zero = some z ∧ i.size = 1 ∧ i.bytes = bytes ∧ bytes ≤ 1000 ∧ z.cells.size = 1 ∧ ∀ n, ∀ u ∈ (Builtin.zeroCells z.cells n).toList, noWord u
theorem app_run {t e : TypeId} (h : AppT t e) (w : World) (base : Nat) (ty : TypeId) (v : Value) (xs : List Value) (hr : NRow w base e v xs) (A : Option Addr) (m c : Nat) (news : List Value) (hs : Reads w w.heap.size 1 A m news) (hl : ∀ u ∈ news, noWord u ∧ u.oneCell' = true)
    (hlen : xs.length + m ≤ 1000000) (hbase : base ≤ w.heap.size) : ∃ v' w', (Builtin.append_ #[t, t] ty #[v, .slice A m c]).run Tryz.prog w = .ok v' w' ∧ NApd w base e v (xs ++ news) v' w' := by
  obtain ⟨i, z, bytes, h1, h2, h3, h4, h5, h6, h7⟩ := h.inf
  have hb : (xs.length + m) * bytes ≤ 1000000 * 1000 := Nat.mul_le_mul hlen h5
  exact run_append_nw (P := Tryz.prog) w base t ty e i z bytes h.und h1 h2 h3 h4 h6 h7 v xs hr w.heap.size A m c news hs hl (by unfold maxLen; omega) (by omega) hbase
theorem wpList_appG {w : World} {ops : Array Oper} {rest : List Oper} {o : Oper} {a : Act} {Q : Exit → Act → World → Prop} (hgd : o.guard = none) (s x : Operand) {t e : TypeId} (h : AppT t e)
    (ho : o.op = .call { callee := .builtin .append, args := #[s, x], argTypes := #[t, t] }) (base : Nat) (v : Value) (xs : List Value) (hsv : a.eval s = v) (hr : NRow w base e v xs)
    (A : Option Addr) (m c : Nat) (hx : a.eval x = .slice A m c) (news : List Value) (hs : Reads w w.heap.size 1 A m news) (hl : ∀ u ∈ news, noWord u ∧ u.oneCell' = true) (hlen : xs.length + m ≤ 1000000) (hbase : base ≤ w.heap.size)
    (hk : ∀ v' w', NApd w base e v (xs ++ news) v' w' → wpList Tryz.prog ops Q rest (a.put o.dst v') w') : wpList Tryz.prog ops Q (o :: rest) a w := by
  refine wpList_plain hgd fun K hK => ?_
  obtain ⟨v', w', hrun, hap⟩ := app_run h w base o.type v xs hr A m c news hs hl hlen hbase
  unfold Oper.wp execOp
  simp only [ho, resolve, invoke, builtin, Sem.run_bind, Sem.run_pure, Result.andThen_ok, List.map_toArray, List.map_cons, List.map_nil, hsv, hx, hrun]
  exact hK _ _ (hk v' w' hap)
theorem step_appG {w : World} {ops : Array Oper} {o : Oper} {a : Act} {K : Act → World → Prop} {Q : Exit → Act → World → Prop} {E : Prop} (hgd : o.guard = none) (s x : Operand) {t e : TypeId} (h : AppT t e)
    (ho : o.op = .call { callee := .builtin .append, args := #[s, x], argTypes := #[t, t] }) (base : Nat) (v : Value) (xs : List Value) (hsv : a.eval s = v) (hr : NRow w base e v xs)
    (A : Option Addr) (m c : Nat) (hx : a.eval x = .slice A m c) (news : List Value) (hs : Reads w w.heap.size 1 A m news) (hl : ∀ u ∈ news, noWord u ∧ u.oneCell' = true) (hlen : xs.length + m ≤ 1000000) (hbase : base ≤ w.heap.size)
    (hk : ∀ v' w', NApd w base e v (xs ++ news) v' w' → K (a.put o.dst v') w') : if Region.wanted o (yielded ops a.tmps) = true then Oper.wp Tryz.prog o a w K Q else E := by
  have hw : Region.wanted o (yielded ops a.tmps) = true := by simp [Region.wanted, hgd]
  rw [if_pos hw]
  obtain ⟨v', w', hrun, hap⟩ := app_run h w base o.type v xs hr A m c news hs hl hlen hbase
  unfold Oper.wp execOp
  simp only [ho, resolve, invoke, builtin, Sem.run_bind, Sem.run_pure, Result.andThen_ok, List.map_toArray, List.map_cons, List.map_nil, hsv, hx, hrun]
  exact hk v' w' hap
theorem noWord_str (s : ByteArray) : noWord (.string s) := fun m e => by cases e
theorem zero_noWord1 {z : Value} (hz : z.cells = #[z]) (hn : noWord z) (n : Nat) : ∀ u ∈ (Builtin.zeroCells z.cells n).toList, noWord u := by
  intro u hu
  unfold Builtin.zeroCells at hu
  rw [Array.toList_map, List.mem_map] at hu
  obtain ⟨i, _, rfl⟩ := hu
  rw [hz]
  have h1 : (#[z] : Array Value).size = 1 := rfl
  rw [h1, Nat.mod_one]
  exact hn
theorem app_vec : AppT vecT strT := ⟨Tryz.underlying31, by
  obtain ⟨i, hi, hz0, hz1, hz2⟩ := info_parts info_str
  exact ⟨i, _, _, hi, hz0, hz1, hz2, by omega, rfl, zero_noWord1 rfl (noWord_str _)⟩⟩
theorem info_vecP : (Tryz.prog.info? vecT).map (fun i => (i.zero, i.size, i.bytes)) = some (some (.slice none 0 0), 1, 24) := by kernel_rfl
theorem app_mat : AppT 57 vecT := ⟨Tryz.underlying57, by
  obtain ⟨i, hi, hz0, hz1, hz2⟩ := info_parts info_vecP
  exact ⟨i, _, _, hi, hz0, hz1, hz2, by omega, rfl, zero_noWord1 rfl (noWord_slice _ _ _)⟩⟩
theorem str_ok {l : List ByteArray} : ∀ u ∈ l.map Sv, noWord u ∧ u.oneCell' = true := fun u hu => by
  obtain ⟨s, _, rfl⟩ := List.mem_map.1 hu
  exact ⟨noWord_str s, rfl⟩
theorem nrow_empty (w : World) (e : TypeId) : NRow (w.alloc (.cells #[] e)) w.heap.size e (.slice (some ⟨w.heap.size, 0, none⟩) 0 0) [] := by
  refine ⟨⟨rfl, .inr ⟨w.heap.size, 0, 0, #[], rfl, Nat.le_refl _, Blk.new w e #[], Nat.le_refl _, by unfold maxLen; omega, Nat.le_refl _, rfl⟩⟩, fun g o n hg => ?_, fun u hu => (by cases hu)⟩
  have hg : w.heap.size = g := by simpa [Value.ownBlock] using hg
  subst hg
  rw [(Blk.new w e #[]).cell]
  simp
theorem NApd.below {w w' : World} {base : Nat} {e : TypeId} {v v' : Value} {xs ys : List Value} (h : NApd w base e v ys v' w') (hr : NRow w base e v xs) (hb : base ≤ w.heap.size) : Below base w w' := hr.row.belowG h.grown hb
theorem one_reads (w : World) (t : TypeId) (u : Value) : Reads (w.alloc (.cells #[u] t)) (w.alloc (.cells #[u] t)).heap.size 1 (some ⟨w.heap.size, 0, none⟩) 1 [u] := by
  have h := reads_lits w t [u]
  rw [World.size_alloc]
  exact h
/-- a matrix of texts in the making -/
def GS (w : World) (base : Nat) (v : Value) (m : List (List ByteArray)) : Prop := ∃ vs, NRow w base vecT v vs ∧ vs.length = m.length ∧ ∀ (i : Nat) (u : Value) (l : List ByteArray), vs[i]? = some u → m[i]? = some l → NRow w base strT u (l.map Sv)
theorem GS.nil (w : World) (base : Nat) : GS w base (.slice none 0 0) [] := ⟨[], NRow.nil _ _ _, rfl, fun i u l h => by simp at h⟩
theorem GS.call {w w' : World} {base : Nat} {v : Value} {m : List (List ByteArray)} (h : GS w base v m) (hb : Below w.heap.size w w') : GS w' base v m := by
  obtain ⟨vs, h1, h2, h3⟩ := h
  exact ⟨vs, h1.call hb, h2, fun i u l a b => (h3 i u l a b).call hb⟩
theorem GS.smat {w : World} {base n c : Nat} {A : Option Addr} {m : List (List ByteArray)} (h : GS w base (.slice A n c) m) (hn : m.length = n) : SMat w A n m := by
  subst hn
  obtain ⟨vs, h1, h2, h3⟩ := h
  have hr := h1.row
  rw [h2] at hr
  refine ⟨vs, hr.reads, rfl, fun i u l a b => ?_⟩
  have h4 := h3 i u l a b
  obtain ⟨A', c', e⟩ := h4.val
  rw [List.length_map] at e
  subst e
  have h5 := h4.row
  rw [List.length_map] at h5
  exact ⟨A', c', rfl, h5.reads⟩
theorem GS.snoc {w w' : World} {base : Nat} {v v' u : Value} {vs : List Value} {m : List (List ByteArray)} {l : List ByteArray} (h1 : NRow w base vecT v vs) (h2 : vs.length = m.length) (h3 : ∀ (i : Nat) (u : Value) (l : List ByteArray), vs[i]? = some u → m[i]? = some l → NRow w base strT u (l.map Sv))
    (hr : NRow w base strT u (l.map Sv)) (ha : NApd w base vecT v (vs ++ [u]) v' w') : GS w' base v' (m ++ [l]) := by
  have key : ∀ {x : Value} {ys : List Value}, NRow w base strT x ys → NRow w' base strT x ys := fun {x ys} hx => by
    refine hx.keep fun g hg => ha.grown.block g (hx.blk hg).2.1 fun e => ?_
    obtain ⟨_, _, cur, hC⟩ := h1.blk e.symm
    exact own_ne hx.row hC (by decide) g hg rfl
  refine ⟨vs ++ [u], ha.row, by simp [h2], fun i x y a b => ?_⟩
  by_cases hi : i < vs.length
  · rw [List.getElem?_append_left hi] at a
    rw [List.getElem?_append_left (by omega)] at b
    exact key (h3 i x y a b)
  · have hi2 : i = vs.length := by
      have := (List.getElem?_eq_some_iff.1 a).1
      rw [List.length_append, List.length_singleton] at this
      omega
    subst hi2
    rw [List.getElem?_append_right (Nat.le_refl _), Nat.sub_self] at a
    rw [List.getElem?_append_right (by omega), show vs.length - m.length = 0 by omega] at b
    have a := Option.some.inj a
    have b := Option.some.inj b
    subst a b
    exact key hr
def joinS (m : List (List ByteArray)) (b : List ByteArray) : List (List ByteArray) := m.mapIdx fun i r => r ++ [b.getD i ⟨#[]⟩]
theorem joinS_len (m : List (List ByteArray)) (b : List ByteArray) : (joinS m b).length = m.length := List.length_mapIdx
theorem tx_join {m : List (List ByteArray)} {b : List ByteArray} : tx2 (joinS m b) = joinT (tx2 m) (tx1 b) := by
  apply List.ext_getElem?
  intro i
  unfold tx2 joinS joinT
  rw [List.getElem?_map, List.getElem?_mapIdx, List.getElem?_mapIdx, List.getElem?_map]
  cases m[i]? with
  | none => rfl
  | some r =>
    simp only [Option.map_some, tx1, List.map_append, List.map_cons, List.map_nil]
    congr 3
    rw [List.getD_eq_getElem?_getD, List.getD_eq_getElem?_getD, List.getElem?_map]
    cases b[i]? <;> rfl
theorem join_take {m : List (List ByteArray)} {b : List ByteArray} {k : Nat} {x : List ByteArray} {q : ByteArray} (hx : m[k]? = some x) (hq : b[k]? = some q) : (joinS m b).take (k + 1) = (joinS m b).take k ++ [x ++ [q]] := by
  rw [List.take_add_one]
  congr 1
  unfold joinS
  rw [List.getElem?_mapIdx, hx, Option.map_some, List.getD_eq_getElem?_getD, hq]
  rfl
theorem SV.at_ {w : World} {A : Option Addr} {n : Nat} {l : List ByteArray} (h : SV w A n l) {k : Nat} (hk : k < n) {q : ByteArray} (hq : l[k]? = some q) : ∃ b off, A = some ⟨b, off, none⟩ ∧ w.cell? ⟨b, off + k, none⟩ = some (.string q) := by
  obtain ⟨b, off, u, rfl, _, hu, hc⟩ := Reads.at1 h hk
  rw [List.getElem?_map, hq] at hu
  have hu := Option.some.inj hu
  subst hu
  exact ⟨b, off, rfl, hc⟩
end Go.Proofs.YtgecdcjfncfmcaaGreatDoor
