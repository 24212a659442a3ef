/- The walk of FactorBack. -/
import Derived.Test.YtgecdcjfncfmcaaGreatDoorFBk
namespace Go.Proofs.YtgecdcjfncfmcaaGreatDoor
open Go.RowKit

set_option maxRecDepth 100000 in
set_option maxHeartbeats 16000000 in
theorem factorBack_any (m : List (List ByteArray)) (nm : Nat) (Am : Option Addr) (cm : Nat) (u : List ByteArray) (nu : Nat) (Au : Option Addr) (cu : Nat) (j : List ByteArray) (nj : Nat) (Aj : Option Addr) (cj : Nat) (w : World) (hm : SMat w Am nm m) (sm : Sh2 m) (hu : SV w Au nu u) (su : Sh1 u) (hj : SV w Aj nj j) (sj : Sh1 j) (htab : Tab w) :
    Calls Tryz.prog 6 #[.slice Am nm cm, .slice Au nu cu, .slice Aj nj cj] w fun e w' => e = .returned (.bool true) ∧ Below w.heap.size w w' := by
  have HTB := Lib.hid htab
  have HB := Lib.hid (Below.refl w.heap.size w)
  clear htab
  have Lm := Lib.hid (show m.length = nm by obtain ⟨_, _, h, _⟩ := hm; exact h)
  have Hm := Lib.hid hm
  have Sm := Lib.hid sm
  clear hm sm
  have Lu := Lib.hid (show u.length = nu from hu.len)
  have Hu := Lib.hid hu
  have Su := Lib.hid su
  clear hu su
  have Lj := Lib.hid (show j.length = nj from hj.len)
  have Hj := Lib.hid hj
  have Sj := Lib.hid sj
  clear hj sj
  go_enter Tryz.func6, Tryz.ntmps6
  have Hm0 := Lib.hid Hm.out
  have Hu0 := Lib.hid Hu.out
  have Hj0 := Lib.hid Hj.out
  clear Hm Hu Hj
  have HC := Lib.hid (factorFact_any w HTB.out)
  go_wp2_with fail
  refine HC.out.mono ?_
  rintro e w1 ⟨rfl, hb⟩
  clear HC
  have hbs := HB.out.size
  replace HB := Lib.hid (HB.out.trans (hb.mono hbs))
  clear hbs
  clear hb
  obtain ⟨hb1, hb⟩ := smat_two (c := cu) (d := cj) (Hu0.out.below HB.out) (Hj0.out.below HB.out)
  have hbs := HB.out.size
  replace HB := Lib.hid (HB.out.trans (hb.mono hbs))
  clear hbs
  clear hb
  obtain ⟨hsm, hb⟩ := sms2 (c := cm) (d := 2) (Hm0.out.below HB.out) hb1
  clear hb1
  have hbs := HB.out.size
  replace HB := Lib.hid (HB.out.trans (hb.mono hbs))
  clear hbs
  clear hb
  simp only [World.size_alloc] at hsm
  unfold matT vecT at *
  have HC := Lib.hid (small_any 4 [m, [u, j]] 2 _ 2 _ hsm (by decide) (by decide))
  go_wp2_with fail
  refine HC.out.mono ?_
  rintro e w2 ⟨rfl, hb⟩
  clear HC
  clear hsm
  have hbs := HB.out.size
  replace HB := Lib.hid (HB.out.trans (hb.mono hbs))
  clear hbs
  clear hb
  cases hsm : [m, [u, j]].any (lgM 4) with
  | true =>
    go_wp2
    go_ret
    exact ⟨rfl, HB.out⟩
  | false =>
    have Zm := Lib.hid (lg_any hsm (m := m) (by simp))
    have Z2 := Lib.hid (lg_any hsm (m := [u, j]) (by simp))
    have LTm := Lib.hid (show (tx2 m).length = nm by rw [tx2, List.length_map, Lm.out])
    clear hsm
    have HC := Lib.hid (fnew_any m nm Am cm w2 (Hm0.out.below HB.out) Sm.out (tab_below HTB.out HB.out) (small_h4 Zm.out LTm.out))
    go_wp2_with fail
    refine HC.out.mono ?_
    rintro e w3 ⟨hbad, hok, hb⟩
    clear HC
    by_cases hz : newT (tx2 m) = 0
    · obtain ⟨g, rfl, hf⟩ := hok hz
      obtain ⟨hsq, hreg, hdf, hvf⟩ := new_ok hz
      have HTX := Lib.hid (fs_text hsq)
      have HS4 := Sm4.of_small hsq Zm.out
      have HUF := Lib.hid (upd4 hsq Zm.out LTm.out (small_row Z2.out (u := u) (by simp)) (small_row Z2.out (u := j) (by simp)))
      rw [LTm.out] at hf hreg hdf hvf HS4
      have HG := Lib.hid (Nat.le_trans HB.out.size hf.ge)
      have HF := Lib.hid (hf.less (Nat.zero_le _))
      have HRG := Lib.hid hreg
      have HDF := Lib.hid hdf
      have HVF := Lib.hid (fit_all hvf)
      have HSM := Lib.hid HS4
      clear hf hreg hdf hvf hbad hok hz hsq HS4
      generalize valsM (tx2 m) = MM at *
      have hbs := HB.out.size
      replace HB := Lib.hid (HB.out.trans (hb.mono hbs))
      clear hbs
      clear hb
      have HRV := Lib.hid (rect_inv HRG.out.rect)
      have HC := Lib.hid (fdet_any g nm MM (invQ MM nm) (detR MM nm) 0 w3 HF.out HDF.out (tab_below HTB.out HB.out))
      go_wp2_with fail
      refine HC.out.mono ?_
      rintro e w4 ⟨rfl, hb⟩
      clear HC
      have hbs := HB.out.size
      replace HB := Lib.hid (HB.out.trans (hb.mono hbs))
      clear hbs
      replace HF := Lib.hid (HF.out.below hb)
      clear hb
      have HC := Lib.hid (fupdate_any g nm MM (invQ MM nm) (detR MM nm) 0 w4 HF.out u nu Au cu (Hu0.out.below HB.out) Su.out j nj Aj cj (Hj0.out.below HB.out) Sj.out HRG.out.rect (fit_all HSM.out.txt) HUF.out (tab_below HTB.out HB.out))
      go_wp2_with fail
      refine HC.out.mono ?_
      rintro e w5 ⟨h1, h2, h3, hb, ho⟩
      clear HC
      clear h2 ho
      by_cases hu0 : updT MM nm (tx1 u) (tx1 j) = 0
      · rw [hu0] at h1
        obtain rfl := h1
        have hf := h3 hu0
        obtain ⟨fu, fv, -⟩ := updT_zero hu0
        obtain ⟨cu0, lu0⟩ := fchk_ok fu
        clear h3 hu0 fu
        replace HB := Lib.hid (HB.out.trans (hb.mono HG.out))
        clear hb
        have HFV := Lib.hid fv
        have HNG := Lib.hid (neg_law cu0)
        have HCU := Lib.hid cu0
        have HSN := Lib.hid (sh_negB cu0)
        have HAB := Lib.hid (addOut_back HRG.out.rect (valsV (tx1 u)) (valsV (tx1 j)) (valsV (negT (tx1 u))) HNG.out.2.1)
        have HNF := Lib.hid (fchk_of HNG.out.1 (HNG.out.2.2.1.trans lu0))
        have HAR := Lib.hid (rect_addOut HRG.out.rect (valsV (tx1 u)) (valsV (tx1 j)))
        have HAF := Lib.hid (HUF.out (fchk_of cu0 lu0) fv).txt
        have HLB := Lib.hid (show (negB u).length = nu by rw [negB_len, Lu.out])
        have hnu : nu ≤ 4 := by have h1 := HSM.out.n4; have h2 := Lu.out; rw [tx1, List.length_map] at lu0; omega
        clear fv cu0 lu0 HUF
        have HF := Lib.hid hf
        clear hf
        generalize addOut MM (valsV (tx1 u)) (valsV (tx1 j)) = M2 at *
        have HN0 := Lib.hid (show NRow w5 w5.heap.size strT (.slice none 0 0) (((negB u).take 0).map Sv) from NRow.nil _ _ _)
        have HBL := Lib.hid (Below.refl w5.heap.size w5)
        have HAV := Lib.hid app_vec
        unfold strT vecT at *
        go_wp2
        go_loopg [11, 55] (nu - 0) (fun r o v wr => ∃ k : Nat, ∃ vo : Value, o = vo ∧ r = nu - k ∧ v = I k ∧ k ≤ nu ∧ Hid (NRow wr w5.heap.size 53 vo (((negB u).take k).map Sv)) ∧ Hid (Below w5.heap.size w5 wr))
        case atStart => exact ⟨0, _, rfl, rfl, rfl, by omega, HN0, HBL⟩
        case round =>
          clear HN0 HBL
          obtain ⟨k, vo, hvo, rfl, rfl, hk, HN0, HBL⟩ := hrel
          replace hvo := hvo.symm
          subst hvo
          obtain ⟨wa, rfl⟩ : ∃ wa : World, wa = wr := ⟨_, rfl⟩
          by_cases hlt : k < nu
          · obtain ⟨q, hq⟩ : ∃ q, u[k]? = some q := ⟨_, List.getElem?_eq_getElem (by rw [Lu.out]; exact hlt)⟩
            have HB2 := Lib.hid (HB.out.trans (HBL.out.mono HB.out.size))
            obtain ⟨b2, o2, rfl, hC0⟩ := (Hu0.out.below HB2.out).at_ hlt hq
            have HT := Lib.hid (negB_take hq)
            have HQ := Lib.hid (HNG.out.2.2.2 (SL q) (List.mem_map_of_mem (List.mem_of_getElem? hq)))
            have hqs := Su.out q (List.mem_of_getElem? hq)
            have HC := Lib.hid (ratNeg_any q wa hqs (tab_below HTB.out HB2.out))
            rw [HQ.out] at HC
            clear hq HQ hqs
            go_wp2_with fail
            refine HC.out.mono ?_
            rintro e wb ⟨rfl, hb⟩
            clear HC hC0
            generalize qText (-rval (SL q)) = qn at *
            have HN1 := Lib.hid (HN0.out.call (hb.mono (Nat.le_refl _)))
            have HBB := Lib.hid (HBL.out.trans (hb.mono HBL.out.size))
            clear hb HN0 HBL
            have hz := below_new wb (.cells #[.string ⟨qn.toArray⟩] 53)
            have HX := Lib.hid (one_reads wb 53 (.string ⟨qn.toArray⟩))
            replace HN1 := Lib.hid (HN1.out.call hz)
            replace HBB := Lib.hid (HBB.out.trans (hz.mono HBB.out.size))
            clear hz
            have hvl : (((negB u).take k).map Sv).length ≤ 1000 := by rw [List.length_map, List.length_take]; omega
            have HT2 := Lib.hid (show ((negB u).take (k + 1)).map Sv = ((negB u).take k).map Sv ++ [.string ⟨qn.toArray⟩] by rw [HT.out, List.map_append]; rfl)
            generalize ((negB u).take k).map Sv = xs at *
            clear HT
            go_wp2_with (at_builtin; refine wpList_appG rfl _ _ HAV.out rfl w5.heap.size vo xs rfl HN1.out (some ⟨wb.heap.size, 0, none⟩) 1 1 rfl [.string ⟨qn.toArray⟩] HX.out (fun u hu => by rw [List.mem_singleton.1 hu]; exact ⟨noWord_str _, rfl⟩) (by omega) HBB.out.size ?_)
            intro v5 w5x hap
            have HNN := Lib.hid (show NRow w5x w5.heap.size 53 v5 (((negB u).take (k + 1)).map Sv) by rw [HT2.out]; exact hap.row)
            have HBN := Lib.hid (HBB.out.trans (hap.below HN1.out HBB.out.size))
            clear hap HN1 HBB HX HT2 HB2 hvl
            go_wp2
            go_roundg (nu - (k + 1))
            case measure => omega
            case rel => exact ⟨k + 1, _, rfl, rfl, by go_num, by omega, HNN, HBN⟩
          · have hkn : k = nu := by omega
            subst hkn
            have hg := HN0.out
            rw [List.take_of_length_le (by rw [HLB.out]; exact Nat.le_refl _)] at hg
            obtain ⟨A9, c9, rfl⟩ : ∃ A9 c9, vo = .slice A9 k c9 := by
              obtain ⟨A9, c9, e⟩ := hg.val
              rw [List.length_map, HLB.out] at e
              exact ⟨A9, c9, e⟩
            have HS := Lib.hid (hg.sv HLB.out)
            clear hg HN0
            replace HF := Lib.hid (HF.out.below HBL.out)
            replace HB := Lib.hid (HB.out.trans (HBL.out.mono HB.out.size))
            clear HBL
            have HUF2 := Lib.hid (show UpdFit M2 nm (valsV (tx1 (negB u))) (valsV (tx1 j)) by rw [tx_negB]; exact Sm4.updfit (by rw [HAB.out]; exact HSM.out))
            have HU2 := Lib.hid (show updT M2 nm (tx1 (negB u)) (tx1 j) = 0 by rw [tx_negB]; exact updT_ok HNF.out HFV.out (by rw [HAB.out]; exact HRG.out))
            have HC := Lib.hid (fupdate_any g nm M2 (invQ M2 nm) (detR M2 nm) 0 wa HF.out (negB u) k A9 c9 HS.out HSN.out j nj Aj cj (Hj0.out.below HB.out) Sj.out HAR.out (fit_all HAF.out) (fun _ _ => HUF2.out) (tab_below HTB.out HB.out))
            go_wp2_with fail
            refine HC.out.mono ?_
            rintro e w6 ⟨h1, h2, h3, hb, ho⟩
            clear HC
            rw [HU2.out] at h1
            obtain rfl := h1
            have hf := h3 HU2.out
            rw [tx_negB, HAB.out] at hf
            clear h2 h3 ho HS HUF2 HU2
            replace HB := Lib.hid (HB.out.trans (hb.mono HG.out))
            clear hb
            replace HF := Lib.hid hf
            clear hf
            have HC := Lib.hid (fmatrix_any g nm MM (invQ MM nm) (detR MM nm) 0 w6 HF.out HRG.out.rect (by have := HSM.out.n4; omega) (tab_below HTB.out HB.out))
            go_wp2_with fail
            refine HC.out.mono ?_
            rintro e w7 h
            clear HC
            obtain ⟨Ax, nx, cx, rfl, hm, hn, hs, hb⟩ := h.known (m := m) (HTX.out)
            clear h
            have hbs := HB.out.size
            replace HB := Lib.hid (HB.out.trans (hb.mono hbs))
            clear hbs
            replace HF := Lib.hid (HF.out.below hb)
            clear hb
            have Hx := Lib.hid hm
            have Lx := Lib.hid hn
            have Sx := Lib.hid hs
            clear hm hn hs
            have HC := Lib.hid (fdet_any g nm MM (invQ MM nm) (detR MM nm) 0 w7 HF.out HDF.out (tab_below HTB.out HB.out))
            go_wp2_with fail
            refine HC.out.mono ?_
            rintro e w8 ⟨rfl, hb⟩
            clear HC
            have hbs := HB.out.size
            replace HB := Lib.hid (HB.out.trans (hb.mono hbs))
            clear hbs
            replace HF := Lib.hid (HF.out.below hb)
            replace Hx := Lib.hid (Hx.out.below hb)
            clear hb
            have HX := Lib.hid (fine_any [0, 0, 0, 0] 4 (some ⟨w8.heap.size, 0, none⟩) 4 (w8.alloc (.cells #[I 0, I 0, I 0, I 0] 34)) _ (reads_lits w8 _ [I 0, I 0, I 0, I 0]) (by omega))
            rw [show fineB [0, 0, 0, 0] = true from rfl] at HX
            have hb := below_new w8 (.cells #[I 0, I 0, I 0, I 0] 34)
            have hbs := HB.out.size
            replace HB := Lib.hid (HB.out.trans (hb.mono hbs))
            clear hbs
            replace HF := Lib.hid (HF.out.below hb)
            replace Hx := Lib.hid (Hx.out.below hb)
            clear hb
            go_wp2_with fail
            refine HX.out.mono ?_
            rintro e w9 ⟨rfl, rfl⟩
            clear HX
            have HC := Lib.hid (same_any m m nx nm Ax Am cx cm (w8.alloc (.cells #[I 0, I 0, I 0, I 0] 34)) Hx.out (Hm0.out.below HB.out) (by have h := Lx.out; have h2 := Lm.out; have h3 := HSM.out.n4; omega) (fun l hl => by have h := small_rows4 Zm.out l hl; omega))
            go_wp2_with fail
            refine HC.out.mono ?_
            rintro e w10 ⟨rfl, hb⟩
            clear HC
            simp only [decide_true]
            have hbs := HB.out.size
            replace HB := Lib.hid (HB.out.trans (hb.mono hbs))
            clear hbs
            replace HF := Lib.hid (HF.out.below hb)
            replace Hx := Lib.hid (Hx.out.below hb)
            clear hb
            go_wp2
            go_ret
            exact ⟨rfl, HB.out⟩
      · obtain rfl := h1
        have tc : (updT MM nm (tx1 u) (tx1 j) != 0) = true := bad_of hu0
        replace HB := Lib.hid (HB.out.trans (hb.mono HG.out))
        clear hb h3 hu0
        generalize updT MM nm (tx1 u) (tx1 j) = cc at *
        go_wp2
        go_ret
        exact ⟨rfl, HB.out⟩
    · have hne := hbad hz
      subst hne
      have tc : (newT (tx2 m) != 0) = true := bad_of hz
      have hbs := HB.out.size
      replace HB := Lib.hid (HB.out.trans (hb.mono hbs))
      clear hbs
      clear hb
      clear hbad hok hz
      generalize newT (tx2 m) = cc at *
      go_wp2
      go_ret
      exact ⟨rfl, HB.out⟩
end Go.Proofs.YtgecdcjfncfmcaaGreatDoor
