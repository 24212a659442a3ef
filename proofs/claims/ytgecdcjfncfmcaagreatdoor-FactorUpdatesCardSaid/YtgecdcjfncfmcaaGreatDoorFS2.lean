/- The walk of FactorUpdates. -/
import Derived.Test.YtgecdcjfncfmcaaGreatDoorFBk
namespace Go.Proofs.YtgecdcjfncfmcaaGreatDoor
open Go.RowKit

/-- what an update has left in memory -/
def UFS (w : World) (base g n : Nat) (M V : MQ) (d : Rat) (u v : List (List UInt8)) : Prop :=
 (updT M n u v ≠ 0 → FS w base g n M V d) ∧ (updT M n u v = 0 → FS w base g n (addOut M (valsV u) (valsV v)) (invQ (addOut M (valsV u) (valsV v)) n) (detR (addOut M (valsV u) (valsV v)) n))
theorem UFS.below {w w' : World} {base g n : Nat} {M V : MQ} {d : Rat} {u v : List (List UInt8)} (h : UFS w base g n M V d u v) (hb : Below w.heap.size w w') : UFS w' base g n M V d u v :=
 ⟨fun k => (h.1 k).call hb, fun k => (h.2 k).call hb⟩
theorem updT_bad {M : MQ} {n : Nat} {u v : List (List UInt8)} (h : ¬ (u.length = n ∧ v.length = n ∧ chkV u = 0 ∧ chkV v = 0)) : updT M n u v ≠ 0 := fun k => by
 obtain ⟨h1, h2, -⟩ := updT_zero k
 exact h ⟨(fchk_ok h1).2, (fchk_ok h2).2, (fchk_ok h1).1, (fchk_ok h2).1⟩
theorem sum4 {m : MT} {n : Nat} (hsq : squareT m = 0) (hs : smallB 4 m = true) (hn : m.length = n) (h0 : 0 < n) {u v : List (List UInt8)} (su : ∀ s ∈ u, s.length ≤ 12) (sv : ∀ s ∈ v, s.length ≤ 12) (hu : chkV u = 0) (hv : chkV v = 0) (lu : u.length = n) (lv : v.length = n) :
  ∃ p, mulM (u.map fun q => [q]) [v] = (tx2 (unT p), 0) ∧ addM m (tx2 (unT p)) = (tx2 (unT (sumT m u v)), 0) ∧ VM (tx2 (unT (sumT m u v))) n n ∧ valsM (tx2 (unT (sumT m u v))) = addOut (valsM m) (valsV u) (valsV v) ∧ Sm4 (addOut (valsM m) (valsV u) (valsV v)) n := by
 subst hn
 obtain ⟨p, h1, h2, h3, h4⟩ := outer_law hsq hs hu hv lu lv h0 su sv
 refine ⟨p, by rw [tx_un]; exact h1, by rw [tx_un, tx_un]; exact h2, by rw [tx_un]; exact h3, by rw [tx_un]; exact h4, Sm4.upd hsq hs hu hv su sv⟩
theorem sum_text {m : MT} {n : Nat} {u v : List (List UInt8)} (h : Sm4 (addOut (valsM m) (valsV u) (valsV v)) n) : txM (addOut (valsM m) (valsV u) (valsV v)) = (tx2 (unT (sumT m u v)), 0) := by
 rw [txM_fit h.txt, tx_un]
 rfl
theorem sm4_h5 {m : MT} {n : Nat} {M : MQ} (e : valsM m = M) (h : Sm4 M n) : squareT m = 0 → n ≤ 5 ∧ ∀ r ∈ valsM m, ∀ x ∈ r, FitR 14 x := fun _ => by
 rw [e]
 exact ⟨by have := h.n4; omega, fun r hr x hx => (h.fit r hr x hx).mono (by omega)⟩
set_option maxRecDepth 100000 in
set_option maxHeartbeats 16000000 in
theorem factorUpdates_any (m : List (List ByteArray)) (nm : Nat) (Am : Option Addr) (cm : Nat) (u : List ByteArray) (nu : Nat) (Au : Option Addr) (cu : Nat) (j : List ByteArray) (nj : Nat) (Aj : Option Addr) (cj : Nat) (b : List ByteArray) (nb : Nat) (Ab : Option Addr) (cb : Nat) (w : World) (hm : SMat w Am nm m) (sm : Sh2 m) (hu : SV w Au nu u) (su : Sh1 u) (hj : SV w Aj nj j) (sj : Sh1 j) (hb : SV w Ab nb b) (sb : Sh1 b) (htab : Tab w) :
  Calls Tryz.prog 8 #[.slice Am nm cm, .slice Au nu cu, .slice Aj nj cj, .slice Ab nb cb] w fun e w' => e = .returned (.bool true) ∧ Below w.heap.size w w' := by
 have HTB := Lib.hid htab
 have HB := Lib.hid (Below.refl w.heap.size w)
 clear htab
 have Lm := Lib.hid (show m.length = nm by obtain ⟨_, _, h, _⟩ := hm; exact h)
 have Hm := Lib.hid hm
 have Sm := Lib.hid sm
 clear hm sm
 have Lu := Lib.hid (show u.length = nu from hu.len)
 have Hu := Lib.hid hu
 have Su := Lib.hid su
 clear hu su
 have Lj := Lib.hid (show j.length = nj from hj.len)
 have Hj := Lib.hid hj
 have Sj := Lib.hid sj
 clear hj sj
 have Lb := Lib.hid (show b.length = nb from hb.len)
 have Hb := Lib.hid hb
 have Sb := Lib.hid sb
 clear hb sb
 go_enter Tryz.func8, Tryz.ntmps8
 have Hm0 := Lib.hid Hm.out
 have Hu0 := Lib.hid Hu.out
 have Hj0 := Lib.hid Hj.out
 have Hb0 := Lib.hid Hb.out
 clear Hm Hu Hj Hb
 have HC := Lib.hid (factorFact_any w HTB.out)
 go_wp2_with fail
 refine HC.out.mono ?_
 rintro e w1 ⟨rfl, hb⟩
 clear HC
 have hbs := HB.out.size
 replace HB := Lib.hid (HB.out.trans (hb.mono hbs))
 clear hbs
 clear hb
 obtain ⟨hb1, hb⟩ := smat_three (c := cu) (d := cj) (e := cb) (Hu0.out.below HB.out) (Hj0.out.below HB.out) (Hb0.out.below HB.out)
 have hbs := HB.out.size
 replace HB := Lib.hid (HB.out.trans (hb.mono hbs))
 clear hbs
 clear hb
 obtain ⟨hsm, hb⟩ := sms2 (c := cm) (d := 3) (Hm0.out.below HB.out) hb1
 clear hb1
 have hbs := HB.out.size
 replace HB := Lib.hid (HB.out.trans (hb.mono hbs))
 clear hbs
 clear hb
 simp only [World.size_alloc] at hsm
 unfold matT vecT at *
 have HC := Lib.hid (small_any 4 [m, [u, j, b]] 2 _ 2 _ hsm (by decide) (by decide))
 go_wp2_with fail
 refine HC.out.mono ?_
 rintro e w2 ⟨rfl, hb⟩
 clear HC
 clear hsm
 have hbs := HB.out.size
 replace HB := Lib.hid (HB.out.trans (hb.mono hbs))
 clear hbs
 clear hb
 cases hsm : [m, [u, j, b]].any (lgM 4) with
 | true =>
  go_wp2
  go_ret
  exact ⟨rfl, HB.out⟩
 | false =>
  have Zm := Lib.hid (lg_any hsm (m := m) (by simp))
  have Z2 := Lib.hid (lg_any hsm (m := [u, j, b]) (by simp))
  have LTm := Lib.hid (show (tx2 m).length = nm by rw [tx2, List.length_map, Lm.out])
  clear hsm
  have HC := Lib.hid (fnew_any m nm Am cm w2 (Hm0.out.below HB.out) Sm.out (tab_below HTB.out HB.out) (small_h4 Zm.out LTm.out))
  go_wp2_with fail
  refine HC.out.mono ?_
  rintro e w3 ⟨hbad, hok, hb⟩
  clear HC
  by_cases hz : newT (tx2 m) = 0
  ·obtain ⟨g, rfl, hf⟩ := hok hz
   obtain ⟨hsq, hreg, hdf, hvf⟩ := new_ok hz
   have HTX := Lib.hid (fs_text hsq)
   have HS4 := Sm4.of_small hsq Zm.out
   have SU := Lib.hid (small_row Z2.out (u := u) (by simp))
   have SVV := Lib.hid (small_row Z2.out (u := j) (by simp))
   have HUP := Lib.hid (upd4 hsq Zm.out LTm.out SU.out SVV.out)
   have HSUM := Lib.hid (fun h0 => sum4 hsq Zm.out LTm.out h0 SU.out SVV.out)
   rw [LTm.out] at hf hreg hdf hvf HS4
   have HG := Lib.hid (Nat.le_trans HB.out.size hf.ge)
   have HF := Lib.hid (hf.less (Nat.zero_le _))
   have HRG := Lib.hid hreg
   have HSM := Lib.hid HS4
   have HVF := Lib.hid (fit_all hvf)
   clear hf hreg hdf hvf hbad hok hz hsq HS4 SU SVV
   have hbs := HB.out.size
   replace HB := Lib.hid (HB.out.trans (hb.mono hbs))
   clear hbs
   clear hb
   by_cases hn0 : nm = 0
   ·subst hn0
    go_wp2
    go_ret
    exact ⟨rfl, HB.out⟩
   ·have hnp : 0 < nm := by omega
    have HS := Lib.hid (HSUM.out hnp)
    clear HSUM
    have HC := Lib.hid (fupdate_any g nm (valsM (tx2 m)) (invQ (valsM (tx2 m)) nm) (detR (valsM (tx2 m)) nm) 0 w3 HF.out u nu Au cu (Hu0.out.below HB.out) Su.out j nj Aj cj (Hj0.out.below HB.out) Sj.out HRG.out.rect (fit_all HSM.out.txt) HUP.out (tab_below HTB.out HB.out))
    go_wp2_with fail
    refine HC.out.mono ?_
    rintro e w4 ⟨rfl, h2, h3, hb, -⟩
    clear HC
    have HU := Lib.hid (show UFS _ 0 g nm (valsM (tx2 m)) (invQ (valsM (tx2 m)) nm) (detR (valsM (tx2 m)) nm) (tx1 u) (tx1 j) from ⟨h2, h3⟩)
    clear h2 h3 HF
    replace HB := Lib.hid (HB.out.trans (hb.mono HG.out))
    clear hb
    have LTu := Lib.hid (show (tx1 u).length = nu by rw [tx1, List.length_map, Lu.out])
    have LTv := Lib.hid (show (tx1 j).length = nj by rw [tx1, List.length_map, Lj.out])
    by_cases hlu : nu = nm
    ·have hlu3 := hlu.symm
     subst hlu3
     clear hlu
     by_cases hlv : nj = nm
     ·have hlv3 := hlv.symm
      subst hlv3
      clear hlv
      have hlu2 : (tx1 u).length = nm := LTu.out
      have hlv2 : (tx1 j).length = nm := LTv.out
      have HC := Lib.hid (chkV_any u nm Au cu w4 (Hu0.out.below HB.out) Su.out (tab_below HTB.out HB.out))
      go_wp2_with fail
      refine HC.out.mono ?_
      rintro e w5 ⟨rfl, hb⟩
      clear HC
      have hbs := HB.out.size
      replace HB := Lib.hid (HB.out.trans (hb.mono hbs))
      clear hbs
      replace HU := Lib.hid (HU.out.below hb)
      clear hb
      by_cases hcu : chkV (tx1 u) = 0
      ·rw [hcu]
       have HC := Lib.hid (chkV_any j nm Aj cj w5 (Hj0.out.below HB.out) Sj.out (tab_below HTB.out HB.out))
       go_wp2_with fail
       refine HC.out.mono ?_
       rintro e w6 ⟨rfl, hb⟩
       clear HC
       have hbs := HB.out.size
       replace HB := Lib.hid (HB.out.trans (hb.mono hbs))
       clear hbs
       replace HU := Lib.hid (HU.out.below hb)
       clear hb
       by_cases hcv : chkV (tx1 j) = 0
       ·rw [hcv]
        obtain ⟨p, hmul, hadd, hvm, hvs, hs4⟩ := HS.out hcu hcv hlu2 hlv2
        have HMUL := Lib.hid hmul
        have HADD := Lib.hid hadd
        have HVM := Lib.hid hvm
        have HVS := Lib.hid hvs
        have HS2 := Lib.hid hs4
        have HST := Lib.hid (sum_text hs4)
        have HFU := Lib.hid (fchk_of hcu hlu2)
        have HFV2 := Lib.hid (fchk_of hcv hlv2)
        have HNS := Lib.hid (new_sm4 hvm (by rw [hvs]; exact hs4))
        clear hmul hadd hvm hvs hs4 HS hcu hcv hlu2 hlv2
        have HLC := Lib.hid (show (colB u).length = nm by rw [colB_len, Lu.out])
        generalize unT (sumT (tx2 m) (tx1 u) (tx1 j)) = S at *
        have HN0 := Lib.hid (show GS w6 w6.heap.size (.slice none 0 0) ((colB u).take 0) from GS.nil _ _)
        have HBL := Lib.hid (Below.refl w6.heap.size w6)
        have HAV := Lib.hid app_mat
        unfold vecT at *
        have hnu4 : nm ≤ 4 := by have := HSM.out.n4; omega
        go_wp2
        go_loopg [13, 111] (nm - 0) (fun r o v wr => ∃ k : Nat, ∃ vo : Value, o = vo ∧ r = nm - k ∧ v = I k ∧ k ≤ nm ∧ Hid (GS wr w6.heap.size vo ((colB u).take k)) ∧ Hid (Below w6.heap.size w6 wr))
        case atStart => exact ⟨0, _, rfl, rfl, rfl, by omega, HN0, HBL⟩
        case round =>
         clear HN0 HBL
         obtain ⟨k, vo, hvo, rfl, rfl, hk, HN0, HBL⟩ := hrel
         replace hvo := hvo.symm
         subst hvo
         obtain ⟨wa, rfl⟩ : ∃ wa : World, wa = wr := ⟨_, rfl⟩
         by_cases hlt : k < nm
         ·obtain ⟨q, hq⟩ : ∃ q, u[k]? = some q := ⟨_, List.getElem?_eq_getElem (by rw [Lu.out]; exact hlt)⟩
          have HB2 := Lib.hid (HB.out.trans (HBL.out.mono HB.out.size))
          obtain ⟨b2, o2, rfl, hC0⟩ := (Hu0.out.below HB2.out).at_ hlt hq
          have HT := Lib.hid (colB_take hq)
          clear hq
          have HR1 := Lib.hid (nrow_one wa q)
          have hz1 := below_new wa (.cells #[.string q] strT)
          have hz2 := below_new (wa.alloc (.cells #[.string q] strT)) (.cells #[.slice (some ⟨wa.heap.size, 0, none⟩) 1 1] vecT)
          have HX := Lib.hid (one_reads (wa.alloc (.cells #[.string q] strT)) vecT (.slice (some ⟨wa.heap.size, 0, none⟩) 1 1))
          have HZ := Lib.hid (hz1.trans (hz2.mono hz1.size))
          replace HR1 := Lib.hid ((HR1.out.call hz2).less HBL.out.size)
          obtain ⟨vs, hg1, hg2, hg3⟩ := HN0.out.call HZ.out
          have HN1 := Lib.hid hg1
          have HBB := Lib.hid (HBL.out.trans (HZ.out.mono HBL.out.size))
          clear hz1 hz2 HN0 HBL HZ
          have hvl : vs.length ≤ 1000 := by rw [hg2, List.length_take]; omega
          simp only [World.size_alloc] at HX
          replace HX := Lib.hid (HX.out.more (B' := ((wa.alloc (.cells #[.string q] strT)).alloc (.cells #[.slice (some ⟨wa.heap.size, 0, none⟩) 1 1] vecT)).heap.size) (by simp only [World.size_alloc]; exact Nat.le_refl _))
          unfold strT vecT at *
          go_wp2_with (at_builtin; refine wpList_appG rfl _ _ HAV.out rfl w6.heap.size vo vs rfl HN1.out (some ⟨wa.heap.size + 1, 0, none⟩) 1 1 rfl [.slice (some ⟨wa.heap.size, 0, none⟩) 1 1] HX.out (fun u hu => by rw [List.mem_singleton.1 hu]; exact ⟨noWord_slice _ _ _, rfl⟩) (by omega) HBB.out.size ?_)
          intro v5 w5x hap
          have HNN := Lib.hid (show GS w5x w6.heap.size v5 ((colB u).take (k + 1)) by rw [HT.out]; exact GS.snoc hg1 hg2 hg3 HR1.out hap)
          have HBN := Lib.hid (HBB.out.trans (hap.below HN1.out HBB.out.size))
          clear hap HN1 HBB HX HT HB2 hvl hg1 hg2 hg3 HR1
          go_wp2
          go_roundg (nm - (k + 1))
          case measure => omega
          case rel => exact ⟨k + 1, _, rfl, rfl, by go_num, by omega, HNN, HBN⟩
         ·have hkn : k = nm := by omega
          have hkn2 := hkn.symm
          subst hkn2
          clear hkn
          have hg := HN0.out
          rw [List.take_of_length_le (by rw [HLC.out]; exact Nat.le_refl _)] at hg
          obtain ⟨A9, c9, rfl⟩ : ∃ A9 c9, vo = .slice A9 nm c9 := by
           obtain ⟨vs, h1, h2, _⟩ := hg
           obtain ⟨A9, c9, e⟩ := h1.val
           rw [h2, HLC.out] at e
           exact ⟨A9, c9, e⟩
          have HC9 := Lib.hid (hg.smat HLC.out)
          clear hg HN0
          replace HU := Lib.hid (HU.out.below HBL.out)
          replace HB := Lib.hid (HB.out.trans (HBL.out.mono HB.out.size))
          clear HBL
          obtain ⟨hb1, hb⟩ := smat_one (c := cj) (Hj0.out.below HB.out)
          replace HC9 := Lib.hid (HC9.out.below hb)
          have hbs := HB.out.size
          replace HB := Lib.hid (HB.out.trans (hb.mono hbs))
          clear hbs
          replace HU := Lib.hid (HU.out.below hb)
          clear hb
          unfold vecT at *
          have SC9 := Lib.hid (show Sh2 (colB u) from fun l hl => by obtain ⟨q, hq, rfl⟩ := List.mem_map.1 hl; exact fun s hs => by rw [List.mem_singleton.1 hs]; exact Su.out q hq)
          have S91 := Lib.hid (show Sh2 [j] from fun l hl => by rw [List.mem_singleton.1 hl]; exact Sj.out)
          have HME := Lib.hid (show mulM (tx2 (colB u)) (tx2 [j]) = (tx2 (unT p), 0) by rw [tx_colB]; exact HMUL.out)
          have HC := Lib.hid (mulM_any (colB u) [j] nm 1 A9 _ c9 1 _ HC9.out hb1 SC9.out S91.out (tab_below HTB.out HB.out))
          go_wp2_with fail
          refine HC.out.mono ?_
          rintro e w7 h
          clear HC
          obtain ⟨Ap, np, cp, rfl, hm, hn, hs, hb⟩ := h.known (m := unT p) (HME.out)
          clear h
          have hbs := HB.out.size
          replace HB := Lib.hid (HB.out.trans (hb.mono hbs))
          clear hbs
          replace HU := Lib.hid (HU.out.below hb)
          clear hb
          have Hp := Lib.hid hm
          have Lp := Lib.hid hn
          have Sp := Lib.hid hs
          clear hm hn hs
          clear hb1 HC9 SC9 S91 HMUL HME
          have HC := Lib.hid (addM_any m nm Am cm (unT p) np Ap cp w7 (Hm0.out.below HB.out) Sm.out Hp.out Sp.out (tab_below HTB.out HB.out))
          go_wp2_with fail
          refine HC.out.mono ?_
          rintro e w8 h
          clear HC
          obtain ⟨As, ns, cs, rfl, hm, hn, hs, hb⟩ := h.known (m := S) (HADD.out)
          clear h
          have hbs := HB.out.size
          replace HB := Lib.hid (HB.out.trans (hb.mono hbs))
          clear hbs
          replace HU := Lib.hid (HU.out.below hb)
          clear hb
          have Hs := Lib.hid hm
          have Ls := Lib.hid hn
          have Ss := Lib.hid hs
          clear hm hn hs
          clear Hp Lp Sp HADD
          have HX := Lib.hid (fine_any [0, 0] 2 (some ⟨w8.heap.size, 0, none⟩) 2 (w8.alloc (.cells #[I 0, I 0] 34)) _ (reads_lits w8 _ [I 0, I 0]) (by omega))
          rw [show fineB [0, 0] = true from rfl] at HX
          have hb := below_new w8 (.cells #[I 0, I 0] 34)
          have hbs := HB.out.size
          replace HB := Lib.hid (HB.out.trans (hb.mono hbs))
          clear hbs
          replace HU := Lib.hid (HU.out.below hb)
          replace Hs := Lib.hid (Hs.out.below hb)
          clear hb
          go_wp2_with fail
          refine HX.out.mono ?_
          rintro e w9 ⟨rfl, rfl⟩
          clear HX
          generalize (w8.alloc (.cells #[I 0, I 0] 34)) = w10 at *
          have LTs := Lib.hid (show (tx2 S).length = nm from HVM.out.rect.1)
          have hnsn : nm = ns := by have h := LTs.out; rw [tx2, List.length_map, Ls.out] at h; exact h.symm
          subst hnsn
          have HC := Lib.hid (fnew_any S nm As cs w10 Hs.out Ss.out (tab_below HTB.out HB.out) (sm4_h5 HVS.out HS2.out))
          go_wp2_with fail
          refine HC.out.mono ?_
          rintro e w11 ⟨hbad, hok, hb⟩
          clear HC
          rw [LTs.out, HVS.out] at hok
          by_cases hr : Reg (addOut (valsM (tx2 m)) (valsV (tx1 u)) (valsV (tx1 j))) nm
          ·have hz2 := HNS.out.2.2 (by rw [HVS.out]; exact hr)
           obtain ⟨g2, rfl, hf⟩ := hok hz2
           have hup := updT_ok HFU.out HFV2.out hr
           rw [hup]
           clear hbad hok hz2
           have hbs := HB.out.size
           replace HB := Lib.hid (HB.out.trans (hb.mono hbs))
           clear hbs
           replace HU := Lib.hid (HU.out.below hb)
           replace Hs := Lib.hid (Hs.out.below hb)
           clear hb
           have HF := Lib.hid (HU.out.2 hup)
           have HF2 := Lib.hid (hf.less (Nat.zero_le _))
           clear HU hup hf
           have HRV := Lib.hid (rect_inv HS2.out.rect)
           have HVF2 := Lib.hid (fit_all HS2.out.inv)
           generalize addOut (valsM (tx2 m)) (valsV (tx1 u)) (valsV (tx1 j)) = M2 at *
           have HFLN := Lib.hid (fsolT_len (invQ M2 nm) nm (tx1 b))
           rw [HRV.out.1] at HFLN
           have hn4 := HS2.out.n4
           have HC := Lib.hid (fsolve_any g nm M2 (invQ M2 nm) (detR M2 nm) 0 w11 HF.out b nb Ab cb (Hb0.out.below HB.out) Sb.out HRV.out HVF2.out (by omega) (tab_below HTB.out HB.out))
           go_wp2_with fail
           refine HC.out.mono ?_
           rintro e w12 ⟨Ay, ny, cy, y, rfl, hy, hey, hsy, hb⟩
           clear HC
           have hbs := HB.out.size
           replace HB := Lib.hid (HB.out.trans (hb.mono hbs))
           clear hbs
           replace HF := Lib.hid (HF.out.below hb)
           replace HF2 := Lib.hid (HF2.out.below hb)
           replace Hs := Lib.hid (Hs.out.below hb)
           clear hb
           have Hy := Lib.hid hy
           have Ey := Lib.hid hey
           have Ly := Lib.hid hy.len
           clear hy hey hsy
           have HC := Lib.hid (fsolve_any g2 nm M2 (invQ M2 nm) (detR M2 nm) 0 w12 HF2.out b nb Ab cb (Hb0.out.below HB.out) Sb.out HRV.out HVF2.out (by omega) (tab_below HTB.out HB.out))
           go_wp2_with fail
           refine HC.out.mono ?_
           rintro e w13 ⟨Az, nz, cz, z, rfl, hz, hez, hsz, hb⟩
           clear HC
           have hbs := HB.out.size
           replace HB := Lib.hid (HB.out.trans (hb.mono hbs))
           clear hbs
           replace HF := Lib.hid (HF.out.below hb)
           replace HF2 := Lib.hid (HF2.out.below hb)
           replace Hs := Lib.hid (Hs.out.below hb)
           replace Hy := Lib.hid (Hy.out.below hb)
           clear hb
           obtain rfl := tx1_inj (Ey.out.trans hez.symm)
           have Hz := Lib.hid hz
           clear hz hez hsz
           have hny : ny ≤ 5 := by
            have h := HFLN.out
            rw [← Ey.out, tx1, List.length_map, Ly.out] at h
            omega
           clear Ey HFLN
           generalize (fsolT (invQ M2 nm) nm (tx1 b)).2 = se at *
           have HC := Lib.hid (fmatrix_any g nm M2 (invQ M2 nm) (detR M2 nm) 0 w13 HF.out HS2.out.rect (by omega) (tab_below HTB.out HB.out))
           go_wp2_with fail
           refine HC.out.mono ?_
           rintro e w14 h
           clear HC
           obtain ⟨Ax, nx, cx, rfl, hm, hn, hs, hb⟩ := h.known (m := S) (HST.out)
           clear h
           have hbs := HB.out.size
           replace HB := Lib.hid (HB.out.trans (hb.mono hbs))
           clear hbs
           replace HF := Lib.hid (HF.out.below hb)
           replace HF2 := Lib.hid (HF2.out.below hb)
           replace Hs := Lib.hid (Hs.out.below hb)
           replace Hy := Lib.hid (Hy.out.below hb)
           replace Hz := Lib.hid (Hz.out.below hb)
           clear hb
           have Hx := Lib.hid hm
           have Lx := Lib.hid hn
           have Sx := Lib.hid hs
           clear hm hn hs
           have HC := Lib.hid (fdet_any g nm M2 (invQ M2 nm) (detR M2 nm) 0 w14 HF.out HS2.out.detfit (tab_below HTB.out HB.out))
           go_wp2_with fail
           refine HC.out.mono ?_
           rintro e w15 ⟨rfl, hb⟩
           clear HC
           have hbs := HB.out.size
           replace HB := Lib.hid (HB.out.trans (hb.mono hbs))
           clear hbs
           replace HF := Lib.hid (HF.out.below hb)
           replace HF2 := Lib.hid (HF2.out.below hb)
           replace Hs := Lib.hid (Hs.out.below hb)
           replace Hy := Lib.hid (Hy.out.below hb)
           replace Hz := Lib.hid (Hz.out.below hb)
           replace Hx := Lib.hid (Hx.out.below hb)
           clear hb
           have HC := Lib.hid (fdet_any g2 nm M2 (invQ M2 nm) (detR M2 nm) 0 w15 HF2.out HS2.out.detfit (tab_below HTB.out HB.out))
           go_wp2_with fail
           refine HC.out.mono ?_
           rintro e w16 ⟨rfl, hb⟩
           clear HC
           have hbs := HB.out.size
           replace HB := Lib.hid (HB.out.trans (hb.mono hbs))
           clear hbs
           replace HF := Lib.hid (HF.out.below hb)
           replace HF2 := Lib.hid (HF2.out.below hb)
           replace Hs := Lib.hid (Hs.out.below hb)
           replace Hy := Lib.hid (Hy.out.below hb)
           replace Hz := Lib.hid (Hz.out.below hb)
           replace Hx := Lib.hid (Hx.out.below hb)
           clear hb
           have HC := Lib.hid (equalV_any y y ny nz Ay Az cy cz w16 Hy.out Hz.out (by omega))
           go_wp2_with fail
           refine HC.out.mono ?_
           rintro e w17 ⟨rfl, hb⟩
           clear HC
           simp only [decide_true]
           have hbs := HB.out.size
           replace HB := Lib.hid (HB.out.trans (hb.mono hbs))
           clear hbs
           replace HF := Lib.hid (HF.out.below hb)
           replace HF2 := Lib.hid (HF2.out.below hb)
           replace Hs := Lib.hid (Hs.out.below hb)
           replace Hy := Lib.hid (Hy.out.below hb)
           replace Hz := Lib.hid (Hz.out.below hb)
           replace Hx := Lib.hid (Hx.out.below hb)
           clear hb
           have HX := Lib.hid (fine_any [0, 0, 0] 3 (some ⟨w17.heap.size, 0, none⟩) 3 (w17.alloc (.cells #[I 0, I 0, I 0] 34)) _ (reads_lits w17 _ [I 0, I 0, I 0]) (by omega))
           rw [show fineB [0, 0, 0] = true from rfl] at HX
           have hb := below_new w17 (.cells #[I 0, I 0, I 0] 34)
           have hbs := HB.out.size
           replace HB := Lib.hid (HB.out.trans (hb.mono hbs))
           clear hbs
           replace HF := Lib.hid (HF.out.below hb)
           replace HF2 := Lib.hid (HF2.out.below hb)
           replace Hs := Lib.hid (Hs.out.below hb)
           replace Hy := Lib.hid (Hy.out.below hb)
           replace Hz := Lib.hid (Hz.out.below hb)
           replace Hx := Lib.hid (Hx.out.below hb)
           clear hb
           go_wp2_with fail
           refine HX.out.mono ?_
           rintro e w18 ⟨rfl, rfl⟩
           clear HX
           have HC := Lib.hid (same_any S S nx nm Ax As cx cs (w17.alloc (.cells #[I 0, I 0, I 0] 34)) Hx.out Hs.out (by have h := Lx.out; have h2 := Ls.out; omega) (fun l hl => by have h := HVM.out.rect.2 (tx1 l) (List.mem_map_of_mem hl); rw [tx1, List.length_map] at h; omega))
           go_wp2_with fail
           refine HC.out.mono ?_
           rintro e w19 ⟨rfl, hb⟩
           clear HC
           simp only [decide_true]
           have hbs := HB.out.size
           replace HB := Lib.hid (HB.out.trans (hb.mono hbs))
           clear hbs
           replace HF := Lib.hid (HF.out.below hb)
           replace HF2 := Lib.hid (HF2.out.below hb)
           replace Hs := Lib.hid (Hs.out.below hb)
           replace Hy := Lib.hid (Hy.out.below hb)
           replace Hz := Lib.hid (Hz.out.below hb)
           replace Hx := Lib.hid (Hx.out.below hb)
           clear hb
           go_wp2
           go_ret
           exact ⟨rfl, HB.out⟩
          ·have hz2 := HNS.out.2.1 (by rw [HVS.out]; exact hr)
           have he := hbad (by rw [hz2]; decide)
           rw [hz2] at he
           subst he
           have hup := updT_ten HFU.out HFV2.out HRG.out.rect hr
           rw [hup]
           have hbs := HB.out.size
           replace HB := Lib.hid (HB.out.trans (hb.mono hbs))
           clear hbs
           replace HU := Lib.hid (HU.out.below hb)
           replace Hs := Lib.hid (Hs.out.below hb)
           clear hb
           have HF := Lib.hid (HU.out.1 (by rw [hup]; decide))
           clear HU hup hbad hok hz2 hr
           have HC := Lib.hid (fmatrix_any g nm (valsM (tx2 m)) (invQ (valsM (tx2 m)) nm) (detR (valsM (tx2 m)) nm) 0 w11 HF.out HRG.out.rect (by have := HSM.out.n4; omega) (tab_below HTB.out HB.out))
           go_wp2_with fail
           refine HC.out.mono ?_
           rintro e w12 h
           clear HC
           obtain ⟨Ax, nx, cx, rfl, hm, hn, hs, hb⟩ := h.known (m := m) (HTX.out)
           clear h
           have hbs := HB.out.size
           replace HB := Lib.hid (HB.out.trans (hb.mono hbs))
           clear hbs
           replace HF := Lib.hid (HF.out.below hb)
           clear hb
           have Hx := Lib.hid hm
           have Lx := Lib.hid hn
           have Sx := Lib.hid hs
           clear hm hn hs
           have HC := Lib.hid (same_any m m nx nm Ax Am cx cm w12 Hx.out (Hm0.out.below HB.out) (by have h := Lx.out; have h2 := Lm.out; have h3 := HSM.out.n4; omega) (fun l hl => by have h := small_rows4 Zm.out l hl; omega))
           go_wp2_with fail
           refine HC.out.mono ?_
           rintro e w13 ⟨rfl, hb⟩
           clear HC
           simp only [decide_true]
           have hbs := HB.out.size
           replace HB := Lib.hid (HB.out.trans (hb.mono hbs))
           clear hbs
           replace HF := Lib.hid (HF.out.below hb)
           replace Hx := Lib.hid (Hx.out.below hb)
           clear hb
           go_wp2
           go_ret
           exact ⟨rfl, HB.out⟩
       ·have tcv : (chkV (tx1 j) != 0) = true := bad_of hcv
        have hup : updT (valsM (tx2 m)) nm (tx1 u) (tx1 j) ≠ 0 := updT_bad fun k => hcv k.2.2.2
        have HF := Lib.hid (HU.out.1 hup)
        have tc : (updT (valsM (tx2 m)) nm (tx1 u) (tx1 j) != 0) = true := bad_of hup
        clear HU HS hup
        generalize updT (valsM (tx2 m)) nm (tx1 u) (tx1 j) = cc at *
        have HC := Lib.hid (fmatrix_any g nm (valsM (tx2 m)) (invQ (valsM (tx2 m)) nm) (detR (valsM (tx2 m)) nm) 0 w6 HF.out HRG.out.rect (by have := HSM.out.n4; omega) (tab_below HTB.out HB.out))
        go_wp2_with fail
        refine HC.out.mono ?_
        rintro e w7 h
        clear HC
        obtain ⟨Ax, nx, cx, rfl, hm, hn, hs, hb⟩ := h.known (m := m) (HTX.out)
        clear h
        have hbs := HB.out.size
        replace HB := Lib.hid (HB.out.trans (hb.mono hbs))
        clear hbs
        replace HF := Lib.hid (HF.out.below hb)
        clear hb
        have Hx := Lib.hid hm
        have Lx := Lib.hid hn
        have Sx := Lib.hid hs
        clear hm hn hs
        have HC := Lib.hid (same_any m m nx nm Ax Am cx cm w7 Hx.out (Hm0.out.below HB.out) (by have h := Lx.out; have h2 := Lm.out; have h3 := HSM.out.n4; omega) (fun l hl => by have h := small_rows4 Zm.out l hl; omega))
        go_wp2_with fail
        refine HC.out.mono ?_
        rintro e w8 ⟨rfl, hb⟩
        clear HC
        simp only [decide_true]
        have hbs := HB.out.size
        replace HB := Lib.hid (HB.out.trans (hb.mono hbs))
        clear hbs
        replace HF := Lib.hid (HF.out.below hb)
        replace Hx := Lib.hid (Hx.out.below hb)
        clear hb
        go_wp2
        go_ret
        exact ⟨rfl, HB.out⟩
      ·have tcu : (chkV (tx1 u) != 0) = true := bad_of hcu
       have hup : updT (valsM (tx2 m)) nm (tx1 u) (tx1 j) ≠ 0 := updT_bad fun k => hcu k.2.2.1
       have HF := Lib.hid (HU.out.1 hup)
       have tc : (updT (valsM (tx2 m)) nm (tx1 u) (tx1 j) != 0) = true := bad_of hup
       clear HU HS hup
       generalize updT (valsM (tx2 m)) nm (tx1 u) (tx1 j) = cc at *
       have HC := Lib.hid (fmatrix_any g nm (valsM (tx2 m)) (invQ (valsM (tx2 m)) nm) (detR (valsM (tx2 m)) nm) 0 w5 HF.out HRG.out.rect (by have := HSM.out.n4; omega) (tab_below HTB.out HB.out))
       go_wp2_with fail
       refine HC.out.mono ?_
       rintro e w6 h
       clear HC
       obtain ⟨Ax, nx, cx, rfl, hm, hn, hs, hb⟩ := h.known (m := m) (HTX.out)
       clear h
       have hbs := HB.out.size
       replace HB := Lib.hid (HB.out.trans (hb.mono hbs))
       clear hbs
       replace HF := Lib.hid (HF.out.below hb)
       clear hb
       have Hx := Lib.hid hm
       have Lx := Lib.hid hn
       have Sx := Lib.hid hs
       clear hm hn hs
       have HC := Lib.hid (same_any m m nx nm Ax Am cx cm w6 Hx.out (Hm0.out.below HB.out) (by have h := Lx.out; have h2 := Lm.out; have h3 := HSM.out.n4; omega) (fun l hl => by have h := small_rows4 Zm.out l hl; omega))
       go_wp2_with fail
       refine HC.out.mono ?_
       rintro e w7 ⟨rfl, hb⟩
       clear HC
       simp only [decide_true]
       have hbs := HB.out.size
       replace HB := Lib.hid (HB.out.trans (hb.mono hbs))
       clear hbs
       replace HF := Lib.hid (HF.out.below hb)
       replace Hx := Lib.hid (Hx.out.below hb)
       clear hb
       go_wp2
       go_ret
       exact ⟨rfl, HB.out⟩
     ·skip
      have hup : updT (valsM (tx2 m)) nm (tx1 u) (tx1 j) ≠ 0 := updT_bad fun k => hlv (LTv.out.symm.trans k.2.1)
      have HF := Lib.hid (HU.out.1 hup)
      have tc : (updT (valsM (tx2 m)) nm (tx1 u) (tx1 j) != 0) = true := bad_of hup
      clear HU HS hup
      generalize updT (valsM (tx2 m)) nm (tx1 u) (tx1 j) = cc at *
      have HC := Lib.hid (fmatrix_any g nm (valsM (tx2 m)) (invQ (valsM (tx2 m)) nm) (detR (valsM (tx2 m)) nm) 0 w4 HF.out HRG.out.rect (by have := HSM.out.n4; omega) (tab_below HTB.out HB.out))
      go_wp2_with fail
      refine HC.out.mono ?_
      rintro e w5 h
      clear HC
      obtain ⟨Ax, nx, cx, rfl, hm, hn, hs, hb⟩ := h.known (m := m) (HTX.out)
      clear h
      have hbs := HB.out.size
      replace HB := Lib.hid (HB.out.trans (hb.mono hbs))
      clear hbs
      replace HF := Lib.hid (HF.out.below hb)
      clear hb
      have Hx := Lib.hid hm
      have Lx := Lib.hid hn
      have Sx := Lib.hid hs
      clear hm hn hs
      have HC := Lib.hid (same_any m m nx nm Ax Am cx cm w5 Hx.out (Hm0.out.below HB.out) (by have h := Lx.out; have h2 := Lm.out; have h3 := HSM.out.n4; omega) (fun l hl => by have h := small_rows4 Zm.out l hl; omega))
      go_wp2_with fail
      refine HC.out.mono ?_
      rintro e w6 ⟨rfl, hb⟩
      clear HC
      simp only [decide_true]
      have hbs := HB.out.size
      replace HB := Lib.hid (HB.out.trans (hb.mono hbs))
      clear hbs
      replace HF := Lib.hid (HF.out.below hb)
      replace Hx := Lib.hid (Hx.out.below hb)
      clear hb
      go_wp2
      go_ret
      exact ⟨rfl, HB.out⟩
    ·skip
     have hup : updT (valsM (tx2 m)) nm (tx1 u) (tx1 j) ≠ 0 := updT_bad fun k => hlu (LTu.out.symm.trans k.1)
     have HF := Lib.hid (HU.out.1 hup)
     have tc : (updT (valsM (tx2 m)) nm (tx1 u) (tx1 j) != 0) = true := bad_of hup
     clear HU HS hup
     generalize updT (valsM (tx2 m)) nm (tx1 u) (tx1 j) = cc at *
     have HC := Lib.hid (fmatrix_any g nm (valsM (tx2 m)) (invQ (valsM (tx2 m)) nm) (detR (valsM (tx2 m)) nm) 0 w4 HF.out HRG.out.rect (by have := HSM.out.n4; omega) (tab_below HTB.out HB.out))
     go_wp2_with fail
     refine HC.out.mono ?_
     rintro e w5 h
     clear HC
     obtain ⟨Ax, nx, cx, rfl, hm, hn, hs, hb⟩ := h.known (m := m) (HTX.out)
     clear h
     have hbs := HB.out.size
     replace HB := Lib.hid (HB.out.trans (hb.mono hbs))
     clear hbs
     replace HF := Lib.hid (HF.out.below hb)
     clear hb
     have Hx := Lib.hid hm
     have Lx := Lib.hid hn
     have Sx := Lib.hid hs
     clear hm hn hs
     have HC := Lib.hid (same_any m m nx nm Ax Am cx cm w5 Hx.out (Hm0.out.below HB.out) (by have h := Lx.out; have h2 := Lm.out; have h3 := HSM.out.n4; omega) (fun l hl => by have h := small_rows4 Zm.out l hl; omega))
     go_wp2_with fail
     refine HC.out.mono ?_
     rintro e w6 ⟨rfl, hb⟩
     clear HC
     simp only [decide_true]
     have hbs := HB.out.size
     replace HB := Lib.hid (HB.out.trans (hb.mono hbs))
     clear hbs
     replace HF := Lib.hid (HF.out.below hb)
     replace Hx := Lib.hid (Hx.out.below hb)
     clear hb
     go_wp2
     go_ret
     exact ⟨rfl, HB.out⟩
  ·have hne := hbad hz
   subst hne
   have tc : (newT (tx2 m) != 0) = true := bad_of hz
   have hbs := HB.out.size
   replace HB := Lib.hid (HB.out.trans (hb.mono hbs))
   clear hbs
   clear hb
   clear hbad hok hz
   generalize newT (tx2 m) = cc at *
   go_wp2
   go_ret
   exact ⟨rfl, HB.out⟩
end Go.Proofs.YtgecdcjfncfmcaaGreatDoor
