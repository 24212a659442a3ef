/- RatingLefts: the walk. RatingLefts returns true for every input: a branch can carry its flow for as long as Left tells, and not a second longer. No conditions. The row's listed variables hold what the program's text lays (the card ties them). -/
import Derived.Test.YtfigffaghaaaoaaGreatDoorRX5
import Derived.Test.YtfigffaghaaaoaaGreatDoorRDR
import Derived.ShutString
import Derived.ChangeMaps5
namespace Go.Proofs.YtfigffaghaaaoaaGreatDoor
open Go.RowKit

set_option maxRecDepth 100000 in
set_option maxHeartbeats 16000000 in
theorem ratingLefts_any (n : NetD) (v : NetV) (l : List ByteArray) (nl : Nat) (A : Option Addr) (c : Nat) (a : Int) (w : World) (hN : Net w n v) (hv : SV w A nl l) (hsb : Sh1 l)  (htab : Tab w) : Calls Tryz.prog 3 #[v.val n, .slice A nl c, I a] w fun e w' => e = .returned (.bool true) ∧ Below w.heap.size w w' := by
  have hz := below_new w (Obj.cells (v.parts n) 29)
  have HN := Lib.hid (hN.below hz)
  have HG := Lib.hid (Blk.new w 29 (v.parts n))
  have HZ := Lib.hid hz
  have HVC := Lib.hid (hv.below hz)
  have HSB := Lib.hid hsb
  have HTB := Lib.hid (tab_below htab hz)
  clear hz hN hv hsb htab
  unfold NetV.val NetV.parts at *
  go_enter Tryz.func3, Tryz.ntmps3
  have HC := Lib.hid (ratingFact_any (w.alloc (Obj.cells #[.slice v.na n.nodes.length v.nc, .slice v.sa n.switches.length v.sc, .slice v.ba n.branches.length v.bc, .slice v.ga n.gens.length v.gc, .slice v.la n.loads.length v.lc, .slice v.ta n.stores.length v.tc] 29)) HTB.out)
  go_wp2_with fail
  refine HC.out.mono ?_
  rintro e w1 ⟨rfl, hb⟩
  clear HC
  replace HN := Lib.hid (HN.out.below hb)
  replace HG := Lib.hid (HG.out.below hb HG.out.lt)
  replace HZ := Lib.hid (HZ.out.trans (hb.mono HZ.out.size))
  replace HVC := Lib.hid (HVC.out.below hb)
  replace HTB := Lib.hid (tab_below HTB.out hb)
  have HB := Lib.hid (Below.refl w1.heap.size w1)
  clear hb
  have hgl : w.heap.size < w1.heap.size := HG.out.lt
  by_cases e : checkN n = 0
  · have HE := Lib.hid e
    have HVN := Lib.hid (vnet e)
    have HNB := Lib.hid (show n.branches.length ≤ 24 from HVN.out.hb)
    have HM0 := Lib.hid (stM_zero HVN.out)
    clear e
    have x0 := (HG.out.below HB.out hgl).cell 0
    have x1 := (HG.out.below HB.out hgl).cell 1
    have x2 := (HG.out.below HB.out hgl).cell 2
    have x3 := (HG.out.below HB.out hgl).cell 3
    have x4 := (HG.out.below HB.out hgl).cell 4
    have x5 := (HG.out.below HB.out hgl).cell 5
    have HBsp := Lib.hid HB.out.size
    have HC := Lib.hid (show Calls Tryz.prog 7 #[.agg #[.slice v.na n.nodes.length v.nc, .slice v.sa n.switches.length v.sc, .slice v.ba n.branches.length v.bc, .slice v.ga n.gens.length v.gc, .slice v.la n.loads.length v.lc, .slice v.ta n.stores.length v.tc]] w1 (fun e w' => ∃ p, e = .returned (.tuple #[.pointer (some ⟨p.g, 0, none⟩), I 0]) ∧ WS w' w1.heap.size p n.branches (List.replicate n.branches.length rt0) 0 ∧ Below w1.heap.size w1 w') from (rnew_any n v w1 (HN.out.below HB.out)).mono fun e w' h => by
        obtain ⟨p, h1, h2⟩ := h.2.1 HE.out
        exact ⟨p, h1, h2, h.2.2⟩)
    go_wp2_with fail
    refine HC.out.mono ?_
    rintro e w2 ⟨p, rfl, hws, hb⟩
    clear HC
    have hbs := HB.out.size
    replace HB := Lib.hid (HB.out.trans (hb.mono hbs))
    clear hbs
    clear hb
    clear x0 x1 x2 x3 x4 x5
    have HWp := Lib.hid hws
    have HPp := Lib.hid hws.plt
    have HOp := Lib.hid (off_old HVC.out hws HBsp.out)
    clear hws
    have HBep := Lib.hid (Nat.le_refl w2.heap.size)
    have hpa := pickN_range a (n := 300) (by decide)
    have HC := Lib.hid (pick_at a 300 w2 (by decide) (by decide))
    go_wp2_with fail
    refine HC.out.mono ?_
    rintro e w3 ⟨rfl, rfl⟩
    clear HC
    generalize pickN a 300 = pa at *
    have HMA := Lib.hid (stM_stS (l := l) (s := 1 + pa) (t := 0) HM0.out (by omega) (by decide))
    have HC := Lib.hid (rstepU_any p n.branches (List.replicate n.branches.length rt0) 0 w1.heap.size w3 HWp.out HNB.out (HM0.out.ok (by decide)) (by decide) (by decide) l nl A c (HVC.out.below HB.out) HSB.out HOp.out (tab_below HTB.out HB.out) (1 + pa) (by omega))
    go_wp2_with fail
    refine HC.out.mono ?_
    rintro e w4 ⟨AHR1, cHR1, rfl, hrow, hws, hch, hb⟩
    clear HC
    replace HBep := Lib.hid (Nat.le_trans HBep.out hb.size)
    replace HB := Lib.hid (HB.out.trans (hb.mono HBsp.out))
    replace HWp := Lib.hid hws
    have HR1 := Lib.hid hrow
    clear hrow hws hch hb
    by_cases hE : stepE n.branches.length (tx1 l) (1 + pa) 0 = 0
    · have K1 := Lib.hid hE
      have K2 := Lib.hid (show stS n.branches (tx1 l) (1 + pa) 0 (List.replicate n.branches.length rt0) = stepL n.branches (valsV (tx1 l)) (1 + pa) (List.replicate n.branches.length rt0) by rw [stS, if_pos hE])
      have K3 := Lib.hid (show stT n.branches (tx1 l) (1 + pa) 0 = 1 + pa by rw [stT, if_pos hE, Int.zero_add])
      have K4 := Lib.hid (stepE_ok hE)
      rw [hE]
      clear hE HR1
      rw [K2.out, K3.out] at HWp
      rw [K2.out] at HMA
      generalize hst1 : stepL n.branches (valsV (tx1 l)) (1 + pa) (List.replicate n.branches.length rt0) = st1 at *
      have HST := Lib.hid hst1
      clear hst1
      have HC := Lib.hid (rleft_any p n.branches st1 _ w1.heap.size w4 HWp.out HNB.out (HMA.out.ok (by omega)))
      go_wp2_with fail
      refine HC.out.mono ?_
      rintro e w5 ⟨AHL1, cHL1, rfl, hrow, hb⟩
      clear HC
      have hbs := HB.out.size
      replace HB := Lib.hid (HB.out.trans (hb.mono hbs))
      clear hbs
      replace HWp := Lib.hid (HWp.out.call hb)
      replace HBep := Lib.hid (Nat.le_trans HBep.out hb.size)
      clear hb
      have HL1 := Lib.hid hrow
      clear hrow
      have HLE := Lib.hid (leftL_len n.branches st1 HMA.out.len)
      rw [HLE.out] at HL1 ⊢
      clear HWp HPp HOp HBep
      have HBL := HB
      clear HB
      have HB0 := Lib.hid (Below.refl w5.heap.size w5)
      go_wp2
      go_loopg [52] (n.branches.length - 0) (fun r v wr => ∃ k : Nat, r = n.branches.length - k ∧ v = I k ∧ k ≤ n.branches.length ∧ Hid (Below w5.heap.size w5 wr))
      case atStart => exact ⟨0, rfl, rfl, by omega, HB0⟩
      case round =>
        clear HB0
        obtain ⟨k, rfl, rfl, hk, HBK⟩ := hrel
        obtain ⟨wa, rfl⟩ : ∃ wa : World, wa = wr := ⟨_, rfl⟩
        have hnb := HNB.out
        by_cases hlt : k < n.branches.length
        · have hrd := (HL1.out.call HBK.out).reads
          obtain ⟨lb, lo, hla, _, u0, u1⟩ := lf_reads hrd (k := k) (by rw [HLE.out]; exact hlt)
          subst hla
          obtain ⟨b, hb⟩ : ∃ b, n.branches[k]? = some b := ⟨_, List.getElem?_eq_getElem hlt⟩
          obtain ⟨q, hq⟩ : ∃ q, (valsV (tx1 l))[k]? = some q := ⟨_, List.getElem?_eq_getElem (by rw [valsV, List.length_map, K4.out.2]; exact hlt)⟩
          have h0 : (List.replicate n.branches.length rt0)[k]? = some rt0 := by rw [List.getElem?_replicate, if_pos hlt]
          have hx := stepL_at n.branches (valsV (tx1 l)) (1 + pa) _ k b q rt0 hb hq h0
          rw [HST.out] at hx
          have hlk := leftL_at n.branches st1 k b _ hb hx
          rw [List.getElem?_eq_getElem (by rw [HLE.out]; exact hlt)] at hlk
          rw [Option.some.inj hlk] at u0 u1
          simp only at u0 u1
          have HLW := Lib.hid (fun (m : Int) (h1 : 1 ≤ leftB b (rtStep b q (1 + pa) rt0)) (hm : 0 ≤ m) => left_law (s := 1 + pa) (m := m) (br_nodup HVN.out) hb hq h1 hm)
          rw [HST.out] at HLW
          clear hrd hb hq h0 hx hlk
          generalize leftB b (rtStep b q (1 + pa) rt0) = lf at *
          generalize b.name = nm at *
          go_upto_region 13 with (fail)
          have hz := below_new wa (Obj.cells #[.string nm, I lf] 43)
          have HX := Lib.hid (Blk.new wa 43 #[.string nm, I lf])
          have HB := Lib.hid (HBL.out.trans (HBK.out.mono HBL.out.size))
          replace HB := Lib.hid (HB.out.trans (hz.mono HB.out.size))
          have HBK2 := Lib.hid (HBK.out.trans (hz.mono HBK.out.size))
          clear hz HBK u0 u1
          have hs9 := World.size_alloc wa (Obj.cells #[.string nm, I lf] 43)
          generalize wa.alloc (Obj.cells #[.string nm, I lf] 43) = W1 at *
          have hg1 : wa.heap.size < W1.heap.size := by omega
          clear hs9
          generalize wa.heap.size = ga at *
          have x0 := HX.out.cell 0
          have x1 := HX.out.cell 1
          change _ = some (Value.string nm) at x0
          change _ = some (I lf) at x1
          by_cases h1 : lf < 1
          · have h1d : decide (lf < 1) = true := decide_eq_true h1
            go_wp2
            clear x0 x1
            go_roundg (n.branches.length - (k + 1))
            case measure => omega
            case rel => exact ⟨k + 1, rfl, by go_num, by omega, HBK2⟩
          · have h1d : decide (lf < 1) = false := decide_eq_false h1
            by_cases h2 : lf > 1000
            · have h2d : decide (lf > 1000) = true := decide_eq_true h2
              go_wp2
              clear x0 x1
              go_roundg (n.branches.length - (k + 1))
              case measure => omega
              case rel => exact ⟨k + 1, rfl, by go_num, by omega, HBK2⟩
            · have h2d : decide (lf > 1000) = false := decide_eq_false h2
              have hlf1 : 1 ≤ lf := by omega
              have hlf2 : lf ≤ 1000 := by omega
              have HBI0 := Lib.hid (Below.refl W1.heap.size W1)
              have HXG := HX
              have HBG := HB
              clear HB
              go_wp2
              clear x0 x1 h1d h2d h1 h2
              go_loopg [64] (2 - 0) (fun r v wr => ∃ j : Nat, r = 2 - j ∧ v = I j ∧ j ≤ 2 ∧ Hid (Below W1.heap.size W1 wr))
              case atStart => exact ⟨0, rfl, rfl, by omega, HBI0⟩
              case round =>
                clear HBI0
                obtain ⟨j, rfl, rfl, hj, HBI⟩ := hrel
                obtain ⟨wc, rfl⟩ : ∃ wc : World, wc = wr := ⟨_, rfl⟩
                have HB := Lib.hid (HBG.out.trans (HBI.out.mono HBG.out.size))
                replace HX := Lib.hid (HX.out.below HBI.out hg1)
                by_cases hj2 : j < 2
                · have hj1 : (j : Int) < 2 := by omega
                  have hj0 : (0 : Int) ≤ (j : Int) := by omega
                  have HBw := Lib.hid HBI.out.size
                  have x0 := (HG.out.below HB.out hgl).cell 0
                  have x1 := (HG.out.below HB.out hgl).cell 1
                  have x2 := (HG.out.below HB.out hgl).cell 2
                  have x3 := (HG.out.below HB.out hgl).cell 3
                  have x4 := (HG.out.below HB.out hgl).cell 4
                  have x5 := (HG.out.below HB.out hgl).cell 5
                  have HBsq := Lib.hid HB.out.size
                  have HC := Lib.hid (show Calls Tryz.prog 7 #[.agg #[.slice v.na n.nodes.length v.nc, .slice v.sa n.switches.length v.sc, .slice v.ba n.branches.length v.bc, .slice v.ga n.gens.length v.gc, .slice v.la n.loads.length v.lc, .slice v.ta n.stores.length v.tc]] wc (fun e w' => ∃ p, e = .returned (.tuple #[.pointer (some ⟨p.g, 0, none⟩), I 0]) ∧ WS w' wc.heap.size p n.branches (List.replicate n.branches.length rt0) 0 ∧ Below wc.heap.size wc w') from (rnew_any n v wc (HN.out.below HB.out)).mono fun e w' h => by
                      obtain ⟨p, h1, h2⟩ := h.2.1 HE.out
                      exact ⟨p, h1, h2, h.2.2⟩)
                  go_wp2_with fail
                  refine HC.out.mono ?_
                  rintro e w31 ⟨q, rfl, hws, hb⟩
                  clear HC
                  replace HBI := Lib.hid (HBI.out.trans (hb.mono HBI.out.size))
                  have hbs := HB.out.size
                  replace HB := Lib.hid (HB.out.trans (hb.mono hbs))
                  clear hbs
                  replace HX := Lib.hid (HX.out.below hb HX.out.lt)
                  clear hb
                  clear x0 x1 x2 x3 x4 x5
                  have HWq := Lib.hid hws
                  have HPq := Lib.hid hws.plt
                  have HOq := Lib.hid (off_old HVC.out hws HBsq.out)
                  clear hws
                  have HBeq := Lib.hid (Nat.le_refl w31.heap.size)
                  have HC := Lib.hid (rstepU_any q n.branches (List.replicate n.branches.length rt0) 0 wc.heap.size w31 HWq.out HNB.out (HM0.out.ok (by decide)) (by decide) (by decide) l nl A c (HVC.out.below HB.out) HSB.out HOq.out (tab_below HTB.out HB.out) (1 + pa) (by omega))
                  go_wp2_with fail
                  refine HC.out.mono ?_
                  rintro e w32 ⟨AHR2, cHR2, rfl, hrow, hws, hch, hb⟩
                  clear HC
                  replace HBeq := Lib.hid (Nat.le_trans HBeq.out hb.size)
                  replace HBI := Lib.hid (HBI.out.trans (hb.mono HBw.out))
                  replace HX := Lib.hid (show Blk w32 ga 43 #[.string nm, I lf] from (hch.typ HWq.out HX.out (by decide) (by decide) (by decide) (by decide)).trans HX.out)
                  replace HB := Lib.hid (HB.out.trans (hb.mono HBsq.out))
                  replace HWq := Lib.hid hws
                  have HR2 := Lib.hid hrow
                  clear hrow hws hch hb
                  rw [K1.out]
                  rw [K2.out, K3.out] at HWq
                  clear HR2
                  have E2 := Lib.hid (show stepE n.branches.length (tx1 l) (lf + j) (1 + pa) = 0 by rw [← K1.out]; exact stepE_eq (by omega) (by omega) (by omega) (by omega))
                  have x1 := HX.out.cell 1
                  change _ = some (I lf) at x1
                  have HC := Lib.hid (rstepU_any q n.branches st1 (1 + pa) wc.heap.size w32 HWq.out HNB.out (HMA.out.ok (by omega)) (by omega) (by omega) l nl A c (HVC.out.below HB.out) HSB.out HOq.out (tab_below HTB.out HB.out) (lf + j) (by omega))
                  go_wp2_with fail
                  refine HC.out.mono ?_
                  rintro e w33 ⟨AHR3, cHR3, rfl, hrow, hws, hch, hb⟩
                  clear HC
                  replace HBeq := Lib.hid (Nat.le_trans HBeq.out hb.size)
                  replace HBI := Lib.hid (HBI.out.trans (hb.mono HBw.out))
                  replace HX := Lib.hid (show Blk w33 ga 43 #[.string nm, I lf] from (hch.typ HWq.out HX.out (by decide) (by decide) (by decide) (by decide)).trans HX.out)
                  replace HB := Lib.hid (HB.out.trans (hb.mono HBsq.out))
                  replace HWq := Lib.hid hws
                  have HR3 := Lib.hid hrow
                  clear hrow hws hch hb
                  clear x1
                  have HNM := Lib.hid (show stN n.branches (tx1 l) (lf + j) (1 + pa) st1 = overL n.branches (stepL n.branches (valsV (tx1 l)) (lf + j) st1) by rw [stN, if_pos E2.out])
                  rw [E2.out]
                  have hnl := stN_le n.branches (tx1 l) (lf + j) (1 + pa) st1
                  have HCT := Lib.hid (HLW.out (j : Int) hlf1 hj0)
                  rw [← HNM.out] at HCT
                  clear HNM E2 HWq HPq HOq HBeq
                  generalize stN n.branches (tx1 l) (lf + j) (1 + pa) st1 = nl2 at *
                  have hb := below_new w33 (.cells #[I 0, I 0] 34)
                  have hx := Blk.new w33 34 #[I 0, I 0]
                  replace HBI := Lib.hid (HBI.out.trans (hb.mono HBI.out.size))
                  have hbs := HB.out.size
                  replace HB := Lib.hid (HB.out.trans (hb.mono hbs))
                  clear hbs
                  replace HR3 := Lib.hid (HR3.out.call hb)
                  replace HX := Lib.hid (HX.out.below hb HX.out.lt)
                  clear hb
                  have HX := Lib.hid hx
                  clear hx
                  have HC := Lib.hid (fine_any [0, 0] 2 (some ⟨w33.heap.size, 0, none⟩) 2 (w33.alloc (.cells #[I 0, I 0] 34)) (w33.alloc (.cells #[I 0, I 0] 34)).heap.size (reads_blk (n := 2) (sz := 1) HX.out rfl) (by decide))
                  rw [show fineB [0, 0] = true from rfl] at HC
                  go_wp2_with fail
                  refine HC.out.mono ?_
                  rintro e w34 ⟨rfl, rfl⟩
                  clear HC
                  clear HX
                  generalize (w33.alloc (.cells #[I 0, I 0] 34)) = w35 at *
                  have x0 := HX.out.cell 0
                  change _ = some (Value.string nm) at x0
                  rcases (show j = 0 ∨ j = 1 by omega) with hjj | hjj
                  · have HCV := Lib.hid (show Lib.containsS nl2 nm = false by rw [HCT.out, hjj]; rfl)
                    have tj : ((j : Int) == 1) = false := by rw [hjj]; rfl
                    clear hjj
                    have HC := Lib.hid (containsS_any nl2 nl2.length AHR3 cHR3 nm w35 _ rfl HR3.out.reads (by have := HNB.out; omega))
                    rw [HCV.out] at HC
                    go_wp2_with fail
                    refine HC.out.mono ?_
                    rintro e w36 ⟨rfl, rfl⟩
                    clear HC
                    clear x0 HCT hnl
                    go_wp2
                    clear tj
                    go_roundg (2 - (j + 1))
                    case measure => omega
                    case rel => exact ⟨j + 1, rfl, by go_num, by omega, HBI⟩
                  · have HCV := Lib.hid (show Lib.containsS nl2 nm = true by rw [HCT.out, hjj]; rfl)
                    have tj : ((j : Int) == 1) = true := by rw [hjj]; rfl
                    clear hjj
                    have HC := Lib.hid (containsS_any nl2 nl2.length AHR3 cHR3 nm w35 _ rfl HR3.out.reads (by have := HNB.out; omega))
                    rw [HCV.out] at HC
                    go_wp2_with fail
                    refine HC.out.mono ?_
                    rintro e w36 ⟨rfl, rfl⟩
                    clear HC
                    clear x0 HCT hnl
                    go_wp2
                    clear tj
                    go_roundg (2 - (j + 1))
                    case measure => omega
                    case rel => exact ⟨j + 1, rfl, by go_num, by omega, HBI⟩
                · replace HBK2 := Lib.hid (HBK2.out.trans (HBI.out.mono HBK2.out.size))
                  clear HX HBI HB
                  go_wp2
                  go_roundg (n.branches.length - (k + 1))
                  case measure => omega
                  case rel => exact ⟨k + 1, rfl, by go_num, by omega, HBK2⟩
        · have HB := Lib.hid (HBL.out.trans (HBK.out.mono HBL.out.size))
          go_wp2
          go_ret
          exact ⟨rfl, HZ.out.trans (HB.out.mono HZ.out.size)⟩
    · have HNM := Lib.hid (show stN n.branches (tx1 l) (1 + pa) 0 (List.replicate n.branches.length rt0) = [] by rw [stN, if_neg hE])
      have tc : (stepE n.branches.length (tx1 l) (1 + pa) 0 != 0) = true := bne_iff_ne.2 hE
      rw [HNM.out]
      clear hE HR1 HNM
      generalize stepE n.branches.length (tx1 l) (1 + pa) 0 = ee at *
      go_wp2
      go_ret
      exact ⟨rfl, HZ.out.trans (HB.out.mono HZ.out.size)⟩
  · have HE := Lib.hid e
    generalize hck : checkN n = ck at *
    have HCK := Lib.hid hck
    have tc : (ck != 0) = true := bne_iff_ne.2 e
    have tc2 : (ck == ck) = true := beq_self_eq_true _
    clear e hck
    have x0 := (HG.out.below HB.out hgl).cell 0
    have x1 := (HG.out.below HB.out hgl).cell 1
    have x2 := (HG.out.below HB.out hgl).cell 2
    have x3 := (HG.out.below HB.out hgl).cell 3
    have x4 := (HG.out.below HB.out hgl).cell 4
    have x5 := (HG.out.below HB.out hgl).cell 5
    have HC := Lib.hid (show Calls Tryz.prog 7 #[.agg #[.slice v.na n.nodes.length v.nc, .slice v.sa n.switches.length v.sc, .slice v.ba n.branches.length v.bc, .slice v.ga n.gens.length v.gc, .slice v.la n.loads.length v.lc, .slice v.ta n.stores.length v.tc]] w1 (fun e w' => e = .returned (.tuple #[.pointer none, I ck]) ∧ Below w1.heap.size w1 w') from (rnew_any n v w1 (HN.out.below HB.out)).mono fun e w' h => by
        have h1 := h.1 (by rw [HCK.out]; exact HE.out)
        rw [HCK.out] at h1
        exact ⟨h1, h.2.2⟩)
    go_wp2_with fail
    refine HC.out.mono ?_
    rintro e w61 ⟨rfl, hb⟩
    clear HC
    have hbs := HB.out.size
    replace HB := Lib.hid (HB.out.trans (hb.mono hbs))
    clear hbs
    clear hb
    clear x0 x1 x2 x3 x4 x5
    go_wp2
    go_ret
    exact ⟨rfl, HZ.out.trans (HB.out.mono HZ.out.size)⟩
theorem ratingLefts_row {P0 : Prop} {PL : Prop} (n : NetD) (v : NetV) (l : List ByteArray) (A : Option Addr) (c : Nat) (a : Int) (w : World) (hN : Net w n v) (hv : Reads w w.heap.size 1 A l.length (l.map Sv)) (hsb : Sh1 l) (_hl : PL) (_h0 : P0) (htab : Tab w) : Calls Tryz.prog 3 #[v.val n, .slice A l.length c, I a] w fun e w' => e = .returned (.bool true) ∧ Below w.heap.size w w' :=
  ratingLefts_any n v l l.length A c a w hN hv hsb htab
end Go.Proofs.YtfigffaghaaaoaaGreatDoor
namespace Go.Proofs.YtfigffaghaaaoaaGreatDoor
open Go.ChangeShapes Go.WideShapes Go.ChangeAt Go.RowKit Go.ChangeMaps

theorem ratingLefts_door (os : Os) (args : Array Value) : laidMetH Tryz.prog Rows.ratingLeftsRow.laid ((World.doorLaid Tryz.prog 62 os).forCall (fun _ _ => 0) ⟨#[], args, []⟩).memory :=
  laidMetH_of_parts3 (fuel := 8) (laidMet_of_run' 8 (by kernel_rfl) (by kernel_rfl)) (by kernel_rfl) (by kernel_rfl)
set_option linter.unusedVariables false in
set_option maxRecDepth 100000 in
theorem ratingLefts_lifted (os : Os) (started : os.Started) (H : Type) (enc : TypeId × Value → H) :
    ReturnsInHanded {} Tryz.checked os 3 .any (fun w args => (Rows.ratingLeftsSpec.pre enc Tryz.prog Tryz.f3 [] false w args ∧ laidMetH Tryz.prog Rows.ratingLeftsRow.laid w) ∧ sizedMet enc Tryz.prog Tryz.f3 (OpenSpec.ofChange Rows.ratingLeftsSpec) false w args)
      (Rows.ratingLeftsSpec.post enc Tryz.prog Tryz.f3 false true false false) := by
  refine returnsInHanded_of_change_and (C := Tryz.checked) (X := fun w _ => laidMetH Tryz.prog Rows.ratingLeftsRow.laid w) (fun _ _ _ hh h => h.of_heap hh) own started (by kernel_rfl) Tryz.func3
    (ChangeSpec.witness_shaped (enc := enc) (C := Tryz.checked) (os := os) (X := fun w _ => laidMetH Tryz.prog Rows.ratingLeftsRow.laid w) false (World.doorLaid Tryz.prog 62 os) #[.agg #[.slice none 0 0, .slice none 0 0, .slice none 0 0, .slice none 0 0, .slice none 0 0, .slice none 0 0], .slice none 0 0, .int .i64 0] 8 rfl (World.shaped_of_RefB (by kernel_rfl) (by kernel_rfl)) (by kernel_rfl) (by kernel_rfl) (by kernel_rfl) (ratingLefts_door os _)) ?_
  intro W base args ds gs before hval0 hW _ _ hL _
  have hval : ∀ (j : Nat) t v, Tryz.f3.params[j]? = some t → args[j]? = some v → Value.okWide Tryz.prog W .any base t v := hval0
  have hW' := hW
  obtain ⟨p, q, hA0, hV, rfl, hfz, hnd⟩ := hW
  have hA : DataW.TrodAll enc Tryz.prog W 0 (fun _ => true) true Tryz.f3.params.toList args.toList ds p := hA0
  rw [Tryz.params3] at hA hval
  obtain ⟨v0, vs0, d0, ds0, p0, q0, hargs, rfl, rfl, h0, r0⟩ := trodAll_cons hA
  obtain ⟨v1, vs1, d1, ds1, p1, q1, rfl, rfl, rfl, h1, r1⟩ := trodAll_cons r0
  obtain ⟨v2, vs2, d2, ds2, p2, q2, rfl, rfl, rfl, h2, r2⟩ := trodAll_cons r1
  obtain ⟨rfl, rfl, rfl⟩ := trodAll_nil r2
  obtain rfl : args = #[v0, v1, v2] := by cases args; simp_all
  obtain ⟨rfl, rfl⟩ := trodVars_none hV
  have k0 := h0
  have lt0 : ∀ x ∈ p0, x.block < W.heap.size := by obtain ⟨m, hm⟩ := k0; exact DataW.trod_lt m _ _ _ hm
  obtain ⟨n0, nv0, rfl, hn0⟩ := open_net (hval 0 29 v0 rfl rfl) h0
  have k1 := h1
  have lt1 : ∀ x ∈ p1, x.block < W.heap.size := by obtain ⟨m, hm⟩ := k1; exact DataW.trod_lt m _ _ _ hm
  obtain ⟨a1, len1, cap1, rfl⟩ := okWide_slice Tryz.underlying31 (hval 1 31 v1 rfl rfl)
  obtain ⟨fu1, ho1⟩ := h1
  obtain ⟨m1, A1, c1, e1, hm1, hs1, hl1⟩ := open_vec Tryz.underlying31 (u := .slice a1 len1 cap1) ho1
  injection e1 with ea1 eb1 ec1
  subst ea1 eb1 ec1
  obtain ⟨s2, rfl, rfl, rfl, ws2⟩ := open_int Tryz.underlying3 (hval 2 3 v2 rfl rfl) h2
  clear hA0 hval0
  refine (ratingLefts_row n0 nv0 m1 _ _ s2 W hn0 hm1 hs1 hl1 (bounds64 ws2) (tab_of_laid hL)).mono fun e W' ⟨he, bel⟩ => ?_
  subst he
  exact ⟨_, rfl, _, _, _, [], _, [], hW', trodAll_mk1 (shut_bool Tryz.underlying4 _), (trodAll_cons_mk (Below.trod laidOut (by kernel_rfl) (of_decide_eq_true (by kernel_rfl)) k0 bel lt0) (trodAll_cons_mk (Below.trod laidOut (by kernel_rfl) (of_decide_eq_true (by kernel_rfl)) k1 bel lt1) (trodAll_cons_mk (shut_int Tryz.underlying3 ws2) trodAll_mk0))), rfl, bel.frame _, fun h => by cases h⟩
end Go.Proofs.YtfigffaghaaaoaaGreatDoor
