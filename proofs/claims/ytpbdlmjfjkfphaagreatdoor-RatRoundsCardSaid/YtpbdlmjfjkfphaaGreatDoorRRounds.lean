/- RatRounds returns true for every input: Floor, Ceil and Round return the nearest integers. No conditions. The row's listed variables hold what the program's text lays (the card ties them). -/
import Derived.Test.YtpbdlmjfjkfphaaGreatDoorCards
import Derived.Test.YtpbdlmjfjkfphaaGreatDoorTie
import Derived.Test.YtpbdlmjfjkfphaaGreatDoorRRl
import Derived.ProofKit
import Derived.OpenShut
import Derived.ShutString
import Derived.ChangeMaps5
namespace Go.Proofs.YtpbdlmjfjkfphaaGreatDoor
open Go.RowKit

theorem ratInt_bad {a : List UInt8} {cc : Int} (z : Int) (h : rchk a = cc) (h0 : cc ≠ 0) : ratInt a z = ([], cc) := by rw [ratInt, h, if_neg h0]
set_option maxRecDepth 100000 in
set_option maxHeartbeats 1000000 in
theorem ratRounds_any (a : ByteArray) (w : World) (ha : a.size ≤ 9223372036854775807) (htab : Tab w) : Calls Tryz.prog 5 #[.string a] w fun e w' => e = .returned (.bool true) ∧ Below w.heap.size w w' := by
  have HTB := Lib.hid htab
  clear htab
  have SA := ha
  clear ha
  go_enter Tryz.func5, Tryz.ntmps5
  go_wp2_with fail
  refine (ratFact_any w HTB.out).mono ?_
  rintro e w1 ⟨rfl, hb⟩
  have HB1 := Lib.hid (hb)
  clear hb
  by_cases h0 : rchk (SL a) = 0
  · by_cases hl : 1900 < a.size
    · have tl : decide (1900 < (a.size : Int)) = true := decide_eq_true (by omega)
      have zf := sz_rt (ratInt_len (SL a) (rval (SL a)).floor)
      obtain ⟨pf, hf⟩ : ∃ p, ratInt (SL a) (rval (SL a)).floor = p := ⟨_, rfl⟩
      rw [hf] at zf
      have HF := Lib.hid hf
      clear hf
      have zc := sz_rt (ratInt_len (SL a) (rval (SL a)).ceil)
      obtain ⟨pc, hc⟩ : ∃ p, ratInt (SL a) (rval (SL a)).ceil = p := ⟨_, rfl⟩
      rw [hc] at zc
      have HC := Lib.hid hc
      clear hc
      have zr := sz_rt (ratInt_len (SL a) (roundQ (rval (SL a))))
      obtain ⟨pr, hr⟩ : ∃ p, ratInt (SL a) (roundQ (rval (SL a))) = p := ⟨_, rfl⟩
      rw [hr] at zr
      have HR := Lib.hid hr
      clear hr
      have H0 := Lib.hid h0
      clear h0 hl
      go_wp2_with fail
      refine (ratFloor_any a w1 SA (tab_below HTB.out HB1.out)).mono ?_
      rintro e w2 ⟨rfl, hb⟩
      rw [HF.out]
      have HB2 := Lib.hid (HB1.out.trans (hb.mono HB1.out.size))
      clear hb HB1
      go_wp2_with fail
      refine (ratCeil_any a w2 SA (tab_below HTB.out HB2.out)).mono ?_
      rintro e w3 ⟨rfl, hb⟩
      rw [HC.out]
      have HB3 := Lib.hid (HB2.out.trans (hb.mono HB2.out.size))
      clear hb HB2
      go_wp2_with fail
      refine (ratRound_any a w3 SA (tab_below HTB.out HB3.out)).mono ?_
      rintro e w4 ⟨rfl, hb⟩
      rw [HR.out]
      have HB4 := Lib.hid (HB3.out.trans (hb.mono HB3.out.size))
      clear hb HB3
      go_wp2_with fail
      refine (rchk_any a w4 SA (tab_below HTB.out HB4.out)).mono ?_
      rintro e w5 ⟨rfl, hb⟩
      rw [H0.out]
      have HB5 := Lib.hid (HB4.out.trans (hb.mono HB4.out.size))
      clear hb HB4
      clear HF HC HR
      go_wp2_with fail
      refine (ratSub_any a ⟨pf.1.toArray⟩ w5 SA zf (tab_below HTB.out HB5.out)).mono ?_
      rintro e w6 ⟨rfl, hb⟩
      generalize ratSub (SL a) (SL ⟨pf.1.toArray⟩) = p1
      have HB6 := Lib.hid (HB5.out.trans (hb.mono HB5.out.size))
      clear hb HB5
      go_wp2_with fail
      refine (ratSub_any ⟨pc.1.toArray⟩ a w6 zc SA (tab_below HTB.out HB6.out)).mono ?_
      rintro e w7 ⟨rfl, hb⟩
      generalize ratSub (SL ⟨pc.1.toArray⟩) (SL a) = p2
      have HB7 := Lib.hid (HB6.out.trans (hb.mono HB6.out.size))
      clear hb HB6
      go_wp2
      go_ret
      exact ⟨rfl, HB7.out⟩
    · have tl : decide (1900 < (a.size : Int)) = false := decide_eq_false (by omega)
      have q3 := beq_rl_self a
      have L1 := ratInt_len (SL a) (rval (SL a)).floor
      have L2 := ratInt_len (SL a) (rval (SL a)).ceil
      obtain ⟨f, c, r, lo, hi, t, s, h, l1, l2, l3, l4, l5, l6, l7, l8, l9, zl, zh, hcase⟩ := rounds_use h0 (by rw [SL_len]; omega)
      rw [l1] at L1
      rw [l2] at L2
      have zf := sz_rt L1
      have zc := sz_rt L2
      have zlo := sz_rt zl
      have zhi := sz_rt zh
      simp only [] at zf zc
      have K1 := Lib.hid l1
      have K2 := Lib.hid l2
      have K3 := Lib.hid l3
      have K4 := Lib.hid l4
      have K5 := Lib.hid l5
      have K6 := Lib.hid l6
      have K7 := Lib.hid l7
      have K8 := Lib.hid l8
      have K9 := Lib.hid l9
      have H0 := Lib.hid h0
      have HH := Lib.hid hcase
      clear l1 l2 l3 l4 l5 l6 l7 l8 l9 L1 L2 zl zh h0 hl hcase
      go_wp2_with fail
      refine (ratFloor_any a w1 SA (tab_below HTB.out HB1.out)).mono ?_
      rintro e w2 ⟨rfl, hb⟩
      rw [K1.out]
      have HB2 := Lib.hid (HB1.out.trans (hb.mono HB1.out.size))
      clear hb HB1
      go_wp2_with fail
      refine (ratCeil_any a w2 SA (tab_below HTB.out HB2.out)).mono ?_
      rintro e w3 ⟨rfl, hb⟩
      rw [K2.out]
      have HB3 := Lib.hid (HB2.out.trans (hb.mono HB2.out.size))
      clear hb HB2
      go_wp2_with fail
      refine (ratRound_any a w3 SA (tab_below HTB.out HB3.out)).mono ?_
      rintro e w4 ⟨rfl, hb⟩
      rw [K3.out]
      have HB4 := Lib.hid (HB3.out.trans (hb.mono HB3.out.size))
      clear hb HB3
      go_wp2_with fail
      refine (rchk_any a w4 SA (tab_below HTB.out HB4.out)).mono ?_
      rintro e w5 ⟨rfl, hb⟩
      rw [H0.out]
      have HB5 := Lib.hid (HB4.out.trans (hb.mono HB4.out.size))
      clear hb HB4
      go_wp2_with fail
      refine (ratSub_any a ⟨f.toArray⟩ w5 SA zf (tab_below HTB.out HB5.out)).mono ?_
      rintro e w6 ⟨rfl, hb⟩
      rw [SL_mk f, K4.out]
      have HB6 := Lib.hid (HB5.out.trans (hb.mono HB5.out.size))
      clear hb HB5
      go_wp2_with fail
      refine (ratSub_any ⟨c.toArray⟩ a w6 zc SA (tab_below HTB.out HB6.out)).mono ?_
      rintro e w7 ⟨rfl, hb⟩
      rw [SL_mk c, K5.out]
      have HB7 := Lib.hid (HB6.out.trans (hb.mono HB6.out.size))
      clear hb HB6
      go_wp2_with fail
      refine (ratCmp_any ⟨lo.toArray⟩ ⟨#[49]⟩ w7 zlo (by decide) (tab_below HTB.out HB7.out)).mono ?_
      rintro e w8 ⟨rfl, hb⟩
      rw [SL_mk lo, show SL ⟨#[49]⟩ = [49] from rfl, K6.out]
      have HB8 := Lib.hid (HB7.out.trans (hb.mono HB7.out.size))
      clear hb HB7
      go_wp2_with fail
      refine (ratSign_any ⟨lo.toArray⟩ w8 zlo (tab_below HTB.out HB8.out)).mono ?_
      rintro e w9 ⟨rfl, hb⟩
      rw [SL_mk lo, K7.out]
      have HB9 := Lib.hid (HB8.out.trans (hb.mono HB8.out.size))
      clear hb HB8
      go_wp2_with fail
      refine (ratCmp_any ⟨lo.toArray⟩ ⟨hi.toArray⟩ w9 zlo zhi (tab_below HTB.out HB9.out)).mono ?_
      rintro e w10 ⟨rfl, hb⟩
      rw [SL_mk lo, SL_mk hi, K8.out]
      have HB10 := Lib.hid (HB9.out.trans (hb.mono HB9.out.size))
      clear hb HB9
      go_wp2_with fail
      refine (ratAdd_any ⟨lo.toArray⟩ ⟨hi.toArray⟩ w10 zlo zhi (tab_below HTB.out HB10.out)).mono ?_
      rintro e w11 ⟨rfl, hb⟩
      rw [SL_mk lo, SL_mk hi, K9.out]
      have HB11 := Lib.hid (HB10.out.trans (hb.mono HB10.out.size))
      clear hb HB10
      clear K1 K2 K3 K4 K5 K6 K7 K8 K9 H0
      have HR := Lib.hid (fine_any [0, 0, 0, 0, 0, 0, 0, 0, 0] 9 (some ⟨w11.heap.size, 0, none⟩) 9 (w11.alloc (.cells #[I 0, I 0, I 0, I 0, I 0, I 0, I 0, I 0, I 0] 24)) _ (reads_lits w11 _ [I 0, I 0, I 0, I 0, I 0, I 0, I 0, I 0, I 0]) (by omega))
      have HA11 := Lib.hid (HB11.out.alloc HB11.out.size (.cells #[I 0, I 0, I 0, I 0, I 0, I 0, I 0, I 0, I 0] 24))
      rw [show fineB [0, 0, 0, 0, 0, 0, 0, 0, 0] = true from rfl] at HR
      clear HB11
      go_wp2_with fail
      refine HR.out.mono ?_
      rintro e w12 ⟨rfl, rfl⟩
      clear HR
      rcases HH.out with ⟨rfl, rfl, rfl, rfl⟩ | ⟨rfl, rfl, v, d1, d2, d3, hc⟩
      · clear HH
        go_wp2
        go_ret
        exact ⟨rfl, HA11.out⟩
      · have zv := sz_rt d3
        have D1 := Lib.hid d1
        have D2 := Lib.hid d2
        have HC := Lib.hid hc
        clear HH d1 d2 d3 hc
        go_wp2_with fail
        refine (ratDiv_any ⟨f.toArray⟩ ⟨#[50]⟩ (w11.alloc (.cells #[I 0, I 0, I 0, I 0, I 0, I 0, I 0, I 0, I 0] 24)) zf (by decide) (tab_below HTB.out HA11.out)).mono ?_
        rintro e w13 ⟨rfl, hb⟩
        rw [SL_mk f, show SL ⟨#[50]⟩ = [50] from rfl, D1.out]
        have HB13 := Lib.hid (HA11.out.trans (hb.mono HA11.out.size))
        clear hb HA11
        go_wp2_with fail
        refine (ratInteger_any ⟨v.toArray⟩ w13 zv (tab_below HTB.out HB13.out)).mono ?_
        rintro e w14 ⟨n, o, rfl, hg1, hg, hb⟩
        rw [SL_mk v] at hg
        have hg2 := (hg D2.out).1
        clear hg hg1
        have HB14 := Lib.hid (HB13.out.trans (hb.mono HB13.out.size))
        clear hb HB13
        clear D1 D2
        rcases HC.out with ⟨rfl, rfl⟩ | ⟨rfl, rfl⟩ | ⟨rfl, hv, rfl⟩ | ⟨rfl, hv, rfl⟩
        · by_cases ho : o = 3
          · have tq : (o != 3) = false := bne_eq_false_iff_eq.2 ho
            clear hg2 ho HC
            go_wp2
            go_ret
            exact ⟨rfl, HB14.out⟩
          · have tq : (o != 3) = true := bne_iff_ne.2 ho
            clear hg2 ho HC
            go_wp2
            go_ret
            exact ⟨rfl, HB14.out⟩
        · by_cases ho : o = 3
          · have tq : (o != 3) = false := bne_eq_false_iff_eq.2 ho
            clear hg2 ho HC
            go_wp2
            go_ret
            exact ⟨rfl, HB14.out⟩
          · have tq : (o != 3) = true := bne_iff_ne.2 ho
            clear hg2 ho HC
            go_wp2
            go_ret
            exact ⟨rfl, HB14.out⟩
        · obtain rfl := hg2.2 hv
          clear hg2 hv HC
          go_wp2
          go_ret
          exact ⟨rfl, HB14.out⟩
        · have ho : o ≠ 3 := fun k => by have := hg2.1 k; rw [hv] at this; cases this
          have tq : (o != 3) = true := bne_iff_ne.2 ho
          clear hg2 hv HC ho
          go_wp2
          go_ret
          exact ⟨rfl, HB14.out⟩
  · obtain ⟨cc, hcc⟩ : ∃ cc, rchk (SL a) = cc := ⟨_, rfl⟩
    rw [hcc] at h0
    have HI := Lib.hid (fun z => ratInt_bad z hcc h0)
    have HK := Lib.hid hcc
    have tc : (cc != 0) = true := bne_iff_ne.2 h0
    clear hcc h0
    go_wp2_with fail
    refine (ratFloor_any a w1 SA (tab_below HTB.out HB1.out)).mono ?_
    rintro e w2 ⟨rfl, hb⟩
    rw [HI.out]
    have HB2 := Lib.hid (HB1.out.trans (hb.mono HB1.out.size))
    clear hb HB1
    go_wp2_with fail
    refine (ratCeil_any a w2 SA (tab_below HTB.out HB2.out)).mono ?_
    rintro e w3 ⟨rfl, hb⟩
    rw [HI.out]
    have HB3 := Lib.hid (HB2.out.trans (hb.mono HB2.out.size))
    clear hb HB2
    go_wp2_with fail
    refine (ratRound_any a w3 SA (tab_below HTB.out HB3.out)).mono ?_
    rintro e w4 ⟨rfl, hb⟩
    rw [HI.out]
    have HB4 := Lib.hid (HB3.out.trans (hb.mono HB3.out.size))
    clear hb HB3
    go_wp2_with fail
    refine (rchk_any a w4 SA (tab_below HTB.out HB4.out)).mono ?_
    rintro e w5 ⟨rfl, hb⟩
    rw [HK.out]
    have HB5 := Lib.hid (HB4.out.trans (hb.mono HB4.out.size))
    clear hb HB4
    clear HI HK
    go_wp2
    go_ret
    exact ⟨rfl, HB5.out⟩
end Go.Proofs.YtpbdlmjfjkfphaaGreatDoor
namespace Go.Proofs.YtpbdlmjfjkfphaaGreatDoor
open Go.ChangeShapes Go.WideShapes Go.ChangeAt Go.RowKit Go.ChangeMaps

theorem ratRounds_door (os : Os) (args : Array Value) : laidMetH Tryz.prog Rows.ratRoundsRow.laid ((World.doorLaid Tryz.prog 62 os).forCall (fun _ _ => 0) ⟨#[], args, []⟩).memory :=
  laidMetH_of_parts3 (fuel := 8) (laidMet_of_run' 8 (by kernel_rfl) (by kernel_rfl)) (by kernel_rfl) (by kernel_rfl)
set_option linter.unusedVariables false in
set_option maxRecDepth 100000 in
theorem ratRounds_lifted (os : Os) (started : os.Started) (H : Type) (enc : TypeId × Value → H) :
    ReturnsInHanded {} Tryz.checked os 5 .any (fun w args => (Rows.ratRoundsSpec.pre enc Tryz.prog Tryz.f5 [] false w args ∧ laidMetH Tryz.prog Rows.ratRoundsRow.laid w) ∧ sizedMet enc Tryz.prog Tryz.f5 (OpenSpec.ofChange Rows.ratRoundsSpec) false w args)
      (Rows.ratRoundsSpec.post enc Tryz.prog Tryz.f5 false true false false) := by
  refine returnsInHanded_of_change_and (C := Tryz.checked) (X := fun w _ => laidMetH Tryz.prog Rows.ratRoundsRow.laid w) (fun _ _ _ hh h => h.of_heap hh) own started (by kernel_rfl) Tryz.func5
    (ChangeSpec.witness_shaped (enc := enc) (C := Tryz.checked) (os := os) (X := fun w _ => laidMetH Tryz.prog Rows.ratRoundsRow.laid w) false (World.doorLaid Tryz.prog 62 os) #[.string ⟨#[]⟩] 8 rfl (World.shaped_of_RefB (by kernel_rfl) (by kernel_rfl)) (by kernel_rfl) (by kernel_rfl) (by kernel_rfl) (ratRounds_door os _)) ?_
  intro W base args ds gs before hval0 hW _ _ hL _
  have hval : ∀ (j : Nat) t v, Tryz.f5.params[j]? = some t → args[j]? = some v → Value.okWide Tryz.prog W .any base t v := hval0
  have hW' := hW
  obtain ⟨p, q, hA0, hV, rfl, hfz, hnd⟩ := hW
  have hA : DataW.TrodAll enc Tryz.prog W 0 (fun _ => true) true Tryz.f5.params.toList args.toList ds p := hA0
  rw [Tryz.params5] at hA hval
  obtain ⟨v0, vs0, d0, ds0, p0, q0, hargs, rfl, rfl, h0, r0⟩ := trodAll_cons hA
  obtain ⟨rfl, rfl, rfl⟩ := trodAll_nil r0
  obtain rfl : args = #[v0] := by cases args; simp_all
  obtain ⟨rfl, rfl⟩ := trodVars_none hV
  obtain ⟨s0, rfl, rfl, rfl, ws0⟩ := open_string Tryz.underlying22 (hval 0 22 v0 rfl rfl) h0
  clear hA0 hval0
  refine (ratRounds_any s0 W (size_of_wf ws0) (tab_of_laid hL)).mono fun e W' ⟨he, bel⟩ => ?_
  subst he
  exact ⟨_, rfl, _, _, _, [], _, [], hW', trodAll_mk1 (shut_bool Tryz.underlying4 _), (trodAll_cons_mk (shut_string Tryz.underlying22 ws0) trodAll_mk0), rfl, bel.frame _, fun h => by cases h⟩

theorem ratRounds_said : Rows.RatRoundsSaid :=
  OpenClaim.holds_of_wide 5 Tryz.f5 rfl rfl rfl rfl rfl rfl rfl ⟨rfl, rfl, rfl, rfl, rfl⟩ rfl rfl rfl rfl rfl (by kernel_rfl) Tryz.func5 (by kernel_rfl)
    (of_decide_eq_true (by kernel_rfl)) (by unfold Func.isWrapper; first | (rw [if_pos (by decide +kernel)]; kernel_rfl) | (rw [if_neg (by decide +kernel)]; exact ⟨rfl, rfl⟩))
    (fun os started H enc _ => ratRounds_lifted os started H enc)
theorem ratRounds_plain (f : FuncId) (fn : Func) (hf : Tryz.pinned.checked.prog.funcNamed "gridhall/gridhallkeep1.RatRounds" = some f) (hfn : Tryz.pinned.checked.prog.funcs[f]? = some fn) :
    true = Tryz.pinned.checked.prog.looks [] ∧ ∀ (j : Nat) t, fn.params[j]? = some t → Tryz.pinned.checked.prog.wantsStandIn t = false := by
  obtain rfl : f = 5 := Option.some.inj ((show Tryz.prog.funcNamed "gridhall/gridhallkeep1.RatRounds" = some 5 by kernel_rfl).symm.trans hf) |>.symm
  obtain rfl : fn = Tryz.f5 := (Option.some.inj (Tryz.func5.symm.trans hfn)).symm
  refine ⟨by kernel_rfl, fun j t ht => ?_⟩
  rw [Tryz.params5] at ht
  have hm : t ∈ [22] := by
    have := Array.mem_of_getElem? ht
    clear ht hf hfn
    revert this
    revert t
    simp
  have hall : ([22].all fun u => !Tryz.prog.wantsStandIn u) = true := by kernel_rfl
  exact (show Tryz.prog.wantsStandIn t = false by simpa using List.all_eq_true.1 hall t hm)
theorem ratRounds_card : Rows.RatRoundsCardSaid :=
  Claim7.holds_tied_plain_at .later [] _ _ _ _ ratRounds_said (fun _ h => by cases h) (by kernel_rfl) (fun _ h => by cases h) ratRounds_row_tie rfl ⟨rfl, rfl⟩ (by kernel_rfl) rfl ratRounds_plain (by kernel_rfl)
#print axioms ratRounds_card
end Go.Proofs.YtpbdlmjfjkfphaaGreatDoor
