/- RatOrder returns true for every input: the order is that of the signs of differences, and is kept by adding a number. No conditions. The row's listed variables hold what the program's text lays (the card ties them). -/
import Derived.Test.YtpbdlmjfjkfphaaGreatDoorCards
import Derived.Test.YtpbdlmjfjkfphaaGreatDoorTie
import Derived.Test.YtpbdlmjfjkfphaaGreatDoorRSz
import Derived.ProofKit
import Derived.OpenShut
import Derived.ShutString
import Derived.ChangeMaps5
namespace Go.Proofs.YtpbdlmjfjkfphaaGreatDoor
open Go.RowKit

set_option maxRecDepth 100000 in
set_option maxHeartbeats 1000000 in
theorem ratOrder_any (a b c : ByteArray) (w : World) (ha : a.size ≤ 9223372036854775807) (hb : b.size ≤ 9223372036854775807) (hc : c.size ≤ 9223372036854775807) (htab : Tab w) : Calls Tryz.prog 4 #[.string a, .string b, .string c] w fun e w' => e = .returned (.bool true) ∧ Below w.heap.size w w' := by
  have HTB := Lib.hid htab
  clear htab
  have SA := ha
  have SB := hb
  have SC := hc
  clear ha hb hc
  go_enter Tryz.func4, Tryz.ntmps4
  go_wp2_with fail
  refine (ratFact_any w HTB.out).mono ?_
  rintro e w1 ⟨rfl, hb⟩
  have HB1 := Lib.hid (hb)
  clear hb
  by_cases h0 : rAll [SL a, SL b, SL c] = 0
  · obtain ⟨ka, kb, kc⟩ := rall_three h0
    have hba := HB1.out.alloc HB1.out.size (.cells #[.string a, .string b, .string c] 22)
    have HX := Lib.hid (rall_any [a, b, c] 3 (some ⟨w1.heap.size, 0, none⟩) 3 _ (reads_rt3 w1 22 a b c) (by omega) (fun x hx => mem3 SA SB SC hx) (tab_below HTB.out hba))
    have HBA := Lib.hid hba
    rw [show [a, b, c].map SL = [SL a, SL b, SL c] from rfl] at HX
    clear hba HB1
    go_wp2_with fail
    refine HX.out.mono ?_
    rintro e w2 ⟨rfl, hb⟩
    rw [h0]
    have HB2 := Lib.hid (HBA.out.trans (hb.mono HBA.out.size))
    clear hb HBA HX
    have la := rchk_len ka
    have lb := rchk_len kb
    have lc := rchk_len kc
    rw [SL_len] at la lb lc
    by_cases hl : 400 < a.size + b.size + c.size
    · have tl : decide (400 < (a.size : Int) + (b.size : Int) + (c.size : Int)) = true := decide_eq_true (by omega)
      clear h0 ka kb kc
      go_wp2
      go_ret
      exact ⟨rfl, HB2.out⟩
    · have tl : decide (400 < (a.size : Int) + (b.size : Int) + (c.size : Int)) = false := decide_eq_false (by omega)
      obtain ⟨k, d, x, y, n, l1, l2, l3, l4, l5, l6, l7, l8, l9, l10, ld, lx, ly, ln⟩ := rorder_use ka kb kc (by rw [SL_len, SL_len, SL_len]; omega)
      have zd := sz_rt ld
      have zx := sz_rt lx
      have zy := sz_rt ly
      have zn := sz_rt ln
      have hab : SL a = SL b ↔ a = b := ⟨SL_inj, fun h => by rw [h]⟩
      rw [hab] at l9
      have L1 := Lib.hid l1
      have L2 := Lib.hid l2
      have L3 := Lib.hid l3
      have L4 := Lib.hid l4
      have L5 := Lib.hid l5
      have L6 := Lib.hid l6
      have L7 := Lib.hid l7
      have L8 := Lib.hid l8
      clear l1 l2 l3 l4 l5 l6 l7 l8 ld lx ly ln h0 ka kb kc hab
      go_wp2_with fail
      refine (ratCmp_any a b w2 SA SB (tab_below HTB.out HB2.out)).mono ?_
      rintro e w3 ⟨rfl, hb⟩
      rw [L1.out]
      have HB3 := Lib.hid (HB2.out.trans (hb.mono HB2.out.size))
      clear hb HB2
      go_wp2_with fail
      refine (ratSub_any a b w3 SA SB (tab_below HTB.out HB3.out)).mono ?_
      rintro e w4 ⟨rfl, hb⟩
      rw [L2.out]
      have HB4 := Lib.hid (HB3.out.trans (hb.mono HB3.out.size))
      clear hb HB3
      go_wp2_with fail
      refine (ratSign_any ⟨d.toArray⟩ w4 zd (tab_below HTB.out HB4.out)).mono ?_
      rintro e w5 ⟨rfl, hb⟩
      rw [SL_mk d, L3.out]
      have HB5 := Lib.hid (HB4.out.trans (hb.mono HB4.out.size))
      clear hb HB4
      go_wp2_with fail
      refine (ratAdd_any a c w5 SA SC (tab_below HTB.out HB5.out)).mono ?_
      rintro e w6 ⟨rfl, hb⟩
      rw [L4.out]
      have HB6 := Lib.hid (HB5.out.trans (hb.mono HB5.out.size))
      clear hb HB5
      go_wp2_with fail
      refine (ratAdd_any b c w6 SB SC (tab_below HTB.out HB6.out)).mono ?_
      rintro e w7 ⟨rfl, hb⟩
      rw [L5.out]
      have HB7 := Lib.hid (HB6.out.trans (hb.mono HB6.out.size))
      clear hb HB6
      go_wp2_with fail
      refine (ratCmp_any ⟨x.toArray⟩ ⟨y.toArray⟩ w7 zx zy (tab_below HTB.out HB7.out)).mono ?_
      rintro e w8 ⟨rfl, hb⟩
      rw [SL_mk x, SL_mk y, L6.out]
      have HB8 := Lib.hid (HB7.out.trans (hb.mono HB7.out.size))
      clear hb HB7
      go_wp2_with fail
      refine (ratNeg_any ⟨d.toArray⟩ w8 zd (tab_below HTB.out HB8.out)).mono ?_
      rintro e w9 ⟨rfl, hb⟩
      rw [SL_mk d, L7.out]
      have HB9 := Lib.hid (HB8.out.trans (hb.mono HB8.out.size))
      clear hb HB8
      go_wp2_with fail
      refine (ratSign_any ⟨n.toArray⟩ w9 zn (tab_below HTB.out HB9.out)).mono ?_
      rintro e w10 ⟨rfl, hb⟩
      rw [SL_mk n, L8.out]
      have HB10 := Lib.hid (HB9.out.trans (hb.mono HB9.out.size))
      clear hb HB9
      clear L1 L2 L3 L4 L5 L6 L7 L8
      have HR := Lib.hid (fine_any [0, 0, 0, 0, 0, 0, 0, 0] 8 (some ⟨w10.heap.size, 0, none⟩) 8 (w10.alloc (.cells #[I 0, I 0, I 0, I 0, I 0, I 0, I 0, I 0] 24)) _ (reads_lits w10 _ [I 0, I 0, I 0, I 0, I 0, I 0, I 0, I 0]) (by omega))
      have HA10 := Lib.hid (HB10.out.alloc HB10.out.size (.cells #[I 0, I 0, I 0, I 0, I 0, I 0, I 0, I 0] 24))
      rw [show fineB [0, 0, 0, 0, 0, 0, 0, 0] = true from rfl] at HR
      clear HB10
      go_wp2_with fail
      refine HR.out.mono ?_
      rintro e w11 ⟨rfl, rfl⟩
      clear HR
      rcases l10 with rfl | rfl | rfl
      · have hne : a ≠ b := fun h => by have := l9.2 h; omega
        have tab := (Lib.bytes_beq_false_iff a b).2 hne
        clear hne
        clear l9
        go_wp2
        go_ret
        exact ⟨rfl, HA10.out⟩
      · obtain rfl := l9.1 rfl
        have tab := (Lib.bytes_beq_iff a a).2 rfl
        clear l9
        go_wp2
        go_ret
        exact ⟨rfl, HA10.out⟩
      · have hne : a ≠ b := fun h => by have := l9.2 h; omega
        have tab := (Lib.bytes_beq_false_iff a b).2 hne
        clear hne
        clear l9
        go_wp2
        go_ret
        exact ⟨rfl, HA10.out⟩
  · have tc : (rAll [SL a, SL b, SL c] != 0) = true := bne_iff_ne.2 h0
    have hba := HB1.out.alloc HB1.out.size (.cells #[.string a, .string b, .string c] 22)
    have HX := Lib.hid (rall_any [a, b, c] 3 (some ⟨w1.heap.size, 0, none⟩) 3 _ (reads_rt3 w1 22 a b c) (by omega) (fun x hx => mem3 SA SB SC hx) (tab_below HTB.out hba))
    have HBA := Lib.hid hba
    rw [show [a, b, c].map SL = [SL a, SL b, SL c] from rfl] at HX
    clear hba HB1
    go_wp2_with fail
    refine HX.out.mono ?_
    rintro e w2 ⟨rfl, hb⟩
    generalize rAll [SL a, SL b, SL c] = cc at *
    have HB2 := Lib.hid (HBA.out.trans (hb.mono HBA.out.size))
    clear hb HBA HX
    clear h0
    go_wp2
    go_ret
    exact ⟨rfl, HB2.out⟩
end Go.Proofs.YtpbdlmjfjkfphaaGreatDoor
namespace Go.Proofs.YtpbdlmjfjkfphaaGreatDoor
open Go.ChangeShapes Go.WideShapes Go.ChangeAt Go.RowKit Go.ChangeMaps

theorem ratOrder_door (os : Os) (args : Array Value) : laidMetH Tryz.prog Rows.ratOrderRow.laid ((World.doorLaid Tryz.prog 62 os).forCall (fun _ _ => 0) ⟨#[], args, []⟩).memory :=
  laidMetH_of_parts3 (fuel := 8) (laidMet_of_run' 8 (by kernel_rfl) (by kernel_rfl)) (by kernel_rfl) (by kernel_rfl)
set_option linter.unusedVariables false in
set_option maxRecDepth 100000 in
theorem ratOrder_lifted (os : Os) (started : os.Started) (H : Type) (enc : TypeId × Value → H) :
    ReturnsInHanded {} Tryz.checked os 4 .any (fun w args => (Rows.ratOrderSpec.pre enc Tryz.prog Tryz.f4 [] false w args ∧ laidMetH Tryz.prog Rows.ratOrderRow.laid w) ∧ sizedMet enc Tryz.prog Tryz.f4 (OpenSpec.ofChange Rows.ratOrderSpec) false w args)
      (Rows.ratOrderSpec.post enc Tryz.prog Tryz.f4 false true false false) := by
  refine returnsInHanded_of_change_and (C := Tryz.checked) (X := fun w _ => laidMetH Tryz.prog Rows.ratOrderRow.laid w) (fun _ _ _ hh h => h.of_heap hh) own started (by kernel_rfl) Tryz.func4
    (ChangeSpec.witness_shaped (enc := enc) (C := Tryz.checked) (os := os) (X := fun w _ => laidMetH Tryz.prog Rows.ratOrderRow.laid w) false (World.doorLaid Tryz.prog 62 os) #[.string ⟨#[]⟩, .string ⟨#[]⟩, .string ⟨#[]⟩] 8 rfl (World.shaped_of_RefB (by kernel_rfl) (by kernel_rfl)) (by kernel_rfl) (by kernel_rfl) (by kernel_rfl) (ratOrder_door os _)) ?_
  intro W base args ds gs before hval0 hW _ _ hL _
  have hval : ∀ (j : Nat) t v, Tryz.f4.params[j]? = some t → args[j]? = some v → Value.okWide Tryz.prog W .any base t v := hval0
  have hW' := hW
  obtain ⟨p, q, hA0, hV, rfl, hfz, hnd⟩ := hW
  have hA : DataW.TrodAll enc Tryz.prog W 0 (fun _ => true) true Tryz.f4.params.toList args.toList ds p := hA0
  rw [Tryz.params4] at hA hval
  obtain ⟨v0, vs0, d0, ds0, p0, q0, hargs, rfl, rfl, h0, r0⟩ := trodAll_cons hA
  obtain ⟨v1, vs1, d1, ds1, p1, q1, rfl, rfl, rfl, h1, r1⟩ := trodAll_cons r0
  obtain ⟨v2, vs2, d2, ds2, p2, q2, rfl, rfl, rfl, h2, r2⟩ := trodAll_cons r1
  obtain ⟨rfl, rfl, rfl⟩ := trodAll_nil r2
  obtain rfl : args = #[v0, v1, v2] := by cases args; simp_all
  obtain ⟨rfl, rfl⟩ := trodVars_none hV
  obtain ⟨s0, rfl, rfl, rfl, ws0⟩ := open_string Tryz.underlying22 (hval 0 22 v0 rfl rfl) h0
  obtain ⟨s1, rfl, rfl, rfl, ws1⟩ := open_string Tryz.underlying22 (hval 1 22 v1 rfl rfl) h1
  obtain ⟨s2, rfl, rfl, rfl, ws2⟩ := open_string Tryz.underlying22 (hval 2 22 v2 rfl rfl) h2
  clear hA0 hval0
  refine (ratOrder_any s0 s1 s2 W (size_of_wf ws0) (size_of_wf ws1) (size_of_wf ws2) (tab_of_laid hL)).mono fun e W' ⟨he, bel⟩ => ?_
  subst he
  exact ⟨_, rfl, _, _, _, [], _, [], hW', trodAll_mk1 (shut_bool Tryz.underlying4 _), (trodAll_cons_mk (shut_string Tryz.underlying22 ws0) (trodAll_cons_mk (shut_string Tryz.underlying22 ws1) (trodAll_cons_mk (shut_string Tryz.underlying22 ws2) trodAll_mk0))), rfl, bel.frame _, fun h => by cases h⟩

theorem ratOrder_said : Rows.RatOrderSaid :=
  OpenClaim.holds_of_wide 4 Tryz.f4 rfl rfl rfl rfl rfl rfl rfl ⟨rfl, rfl, rfl, rfl, rfl⟩ rfl rfl rfl rfl rfl (by kernel_rfl) Tryz.func4 (by kernel_rfl)
    (of_decide_eq_true (by kernel_rfl)) (by unfold Func.isWrapper; first | (rw [if_pos (by decide +kernel)]; kernel_rfl) | (rw [if_neg (by decide +kernel)]; exact ⟨rfl, rfl⟩))
    (fun os started H enc _ => ratOrder_lifted os started H enc)
theorem ratOrder_plain (f : FuncId) (fn : Func) (hf : Tryz.pinned.checked.prog.funcNamed "gridhall/gridhallkeep1.RatOrder" = some f) (hfn : Tryz.pinned.checked.prog.funcs[f]? = some fn) :
    true = Tryz.pinned.checked.prog.looks [] ∧ ∀ (j : Nat) t, fn.params[j]? = some t → Tryz.pinned.checked.prog.wantsStandIn t = false := by
  obtain rfl : f = 4 := Option.some.inj ((show Tryz.prog.funcNamed "gridhall/gridhallkeep1.RatOrder" = some 4 by kernel_rfl).symm.trans hf) |>.symm
  obtain rfl : fn = Tryz.f4 := (Option.some.inj (Tryz.func4.symm.trans hfn)).symm
  refine ⟨by kernel_rfl, fun j t ht => ?_⟩
  rw [Tryz.params4] at ht
  have hm : t ∈ [22] := by
    have := Array.mem_of_getElem? ht
    clear ht hf hfn
    revert this
    revert t
    simp
  have hall : ([22].all fun u => !Tryz.prog.wantsStandIn u) = true := by kernel_rfl
  exact (show Tryz.prog.wantsStandIn t = false by simpa using List.all_eq_true.1 hall t hm)
theorem ratOrder_card : Rows.RatOrderCardSaid :=
  Claim7.holds_tied_plain_at .later [] _ _ _ _ ratOrder_said (fun _ h => by cases h) (by kernel_rfl) (fun _ h => by cases h) ratOrder_row_tie rfl ⟨rfl, rfl⟩ (by kernel_rfl) rfl ratOrder_plain (by kernel_rfl)
#print axioms ratOrder_card
end Go.Proofs.YtpbdlmjfjkfphaaGreatDoor
