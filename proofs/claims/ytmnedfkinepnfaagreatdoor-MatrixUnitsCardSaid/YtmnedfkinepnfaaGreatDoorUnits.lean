/- The walk of MatrixUnits. MatrixUnits returns true for every input: the identity changes nothing. No conditions. The row's listed variables hold what the program's text lays (the card ties them). -/
import Derived.Test.YtmnedfkinepnfaaGreatDoorJY
import Derived.Test.YtmnedfkinepnfaaGreatDoorCards
import Derived.Test.YtmnedfkinepnfaaGreatDoorTie
import Derived.Test.YtmnedfkinepnfaaGreatDoorJZ
import Derived.ShutString
import Derived.ChangeMaps5
namespace Go.Proofs.YtmnedfkinepnfaaGreatDoor
open Go.RowKit

set_option maxRecDepth 100000 in
set_option maxHeartbeats 16000000 in
theorem matrixUnits_any (a : List (List ByteArray)) (na : Nat) (Aa : Option Addr) (ca : Nat) (w : World) (ha : SMat w Aa na a) (sa : Sh2 a) (htab : Tab w) :
    Calls Tryz.prog 7 #[.slice Aa na ca] w fun e w' => e = .returned (.bool true) ∧ Below w.heap.size w w' := by
  have HTB := Lib.hid htab
  have HB := Lib.hid (Below.refl w.heap.size w)
  clear htab
  have La := Lib.hid (show a.length = na by obtain ⟨_, _, h, _⟩ := ha; exact h)
  have Ha := Lib.hid ha
  have Sa := Lib.hid sa
  clear ha sa
  go_enter Tryz.func7, Tryz.ntmps7
  have HC := Lib.hid (matrixFact_any w HTB.out)
  go_wp2_with fail
  refine HC.out.mono ?_
  rintro e w1 ⟨rfl, hb⟩
  clear HC
  have hbs := HB.out.size
  replace HB := Lib.hid (HB.out.trans (hb.mono hbs))
  clear hbs
  replace Ha := Lib.hid (Ha.out.below hb)
  clear hb
  have HC := Lib.hid (chkM_any a na Aa ca w1 Ha.out Sa.out (tab_below HTB.out HB.out))
  go_wp2_with fail
  refine HC.out.mono ?_
  rintro e w2 ⟨rfl, hb⟩
  clear HC
  have hbs := HB.out.size
  replace HB := Lib.hid (HB.out.trans (hb.mono hbs))
  clear hbs
  replace Ha := Lib.hid (Ha.out.below hb)
  clear hb
  by_cases h0 : chkM (tx2 a) = 0
  · rw [h0]
    have va := chkM_ok h0
    have VA := Lib.hid va
    have hna : na ≤ 40 := by have h := va.hn; rw [tx2, List.length_map, La.out] at h; exact h
    have LT := Lib.hid (show (tx2 a).length = na by rw [tx2, List.length_map, La.out])
    have H0 := Lib.hid h0
    clear va h0
    have hsmb := sms1 (c := ca) Ha.out
    obtain ⟨hsm, hb⟩ := hsmb
    have hbs := HB.out.size
    replace HB := Lib.hid (HB.out.trans (hb.mono hbs))
    clear hbs
    replace Ha := Lib.hid (Ha.out.below hb)
    clear hb
    unfold matT at *
    have HC := Lib.hid (small_any 6 [a] 1 _ 1 _ hsm (by decide) (by decide))
    go_wp2_with fail
    refine HC.out.mono ?_
    rintro e w3 ⟨rfl, hb⟩
    clear HC
    clear hsm
    have hbs := HB.out.size
    replace HB := Lib.hid (HB.out.trans (hb.mono hbs))
    clear hbs
    replace Ha := Lib.hid (Ha.out.below hb)
    clear hb
    cases hsm : [a].any (lgM 6) with
    | true =>
      go_wp2
      go_ret
      exact ⟨rfl, HB.out⟩
    | false =>
      by_cases hz : na = 0
      · subst hz
        go_wp2
        go_ret
        exact ⟨rfl, HB.out⟩
      · have tz : ((na : Int) == 0) = false := beq_eq_false_iff_ne.2 (by omega)
        have hp : 0 < na := by omega
        have hu := units_law H0.out (by rw [LT.out]; exact hp)
        rw [LT.out, ← tx_idS, ← tx_idS] at hu
        have U1 := Lib.hid hu.1
        have U2 := Lib.hid hu.2.1
        have U3 := Lib.hid hu.2.2
        clear hu hsm
        have NA := Lib.hid (nar_chk H0.out)
        have hwd : wd (tx2 a) ≤ 40 := rect_w VA.out (by rw [LT.out]; exact hp)
        have HC := Lib.hid (identity_any na w3 hna)
        go_wp2_with fail
        refine HC.out.mono ?_
        rintro e w4 h
        clear HC
        obtain ⟨Ai, ni, ci, rfl, hm, hn, hs, hb⟩ := h.known (m := idS na) (by rw [tx_idS])
        clear h
        have hbs := HB.out.size
        replace HB := Lib.hid (HB.out.trans (hb.mono hbs))
        clear hbs
        replace Ha := Lib.hid (Ha.out.below hb)
        clear hb
        have Hi := Lib.hid hm
        have Li := Lib.hid hn
        have Si := Lib.hid hs
        clear hm hn hs
        obtain ⟨x0, hx0⟩ : ∃ x, a[0]? = some x := ⟨_, List.getElem?_eq_getElem (by rw [La.out]; exact hp)⟩
        obtain ⟨b0, o0, B0, d0, rfl, hc0, _⟩ := Ha.out.at_ hp x0 hx0
        rw [Nat.add_zero] at hc0
        have HW := Lib.hid (show wd (tx2 a) = x0.length by rw [wd_tx, head_get a x0 _ hx0])
        rw [HW.out] at hwd U2
        clear hx0
        generalize x0.length = wa at *
        have HC := Lib.hid (identity_any wa w4 hwd)
        go_wp2_with fail
        refine HC.out.mono ?_
        rintro e w5 h
        clear HC
        obtain ⟨Ak, nk, ck, rfl, hm, hn, hs, hb⟩ := h.known (m := idS wa) (by rw [tx_idS])
        clear h
        have hbs := HB.out.size
        replace HB := Lib.hid (HB.out.trans (hb.mono hbs))
        clear hbs
        replace Ha := Lib.hid (Ha.out.below hb)
        replace Hi := Lib.hid (Hi.out.below hb)
        clear hb
        have Hk := Lib.hid hm
        have Lk := Lib.hid hn
        have Sk := Lib.hid hs
        clear hm hn hs
        clear hc0
        have HC := Lib.hid (mulM_any (idS na) a ni na Ai (some ⟨b0, o0, none⟩) ci ca w5 Hi.out Ha.out Si.out Sa.out (tab_below HTB.out HB.out))
        go_wp2_with fail
        refine HC.out.mono ?_
        rintro e w6 h
        clear HC
        obtain ⟨Ax, nx, cx, rfl, hm, hn, hs, hb⟩ := h.known (m := a) (U1.out)
        clear h
        have hbs := HB.out.size
        replace HB := Lib.hid (HB.out.trans (hb.mono hbs))
        clear hbs
        replace Ha := Lib.hid (Ha.out.below hb)
        replace Hi := Lib.hid (Hi.out.below hb)
        replace Hk := Lib.hid (Hk.out.below hb)
        clear hb
        have Hx := Lib.hid hm
        have Lx := Lib.hid hn
        have Sx := Lib.hid hs
        clear hm hn hs
        clear Hi
        have HC := Lib.hid (mulM_any a (idS wa) na nk (some ⟨b0, o0, none⟩) Ak ca ck w6 Ha.out Hk.out Sa.out Sk.out (tab_below HTB.out HB.out))
        go_wp2_with fail
        refine HC.out.mono ?_
        rintro e w7 h
        clear HC
        obtain ⟨Ay, ny, cy, rfl, hm, hn, hs, hb⟩ := h.known (m := a) (U2.out)
        clear h
        have hbs := HB.out.size
        replace HB := Lib.hid (HB.out.trans (hb.mono hbs))
        clear hbs
        replace Ha := Lib.hid (Ha.out.below hb)
        replace Hk := Lib.hid (Hk.out.below hb)
        replace Hx := Lib.hid (Hx.out.below hb)
        clear hb
        have Hy := Lib.hid hm
        have Ly := Lib.hid hn
        have Sy := Lib.hid hs
        clear hm hn hs
        clear Hk
        have HC := Lib.hid (scM_any a na (some ⟨b0, o0, none⟩) ca ⟨#[49]⟩ w7 Ha.out Sa.out (by decide) (tab_below HTB.out HB.out))
        go_wp2_with fail
        refine HC.out.mono ?_
        rintro e w8 h
        clear HC
        obtain ⟨Az, nz, cz, rfl, hm, hn, hs, hb⟩ := h.known (m := a) (U3.out)
        clear h
        have hbs := HB.out.size
        replace HB := Lib.hid (HB.out.trans (hb.mono hbs))
        clear hbs
        replace Ha := Lib.hid (Ha.out.below hb)
        replace Hx := Lib.hid (Hx.out.below hb)
        replace Hy := Lib.hid (Hy.out.below hb)
        clear hb
        have Hz := Lib.hid hm
        have Lz := Lib.hid hn
        have Sz := Lib.hid hs
        clear hm hn hs
        have HX := Lib.hid (fine_any [0, 0, 0, 0, 0] 5 (some ⟨w8.heap.size, 0, none⟩) 5 (w8.alloc (.cells #[I 0, I 0, I 0, I 0, I 0] 25)) _ (reads_lits w8 _ [I 0, I 0, I 0, I 0, I 0]) (by omega))
        rw [show fineB [0, 0, 0, 0, 0] = true from rfl] at HX
        have hb := below_new w8 (.cells #[I 0, I 0, I 0, I 0, I 0] 25)
        have hbs := HB.out.size
        replace HB := Lib.hid (HB.out.trans (hb.mono hbs))
        clear hbs
        replace Ha := Lib.hid (Ha.out.below hb)
        replace Hx := Lib.hid (Hx.out.below hb)
        replace Hy := Lib.hid (Hy.out.below hb)
        replace Hz := Lib.hid (Hz.out.below hb)
        clear hb
        go_wp2_with fail
        refine HX.out.mono ?_
        rintro e w9 ⟨rfl, rfl⟩
        clear HX
        have HC := Lib.hid (same_any a a _ _ Ax (some ⟨b0, o0, none⟩) cx ca _ Hx.out Ha.out (by have h := NA.out.1; have h2 := Lx.out; omega) NA.out.2)
        go_wp2_with fail
        refine HC.out.mono ?_
        rintro e w10 ⟨rfl, hb⟩
        clear HC
        simp only [decide_true]
        have hbs := HB.out.size
        replace HB := Lib.hid (HB.out.trans (hb.mono hbs))
        clear hbs
        replace Ha := Lib.hid (Ha.out.below hb)
        replace Hx := Lib.hid (Hx.out.below hb)
        replace Hy := Lib.hid (Hy.out.below hb)
        replace Hz := Lib.hid (Hz.out.below hb)
        clear hb
        clear Hx
        have HC := Lib.hid (same_any a a _ _ Ay (some ⟨b0, o0, none⟩) cy ca _ Hy.out Ha.out (by have h := NA.out.1; have h2 := Ly.out; omega) NA.out.2)
        go_wp2_with fail
        refine HC.out.mono ?_
        rintro e w11 ⟨rfl, hb⟩
        clear HC
        simp only [decide_true]
        have hbs := HB.out.size
        replace HB := Lib.hid (HB.out.trans (hb.mono hbs))
        clear hbs
        replace Ha := Lib.hid (Ha.out.below hb)
        replace Hy := Lib.hid (Hy.out.below hb)
        replace Hz := Lib.hid (Hz.out.below hb)
        clear hb
        clear Hy
        have HC := Lib.hid (same_any a a _ _ Az (some ⟨b0, o0, none⟩) cz ca _ Hz.out Ha.out (by have h := NA.out.1; have h2 := Lz.out; omega) NA.out.2)
        go_wp2_with fail
        refine HC.out.mono ?_
        rintro e w12 ⟨rfl, hb⟩
        clear HC
        simp only [decide_true]
        have hbs := HB.out.size
        replace HB := Lib.hid (HB.out.trans (hb.mono hbs))
        clear hbs
        replace Ha := Lib.hid (Ha.out.below hb)
        replace Hz := Lib.hid (Hz.out.below hb)
        clear hb
        clear Hz
        go_wp2
        go_ret
        exact ⟨rfl, HB.out⟩
  · have tc : (chkM (tx2 a) != 0) = true := bne_iff_ne.2 h0
    generalize chkM (tx2 a) = cc at *
    clear h0
    go_wp2
    go_ret
    exact ⟨rfl, HB.out⟩
end Go.Proofs.YtmnedfkinepnfaaGreatDoor
namespace Go.Proofs.YtmnedfkinepnfaaGreatDoor
open Go.ChangeShapes Go.WideShapes Go.ChangeAt Go.RowKit Go.ChangeMaps

theorem matrixUnits_door (os : Os) (args : Array Value) : laidMetH Tryz.prog Rows.matrixUnitsRow.laid ((World.doorLaid Tryz.prog 62 os).forCall (fun _ _ => 0) ⟨#[], args, []⟩).memory :=
  laidMetH_of_parts3 (fuel := 8) (laidMet_of_run' 8 (by kernel_rfl) (by kernel_rfl)) (by kernel_rfl) (by kernel_rfl)
set_option linter.unusedVariables false in
set_option maxRecDepth 100000 in
theorem matrixUnits_lifted (os : Os) (started : os.Started) (H : Type) (enc : TypeId × Value → H) :
    ReturnsInHanded {} Tryz.checked os 7 .any (fun w args => (Rows.matrixUnitsSpec.pre enc Tryz.prog Tryz.f7 [] false w args ∧ laidMetH Tryz.prog Rows.matrixUnitsRow.laid w) ∧ sizedMet enc Tryz.prog Tryz.f7 (OpenSpec.ofChange Rows.matrixUnitsSpec) false w args)
      (Rows.matrixUnitsSpec.post enc Tryz.prog Tryz.f7 false true false false) := by
  refine returnsInHanded_of_change_and (C := Tryz.checked) (X := fun w _ => laidMetH Tryz.prog Rows.matrixUnitsRow.laid w) (fun _ _ _ hh h => h.of_heap hh) own started (by kernel_rfl) Tryz.func7
    (ChangeSpec.witness_shaped (enc := enc) (C := Tryz.checked) (os := os) (X := fun w _ => laidMetH Tryz.prog Rows.matrixUnitsRow.laid w) false (World.doorLaid Tryz.prog 62 os) #[.slice none 0 0] 8 rfl (World.shaped_of_RefB (by kernel_rfl) (by kernel_rfl)) (by kernel_rfl) (by kernel_rfl) (by kernel_rfl) (matrixUnits_door os _)) ?_
  intro W base args ds gs before hval0 hW _ _ hL _
  have hval : ∀ (j : Nat) t v, Tryz.f7.params[j]? = some t → args[j]? = some v → Value.okWide Tryz.prog W .any base t v := hval0
  have hW' := hW
  obtain ⟨p, q, hA0, hV, rfl, hfz, hnd⟩ := hW
  have hA : DataW.TrodAll enc Tryz.prog W 0 (fun _ => true) true Tryz.f7.params.toList args.toList ds p := hA0
  rw [Tryz.params7] at hA hval
  obtain ⟨v0, vs0, d0, ds0, p0, q0, hargs, rfl, rfl, h0, r0⟩ := trodAll_cons hA
  obtain ⟨rfl, rfl, rfl⟩ := trodAll_nil r0
  obtain rfl : args = #[v0] := by cases args; simp_all
  obtain ⟨rfl, rfl⟩ := trodVars_none hV
  have k0 := h0
  have lt0 : ∀ x ∈ p0, x.block < W.heap.size := by obtain ⟨m, hm⟩ := k0; exact DataW.trod_lt m _ _ _ hm
  obtain ⟨a0, len0, cap0, rfl⟩ := okWide_slice Tryz.underlying46 (hval 0 46 v0 rfl rfl)
  obtain ⟨fu0, ho0⟩ := h0
  obtain ⟨m0, A0, c0, e0, hm0, hs0⟩ := open_mat (u := .slice a0 len0 cap0) ho0
  injection e0 with ea0 eb0 ec0
  subst ea0 eb0 ec0
  clear hA0 hval0
  refine (matrixUnits_any m0 _ _ _ W hm0 hs0 (tab_of_laid hL)).mono fun e W' ⟨he, bel⟩ => ?_
  subst he
  exact ⟨_, rfl, _, _, _, [], _, [], hW', trodAll_mk1 (shut_bool Tryz.underlying4 _), (trodAll_cons_mk (Below.trod laidOut (by kernel_rfl) (of_decide_eq_true (by kernel_rfl)) k0 bel lt0) trodAll_mk0), rfl, bel.frame _, fun h => by cases h⟩

theorem matrixUnits_said : Rows.MatrixUnitsSaid :=
  OpenClaim.holds_of_wide 7 Tryz.f7 rfl rfl rfl rfl rfl rfl rfl ⟨rfl, rfl, rfl, rfl, rfl⟩ rfl rfl rfl rfl rfl (by kernel_rfl) Tryz.func7 (by kernel_rfl)
    (of_decide_eq_true (by kernel_rfl)) (by unfold Func.isWrapper; first | (rw [if_pos (by decide +kernel)]; kernel_rfl) | (rw [if_neg (by decide +kernel)]; exact ⟨rfl, rfl⟩))
    (fun os started H enc _ => matrixUnits_lifted os started H enc)
theorem matrixUnits_plain (f : FuncId) (fn : Func) (hf : Tryz.pinned.checked.prog.funcNamed "gridhall/gridhallkeep1.MatrixUnits" = some f) (hfn : Tryz.pinned.checked.prog.funcs[f]? = some fn) :
    true = Tryz.pinned.checked.prog.looks [] ∧ ∀ (j : Nat) t, fn.params[j]? = some t → Tryz.pinned.checked.prog.wantsStandIn t = false := by
  obtain rfl : f = 7 := Option.some.inj ((show Tryz.prog.funcNamed "gridhall/gridhallkeep1.MatrixUnits" = some 7 by kernel_rfl).symm.trans hf) |>.symm
  obtain rfl : fn = Tryz.f7 := (Option.some.inj (Tryz.func7.symm.trans hfn)).symm
  refine ⟨by kernel_rfl, fun j t ht => ?_⟩
  rw [Tryz.params7] at ht
  have hm : t ∈ [46] := by
    have := Array.mem_of_getElem? ht
    clear ht hf hfn
    revert this
    revert t
    simp
  have hall : ([46].all fun u => !Tryz.prog.wantsStandIn u) = true := by kernel_rfl
  exact (show Tryz.prog.wantsStandIn t = false by simpa using List.all_eq_true.1 hall t hm)
theorem matrixUnits_card : Rows.MatrixUnitsCardSaid :=
  Claim7.holds_tied_plain_at .later [] _ _ _ _ matrixUnits_said (fun _ h => by cases h) (by kernel_rfl) (fun _ h => by cases h) matrixUnits_row_tie rfl ⟨rfl, rfl⟩ (by kernel_rfl) rfl matrixUnits_plain (by kernel_rfl)
#print axioms matrixUnits_card
end Go.Proofs.YtmnedfkinepnfaaGreatDoor
