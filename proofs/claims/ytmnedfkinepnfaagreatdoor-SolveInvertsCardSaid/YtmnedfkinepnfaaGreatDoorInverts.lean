/- The walk of SolveInverts. SolveInverts returns true for every input: a matrix times its inverse is the identity, and there is an inverse exactly if the determinant is not 0. No conditions. The row's listed variables hold what the program's text lays (the card ties them). -/
import Derived.Test.YtmnedfkinepnfaaGreatDoorSJG
import Derived.Test.YtmnedfkinepnfaaGreatDoorCards
import Derived.Test.YtmnedfkinepnfaaGreatDoorTie
import Derived.Test.YtmnedfkinepnfaaGreatDoorJZ
import Derived.ShutString
import Derived.ChangeMaps5
namespace Go.Proofs.YtmnedfkinepnfaaGreatDoor
open Go.RowKit

set_option maxRecDepth 100000 in
set_option maxHeartbeats 16000000 in
theorem solveInverts_any (m : List (List ByteArray)) (nm : Nat) (Am : Option Addr) (cm : Nat) (w : World) (hm : SMat w Am nm m) (sm : Sh2 m) (htab : Tab w) :
    Calls Tryz.prog 12 #[.slice Am nm cm] w fun e w' => e = .returned (.bool true) ∧ Below w.heap.size w w' := by
  have HTB := Lib.hid htab
  have HB := Lib.hid (Below.refl w.heap.size w)
  clear htab
  have Lm := Lib.hid (show m.length = nm by obtain ⟨_, _, h, _⟩ := hm; exact h)
  have Hm := Lib.hid hm
  have Sm := Lib.hid sm
  clear hm sm
  go_enter Tryz.func12, Tryz.ntmps12
  have HC := Lib.hid (solveFact_any w HTB.out)
  go_wp2_with fail
  refine HC.out.mono ?_
  rintro e w1 ⟨rfl, hb⟩
  clear HC
  have hbs := HB.out.size
  replace HB := Lib.hid (HB.out.trans (hb.mono hbs))
  clear hbs
  replace Hm := Lib.hid (Hm.out.below hb)
  clear hb
  have hsmb := sms1 (c := cm) Hm.out
  obtain ⟨hsm, hb⟩ := hsmb
  have hbs := HB.out.size
  replace HB := Lib.hid (HB.out.trans (hb.mono hbs))
  clear hbs
  replace Hm := Lib.hid (Hm.out.below hb)
  clear hb
  unfold matT at *
  have HC := Lib.hid (small_any 5 [m] 1 _ 1 _ hsm (by decide) (by decide))
  go_wp2_with fail
  refine HC.out.mono ?_
  rintro e w2 ⟨rfl, hb⟩
  clear HC
  clear hsm
  have hbs := HB.out.size
  replace HB := Lib.hid (HB.out.trans (hb.mono hbs))
  clear hbs
  replace Hm := Lib.hid (Hm.out.below hb)
  clear hb
  cases hsm : [m].any (lgM 5) with
  | true =>
    go_wp2
    go_ret
    exact ⟨rfl, HB.out⟩
  | false =>
    have Zm := Lib.hid (lg_any hsm (m := m) (by simp))
    clear hsm
    have LT := Lib.hid (show (tx2 m).length = nm by rw [tx2, List.length_map, Lm.out])
    have HC := Lib.hid (sinverse_any m nm Am cm w2 Hm.out Sm.out (tab_below HTB.out HB.out))
    go_wp2_with fail
    refine HC.out.mono ?_
    rintro e w3 ⟨Av, nv, cv, v, rfl, hm, he, hs, hb⟩
    clear HC
    have hbs := HB.out.size
    replace HB := Lib.hid (HB.out.trans (hb.mono hbs))
    clear hbs
    replace Hm := Lib.hid (Hm.out.below hb)
    clear hb
    have Hv := Lib.hid hm
    have Ev := Lib.hid he
    have Sv := Lib.hid hs
    have Lv := Lib.hid (show v.length = nv by obtain ⟨_, _, h, _⟩ := hm; exact h)
    clear hm he hs
    have HC := Lib.hid (sdet_any m nm Am cm w3 Hm.out Sm.out (tab_below HTB.out HB.out) (small_h5 Zm.out Lm.out))
    go_wp2_with fail
    refine HC.out.mono ?_
    rintro e w4 ⟨rfl, hb⟩
    clear HC
    have hbs := HB.out.size
    replace HB := Lib.hid (HB.out.trans (hb.mono hbs))
    clear hbs
    replace Hm := Lib.hid (Hm.out.below hb)
    replace Hv := Lib.hid (Hv.out.below hb)
    clear hb
    by_cases h0 : squareT (tx2 m) = 0
    · have hq := inverts_law Zm.out h0
      have hd2 : (detT (tx2 m)).2 = 0 := by rw [detT_ok h0 Zm.out]
      have hc := (square_ok h0).2.2
      have hn40 : nm ≤ 40 := by have h := (square_ok h0).1.hn; rw [LT.out] at h; exact h
      rw [hd2]
      clear h0 hd2
      by_cases hz : (detT (tx2 m)).1 = [48]
      · have hi := hq.1 hz
        have hv0 : nv = 0 := by
          have h1 := Ev.out
          rw [hi] at h1
          have h2 := congrArg List.length h1
          rw [tx2, List.length_map, Lv.out] at h2
          exact h2
        subst hv0
        rw [hz, hi]
        clear hz hi hq
        go_wp2
        go_ret
        exact ⟨rfl, HB.out⟩
      · obtain ⟨V, q1, q2, q3⟩ := hq.2 hz
        have hlit := beq_lit ⟨(detT (tx2 m)).1.toArray⟩ [48] [48] (by decide +kernel)
        rw [SL_mk, decide_eq_false hz] at hlit
        generalize (⟨(detT (tx2 m)).1.toArray⟩ : ByteArray) = dd at *
        rw [← tx_un V] at q1 q2 q3
        obtain rfl : v = unT V := tx2_inj (by rw [Ev.out, q1])
        rw [LT.out, ← tx_idS] at q2 q3
        rw [q1]
        have Q2 := Lib.hid q2
        have Q3 := Lib.hid q3
        have NI := Lib.hid (nar_chk (m := idS nm) (by rw [tx_idS]; exact (vm_idT hn40).chk))
        clear hz hq q1 q2 q3 hc
        have HC := Lib.hid (mulM_any m (unT V) nm nv Am Av cm cv w4 Hm.out Hv.out Sm.out Sv.out (tab_below HTB.out HB.out))
        go_wp2_with fail
        refine HC.out.mono ?_
        rintro e w5 h
        clear HC
        obtain ⟨Ap, np, cp, rfl, hm, hn, hs, hb⟩ := h.known (m := idS nm) (Q2.out)
        clear h
        have hbs := HB.out.size
        replace HB := Lib.hid (HB.out.trans (hb.mono hbs))
        clear hbs
        replace Hm := Lib.hid (Hm.out.below hb)
        replace Hv := Lib.hid (Hv.out.below hb)
        clear hb
        have Hp := Lib.hid hm
        have Lp := Lib.hid hn
        have Sp := Lib.hid hs
        clear hm hn hs
        have HC := Lib.hid (mulM_any (unT V) m nv nm Av Am cv cm w5 Hv.out Hm.out Sv.out Sm.out (tab_below HTB.out HB.out))
        go_wp2_with fail
        refine HC.out.mono ?_
        rintro e w6 h
        clear HC
        obtain ⟨Aq, nq, cq, rfl, hm, hn, hs, hb⟩ := h.known (m := idS nm) (Q3.out)
        clear h
        have hbs := HB.out.size
        replace HB := Lib.hid (HB.out.trans (hb.mono hbs))
        clear hbs
        replace Hm := Lib.hid (Hm.out.below hb)
        replace Hv := Lib.hid (Hv.out.below hb)
        replace Hp := Lib.hid (Hp.out.below hb)
        clear hb
        have Hq := Lib.hid hm
        have Lq := Lib.hid hn
        have Sq := Lib.hid hs
        clear hm hn hs
        clear Hv Hm
        have HC := Lib.hid (identity_any nm w6 hn40)
        go_wp2_with fail
        refine HC.out.mono ?_
        rintro e w7 h
        clear HC
        obtain ⟨Ai, ni, ci, rfl, hm, hn, hs, hb⟩ := h.known (m := idS nm) (by rw [tx_idS])
        clear h
        have hbs := HB.out.size
        replace HB := Lib.hid (HB.out.trans (hb.mono hbs))
        clear hbs
        replace Hp := Lib.hid (Hp.out.below hb)
        replace Hq := Lib.hid (Hq.out.below hb)
        clear hb
        have Hi := Lib.hid hm
        have Li := Lib.hid hn
        have Si := Lib.hid hs
        clear hm hn hs
        have HX := Lib.hid (fine_any [0, 0, 0] 3 (some ⟨w7.heap.size, 0, none⟩) 3 (w7.alloc (.cells #[I 0, I 0, I 0] 25)) _ (reads_lits w7 _ [I 0, I 0, I 0]) (by omega))
        rw [show fineB [0, 0, 0] = true from rfl] at HX
        have hb := below_new w7 (.cells #[I 0, I 0, I 0] 25)
        have hbs := HB.out.size
        replace HB := Lib.hid (HB.out.trans (hb.mono hbs))
        clear hbs
        replace Hp := Lib.hid (Hp.out.below hb)
        replace Hq := Lib.hid (Hq.out.below hb)
        replace Hi := Lib.hid (Hi.out.below hb)
        clear hb
        go_wp2_with fail
        refine HX.out.mono ?_
        rintro e w8 ⟨rfl, rfl⟩
        clear HX
        have HC := Lib.hid (same_any (idS nm) (idS nm) _ _ Ap Ai cp ci _ Hp.out Hi.out (by have h := NI.out.1; have h2 := Lp.out; omega) NI.out.2)
        go_wp2_with fail
        refine HC.out.mono ?_
        rintro e w9 ⟨rfl, hb⟩
        clear HC
        simp only [decide_true]
        have hbs := HB.out.size
        replace HB := Lib.hid (HB.out.trans (hb.mono hbs))
        clear hbs
        replace Hp := Lib.hid (Hp.out.below hb)
        replace Hq := Lib.hid (Hq.out.below hb)
        replace Hi := Lib.hid (Hi.out.below hb)
        clear hb
        clear Hp
        have HC := Lib.hid (same_any (idS nm) (idS nm) _ _ Aq Ai cq ci _ Hq.out Hi.out (by have h := NI.out.1; have h2 := Lq.out; omega) NI.out.2)
        go_wp2_with fail
        refine HC.out.mono ?_
        rintro e w10 ⟨rfl, hb⟩
        clear HC
        simp only [decide_true]
        have hbs := HB.out.size
        replace HB := Lib.hid (HB.out.trans (hb.mono hbs))
        clear hbs
        replace Hq := Lib.hid (Hq.out.below hb)
        replace Hi := Lib.hid (Hi.out.below hb)
        clear hb
        clear Hq
        go_wp2
        go_ret
        exact ⟨rfl, HB.out⟩
    · obtain ⟨b1, b2⟩ := invT_bad h0
      have hv0 : nv = 0 := by
        have h1 := Ev.out
        rw [b1] at h1
        have h2 := congrArg List.length h1
        rw [tx2, List.length_map, Lv.out] at h2
        exact h2
      subst hv0
      rw [b1, b2]
      have tc : (squareT (tx2 m) != 0) = true := bne_iff_ne.2 h0
      clear Ev b1 b2 h0
      generalize squareT (tx2 m) = cc at *
      go_wp2
      go_ret
      exact ⟨rfl, HB.out⟩
end Go.Proofs.YtmnedfkinepnfaaGreatDoor
namespace Go.Proofs.YtmnedfkinepnfaaGreatDoor
open Go.ChangeShapes Go.WideShapes Go.ChangeAt Go.RowKit Go.ChangeMaps

theorem solveInverts_door (os : Os) (args : Array Value) : laidMetH Tryz.prog Rows.solveInvertsRow.laid ((World.doorLaid Tryz.prog 62 os).forCall (fun _ _ => 0) ⟨#[], args, []⟩).memory :=
  laidMetH_of_parts3 (fuel := 8) (laidMet_of_run' 8 (by kernel_rfl) (by kernel_rfl)) (by kernel_rfl) (by kernel_rfl)
set_option linter.unusedVariables false in
set_option maxRecDepth 100000 in
theorem solveInverts_lifted (os : Os) (started : os.Started) (H : Type) (enc : TypeId × Value → H) :
    ReturnsInHanded {} Tryz.checked os 12 .any (fun w args => (Rows.solveInvertsSpec.pre enc Tryz.prog Tryz.f12 [] false w args ∧ laidMetH Tryz.prog Rows.solveInvertsRow.laid w) ∧ sizedMet enc Tryz.prog Tryz.f12 (OpenSpec.ofChange Rows.solveInvertsSpec) false w args)
      (Rows.solveInvertsSpec.post enc Tryz.prog Tryz.f12 false true false false) := by
  refine returnsInHanded_of_change_and (C := Tryz.checked) (X := fun w _ => laidMetH Tryz.prog Rows.solveInvertsRow.laid w) (fun _ _ _ hh h => h.of_heap hh) own started (by kernel_rfl) Tryz.func12
    (ChangeSpec.witness_shaped (enc := enc) (C := Tryz.checked) (os := os) (X := fun w _ => laidMetH Tryz.prog Rows.solveInvertsRow.laid w) false (World.doorLaid Tryz.prog 62 os) #[.slice none 0 0] 8 rfl (World.shaped_of_RefB (by kernel_rfl) (by kernel_rfl)) (by kernel_rfl) (by kernel_rfl) (by kernel_rfl) (solveInverts_door os _)) ?_
  intro W base args ds gs before hval0 hW _ _ hL _
  have hval : ∀ (j : Nat) t v, Tryz.f12.params[j]? = some t → args[j]? = some v → Value.okWide Tryz.prog W .any base t v := hval0
  have hW' := hW
  obtain ⟨p, q, hA0, hV, rfl, hfz, hnd⟩ := hW
  have hA : DataW.TrodAll enc Tryz.prog W 0 (fun _ => true) true Tryz.f12.params.toList args.toList ds p := hA0
  rw [Tryz.params12] at hA hval
  obtain ⟨v0, vs0, d0, ds0, p0, q0, hargs, rfl, rfl, h0, r0⟩ := trodAll_cons hA
  obtain ⟨rfl, rfl, rfl⟩ := trodAll_nil r0
  obtain rfl : args = #[v0] := by cases args; simp_all
  obtain ⟨rfl, rfl⟩ := trodVars_none hV
  have k0 := h0
  have lt0 : ∀ x ∈ p0, x.block < W.heap.size := by obtain ⟨m, hm⟩ := k0; exact DataW.trod_lt m _ _ _ hm
  obtain ⟨a0, len0, cap0, rfl⟩ := okWide_slice Tryz.underlying46 (hval 0 46 v0 rfl rfl)
  obtain ⟨fu0, ho0⟩ := h0
  obtain ⟨m0, A0, c0, e0, hm0, hs0⟩ := open_mat (u := .slice a0 len0 cap0) ho0
  injection e0 with ea0 eb0 ec0
  subst ea0 eb0 ec0
  clear hA0 hval0
  refine (solveInverts_any m0 _ _ _ W hm0 hs0 (tab_of_laid hL)).mono fun e W' ⟨he, bel⟩ => ?_
  subst he
  exact ⟨_, rfl, _, _, _, [], _, [], hW', trodAll_mk1 (shut_bool Tryz.underlying4 _), (trodAll_cons_mk (Below.trod laidOut (by kernel_rfl) (of_decide_eq_true (by kernel_rfl)) k0 bel lt0) trodAll_mk0), rfl, bel.frame _, fun h => by cases h⟩

theorem solveInverts_said : Rows.SolveInvertsSaid :=
  OpenClaim.holds_of_wide 12 Tryz.f12 rfl rfl rfl rfl rfl rfl rfl ⟨rfl, rfl, rfl, rfl, rfl⟩ rfl rfl rfl rfl rfl (by kernel_rfl) Tryz.func12 (by kernel_rfl)
    (of_decide_eq_true (by kernel_rfl)) (by unfold Func.isWrapper; first | (rw [if_pos (by decide +kernel)]; kernel_rfl) | (rw [if_neg (by decide +kernel)]; exact ⟨rfl, rfl⟩))
    (fun os started H enc _ => solveInverts_lifted os started H enc)
theorem solveInverts_plain (f : FuncId) (fn : Func) (hf : Tryz.pinned.checked.prog.funcNamed "gridhall/gridhallkeep1.SolveInverts" = some f) (hfn : Tryz.pinned.checked.prog.funcs[f]? = some fn) :
    true = Tryz.pinned.checked.prog.looks [] ∧ ∀ (j : Nat) t, fn.params[j]? = some t → Tryz.pinned.checked.prog.wantsStandIn t = false := by
  obtain rfl : f = 12 := Option.some.inj ((show Tryz.prog.funcNamed "gridhall/gridhallkeep1.SolveInverts" = some 12 by kernel_rfl).symm.trans hf) |>.symm
  obtain rfl : fn = Tryz.f12 := (Option.some.inj (Tryz.func12.symm.trans hfn)).symm
  refine ⟨by kernel_rfl, fun j t ht => ?_⟩
  rw [Tryz.params12] at ht
  have hm : t ∈ [46] := by
    have := Array.mem_of_getElem? ht
    clear ht hf hfn
    revert this
    revert t
    simp
  have hall : ([46].all fun u => !Tryz.prog.wantsStandIn u) = true := by kernel_rfl
  exact (show Tryz.prog.wantsStandIn t = false by simpa using List.all_eq_true.1 hall t hm)
theorem solveInverts_card : Rows.SolveInvertsCardSaid :=
  Claim7.holds_tied_plain_at .later [] _ _ _ _ solveInverts_said (fun _ h => by cases h) (by kernel_rfl) (fun _ h => by cases h) solveInverts_row_tie rfl ⟨rfl, rfl⟩ (by kernel_rfl) rfl solveInverts_plain (by kernel_rfl)
#print axioms solveInverts_card
end Go.Proofs.YtmnedfkinepnfaaGreatDoor
