/- The walk of SolveBases. SolveBases returns true for every input: the rows of the basis are independent, and each other row is a combination of earlier rows of the basis. No conditions. The row's listed variables hold what the program's text lays (the card ties them). -/
import Derived.Test.YtmnedfkinepnfaaGreatDoorSJG
import Derived.Test.YtmnedfkinepnfaaGreatDoorJY
import Derived.Test.YtmnedfkinepnfaaGreatDoorCards
import Derived.Test.YtmnedfkinepnfaaGreatDoorTie
import Derived.Test.YtmnedfkinepnfaaGreatDoorJZ
import Derived.ShutString
import Derived.ChangeMaps5
namespace Go.Proofs.YtmnedfkinepnfaaGreatDoor
open Go.RowKit

/-- the rank of the first k rows -/
def cntT (m : MT) (k : Nat) : Nat := (redQ (trQ (valsM m) (wd m)) k).2.length
theorem SMat.take_ {w : World} {A : Option Addr} {n : Nat} {m : List (List ByteArray)} (h : SMat w A n m) {k : Nat} (hk : k ≤ n) : SMat w A k (m.take k) := by
  obtain ⟨vs, h1, h2, h3⟩ := h
  have hvl : vs.length = n := by have := h1.1; omega
  refine ⟨vs.take k, ⟨by rw [List.length_take]; omega, fun h0 => ?_⟩, by rw [List.length_take]; omega, fun i u l hu hl => ?_⟩
  · obtain ⟨b, off, e, hb, hc⟩ := h1.2 (by omega)
    refine ⟨b, off, e, hb, fun j u hu => hc j u ?_⟩
    rw [List.getElem?_take] at hu
    split at hu
    · exact hu
    · cases hu
  · rw [List.getElem?_take] at hu hl
    split at hu
    · rename_i hi
      rw [if_pos hi] at hl
      exact h3 i u l hu hl
    · cases hu
theorem tx_take (m : List (List ByteArray)) (k : Nat) : tx2 (m.take k) = (tx2 m).take k := by unfold tx2; rw [List.map_take]
theorem bas_len {m : MT} (hm : chkM m = 0) : (basT m).1.length = cntT m m.length := by rw [bas_piv m hm]; rfl
theorem bas_sorted {m : MT} (hm : chkM m = 0) : ∀ t u, t < u → u < (basT m).1.length → (basT m).1.getD t 0 < (basT m).1.getD u 0 := by
  rw [bas_piv m hm]
  exact piv_sorted (rect_tr (k := wd m) (chkM_ok hm).vals.1) m.length
theorem bas_bad {m : MT} (h : chkM m ≠ 0) : basT m = ([], chkM m) := by rw [basT, if_pos h]
theorem rect_w40 {m : MT} (h : chkM m = 0) : wd m ≤ 40 := (chkM_ok h).hk.elim id fun h => by rw [wd_nil h]; omega
set_option maxRecDepth 100000 in
set_option maxHeartbeats 16000000 in
theorem solveBases_any (m : List (List ByteArray)) (nm : Nat) (Am : Option Addr) (cm : Nat) (w : World) (hm : SMat w Am nm m) (sm : Sh2 m) (hcap : nm ≤ cm) (htab : Tab w) :
    Calls Tryz.prog 9 #[.slice Am nm cm] w fun e w' => e = .returned (.bool true) ∧ Below w.heap.size w w' := by
  have HTB := Lib.hid htab
  have HB := Lib.hid (Below.refl w.heap.size w)
  clear htab
  have Lm := Lib.hid (show m.length = nm by obtain ⟨_, _, h, _⟩ := hm; exact h)
  have Hm := Lib.hid hm
  have Sm := Lib.hid sm
  clear hm sm
  go_enter Tryz.func9, Tryz.ntmps9
  have HCP := Lib.hid hcap
  clear hcap
  have HC := Lib.hid (solveFact_any w HTB.out)
  go_wp2_with fail
  refine HC.out.mono ?_
  rintro e w1 ⟨rfl, hb⟩
  clear HC
  have hbs := HB.out.size
  replace HB := Lib.hid (HB.out.trans (hb.mono hbs))
  clear hbs
  replace Hm := Lib.hid (Hm.out.below hb)
  clear hb
  have HC := Lib.hid (sbasis_any m nm Am cm w1 Hm.out Sm.out (tab_below HTB.out HB.out))
  go_wp2_with fail
  refine HC.out.mono ?_
  rintro e w2 ⟨vb, rfl, hN, hb⟩
  clear HC
  have hbs := HB.out.size
  replace HB := Lib.hid (HB.out.trans (hb.mono hbs))
  clear hbs
  replace Hm := Lib.hid (Hm.out.below hb)
  clear hb
  obtain ⟨Al, cl, rfl⟩ := hN.val
  rw [ints_len]
  have HL := Lib.hid (show RdN w2 Al (basT (tx2 m)).1.length (basT (tx2 m)).1 from by have h := hN.row; rw [ints_len] at h; exact h.reads)
  clear hN
  have LT := Lib.hid (show (tx2 m).length = nm by rw [tx2, List.length_map, Lm.out])
  by_cases h0 : chkM (tx2 m) = 0
  · have H0 := Lib.hid h0
    rw [show (basT (tx2 m)).2 = 0 by rw [bas_piv _ h0]]
    have HLN := Lib.hid (show (basT (tx2 m)).1.length = cntT (tx2 m) nm by rw [bas_len h0, LT.out])
    have HSO := Lib.hid (bas_sorted h0)
    have hn40 : nm ≤ 40 := by have h := (chkM_ok h0).hn; rw [LT.out] at h; exact h
    have HLAW := Lib.hid (show ∀ i, i < nm → (cntT (tx2 m) i < cntT (tx2 m) (i + 1) ↔ i ∈ (basT (tx2 m)).1) from fun i hi => bases_law h0 (by rw [LT.out]; exact hi))
    have HRK := Lib.hid (show ∀ i, i < nm → rankT ((tx2 m).take (i + 1)) = (cntT (tx2 m) (i + 1), 0) from fun i hi => rank_take h0 (by rw [LT.out]; exact hi))
    have hll : (basT (tx2 m)).1.length ≤ 1000 := by
      rw [HLN.out]
      have h := (red_inv (rect_tr (k := wd (tx2 m)) (chkM_ok h0).vals.1) nm).few
      have h2 := rect_w40 h0
      unfold cntT
      omega
    clear h0
    generalize (basT (tx2 m)).1 = l at *
    generalize hlln : l.length = ll at *
    have HLL := Lib.hid hlln
    clear hlln
    have hsmb := sms1 (c := cm) Hm.out
    obtain ⟨hsm, hb⟩ := hsmb
    have hbs := HB.out.size
    replace HB := Lib.hid (HB.out.trans (hb.mono hbs))
    clear hbs
    replace Hm := Lib.hid (Hm.out.below hb)
    replace HL := Lib.hid (HL.out.below hb)
    clear hb
    unfold matT at *
    have HC := Lib.hid (small_any 5 [m] 1 _ 1 _ hsm (by decide) (by decide))
    go_wp2_with fail
    refine HC.out.mono ?_
    rintro e w3 ⟨rfl, hb⟩
    clear HC
    clear hsm
    have hbs := HB.out.size
    replace HB := Lib.hid (HB.out.trans (hb.mono hbs))
    clear hbs
    replace Hm := Lib.hid (Hm.out.below hb)
    replace HL := Lib.hid (HL.out.below hb)
    clear hb
    cases hsm : [m].any (lgM 5) with
    | true =>
      go_wp2
      go_ret
      exact ⟨rfl, HB.out⟩
    | false =>
      clear hsm
      have HB0 := Lib.hid (Below.refl w3.heap.size w3)
      go_wp2
      go_loopg [5, 33] (nm - 0) (fun r o v wr => ∃ k : Nat, r = nm - k ∧ o = I (cntT (tx2 m) k) ∧ v = I k ∧ k ≤ nm ∧ Hid (Below w3.heap.size w3 wr))
      case atStart => exact ⟨0, rfl, rfl, rfl, by omega, HB0⟩
      case round =>
        clear HB0
        obtain ⟨k, rfl, rfl, rfl, hk, HB0⟩ := hrel
        obtain ⟨wa, rfl⟩ : ∃ wa : World, wa = wr := ⟨_, rfl⟩
        replace HB := Lib.hid (HB.out.trans (HB0.out.mono HB.out.size))
        by_cases hlt : k < nm
        · obtain ⟨x0, hx0⟩ : ∃ x, m[k]? = some x := ⟨_, List.getElem?_eq_getElem (by rw [Lm.out]; exact hlt)⟩
          obtain ⟨b0, o0, B0, d0, rfl, hc0, _⟩ := (Hm.out.below HB0.out).at_ hlt x0 hx0
          clear hx0 hc0
          have hcp := HCP.out
          have hcm : ¬ cm = 0 := by omega
          have hkc : (k : Int) + 1 ≤ cm := by omega
          have hk0 : (0 : Int) ≤ (k : Int) + 1 := by omega
          have hkt : ((k : Int) + 1).toNat = k + 1 := by omega
          have HC := Lib.hid (srank_any (m.take (k + 1)) (k + 1) (some ⟨b0, o0, none⟩) cm wa ((Hm.out.below HB0.out).take_ (by omega)) (fun r hr => Sm.out r (List.mem_of_mem_take hr)) (tab_below HTB.out HB.out))
          rw [tx_take, HRK.out k hlt] at HC
          have hlaw := HLAW.out k hlt
          generalize cntT (tx2 m) k = r0 at *
          obtain ⟨r1, hr1⟩ : ∃ r1, cntT (tx2 m) (k + 1) = r1 := ⟨_, rfl⟩
          have HR1 := Lib.hid hr1
          rw [hr1] at hlaw HC
          clear hr1
          go_wp2_with fail
          refine HC.out.mono ?_
          rintro e w9 ⟨rfl, hb⟩
          clear HC hcp hkc hk0 hkt
          have HBN := Lib.hid (HB0.out.trans (hb.mono HB0.out.size))
          have HC := Lib.hid (contI_any l ll k Al cl w9 (HL.out.below HBN.out) HLL.out (by omega))
          clear hb
          by_cases hr : r0 < r1
          · have t1 : decide (r0 < r1) = true := decide_eq_true hr
            have t2 : l.contains k = true := List.contains_iff_mem.2 (hlaw.1 hr)
            rw [t2] at HC
            clear hlaw hr
            go_wp2_with fail
            refine HC.out.mono ?_
            rintro e w10 ⟨rfl, rfl⟩
            clear HC
            go_wp2
            go_roundg (nm - (k + 1))
            case measure => omega
            case rel => exact ⟨k + 1, rfl, by rw [HR1.out], by go_num, by omega, HBN⟩
          · have t1 : decide (r0 < r1) = false := decide_eq_false hr
            have t2 : l.contains k = false := by
              cases h : l.contains k with
              | false => rfl
              | true => exact absurd (hlaw.2 (List.contains_iff_mem.1 h)) hr
            rw [t2] at HC
            clear hlaw hr
            go_wp2_with fail
            refine HC.out.mono ?_
            rintro e w10 ⟨rfl, rfl⟩
            clear HC
            go_wp2
            go_roundg (nm - (k + 1))
            case measure => omega
            case rel => exact ⟨k + 1, rfl, by rw [HR1.out], by go_num, by omega, HBN⟩
        · have hkn : k = nm := by omega
          subst hkn
          have tl : ((ll : Int) == ((cntT (tx2 m) k : Nat) : Int)) = true := by rw [← HLN.out]; exact beq_self_eq_true _
          have HC := Lib.hid (sortI_any l ll Al cl wa (HL.out.below HB0.out) HLL.out (by omega) (by rw [HLL.out]; exact HSO.out))
          generalize cntT (tx2 m) k = rk at *
          go_wp2_with fail
          refine HC.out.mono ?_
          rintro e w9 ⟨rfl, q, rfl⟩
          clear HC
          have HBF := Lib.hid (below_drewN HB.out q)
          go_wp2
          go_ret
          exact ⟨rfl, HBF.out⟩
  · have hbb := bas_bad h0
    have tc : (chkM (tx2 m) != 0) = true := bne_iff_ne.2 h0
    have tz : (chkM (tx2 m) == 0) = false := beq_eq_false_iff_ne.2 h0
    rw [hbb]
    clear HL h0 hbb
    generalize chkM (tx2 m) = cc at *
    go_wp2
    go_ret
    exact ⟨rfl, HB.out⟩
end Go.Proofs.YtmnedfkinepnfaaGreatDoor
namespace Go.Proofs.YtmnedfkinepnfaaGreatDoor
open Go.ChangeShapes Go.WideShapes Go.ChangeAt Go.RowKit Go.ChangeMaps

theorem solveBases_door (os : Os) (args : Array Value) : laidMetH Tryz.prog Rows.solveBasesRow.laid ((World.doorLaid Tryz.prog 62 os).forCall (fun _ _ => 0) ⟨#[], args, []⟩).memory :=
  laidMetH_of_parts3 (fuel := 8) (laidMet_of_run' 8 (by kernel_rfl) (by kernel_rfl)) (by kernel_rfl) (by kernel_rfl)
set_option linter.unusedVariables false in
set_option maxRecDepth 100000 in
theorem solveBases_lifted (os : Os) (started : os.Started) (H : Type) (enc : TypeId × Value → H) :
    ReturnsInHanded {} Tryz.checked os 9 .any (fun w args => (Rows.solveBasesSpec.pre enc Tryz.prog Tryz.f9 [] false w args ∧ laidMetH Tryz.prog Rows.solveBasesRow.laid w) ∧ sizedMet enc Tryz.prog Tryz.f9 (OpenSpec.ofChange Rows.solveBasesSpec) false w args)
      (Rows.solveBasesSpec.post enc Tryz.prog Tryz.f9 false true false false) := by
  refine returnsInHanded_of_change_and (C := Tryz.checked) (X := fun w _ => laidMetH Tryz.prog Rows.solveBasesRow.laid w) (fun _ _ _ hh h => h.of_heap hh) own started (by kernel_rfl) Tryz.func9
    (ChangeSpec.witness_shaped (enc := enc) (C := Tryz.checked) (os := os) (X := fun w _ => laidMetH Tryz.prog Rows.solveBasesRow.laid w) false (World.doorLaid Tryz.prog 62 os) #[.slice none 0 0] 8 rfl (World.shaped_of_RefB (by kernel_rfl) (by kernel_rfl)) (by kernel_rfl) (by kernel_rfl) (by kernel_rfl) (solveBases_door os _)) ?_
  intro W base args ds gs before hval0 hW _ _ hL _
  have hval : ∀ (j : Nat) t v, Tryz.f9.params[j]? = some t → args[j]? = some v → Value.okWide Tryz.prog W .any base t v := hval0
  have hW' := hW
  obtain ⟨p, q, hA0, hV, rfl, hfz, hnd⟩ := hW
  have hA : DataW.TrodAll enc Tryz.prog W 0 (fun _ => true) true Tryz.f9.params.toList args.toList ds p := hA0
  rw [Tryz.params9] at hA hval
  obtain ⟨v0, vs0, d0, ds0, p0, q0, hargs, rfl, rfl, h0, r0⟩ := trodAll_cons hA
  obtain ⟨rfl, rfl, rfl⟩ := trodAll_nil r0
  obtain rfl : args = #[v0] := by cases args; simp_all
  obtain ⟨rfl, rfl⟩ := trodVars_none hV
  have k0 := h0
  have lt0 : ∀ x ∈ p0, x.block < W.heap.size := by obtain ⟨m, hm⟩ := k0; exact DataW.trod_lt m _ _ _ hm
  obtain ⟨a0, len0, cap0, rfl⟩ := okWide_slice Tryz.underlying46 (hval 0 46 v0 rfl rfl)
  obtain ⟨fu0, ho0⟩ := h0
  obtain ⟨m0, A0, c0, e0, hm0, hs0, hc0⟩ := open_matC (u := .slice a0 len0 cap0) ho0
  injection e0 with ea0 eb0 ec0
  subst ea0 eb0 ec0
  clear hA0 hval0
  refine (solveBases_any m0 _ _ _ W hm0 hs0 hc0 (tab_of_laid hL)).mono fun e W' ⟨he, bel⟩ => ?_
  subst he
  exact ⟨_, rfl, _, _, _, [], _, [], hW', trodAll_mk1 (shut_bool Tryz.underlying4 _), (trodAll_cons_mk (Below.trod laidOut (by kernel_rfl) (of_decide_eq_true (by kernel_rfl)) k0 bel lt0) trodAll_mk0), rfl, bel.frame _, fun h => by cases h⟩

theorem solveBases_said : Rows.SolveBasesSaid :=
  OpenClaim.holds_of_wide 9 Tryz.f9 rfl rfl rfl rfl rfl rfl rfl ⟨rfl, rfl, rfl, rfl, rfl⟩ rfl rfl rfl rfl rfl (by kernel_rfl) Tryz.func9 (by kernel_rfl)
    (of_decide_eq_true (by kernel_rfl)) (by unfold Func.isWrapper; first | (rw [if_pos (by decide +kernel)]; kernel_rfl) | (rw [if_neg (by decide +kernel)]; exact ⟨rfl, rfl⟩))
    (fun os started H enc _ => solveBases_lifted os started H enc)
theorem solveBases_plain (f : FuncId) (fn : Func) (hf : Tryz.pinned.checked.prog.funcNamed "gridhall/gridhallkeep1.SolveBases" = some f) (hfn : Tryz.pinned.checked.prog.funcs[f]? = some fn) :
    true = Tryz.pinned.checked.prog.looks [] ∧ ∀ (j : Nat) t, fn.params[j]? = some t → Tryz.pinned.checked.prog.wantsStandIn t = false := by
  obtain rfl : f = 9 := Option.some.inj ((show Tryz.prog.funcNamed "gridhall/gridhallkeep1.SolveBases" = some 9 by kernel_rfl).symm.trans hf) |>.symm
  obtain rfl : fn = Tryz.f9 := (Option.some.inj (Tryz.func9.symm.trans hfn)).symm
  refine ⟨by kernel_rfl, fun j t ht => ?_⟩
  rw [Tryz.params9] at ht
  have hm : t ∈ [46] := by
    have := Array.mem_of_getElem? ht
    clear ht hf hfn
    revert this
    revert t
    simp
  have hall : ([46].all fun u => !Tryz.prog.wantsStandIn u) = true := by kernel_rfl
  exact (show Tryz.prog.wantsStandIn t = false by simpa using List.all_eq_true.1 hall t hm)
theorem solveBases_card : Rows.SolveBasesCardSaid :=
  Claim7.holds_tied_plain_at .later [] _ _ _ _ solveBases_said (fun _ h => by cases h) (by kernel_rfl) (fun _ h => by cases h) solveBases_row_tie rfl ⟨rfl, rfl⟩ (by kernel_rfl) rfl solveBases_plain (by kernel_rfl)
#print axioms solveBases_card
end Go.Proofs.YtmnedfkinepnfaaGreatDoor
