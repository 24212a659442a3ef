/- The walk of SolveBases. The walk of SolveKernels. SolveKernels returns true for every input: the vectors of the kernel are mapped to 0, are independent, and as many as columns without rank. No conditions. The row's listed variables hold what the program's text lays (the card ties them). -/
import Derived.Test.YtmnedfkinepnfaaGreatDoorSJG
import Derived.Test.YtmnedfkinepnfaaGreatDoorJY
import Derived.Test.YtmnedfkinepnfaaGreatDoorCards
import Derived.Test.YtmnedfkinepnfaaGreatDoorTie
import Derived.Test.YtmnedfkinepnfaaGreatDoorJZ
import Derived.ShutString
import Derived.ChangeMaps5
namespace Go.Proofs.YtmnedfkinepnfaaGreatDoor
open Go.RowKit

theorem rect_w40 {m : MT} (h : chkM m = 0) : wd m ≤ 40 := (chkM_ok h).hk.elim id fun h => by rw [wd_nil h]; omega
end Go.Proofs.YtmnedfkinepnfaaGreatDoor
namespace Go.Proofs.YtmnedfkinepnfaaGreatDoor
open Go.RowKit

/-- another text than "0" -/
def nzT (s : ByteArray) : Bool := !decide (SL s = [48])
set_option maxRecDepth 100000 in
theorem nzs_any (s : ByteArray) (w : World) : Calls Tryz.prog 47 #[.string s] w fun e w' => e = .returned (.bool (nzT s)) ∧ w' = w := by
  have hlit := beq_lit s [48] [48] (by decide +kernel)
  by_cases h : SL s = [48]
  · have HE := Lib.hid (show nzT s = false by rw [nzT, decide_eq_true h]; rfl)
    rw [decide_eq_true h] at hlit
    clear h
    go_enter Tryz.func47, Tryz.ntmps47
    go_wp2
    go_ret
    exact ⟨ret_bool HE.out.symm, rfl⟩
  · have HE := Lib.hid (show nzT s = true by rw [nzT, decide_eq_false h]; rfl)
    rw [decide_eq_false h] at hlit
    clear h
    go_enter Tryz.func47, Tryz.ntmps47
    go_wp2
    go_ret
    exact ⟨ret_bool HE.out.symm, rfl⟩
set_option maxRecDepth 100000 in
set_option maxHeartbeats 400000 in
theorem idxnzs_any (es : List ByteArray) (n : Nat) (A : Option Addr) (c : Nat) (w : World) (hr : Reads w w.heap.size 1 A n (es.map Sv)) (hn : n ≤ 1000000) :
    Calls Tryz.prog 110 #[.slice A n c, .func (.func 47) #[] #[]] w fun e w' => (∃ r, e = .returned (I r) ∧ decide (0 ≤ r) = es.any nzT) ∧ w' = w := by
  have HL := Lib.hid (show es.length = n by have := hr.1; simpa using this)
  have HR := Lib.hid hr
  clear hr
  go_enter Tryz.func110, Tryz.ntmps110
  go_wp2
  go_loopg [8] (n - 0) (fun r v wr => ∃ k : Nat, r = n - k ∧ v = I k ∧ k ≤ n ∧ wr = w ∧ Hid (es.any nzT = (es.drop k).any nzT))
  case atStart => exact ⟨0, rfl, rfl, by omega, rfl, rfl⟩
  case round =>
    obtain ⟨k, rfl, rfl, hk, rfl, HO⟩ := hrel
    by_cases hlt : k < n
    · obtain ⟨x, hx⟩ : ∃ x, es[k]? = some x := ⟨_, List.getElem?_eq_getElem (by rw [HL.out]; exact hlt)⟩
      obtain ⟨b, off, u, rfl, _, hu, hc⟩ := HR.out.at1 hlt
      obtain rfl : u = Sv x := by
        rw [List.getElem?_map, hx] at hu
        simpa using hu.symm
      have HCC := Lib.hid (nzs_any x wr)
      clear hu
      have HO2 := Lib.hid (show es.any nzT = (nzT x || (es.drop (k + 1)).any nzT) by
        obtain ⟨h1, h2⟩ := List.getElem?_eq_some_iff.1 hx
        rw [HO.out, List.drop_eq_getElem_cons h1, h2]
        rfl)
      clear hx HO
      by_cases h0 : nzT x = true
      · have HF := Lib.hid (show decide (0 ≤ (k : Int)) = es.any nzT by
          rw [HO2.out, h0, decide_eq_true (by omega)]; rfl)
        go_wp2_with fail
        refine HCC.out.mono ?_
        rintro e w' ⟨rfl, rfl⟩
        clear HCC
        rw [h0]
        clear HO2 h0
        go_wp2
        go_ret
        exact ⟨⟨_, rfl, HF.out⟩, rfl⟩
      · have h0 : nzT x = false := by simpa using h0
        have HO3 := Lib.hid (show es.any nzT = (es.drop (k + 1)).any nzT by rw [HO2.out, h0]; rfl)
        go_wp2_with fail
        refine HCC.out.mono ?_
        rintro e w' ⟨rfl, rfl⟩
        clear HCC
        rw [h0]
        clear HO2 h0
        go_wp2
        go_roundg (n - (k + 1))
        case measure => omega
        case rel => exact ⟨k + 1, rfl, by go_num, by omega, rfl, HO3⟩
    · have HF := Lib.hid (show decide (0 ≤ (-1 : Int)) = es.any nzT by
        rw [HO.out, List.drop_of_length_le (by rw [HL.out]; omega)]; rfl)
      clear HO
      go_wp2
      go_ret
      exact ⟨⟨_, rfl, HF.out⟩, rfl⟩
set_option maxRecDepth 100000 in
theorem contnzs_any (es : List ByteArray) (n : Nat) (A : Option Addr) (c : Nat) (w : World) (hr : Reads w w.heap.size 1 A n (es.map Sv)) (hn : n ≤ 1000000) :
    Calls Tryz.prog 46 #[.slice A n c, .func (.func 47) #[] #[]] w fun e w' => e = .returned (.bool (es.any nzT)) ∧ w' = w := by
  have HX := Lib.hid (idxnzs_any es n A c w hr hn)
  clear hr
  go_enter Tryz.func46, Tryz.ntmps46
  go_wp2_with fail
  refine HX.out.mono ?_
  rintro e w1 ⟨⟨r, rfl, hr⟩, rfl⟩
  have HR := Lib.hid hr
  clear hr HX
  go_wp2
  go_ret
  exact ⟨ret_bool HR.out, rfl⟩
theorem ker_chk {m : MT} (h : (kerT m).2 = 0) : chkM m = 0 ∧ kerT m = ((kerT m).1, 0) := by
  refine ⟨?_, by rw [← h]⟩
  rw [kerT] at h
  split at h
  · rename_i h0; exact absurd h h0
  · rename_i h0; exact Decidable.not_not.1 h0
theorem ker_bad {m : MT} (h : (kerT m).2 ≠ 0) : (kerT m).1 = [] := by
  rw [kerT] at h ⊢
  split at h
  · rename_i h0; rw [if_pos h0]
  · rename_i h0; rw [if_neg h0]; exact txM_bad h
theorem zeros_none (n : Nat) {l : List ByteArray} (h : tx1 l = List.replicate n [48]) : l.any nzT = false := by
  rw [List.any_eq_false]
  intro s hs
  have h1 : SL s ∈ tx1 l := List.mem_map_of_mem hs
  rw [h] at h1
  rw [nzT, decide_eq_true (List.mem_replicate.1 h1).2]
  decide
theorem rank_err0 {m : MT} (h : chkM m = 0) : (rankT m).2 = 0 := by
  rw [rankT, if_neg (fun k => k h)]
set_option maxRecDepth 100000 in
set_option maxHeartbeats 16000000 in
theorem solveKernels_any (m : List (List ByteArray)) (nm : Nat) (Am : Option Addr) (cm : Nat) (w : World) (hm : SMat w Am nm m) (sm : Sh2 m) (htab : Tab w) :
    Calls Tryz.prog 11 #[.slice Am nm cm] w fun e w' => e = .returned (.bool true) ∧ Below w.heap.size w w' := by
  have HTB := Lib.hid htab
  have HB := Lib.hid (Below.refl w.heap.size w)
  clear htab
  have Lm := Lib.hid (show m.length = nm by obtain ⟨_, _, h, _⟩ := hm; exact h)
  have Hm := Lib.hid hm
  have Sm := Lib.hid sm
  clear hm sm
  go_enter Tryz.func11, Tryz.ntmps11
  have HC := Lib.hid (solveFact_any w HTB.out)
  go_wp2_with fail
  refine HC.out.mono ?_
  rintro e w1 ⟨rfl, hb⟩
  clear HC
  have hbs := HB.out.size
  replace HB := Lib.hid (HB.out.trans (hb.mono hbs))
  clear hbs
  replace Hm := Lib.hid (Hm.out.below hb)
  clear hb
  have HC := Lib.hid (skernel_any m nm Am cm w1 Hm.out Sm.out (tab_below HTB.out HB.out))
  go_wp2_with fail
  refine HC.out.mono ?_
  rintro e w2 ⟨Ak, nk, ck, k, rfl, hm, he, hs, hb⟩
  clear HC
  have hbs := HB.out.size
  replace HB := Lib.hid (HB.out.trans (hb.mono hbs))
  clear hbs
  replace Hm := Lib.hid (Hm.out.below hb)
  clear hb
  have Hk := Lib.hid hm
  have Ek := Lib.hid he
  have Sk := Lib.hid hs
  have Lk := Lib.hid (show k.length = nk by obtain ⟨_, _, h, _⟩ := hm; exact h)
  clear hm he hs
  have LT := Lib.hid (show (tx2 m).length = nm by rw [tx2, List.length_map, Lm.out])
  have LTk := Lib.hid (show (tx2 k).length = nk by rw [tx2, List.length_map, Lk.out])
  by_cases he : (kerT (tx2 m)).2 = 0
  · obtain ⟨hc, hk⟩ := ker_chk he
    rw [he]
    rw [← Ek.out] at hk
    have HC0 := Lib.hid hc
    have HK := Lib.hid hk
    clear he hc hk
    have hsmb := sms1 (c := cm) Hm.out
    obtain ⟨hsm, hb⟩ := hsmb
    have hbs := HB.out.size
    replace HB := Lib.hid (HB.out.trans (hb.mono hbs))
    clear hbs
    replace Hm := Lib.hid (Hm.out.below hb)
    replace Hk := Lib.hid (Hk.out.below hb)
    clear hb
    unfold matT at *
    have HC := Lib.hid (small_any 6 [m] 1 _ 1 _ hsm (by decide) (by decide))
    go_wp2_with fail
    refine HC.out.mono ?_
    rintro e w3 ⟨rfl, hb⟩
    clear HC
    clear hsm
    have hbs := HB.out.size
    replace HB := Lib.hid (HB.out.trans (hb.mono hbs))
    clear hbs
    replace Hm := Lib.hid (Hm.out.below hb)
    replace Hk := Lib.hid (Hk.out.below hb)
    clear hb
    cases hsm : [m].any (lgM 6) with
    | true =>
      go_wp2
      go_ret
      exact ⟨rfl, HB.out⟩
    | false =>
      clear hsm
      by_cases hz : nm = 0
      · subst hz
        go_wp2
        go_ret
        exact ⟨rfl, HB.out⟩
      · have tz : ((nm : Int) == 0) = false := beq_eq_false_iff_ne.2 (by omega)
        have hp : 0 < nm := by omega
        have hn40 : nm ≤ 40 := by have h := (chkM_ok HC0.out).hn; rw [LT.out] at h; exact h
        obtain ⟨x0, hx0⟩ : ∃ x, m[0]? = some x := ⟨_, List.getElem?_eq_getElem (by rw [Lm.out]; exact hp)⟩
        have HW := Lib.hid (show wd (tx2 m) = x0.length by rw [wd_tx, head_get m x0 _ hx0])
        obtain ⟨q1, q2, q3⟩ := kernels_law HC0.out HK.out (by rw [LT.out]; exact hp)
        rw [LTk.out, HW.out] at q1
        rw [LTk.out] at q2
        have hw40 : x0.length ≤ 40 := by have h := rect_w40 HC0.out; rw [HW.out] at h; exact h
        have Q2 := Lib.hid q2
        have Q3 := Lib.hid (show ∀ v ∈ k, applyM (tx2 m) (tx1 v) = (List.replicate nm [48], 0) from fun v hv => by have h := q3 (tx1 v) (List.mem_map_of_mem hv); rw [LT.out] at h; exact h)
        clear q2 q3
        have HC := Lib.hid (srank_any m nm Am cm w3 Hm.out Sm.out (tab_below HTB.out HB.out))
        go_wp2_with fail
        refine HC.out.mono ?_
        rintro e w4 ⟨rfl, hb⟩
        clear HC
        rw [rank_err0 HC0.out]
        have hbs := HB.out.size
        replace HB := Lib.hid (HB.out.trans (hb.mono hbs))
        clear hbs
        replace Hm := Lib.hid (Hm.out.below hb)
        replace Hk := Lib.hid (Hk.out.below hb)
        clear hb
        have HC := Lib.hid (srank_any k nk Ak ck w4 Hk.out Sk.out (tab_below HTB.out HB.out))
        go_wp2_with fail
        refine HC.out.mono ?_
        rintro e w5 ⟨rfl, hb⟩
        clear HC
        rw [Q2.out]
        have hbs := HB.out.size
        replace HB := Lib.hid (HB.out.trans (hb.mono hbs))
        clear hbs
        replace Hm := Lib.hid (Hm.out.below hb)
        replace Hk := Lib.hid (Hk.out.below hb)
        clear hb
        have HX := Lib.hid (fine_any [0, 0] 2 (some ⟨w5.heap.size, 0, none⟩) 2 (w5.alloc (.cells #[I 0, I 0] 25)) _ (reads_lits w5 _ [I 0, I 0]) (by omega))
        rw [show fineB [0, 0] = true from rfl] at HX
        have hb := below_new w5 (.cells #[I 0, I 0] 25)
        have hbs := HB.out.size
        replace HB := Lib.hid (HB.out.trans (hb.mono hbs))
        clear hbs
        replace Hm := Lib.hid (Hm.out.below hb)
        replace Hk := Lib.hid (Hk.out.below hb)
        clear hb
        go_wp2_with fail
        refine HX.out.mono ?_
        rintro e w6 ⟨rfl, rfl⟩
        clear HX
        generalize (rankT (tx2 m)).1 = r at *
        obtain ⟨b0, o0, B0, d0, rfl, hc0, _⟩ := Hm.out.at_ hp x0 hx0
        rw [Nat.add_zero] at hc0
        clear hx0 HW
        generalize x0.length = wa at *
        have tn : ((nk : Int) != (wa : Int) - (r : Int)) = false := by rw [show (wa : Int) - (r : Int) = nk by omega, bne_self_eq_false]
        have ts : ((nk : Int) != nk) = false := by rw [bne_self_eq_false]
        generalize (w5.alloc (.cells #[I 0, I 0] 25)) = wl at *
        have HB0 := Lib.hid (Below.refl wl.heap.size wl)
        go_wp2
        clear hc0 tn ts
        go_loopg [74] (nk - 0) (fun r v wr => ∃ i : Nat, r = nk - i ∧ v = I i ∧ i ≤ nk ∧ Hid (Below wl.heap.size wl wr))
        case atStart => exact ⟨0, rfl, rfl, by omega, HB0⟩
        case round =>
          clear HB0
          obtain ⟨i, rfl, rfl, hi, HB0⟩ := hrel
          obtain ⟨wa2, rfl⟩ : ∃ wa2 : World, wa2 = wr := ⟨_, rfl⟩
          replace HB := Lib.hid (HB.out.trans (HB0.out.mono HB.out.size))
          by_cases hlt : i < nk
          · obtain ⟨v, hv⟩ : ∃ x, k[i]? = some x := ⟨_, List.getElem?_eq_getElem (by rw [Lk.out]; exact hlt)⟩
            have hvm := List.mem_of_getElem? hv
            obtain ⟨bk, ok, Bv, dv, rfl, hcv, hrv⟩ := (Hk.out.below HB0.out).at_ hlt v hv
            have HC := Lib.hid (applyM_any m nm (some ⟨b0, o0, none⟩) cm v v.length Bv dv wa2 (Hm.out.below HB0.out) Sm.out hrv (Sk.out v hvm) (tab_below HTB.out HB.out))
            have HQ := Lib.hid (Q3.out v hvm)
            generalize v.length = vl at *
            clear hv hvm hrv
            go_wp2_with fail
            refine HC.out.mono ?_
            rintro e w8 ⟨Ax, nx, cx, x, rfl, hx, hex, hsx, hb⟩
            clear HC hcv
            rw [HQ.out] at hex ⊢
            have hxl := hx.len
            have hxn : nx ≤ 1000000 := by have h := congrArg List.length hex; rw [tx1, List.length_map, List.length_replicate, hxl] at h; omega
            have HBN := Lib.hid (HB0.out.trans (hb.mono HB0.out.size))
            have HC := Lib.hid (contnzs_any x nx Ax cx w8 hx hxn)
            rw [zeros_none nm hex] at HC
            clear hx hex hsx hxl hb HQ
            go_wp2_with fail
            refine HC.out.mono ?_
            rintro e w9 ⟨rfl, rfl⟩
            clear HC
            go_wp2
            go_roundg (nk - (i + 1))
            case measure => omega
            case rel => exact ⟨i + 1, rfl, by go_num, by omega, HBN⟩
          · have hin : i = nk := by omega
            subst hin
            go_wp2
            go_ret
            exact ⟨rfl, HB.out⟩
  · have hk0 := ker_bad he
    rw [← Ek.out] at hk0
    have hn0 : nk = 0 := by rw [← LTk.out, hk0]; rfl
    subst hn0
    have tc : ((kerT (tx2 m)).2 != 0) = true := bne_iff_ne.2 he
    have tz : ((kerT (tx2 m)).2 == 0) = false := beq_eq_false_iff_ne.2 he
    clear Ek hk0 he
    generalize (kerT (tx2 m)).2 = cc at *
    go_wp2
    go_ret
    exact ⟨rfl, HB.out⟩
end Go.Proofs.YtmnedfkinepnfaaGreatDoor
namespace Go.Proofs.YtmnedfkinepnfaaGreatDoor
open Go.ChangeShapes Go.WideShapes Go.ChangeAt Go.RowKit Go.ChangeMaps

theorem solveKernels_door (os : Os) (args : Array Value) : laidMetH Tryz.prog Rows.solveKernelsRow.laid ((World.doorLaid Tryz.prog 62 os).forCall (fun _ _ => 0) ⟨#[], args, []⟩).memory :=
  laidMetH_of_parts3 (fuel := 8) (laidMet_of_run' 8 (by kernel_rfl) (by kernel_rfl)) (by kernel_rfl) (by kernel_rfl)
set_option linter.unusedVariables false in
set_option maxRecDepth 100000 in
theorem solveKernels_lifted (os : Os) (started : os.Started) (H : Type) (enc : TypeId × Value → H) :
    ReturnsInHanded {} Tryz.checked os 11 .any (fun w args => (Rows.solveKernelsSpec.pre enc Tryz.prog Tryz.f11 [] false w args ∧ laidMetH Tryz.prog Rows.solveKernelsRow.laid w) ∧ sizedMet enc Tryz.prog Tryz.f11 (OpenSpec.ofChange Rows.solveKernelsSpec) false w args)
      (Rows.solveKernelsSpec.post enc Tryz.prog Tryz.f11 false true false false) := by
  refine returnsInHanded_of_change_and (C := Tryz.checked) (X := fun w _ => laidMetH Tryz.prog Rows.solveKernelsRow.laid w) (fun _ _ _ hh h => h.of_heap hh) own started (by kernel_rfl) Tryz.func11
    (ChangeSpec.witness_shaped (enc := enc) (C := Tryz.checked) (os := os) (X := fun w _ => laidMetH Tryz.prog Rows.solveKernelsRow.laid w) false (World.doorLaid Tryz.prog 62 os) #[.slice none 0 0] 8 rfl (World.shaped_of_RefB (by kernel_rfl) (by kernel_rfl)) (by kernel_rfl) (by kernel_rfl) (by kernel_rfl) (solveKernels_door os _)) ?_
  intro W base args ds gs before hval0 hW _ _ hL _
  have hval : ∀ (j : Nat) t v, Tryz.f11.params[j]? = some t → args[j]? = some v → Value.okWide Tryz.prog W .any base t v := hval0
  have hW' := hW
  obtain ⟨p, q, hA0, hV, rfl, hfz, hnd⟩ := hW
  have hA : DataW.TrodAll enc Tryz.prog W 0 (fun _ => true) true Tryz.f11.params.toList args.toList ds p := hA0
  rw [Tryz.params11] at hA hval
  obtain ⟨v0, vs0, d0, ds0, p0, q0, hargs, rfl, rfl, h0, r0⟩ := trodAll_cons hA
  obtain ⟨rfl, rfl, rfl⟩ := trodAll_nil r0
  obtain rfl : args = #[v0] := by cases args; simp_all
  obtain ⟨rfl, rfl⟩ := trodVars_none hV
  have k0 := h0
  have lt0 : ∀ x ∈ p0, x.block < W.heap.size := by obtain ⟨m, hm⟩ := k0; exact DataW.trod_lt m _ _ _ hm
  obtain ⟨a0, len0, cap0, rfl⟩ := okWide_slice Tryz.underlying46 (hval 0 46 v0 rfl rfl)
  obtain ⟨fu0, ho0⟩ := h0
  obtain ⟨m0, A0, c0, e0, hm0, hs0⟩ := open_mat (u := .slice a0 len0 cap0) ho0
  injection e0 with ea0 eb0 ec0
  subst ea0 eb0 ec0
  clear hA0 hval0
  refine (solveKernels_any m0 _ _ _ W hm0 hs0 (tab_of_laid hL)).mono fun e W' ⟨he, bel⟩ => ?_
  subst he
  exact ⟨_, rfl, _, _, _, [], _, [], hW', trodAll_mk1 (shut_bool Tryz.underlying4 _), (trodAll_cons_mk (Below.trod laidOut (by kernel_rfl) (of_decide_eq_true (by kernel_rfl)) k0 bel lt0) trodAll_mk0), rfl, bel.frame _, fun h => by cases h⟩

theorem solveKernels_said : Rows.SolveKernelsSaid :=
  OpenClaim.holds_of_wide 11 Tryz.f11 rfl rfl rfl rfl rfl rfl rfl ⟨rfl, rfl, rfl, rfl, rfl⟩ rfl rfl rfl rfl rfl (by kernel_rfl) Tryz.func11 (by kernel_rfl)
    (of_decide_eq_true (by kernel_rfl)) (by unfold Func.isWrapper; first | (rw [if_pos (by decide +kernel)]; kernel_rfl) | (rw [if_neg (by decide +kernel)]; exact ⟨rfl, rfl⟩))
    (fun os started H enc _ => solveKernels_lifted os started H enc)
theorem solveKernels_plain (f : FuncId) (fn : Func) (hf : Tryz.pinned.checked.prog.funcNamed "gridhall/gridhallkeep1.SolveKernels" = some f) (hfn : Tryz.pinned.checked.prog.funcs[f]? = some fn) :
    true = Tryz.pinned.checked.prog.looks [] ∧ ∀ (j : Nat) t, fn.params[j]? = some t → Tryz.pinned.checked.prog.wantsStandIn t = false := by
  obtain rfl : f = 11 := Option.some.inj ((show Tryz.prog.funcNamed "gridhall/gridhallkeep1.SolveKernels" = some 11 by kernel_rfl).symm.trans hf) |>.symm
  obtain rfl : fn = Tryz.f11 := (Option.some.inj (Tryz.func11.symm.trans hfn)).symm
  refine ⟨by kernel_rfl, fun j t ht => ?_⟩
  rw [Tryz.params11] at ht
  have hm : t ∈ [46] := by
    have := Array.mem_of_getElem? ht
    clear ht hf hfn
    revert this
    revert t
    simp
  have hall : ([46].all fun u => !Tryz.prog.wantsStandIn u) = true := by kernel_rfl
  exact (show Tryz.prog.wantsStandIn t = false by simpa using List.all_eq_true.1 hall t hm)
theorem solveKernels_card : Rows.SolveKernelsCardSaid :=
  Claim7.holds_tied_plain_at .later [] _ _ _ _ solveKernels_said (fun _ h => by cases h) (by kernel_rfl) (fun _ h => by cases h) solveKernels_row_tie rfl ⟨rfl, rfl⟩ (by kernel_rfl) rfl solveKernels_plain (by kernel_rfl)
#print axioms solveKernels_card
end Go.Proofs.YtmnedfkinepnfaaGreatDoor
