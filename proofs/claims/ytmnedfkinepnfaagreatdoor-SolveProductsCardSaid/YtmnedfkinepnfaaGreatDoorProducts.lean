/- The walk of SolveProducts. SolveProducts returns true for every input: the determinant of a product is the product of the determinants, and that of the transpose is the same. No conditions. The row's listed variables hold what the program's text lays (the card ties them). -/
import Derived.Test.YtmnedfkinepnfaaGreatDoorSJG
import Derived.Test.YtmnedfkinepnfaaGreatDoorJR
import Derived.Test.YtmnedfkinepnfaaGreatDoorCards
import Derived.Test.YtmnedfkinepnfaaGreatDoorTie
import Derived.Test.YtmnedfkinepnfaaGreatDoorJZ
import Derived.ShutString
import Derived.ChangeMaps5
namespace Go.Proofs.YtmnedfkinepnfaaGreatDoor
open Go.RowKit

theorem fine2 (a b : Int) : fineB [a, b] = decide (a = 0 ∧ b = 0) := by
  by_cases h : a = 0 ∧ b = 0
  · rw [decide_eq_true h]; obtain ⟨rfl, rfl⟩ := h; rfl
  · rw [decide_eq_false h]
    cases e : fineB [a, b] with
    | false => rfl
    | true => exact absurd ⟨(fineB_iff _).1 e a (by simp), (fineB_iff _).1 e b (by simp)⟩ h
theorem det_len {m : MT} (h : squareT m = 0) (hs : smallB 5 m = true) : (⟨(detT m).1.toArray⟩ : ByteArray).size ≤ 9223372036854775807 := by
  have h1 := qTextLen ((det_small h hs).fit (by omega) (by omega))
  rw [detT_ok h hs]
  rw [detR_det (square_ok h).1.vals] at h1
  show (qText _).toArray.size ≤ _
  rw [List.size_toArray]
  omega
set_option maxRecDepth 100000 in
set_option maxHeartbeats 16000000 in
theorem solveProducts_any (a : List (List ByteArray)) (na : Nat) (Aa : Option Addr) (ca : Nat) (b : List (List ByteArray)) (nb : Nat) (Ab : Option Addr) (cb : Nat) (w : World) (ha : SMat w Aa na a) (sa : Sh2 a) (hb : SMat w Ab nb b) (sb : Sh2 b) (htab : Tab w) :
    Calls Tryz.prog 13 #[.slice Aa na ca, .slice Ab nb cb] w fun e w' => e = .returned (.bool true) ∧ Below w.heap.size w w' := by
  have HTB := Lib.hid htab
  have HB := Lib.hid (Below.refl w.heap.size w)
  clear htab
  have La := Lib.hid (show a.length = na by obtain ⟨_, _, h, _⟩ := ha; exact h)
  have Ha := Lib.hid ha
  have Sa := Lib.hid sa
  clear ha sa
  have Lb := Lib.hid (show b.length = nb by obtain ⟨_, _, h, _⟩ := hb; exact h)
  have Hb := Lib.hid hb
  have Sb := Lib.hid sb
  clear hb sb
  go_enter Tryz.func13, Tryz.ntmps13
  have HC := Lib.hid (solveFact_any w HTB.out)
  go_wp2_with fail
  refine HC.out.mono ?_
  rintro e w1 ⟨rfl, hb⟩
  clear HC
  have hbs := HB.out.size
  replace HB := Lib.hid (HB.out.trans (hb.mono hbs))
  clear hbs
  replace Ha := Lib.hid (Ha.out.below hb)
  replace Hb := Lib.hid (Hb.out.below hb)
  clear hb
  have hsmb := sms2 (c := ca) (d := cb) Ha.out Hb.out
  obtain ⟨hsm, hb⟩ := hsmb
  have hbs := HB.out.size
  replace HB := Lib.hid (HB.out.trans (hb.mono hbs))
  clear hbs
  replace Ha := Lib.hid (Ha.out.below hb)
  replace Hb := Lib.hid (Hb.out.below hb)
  clear hb
  unfold matT at *
  have HC := Lib.hid (small_any 5 [a, b] 2 _ 2 _ hsm (by decide) (by decide))
  go_wp2_with fail
  refine HC.out.mono ?_
  rintro e w2 ⟨rfl, hb⟩
  clear HC
  clear hsm
  have hbs := HB.out.size
  replace HB := Lib.hid (HB.out.trans (hb.mono hbs))
  clear hbs
  replace Ha := Lib.hid (Ha.out.below hb)
  replace Hb := Lib.hid (Hb.out.below hb)
  clear hb
  cases hsm : [a, b].any (lgM 5) with
  | true =>
    go_wp2
    go_ret
    exact ⟨rfl, HB.out⟩
  | false =>
    have Za := Lib.hid (lg_any hsm (m := a) (by simp))
    have LTa := Lib.hid (show (tx2 a).length = na by rw [tx2, List.length_map, La.out])
    have Zb := Lib.hid (lg_any hsm (m := b) (by simp))
    have LTb := Lib.hid (show (tx2 b).length = nb by rw [tx2, List.length_map, Lb.out])
    clear hsm
    by_cases hab : na = nb
    · subst hab
      have tn : ((na : Int) != na) = false := by rw [bne_self_eq_false]
      have HC := Lib.hid (sdet_any a na Aa ca w2 Ha.out Sa.out (tab_below HTB.out HB.out) (small_h5 Za.out La.out))
      go_wp2_with fail
      refine HC.out.mono ?_
      rintro e w3 ⟨rfl, hb⟩
      clear HC
      have hbs := HB.out.size
      replace HB := Lib.hid (HB.out.trans (hb.mono hbs))
      clear hbs
      replace Ha := Lib.hid (Ha.out.below hb)
      replace Hb := Lib.hid (Hb.out.below hb)
      clear hb
      have HC := Lib.hid (sdet_any b na Ab cb w3 Hb.out Sb.out (tab_below HTB.out HB.out) (small_h5 Zb.out Lb.out))
      go_wp2_with fail
      refine HC.out.mono ?_
      rintro e w4 ⟨rfl, hb⟩
      clear HC
      have hbs := HB.out.size
      replace HB := Lib.hid (HB.out.trans (hb.mono hbs))
      clear hbs
      replace Ha := Lib.hid (Ha.out.below hb)
      replace Hb := Lib.hid (Hb.out.below hb)
      clear hb
      by_cases h0 : squareT (tx2 a) = 0 ∧ squareT (tx2 b) = 0
      · obtain ⟨m, t, z, p1, p2, p3, p4, p5, p6, p7, p8, p9, p10, p11, p12, p13⟩ := products_law Za.out Zb.out (by rw [LTa.out, LTb.out]) h0.1 h0.2
        have HSA := Lib.hid (det_len h0.1 Za.out)
        have HSB := Lib.hid (det_len h0.2 Zb.out)
        have hn5 : na ≤ 5 := by have h := (small_len Za.out).1; rw [LTa.out] at h; exact h
        rw [← tx_un m] at p1 p2 p8 p9
        rw [← tx_un t] at p4 p5 p11 p12
        rw [p6, p7]
        rw [LTa.out] at p10 p13
        have Q1 := Lib.hid p1
        have Q2 := Lib.hid p2
        have Q3 := Lib.hid p3
        have Q4 := Lib.hid p4
        have Q5 := Lib.hid p5
        have Q8 := Lib.hid p8
        have Q11 := Lib.hid p11
        clear p1 p2 p3 p4 p5 p6 p7 p8 p9 p11 p12 h0
        have HX := Lib.hid (fine_any [0, 0] 2 (some ⟨w4.heap.size, 0, none⟩) 2 (w4.alloc (.cells #[I 0, I 0] 25)) _ (reads_lits w4 _ [I 0, I 0]) (by omega))
        rw [show fineB [0, 0] = true from rfl] at HX
        have hb := below_new w4 (.cells #[I 0, I 0] 25)
        have hbs := HB.out.size
        replace HB := Lib.hid (HB.out.trans (hb.mono hbs))
        clear hbs
        replace Ha := Lib.hid (Ha.out.below hb)
        replace Hb := Lib.hid (Hb.out.below hb)
        clear hb
        go_wp2_with fail
        refine HX.out.mono ?_
        rintro e w5 ⟨rfl, rfl⟩
        clear HX
        have HC := Lib.hid (mulM_any a b na na Aa Ab ca cb (w4.alloc (.cells #[I 0, I 0] 25)) Ha.out Hb.out Sa.out Sb.out (tab_below HTB.out HB.out))
        go_wp2_with fail
        refine HC.out.mono ?_
        rintro e w6 h
        clear HC
        obtain ⟨Am, nm, cm, rfl, hm, hn, hs, hb⟩ := h.known (m := unT m) (Q1.out)
        clear h
        have hbs := HB.out.size
        replace HB := Lib.hid (HB.out.trans (hb.mono hbs))
        clear hbs
        replace Ha := Lib.hid (Ha.out.below hb)
        replace Hb := Lib.hid (Hb.out.below hb)
        clear hb
        have Hm := Lib.hid hm
        have Lm := Lib.hid hn
        have Sm := Lib.hid hs
        clear hm hn hs
        clear Hb
        have HC := Lib.hid (sdet_any (unT m) nm Am cm w6 Hm.out Sm.out (tab_below HTB.out HB.out) (fun _ => ⟨by have h := Lm.out; rw [unT, List.length_map] at h; omega, Q8.out⟩))
        go_wp2_with fail
        refine HC.out.mono ?_
        rintro e w7 ⟨rfl, hb⟩
        clear HC
        rw [Q2.out]
        have hbs := HB.out.size
        replace HB := Lib.hid (HB.out.trans (hb.mono hbs))
        clear hbs
        replace Ha := Lib.hid (Ha.out.below hb)
        replace Hm := Lib.hid (Hm.out.below hb)
        clear hb
        clear Hm
        have HC := Lib.hid (ratMul_any ⟨(detT (tx2 a)).1.toArray⟩ ⟨(detT (tx2 b)).1.toArray⟩ w7 HSA.out HSB.out (tab_below HTB.out HB.out))
        go_wp2_with fail
        refine HC.out.mono ?_
        rintro e w8 ⟨rfl, hb⟩
        clear HC
        rw [SL_mk, SL_mk, Q3.out]
        have hbs := HB.out.size
        replace HB := Lib.hid (HB.out.trans (hb.mono hbs))
        clear hbs
        replace Ha := Lib.hid (Ha.out.below hb)
        clear hb
        have HC := Lib.hid (transpose_any a na Aa ca w8 Ha.out Sa.out (tab_below HTB.out HB.out))
        go_wp2_with fail
        refine HC.out.mono ?_
        rintro e w9 h
        clear HC
        obtain ⟨At, nt, ct, rfl, hm, hn, hs, hb⟩ := h.known (m := unT t) (Q4.out)
        clear h
        have hbs := HB.out.size
        replace HB := Lib.hid (HB.out.trans (hb.mono hbs))
        clear hbs
        replace Ha := Lib.hid (Ha.out.below hb)
        clear hb
        have Ht := Lib.hid hm
        have Lt := Lib.hid hn
        have St := Lib.hid hs
        clear hm hn hs
        clear Ha
        have HC := Lib.hid (sdet_any (unT t) nt At ct w9 Ht.out St.out (tab_below HTB.out HB.out) (fun _ => ⟨by have h := Lt.out; rw [unT, List.length_map] at h; omega, Q11.out⟩))
        go_wp2_with fail
        refine HC.out.mono ?_
        rintro e w10 ⟨rfl, hb⟩
        clear HC
        rw [Q5.out]
        have hbs := HB.out.size
        replace HB := Lib.hid (HB.out.trans (hb.mono hbs))
        clear hbs
        replace Ht := Lib.hid (Ht.out.below hb)
        clear hb
        clear Ht
        have HX := Lib.hid (fine_any [0, 0, 0, 0, 0] 5 (some ⟨w10.heap.size, 0, none⟩) 5 (w10.alloc (.cells #[I 0, I 0, I 0, I 0, I 0] 25)) _ (reads_lits w10 _ [I 0, I 0, I 0, I 0, I 0]) (by omega))
        rw [show fineB [0, 0, 0, 0, 0] = true from rfl] at HX
        have hb := below_new w10 (.cells #[I 0, I 0, I 0, I 0, I 0] 25)
        have hbs := HB.out.size
        replace HB := Lib.hid (HB.out.trans (hb.mono hbs))
        clear hbs
        clear hb
        go_wp2_with fail
        refine HX.out.mono ?_
        rintro e w11 ⟨rfl, rfl⟩
        clear HX
        generalize (detT (tx2 a)).1 = da at *
        clear Q1 Q2 Q3 Q4 Q5 Q8 Q11
        go_wp2
        go_ret
        exact ⟨rfl, HB.out⟩
      · have hne : ¬ ((detT (tx2 a)).2 = 0 ∧ (detT (tx2 b)).2 = 0) := fun h => h0 ⟨Decidable.byContradiction fun k => k (by have e := h.1; rw [(invT_bad k).2] at e; exact e), Decidable.byContradiction fun k => k (by have e := h.2; rw [(invT_bad k).2] at e; exact e)⟩
        generalize (detT (tx2 a)).2 = e1 at *
        generalize (detT (tx2 b)).2 = e2 at *
        clear h0
        have HX := Lib.hid (fine_any [e1, e2] 2 (some ⟨w4.heap.size, 0, none⟩) 2 (w4.alloc (.cells #[I e1, I e2] 25)) _ (reads_lits w4 _ [I e1, I e2]) (by omega))
        rw [show fineB [e1, e2] = false from by rw [fine2]; exact decide_eq_false hne] at HX
        have hb := below_new w4 (.cells #[I e1, I e2] 25)
        have hbs := HB.out.size
        replace HB := Lib.hid (HB.out.trans (hb.mono hbs))
        clear hbs
        replace Ha := Lib.hid (Ha.out.below hb)
        replace Hb := Lib.hid (Hb.out.below hb)
        clear hb
        go_wp2_with fail
        refine HX.out.mono ?_
        rintro e w5 ⟨rfl, rfl⟩
        clear HX
        go_wp2
        go_ret
        exact ⟨rfl, HB.out⟩
    · have tn : ((na : Int) != (nb : Int)) = true := bne_iff_ne.2 (by omega)
      go_wp2
      go_ret
      exact ⟨rfl, HB.out⟩
end Go.Proofs.YtmnedfkinepnfaaGreatDoor
namespace Go.Proofs.YtmnedfkinepnfaaGreatDoor
open Go.ChangeShapes Go.WideShapes Go.ChangeAt Go.RowKit Go.ChangeMaps

theorem solveProducts_door (os : Os) (args : Array Value) : laidMetH Tryz.prog Rows.solveProductsRow.laid ((World.doorLaid Tryz.prog 62 os).forCall (fun _ _ => 0) ⟨#[], args, []⟩).memory :=
  laidMetH_of_parts3 (fuel := 8) (laidMet_of_run' 8 (by kernel_rfl) (by kernel_rfl)) (by kernel_rfl) (by kernel_rfl)
set_option linter.unusedVariables false in
set_option maxRecDepth 100000 in
theorem solveProducts_lifted (os : Os) (started : os.Started) (H : Type) (enc : TypeId × Value → H) :
    ReturnsInHanded {} Tryz.checked os 13 .any (fun w args => (Rows.solveProductsSpec.pre enc Tryz.prog Tryz.f13 [] false w args ∧ laidMetH Tryz.prog Rows.solveProductsRow.laid w) ∧ sizedMet enc Tryz.prog Tryz.f13 (OpenSpec.ofChange Rows.solveProductsSpec) false w args)
      (Rows.solveProductsSpec.post enc Tryz.prog Tryz.f13 false true false false) := by
  refine returnsInHanded_of_change_and (C := Tryz.checked) (X := fun w _ => laidMetH Tryz.prog Rows.solveProductsRow.laid w) (fun _ _ _ hh h => h.of_heap hh) own started (by kernel_rfl) Tryz.func13
    (ChangeSpec.witness_shaped (enc := enc) (C := Tryz.checked) (os := os) (X := fun w _ => laidMetH Tryz.prog Rows.solveProductsRow.laid w) false (World.doorLaid Tryz.prog 62 os) #[.slice none 0 0, .slice none 0 0] 8 rfl (World.shaped_of_RefB (by kernel_rfl) (by kernel_rfl)) (by kernel_rfl) (by kernel_rfl) (by kernel_rfl) (solveProducts_door os _)) ?_
  intro W base args ds gs before hval0 hW _ _ hL _
  have hval : ∀ (j : Nat) t v, Tryz.f13.params[j]? = some t → args[j]? = some v → Value.okWide Tryz.prog W .any base t v := hval0
  have hW' := hW
  obtain ⟨p, q, hA0, hV, rfl, hfz, hnd⟩ := hW
  have hA : DataW.TrodAll enc Tryz.prog W 0 (fun _ => true) true Tryz.f13.params.toList args.toList ds p := hA0
  rw [Tryz.params13] at hA hval
  obtain ⟨v0, vs0, d0, ds0, p0, q0, hargs, rfl, rfl, h0, r0⟩ := trodAll_cons hA
  obtain ⟨v1, vs1, d1, ds1, p1, q1, rfl, rfl, rfl, h1, r1⟩ := trodAll_cons r0
  obtain ⟨rfl, rfl, rfl⟩ := trodAll_nil r1
  obtain rfl : args = #[v0, v1] := by cases args; simp_all
  obtain ⟨rfl, rfl⟩ := trodVars_none hV
  have k0 := h0
  have lt0 : ∀ x ∈ p0, x.block < W.heap.size := by obtain ⟨m, hm⟩ := k0; exact DataW.trod_lt m _ _ _ hm
  obtain ⟨a0, len0, cap0, rfl⟩ := okWide_slice Tryz.underlying46 (hval 0 46 v0 rfl rfl)
  obtain ⟨fu0, ho0⟩ := h0
  obtain ⟨m0, A0, c0, e0, hm0, hs0⟩ := open_mat (u := .slice a0 len0 cap0) ho0
  injection e0 with ea0 eb0 ec0
  subst ea0 eb0 ec0
  have k1 := h1
  have lt1 : ∀ x ∈ p1, x.block < W.heap.size := by obtain ⟨m, hm⟩ := k1; exact DataW.trod_lt m _ _ _ hm
  obtain ⟨a1, len1, cap1, rfl⟩ := okWide_slice Tryz.underlying46 (hval 1 46 v1 rfl rfl)
  obtain ⟨fu1, ho1⟩ := h1
  obtain ⟨m1, A1, c1, e1, hm1, hs1⟩ := open_mat (u := .slice a1 len1 cap1) ho1
  injection e1 with ea1 eb1 ec1
  subst ea1 eb1 ec1
  clear hA0 hval0
  refine (solveProducts_any m0 _ _ _ m1 _ _ _ W hm0 hs0 hm1 hs1 (tab_of_laid hL)).mono fun e W' ⟨he, bel⟩ => ?_
  subst he
  exact ⟨_, rfl, _, _, _, [], _, [], hW', trodAll_mk1 (shut_bool Tryz.underlying4 _), (trodAll_cons_mk (Below.trod laidOut (by kernel_rfl) (of_decide_eq_true (by kernel_rfl)) k0 bel lt0) (trodAll_cons_mk (Below.trod laidOut (by kernel_rfl) (of_decide_eq_true (by kernel_rfl)) k1 bel lt1) trodAll_mk0)), rfl, bel.frame _, fun h => by cases h⟩

theorem solveProducts_said : Rows.SolveProductsSaid :=
  OpenClaim.holds_of_wide 13 Tryz.f13 rfl rfl rfl rfl rfl rfl rfl ⟨rfl, rfl, rfl, rfl, rfl⟩ rfl rfl rfl rfl rfl (by kernel_rfl) Tryz.func13 (by kernel_rfl)
    (of_decide_eq_true (by kernel_rfl)) (by unfold Func.isWrapper; first | (rw [if_pos (by decide +kernel)]; kernel_rfl) | (rw [if_neg (by decide +kernel)]; exact ⟨rfl, rfl⟩))
    (fun os started H enc _ => solveProducts_lifted os started H enc)
theorem solveProducts_plain (f : FuncId) (fn : Func) (hf : Tryz.pinned.checked.prog.funcNamed "gridhall/gridhallkeep1.SolveProducts" = some f) (hfn : Tryz.pinned.checked.prog.funcs[f]? = some fn) :
    true = Tryz.pinned.checked.prog.looks [] ∧ ∀ (j : Nat) t, fn.params[j]? = some t → Tryz.pinned.checked.prog.wantsStandIn t = false := by
  obtain rfl : f = 13 := Option.some.inj ((show Tryz.prog.funcNamed "gridhall/gridhallkeep1.SolveProducts" = some 13 by kernel_rfl).symm.trans hf) |>.symm
  obtain rfl : fn = Tryz.f13 := (Option.some.inj (Tryz.func13.symm.trans hfn)).symm
  refine ⟨by kernel_rfl, fun j t ht => ?_⟩
  rw [Tryz.params13] at ht
  have hm : t ∈ [46] := by
    have := Array.mem_of_getElem? ht
    clear ht hf hfn
    revert this
    revert t
    simp
  have hall : ([46].all fun u => !Tryz.prog.wantsStandIn u) = true := by kernel_rfl
  exact (show Tryz.prog.wantsStandIn t = false by simpa using List.all_eq_true.1 hall t hm)
theorem solveProducts_card : Rows.SolveProductsCardSaid :=
  Claim7.holds_tied_plain_at .later [] _ _ _ _ solveProducts_said (fun _ h => by cases h) (by kernel_rfl) (fun _ h => by cases h) solveProducts_row_tie rfl ⟨rfl, rfl⟩ (by kernel_rfl) rfl solveProducts_plain (by kernel_rfl)
#print axioms solveProducts_card
end Go.Proofs.YtmnedfkinepnfaaGreatDoor
