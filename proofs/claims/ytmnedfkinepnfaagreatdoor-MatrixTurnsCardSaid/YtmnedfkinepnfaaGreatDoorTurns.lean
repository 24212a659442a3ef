/- The walk of MatrixTurns. MatrixTurns returns true for every input: the transpose of a product is the product of the transposes in reverse order, and the transpose of the transpose is the matrix. No conditions. The row's listed variables hold what the program's text lays (the card ties them). -/
import Derived.Test.YtmnedfkinepnfaaGreatDoorJY
import Derived.Test.YtmnedfkinepnfaaGreatDoorCards
import Derived.Test.YtmnedfkinepnfaaGreatDoorTie
import Derived.Test.YtmnedfkinepnfaaGreatDoorJZ
import Derived.ShutString
import Derived.ChangeMaps5
namespace Go.Proofs.YtmnedfkinepnfaaGreatDoor
open Go.RowKit

set_option maxRecDepth 100000 in
set_option maxHeartbeats 16000000 in
theorem matrixTurns_any (a : List (List ByteArray)) (na : Nat) (Aa : Option Addr) (ca : Nat) (b : List (List ByteArray)) (nb : Nat) (Ab : Option Addr) (cb : Nat) (w : World) (ha : SMat w Aa na a) (sa : Sh2 a) (hb : SMat w Ab nb b) (sb : Sh2 b) (htab : Tab w) :
    Calls Tryz.prog 6 #[.slice Aa na ca, .slice Ab nb cb] w fun e w' => e = .returned (.bool true) ∧ Below w.heap.size w w' := by
  have HTB := Lib.hid htab
  have HB := Lib.hid (Below.refl w.heap.size w)
  clear htab
  have La := Lib.hid (show a.length = na by obtain ⟨_, _, h, _⟩ := ha; exact h)
  have Ha := Lib.hid ha
  have Sa := Lib.hid sa
  clear ha sa
  have Lb := Lib.hid (show b.length = nb by obtain ⟨_, _, h, _⟩ := hb; exact h)
  have Hb := Lib.hid hb
  have Sb := Lib.hid sb
  clear hb sb
  go_enter Tryz.func6, Tryz.ntmps6
  have HC := Lib.hid (matrixFact_any w HTB.out)
  go_wp2_with fail
  refine HC.out.mono ?_
  rintro e w1 ⟨rfl, hb⟩
  clear HC
  have hbs := HB.out.size
  replace HB := Lib.hid (HB.out.trans (hb.mono hbs))
  clear hbs
  replace Ha := Lib.hid (Ha.out.below hb)
  replace Hb := Lib.hid (Hb.out.below hb)
  clear hb
  have hsmb := sms2 (c := ca) (d := cb) Ha.out Hb.out
  obtain ⟨hsm, hb⟩ := hsmb
  have hbs := HB.out.size
  replace HB := Lib.hid (HB.out.trans (hb.mono hbs))
  clear hbs
  replace Ha := Lib.hid (Ha.out.below hb)
  replace Hb := Lib.hid (Hb.out.below hb)
  clear hb
  unfold matT at *
  have HC := Lib.hid (small_any 4 [a, b] 2 _ 2 _ hsm (by decide) (by decide))
  go_wp2_with fail
  refine HC.out.mono ?_
  rintro e w2 ⟨rfl, hb⟩
  clear HC
  clear hsm
  have hbs := HB.out.size
  replace HB := Lib.hid (HB.out.trans (hb.mono hbs))
  clear hbs
  replace Ha := Lib.hid (Ha.out.below hb)
  replace Hb := Lib.hid (Hb.out.below hb)
  clear hb
  cases hsm : [a, b].any (lgM 4) with
  | true =>
    go_wp2
    go_ret
    exact ⟨rfl, HB.out⟩
  | false =>
    clear hsm
    by_cases hza : na = 0
    · subst hza
      go_wp2
      go_ret
      exact ⟨rfl, HB.out⟩
    · have tza : ((na : Int) == 0) = false := beq_eq_false_iff_ne.2 (by omega)
      have hpa : 0 < na := by omega
      by_cases hzb : nb = 0
      · subst hzb
        go_wp2
        go_ret
        exact ⟨rfl, HB.out⟩
      · have tzb : ((nb : Int) == 0) = false := beq_eq_false_iff_ne.2 (by omega)
        have hpb : 0 < nb := by omega
        obtain ⟨xa, hxa⟩ : ∃ x, a[0]? = some x := ⟨_, List.getElem?_eq_getElem (by rw [La.out]; exact hpa)⟩
        obtain ⟨ba, oa, Ba, da, rfl, hca, _⟩ := Ha.out.at_ hpa xa hxa
        rw [Nat.add_zero] at hca
        have Wa := Lib.hid (show wd (tx2 a) = xa.length by rw [wd_tx, head_get a xa _ hxa])
        clear hxa
        generalize xa.length = wa at *
        obtain ⟨xb, hxb⟩ : ∃ x, b[0]? = some x := ⟨_, List.getElem?_eq_getElem (by rw [Lb.out]; exact hpb)⟩
        obtain ⟨bb, ob, Bb, db, rfl, hcb, _⟩ := Hb.out.at_ hpb xb hxb
        rw [Nat.add_zero] at hcb
        have Wb := Lib.hid (show wd (tx2 b) = xb.length by rw [wd_tx, head_get b xb _ hxb])
        clear hxb
        generalize xb.length = wb at *
        by_cases hwa : wa = 0
        · subst hwa
          go_wp2
          go_ret
          exact ⟨rfl, HB.out⟩
        · have twa : ((wa : Int) == 0) = false := beq_eq_false_iff_ne.2 (by omega)
          by_cases hwb : wb = 0
          · subst hwb
            go_wp2
            go_ret
            exact ⟨rfl, HB.out⟩
          · have twb : ((wb : Int) == 0) = false := beq_eq_false_iff_ne.2 (by omega)
            have HC := Lib.hid (mulM_any a b na nb (some ⟨ba, oa, none⟩) (some ⟨bb, ob, none⟩) ca cb w2 Ha.out Hb.out Sa.out Sb.out (tab_below HTB.out HB.out))
            go_wp2_with fail
            refine HC.out.mono ?_
            rintro e w3 ⟨Am, nm, cm, m, rfl, hm, he, hs, hb⟩
            clear HC
            have hbs := HB.out.size
            replace HB := Lib.hid (HB.out.trans (hb.mono hbs))
            clear hbs
            replace Ha := Lib.hid (Ha.out.below hb)
            replace Hb := Lib.hid (Hb.out.below hb)
            clear hb
            have Hm := Lib.hid hm
            have Em := Lib.hid he
            have Sm := Lib.hid hs
            have Lm := Lib.hid (show m.length = nm by obtain ⟨_, _, h, _⟩ := hm; exact h)
            clear hm he hs
            clear hca hcb
            by_cases he : (mulM (tx2 a) (tx2 b)).2 = 0
            · obtain ⟨t, x, y, q1, q2, q3, q4, q5⟩ := turns_law he (by rw [tx2, List.length_map, La.out]; exact hpa) (by rw [tx2, List.length_map, Lb.out]; exact hpb) (by rw [Wb.out]; omega)
              have NA := Lib.hid (nar_chk (mulM_ok he).1)
              rw [← Em.out] at q1
              have NT := Lib.hid (nar_tr q1)
              rw [← tx_un t] at q1 q4
              rw [← tx_un x] at q2 q4 q5
              rw [← tx_un y] at q3 q4
              have Q1 := Lib.hid q1
              have Q2 := Lib.hid q2
              have Q3 := Lib.hid q3
              have Q4 := Lib.hid q4
              have Q5 := Lib.hid q5
              rw [he]
              clear q1 q2 q3 q4 q5 he
              have HC := Lib.hid (transpose_any m nm Am cm w3 Hm.out Sm.out (tab_below HTB.out HB.out))
              go_wp2_with fail
              refine HC.out.mono ?_
              rintro e w4 h
              clear HC
              obtain ⟨At, nt, ct, rfl, hm, hn, hs, hb⟩ := h.known (m := unT t) (Q1.out)
              clear h
              have hbs := HB.out.size
              replace HB := Lib.hid (HB.out.trans (hb.mono hbs))
              clear hbs
              replace Ha := Lib.hid (Ha.out.below hb)
              replace Hb := Lib.hid (Hb.out.below hb)
              replace Hm := Lib.hid (Hm.out.below hb)
              clear hb
              have Ht := Lib.hid hm
              have Lt := Lib.hid hn
              have St := Lib.hid hs
              clear hm hn hs
              clear Hm
              have HC := Lib.hid (transpose_any a na (some ⟨ba, oa, none⟩) ca w4 Ha.out Sa.out (tab_below HTB.out HB.out))
              go_wp2_with fail
              refine HC.out.mono ?_
              rintro e w5 h
              clear HC
              obtain ⟨Ax, nx, cx, rfl, hm, hn, hs, hb⟩ := h.known (m := unT x) (Q2.out)
              clear h
              have hbs := HB.out.size
              replace HB := Lib.hid (HB.out.trans (hb.mono hbs))
              clear hbs
              replace Ha := Lib.hid (Ha.out.below hb)
              replace Hb := Lib.hid (Hb.out.below hb)
              replace Ht := Lib.hid (Ht.out.below hb)
              clear hb
              have Hx := Lib.hid hm
              have Lx := Lib.hid hn
              have Sx := Lib.hid hs
              clear hm hn hs
              have HC := Lib.hid (transpose_any b nb (some ⟨bb, ob, none⟩) cb w5 Hb.out Sb.out (tab_below HTB.out HB.out))
              go_wp2_with fail
              refine HC.out.mono ?_
              rintro e w6 h
              clear HC
              obtain ⟨Ay, ny, cy, rfl, hm, hn, hs, hb⟩ := h.known (m := unT y) (Q3.out)
              clear h
              have hbs := HB.out.size
              replace HB := Lib.hid (HB.out.trans (hb.mono hbs))
              clear hbs
              replace Ha := Lib.hid (Ha.out.below hb)
              replace Hb := Lib.hid (Hb.out.below hb)
              replace Ht := Lib.hid (Ht.out.below hb)
              replace Hx := Lib.hid (Hx.out.below hb)
              clear hb
              have Hy := Lib.hid hm
              have Ly := Lib.hid hn
              have Sy := Lib.hid hs
              clear hm hn hs
              have HC := Lib.hid (mulM_any (unT y) (unT x) ny nx Ay Ax cy cx w6 Hy.out Hx.out Sy.out Sx.out (tab_below HTB.out HB.out))
              go_wp2_with fail
              refine HC.out.mono ?_
              rintro e w7 h
              clear HC
              obtain ⟨Ap, np, cp, rfl, hm, hn, hs, hb⟩ := h.known (m := unT t) (Q4.out)
              clear h
              have hbs := HB.out.size
              replace HB := Lib.hid (HB.out.trans (hb.mono hbs))
              clear hbs
              replace Ha := Lib.hid (Ha.out.below hb)
              replace Hb := Lib.hid (Hb.out.below hb)
              replace Ht := Lib.hid (Ht.out.below hb)
              replace Hx := Lib.hid (Hx.out.below hb)
              replace Hy := Lib.hid (Hy.out.below hb)
              clear hb
              have Hp := Lib.hid hm
              have Lp := Lib.hid hn
              have Sp := Lib.hid hs
              clear hm hn hs
              clear Hy
              have HC := Lib.hid (transpose_any (unT x) nx Ax cx w7 Hx.out Sx.out (tab_below HTB.out HB.out))
              go_wp2_with fail
              refine HC.out.mono ?_
              rintro e w8 h
              clear HC
              obtain ⟨Az, nz, cz, rfl, hm, hn, hs, hb⟩ := h.known (m := a) (Q5.out)
              clear h
              have hbs := HB.out.size
              replace HB := Lib.hid (HB.out.trans (hb.mono hbs))
              clear hbs
              replace Ha := Lib.hid (Ha.out.below hb)
              replace Hb := Lib.hid (Hb.out.below hb)
              replace Ht := Lib.hid (Ht.out.below hb)
              replace Hx := Lib.hid (Hx.out.below hb)
              replace Hp := Lib.hid (Hp.out.below hb)
              clear hb
              have Hz := Lib.hid hm
              have Lz := Lib.hid hn
              have Sz := Lib.hid hs
              clear hm hn hs
              clear Hx
              have HX := Lib.hid (fine_any [0, 0, 0, 0, 0] 5 (some ⟨w8.heap.size, 0, none⟩) 5 (w8.alloc (.cells #[I 0, I 0, I 0, I 0, I 0] 25)) _ (reads_lits w8 _ [I 0, I 0, I 0, I 0, I 0]) (by omega))
              rw [show fineB [0, 0, 0, 0, 0] = true from rfl] at HX
              have hb := below_new w8 (.cells #[I 0, I 0, I 0, I 0, I 0] 25)
              have hbs := HB.out.size
              replace HB := Lib.hid (HB.out.trans (hb.mono hbs))
              clear hbs
              replace Ha := Lib.hid (Ha.out.below hb)
              replace Hb := Lib.hid (Hb.out.below hb)
              replace Ht := Lib.hid (Ht.out.below hb)
              replace Hp := Lib.hid (Hp.out.below hb)
              replace Hz := Lib.hid (Hz.out.below hb)
              clear hb
              go_wp2_with fail
              refine HX.out.mono ?_
              rintro e w9 ⟨rfl, rfl⟩
              clear HX
              have HC := Lib.hid (same_any (unT t) (unT t) _ _ At Ap ct cp _ Ht.out Hp.out (by have h := NT.out.1; have h2 := Lt.out; omega) NT.out.2)
              go_wp2_with fail
              refine HC.out.mono ?_
              rintro e w10 ⟨rfl, hb⟩
              clear HC
              simp only [decide_true]
              have hbs := HB.out.size
              replace HB := Lib.hid (HB.out.trans (hb.mono hbs))
              clear hbs
              replace Ha := Lib.hid (Ha.out.below hb)
              replace Hb := Lib.hid (Hb.out.below hb)
              replace Ht := Lib.hid (Ht.out.below hb)
              replace Hp := Lib.hid (Hp.out.below hb)
              replace Hz := Lib.hid (Hz.out.below hb)
              clear hb
              clear Ht Hp
              have HC := Lib.hid (same_any a a _ _ Az (some ⟨ba, oa, none⟩) cz ca _ Hz.out Ha.out (by have h := NA.out.1; have h2 := Lz.out; omega) NA.out.2)
              go_wp2_with fail
              refine HC.out.mono ?_
              rintro e w11 ⟨rfl, hb⟩
              clear HC
              simp only [decide_true]
              have hbs := HB.out.size
              replace HB := Lib.hid (HB.out.trans (hb.mono hbs))
              clear hbs
              replace Ha := Lib.hid (Ha.out.below hb)
              replace Hb := Lib.hid (Hb.out.below hb)
              replace Hz := Lib.hid (Hz.out.below hb)
              clear hb
              go_wp2
              go_ret
              exact ⟨rfl, HB.out⟩
            · have hem := mulM_bad he
              have hm0 : nm = 0 := by
                have h1 := Em.out
                rw [hem] at h1
                have h2 := congrArg List.length h1
                rw [tx2, List.length_map, Lm.out] at h2
                exact h2
              subst hm0
              have te : ((mulM (tx2 a) (tx2 b)).2 != 0) = true := bne_iff_ne.2 he
              generalize (mulM (tx2 a) (tx2 b)).2 = ee at *
              clear he hem
              go_wp2
              go_ret
              exact ⟨rfl, HB.out⟩
end Go.Proofs.YtmnedfkinepnfaaGreatDoor
namespace Go.Proofs.YtmnedfkinepnfaaGreatDoor
open Go.ChangeShapes Go.WideShapes Go.ChangeAt Go.RowKit Go.ChangeMaps

theorem matrixTurns_door (os : Os) (args : Array Value) : laidMetH Tryz.prog Rows.matrixTurnsRow.laid ((World.doorLaid Tryz.prog 62 os).forCall (fun _ _ => 0) ⟨#[], args, []⟩).memory :=
  laidMetH_of_parts3 (fuel := 8) (laidMet_of_run' 8 (by kernel_rfl) (by kernel_rfl)) (by kernel_rfl) (by kernel_rfl)
set_option linter.unusedVariables false in
set_option maxRecDepth 100000 in
theorem matrixTurns_lifted (os : Os) (started : os.Started) (H : Type) (enc : TypeId × Value → H) :
    ReturnsInHanded {} Tryz.checked os 6 .any (fun w args => (Rows.matrixTurnsSpec.pre enc Tryz.prog Tryz.f6 [] false w args ∧ laidMetH Tryz.prog Rows.matrixTurnsRow.laid w) ∧ sizedMet enc Tryz.prog Tryz.f6 (OpenSpec.ofChange Rows.matrixTurnsSpec) false w args)
      (Rows.matrixTurnsSpec.post enc Tryz.prog Tryz.f6 false true false false) := by
  refine returnsInHanded_of_change_and (C := Tryz.checked) (X := fun w _ => laidMetH Tryz.prog Rows.matrixTurnsRow.laid w) (fun _ _ _ hh h => h.of_heap hh) own started (by kernel_rfl) Tryz.func6
    (ChangeSpec.witness_shaped (enc := enc) (C := Tryz.checked) (os := os) (X := fun w _ => laidMetH Tryz.prog Rows.matrixTurnsRow.laid w) false (World.doorLaid Tryz.prog 62 os) #[.slice none 0 0, .slice none 0 0] 8 rfl (World.shaped_of_RefB (by kernel_rfl) (by kernel_rfl)) (by kernel_rfl) (by kernel_rfl) (by kernel_rfl) (matrixTurns_door os _)) ?_
  intro W base args ds gs before hval0 hW _ _ hL _
  have hval : ∀ (j : Nat) t v, Tryz.f6.params[j]? = some t → args[j]? = some v → Value.okWide Tryz.prog W .any base t v := hval0
  have hW' := hW
  obtain ⟨p, q, hA0, hV, rfl, hfz, hnd⟩ := hW
  have hA : DataW.TrodAll enc Tryz.prog W 0 (fun _ => true) true Tryz.f6.params.toList args.toList ds p := hA0
  rw [Tryz.params6] at hA hval
  obtain ⟨v0, vs0, d0, ds0, p0, q0, hargs, rfl, rfl, h0, r0⟩ := trodAll_cons hA
  obtain ⟨v1, vs1, d1, ds1, p1, q1, rfl, rfl, rfl, h1, r1⟩ := trodAll_cons r0
  obtain ⟨rfl, rfl, rfl⟩ := trodAll_nil r1
  obtain rfl : args = #[v0, v1] := by cases args; simp_all
  obtain ⟨rfl, rfl⟩ := trodVars_none hV
  have k0 := h0
  have lt0 : ∀ x ∈ p0, x.block < W.heap.size := by obtain ⟨m, hm⟩ := k0; exact DataW.trod_lt m _ _ _ hm
  obtain ⟨a0, len0, cap0, rfl⟩ := okWide_slice Tryz.underlying46 (hval 0 46 v0 rfl rfl)
  obtain ⟨fu0, ho0⟩ := h0
  obtain ⟨m0, A0, c0, e0, hm0, hs0⟩ := open_mat (u := .slice a0 len0 cap0) ho0
  injection e0 with ea0 eb0 ec0
  subst ea0 eb0 ec0
  have k1 := h1
  have lt1 : ∀ x ∈ p1, x.block < W.heap.size := by obtain ⟨m, hm⟩ := k1; exact DataW.trod_lt m _ _ _ hm
  obtain ⟨a1, len1, cap1, rfl⟩ := okWide_slice Tryz.underlying46 (hval 1 46 v1 rfl rfl)
  obtain ⟨fu1, ho1⟩ := h1
  obtain ⟨m1, A1, c1, e1, hm1, hs1⟩ := open_mat (u := .slice a1 len1 cap1) ho1
  injection e1 with ea1 eb1 ec1
  subst ea1 eb1 ec1
  clear hA0 hval0
  refine (matrixTurns_any m0 _ _ _ m1 _ _ _ W hm0 hs0 hm1 hs1 (tab_of_laid hL)).mono fun e W' ⟨he, bel⟩ => ?_
  subst he
  exact ⟨_, rfl, _, _, _, [], _, [], hW', trodAll_mk1 (shut_bool Tryz.underlying4 _), (trodAll_cons_mk (Below.trod laidOut (by kernel_rfl) (of_decide_eq_true (by kernel_rfl)) k0 bel lt0) (trodAll_cons_mk (Below.trod laidOut (by kernel_rfl) (of_decide_eq_true (by kernel_rfl)) k1 bel lt1) trodAll_mk0)), rfl, bel.frame _, fun h => by cases h⟩

theorem matrixTurns_said : Rows.MatrixTurnsSaid :=
  OpenClaim.holds_of_wide 6 Tryz.f6 rfl rfl rfl rfl rfl rfl rfl ⟨rfl, rfl, rfl, rfl, rfl⟩ rfl rfl rfl rfl rfl (by kernel_rfl) Tryz.func6 (by kernel_rfl)
    (of_decide_eq_true (by kernel_rfl)) (by unfold Func.isWrapper; first | (rw [if_pos (by decide +kernel)]; kernel_rfl) | (rw [if_neg (by decide +kernel)]; exact ⟨rfl, rfl⟩))
    (fun os started H enc _ => matrixTurns_lifted os started H enc)
theorem matrixTurns_plain (f : FuncId) (fn : Func) (hf : Tryz.pinned.checked.prog.funcNamed "gridhall/gridhallkeep1.MatrixTurns" = some f) (hfn : Tryz.pinned.checked.prog.funcs[f]? = some fn) :
    true = Tryz.pinned.checked.prog.looks [] ∧ ∀ (j : Nat) t, fn.params[j]? = some t → Tryz.pinned.checked.prog.wantsStandIn t = false := by
  obtain rfl : f = 6 := Option.some.inj ((show Tryz.prog.funcNamed "gridhall/gridhallkeep1.MatrixTurns" = some 6 by kernel_rfl).symm.trans hf) |>.symm
  obtain rfl : fn = Tryz.f6 := (Option.some.inj (Tryz.func6.symm.trans hfn)).symm
  refine ⟨by kernel_rfl, fun j t ht => ?_⟩
  rw [Tryz.params6] at ht
  have hm : t ∈ [46] := by
    have := Array.mem_of_getElem? ht
    clear ht hf hfn
    revert this
    revert t
    simp
  have hall : ([46].all fun u => !Tryz.prog.wantsStandIn u) = true := by kernel_rfl
  exact (show Tryz.prog.wantsStandIn t = false by simpa using List.all_eq_true.1 hall t hm)
theorem matrixTurns_card : Rows.MatrixTurnsCardSaid :=
  Claim7.holds_tied_plain_at .later [] _ _ _ _ matrixTurns_said (fun _ h => by cases h) (by kernel_rfl) (fun _ h => by cases h) matrixTurns_row_tie rfl ⟨rfl, rfl⟩ (by kernel_rfl) rfl matrixTurns_plain (by kernel_rfl)
#print axioms matrixTurns_card
end Go.Proofs.YtmnedfkinepnfaaGreatDoor
