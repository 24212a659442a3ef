/- FlowProves: the walk. FlowProves returns true for every input: a solution satisfies all conditions. No conditions. The row's listed variables hold what the program's text lays (the card ties them). -/
import Derived.Test.YtenbglfkdldheaaGreatDoorWFO
import Derived.Test.YtenbglfkdldheaaGreatDoorWDR
import Derived.ShutString
import Derived.ChangeMaps5
namespace Go.Proofs.YtenbglfkdldheaaGreatDoor
open Go.RowKit
set_option maxRecDepth 100000 in
set_option maxHeartbeats 16000000 in
theorem flowProves_any (n : NetD) (v : NetV) (inj : List Int) (m : Nat) (A : Option Addr) (c : Nat) (w : World) (hN : Net w n v) (hj : Reads w w.heap.size 1 A m (inj.map I)) (hm : m ≤ 9223372036854775807) (htab : Tab w) : Calls Tryz.prog 6 #[v.val n, .slice A m c] w fun e w' => e = .returned (.bool true) ∧ Below w.heap.size w w' := by
 have hz := below_new w (Obj.cells (v.parts n) 29)
 have HN := Lib.hid (hN.below hz)
 have HG := Lib.hid (Blk.new w 29 (v.parts n))
 have HB := Lib.hid hz
 have HTB := Lib.hid htab
 have HJ := Lib.hid ((hj.below hz).more hz.size)
 clear hz hN htab hj
 unfold NetV.val NetV.parts at *
 go_enter Tryz.func6, Tryz.ntmps6
 have HC := Lib.hid (flowFact_any (w.alloc (Obj.cells #[.slice v.na n.nodes.length v.nc, .slice v.sa n.switches.length v.sc, .slice v.ba n.branches.length v.bc, .slice v.ga n.gens.length v.gc, .slice v.la n.loads.length v.lc, .slice v.ta n.stores.length v.tc] 29)) (tab_below HTB.out HB.out))
 go_wp2_with fail
 refine HC.out.mono ?_
 rintro e w1 ⟨rfl, hb⟩
 clear HC
 have hbs := HB.out.size
 replace HB := Lib.hid (HB.out.trans (hb.mono hbs))
 clear hbs
 replace HN := Lib.hid (HN.out.below hb)
 replace HG := Lib.hid (HG.out.below hb HG.out.lt)
 replace HJ := Lib.hid ((HJ.out.below hb).more hb.size)
 clear hb
 have x0 := HG.out.cell 0
 have x1 := HG.out.cell 1
 have x2 := HG.out.cell 2
 have x3 := HG.out.cell 3
 have x4 := HG.out.cell 4
 have x5 := HG.out.cell 5
 have HC := Lib.hid (wide_any n v w1)
 unfold NetV.val NetV.parts at HC
 go_wp2_with fail
 refine HC.out.mono ?_
 rintro e w2 ⟨rfl, hb⟩
 clear HC
 clear x0 x1 x2 x3 x4 x5
 have hbs := HB.out.size
 replace HB := Lib.hid (HB.out.trans (hb.mono hbs))
 clear hbs
 replace HN := Lib.hid (HN.out.below hb)
 replace HG := Lib.hid (HG.out.below hb HG.out.lt)
 replace HJ := Lib.hid ((HJ.out.below hb).more hb.size)
 clear hb
 cases hw : wideN n with
 | true =>
  go_wp2
  go_ret
  exact ⟨rfl, HB.out⟩
 | false =>
  have HW := Lib.hid hw
  clear hw
  have x0 := HG.out.cell 0
  have x1 := HG.out.cell 1
  have x2 := HG.out.cell 2
  have x3 := HG.out.cell 3
  have x4 := HG.out.cell 4
  have x5 := HG.out.cell 5
  have HC := Lib.hid (solve_any n v inj m A c w2 HN.out HJ.out hm (tab_below HTB.out HB.out))
  unfold NetV.val NetV.parts at HC
  go_wp2_with fail
  refine HC.out.mono ?_
  rintro e w3 ⟨a, b, rfl, hok, hno, hdj, hb⟩
  clear HC
  clear x0 x1 x2 x3 x4 x5
  have HOK := Lib.hid (fun h => hok h)
  have HNO := Lib.hid (fun h => hno h)
  clear hok hno hdj
  replace HOK := Lib.hid HOK.out
  have hbs := HB.out.size
  replace HB := Lib.hid (HB.out.trans (hb.mono hbs))
  clear hbs
  replace HN := Lib.hid (HN.out.below hb)
  replace HG := Lib.hid (HG.out.below hb HG.out.lt)
  replace HJ := Lib.hid ((HJ.out.below hb).more hb.size)
  clear hb
  have HCE := Lib.hid (code_eq (inj := inj) HW.out)
  by_cases hc : codeF n inj = 0
  ·obtain ⟨hra, hrb⟩ := HOK.out hc
   obtain ⟨SA, ca, rfl⟩ := hra.val
   obtain ⟨SB, cb, rfl⟩ := hrb.val
   have HRA := Lib.hid hra
   have HRB := Lib.hid hrb
   have HC0 := Lib.hid hc
   rw [hc]
   clear hra hrb hc HOK HNO
   go_upto_region 6 with (fail)
   have hb := below_new w3 (.cells #[.slice SA (solF n inj).length ca, .slice SB (flwF n inj).length cb] 73)
   have hx := Blk.new w3 73 #[.slice SA (solF n inj).length ca, .slice SB (flwF n inj).length cb]
   have hbs := HB.out.size
   replace HB := Lib.hid (HB.out.trans (hb.mono hbs))
   clear hbs
   replace HN := Lib.hid (HN.out.below hb)
   replace HG := Lib.hid (HG.out.below hb HG.out.lt)
   replace HJ := Lib.hid ((HJ.out.below hb).more hb.size)
   replace HRA := Lib.hid (HRA.out.call hb)
   replace HRB := Lib.hid (HRB.out.call hb)
   clear hb
   have HS := Lib.hid hx
   clear hx
   generalize w3.alloc (.cells #[.slice SA (solF n inj).length ca, .slice SB (flwF n inj).length cb] 73) = wsHS at *
   generalize w3.heap.size = gHS at *
   go_upto_region 8 with (fail)
   have x0 := HG.out.cell 0
   have x1 := HG.out.cell 1
   have x2 := HG.out.cell 2
   have x3 := HG.out.cell 3
   have x4 := HG.out.cell 4
   have x5 := HG.out.cell 5
   have z0 := HS.out.cell 0
   have z1 := HS.out.cell 1
   change _ = some (Value.slice SA (solF n inj).length ca) at z0
   change _ = some (Value.slice SB (flwF n inj).length cb) at z1
   have HOKF := Lib.hid (code_ok HC0.out)
   have hVN := vnet (flowChk_ok HOKF.out.1).1
   have hl1 : (solF n inj).length ≤ 1000000 := by rw [solF_len]; have := isl_le hVN; unfold nbN; omega
   have hl2 : (flwF n inj).length ≤ 1000000 := by rw [flwF_len]; have := hVN.hb; omega
   clear hVN
   have HC := Lib.hid (verify_any n v inj m A c (mkS ((solF n inj).map qText)) (mkS ((flwF n inj).map qText)) SA SB (solF n inj).length ca (flwF n inj).length cb wsHS HN.out HJ.out hm (tab_below HTB.out HB.out) (HRA.out.reads.more (Nat.le_refl _)) (HRB.out.reads.more (Nat.le_refl _)) (sh_mk HOKF.out.2.1) (sh_mk HOKF.out.2.2) hl1 hl2)
   unfold NetV.val NetV.parts at HC
   rw [ver_same HC0.out] at HC
   go_wp2_with fail
   refine HC.out.mono ?_
   rintro e w4 ⟨rfl, hb⟩
   clear HC
   clear x0 x1 x2 x3 x4 x5
   clear z0 z1
   have hbs := HB.out.size
   replace HB := Lib.hid (HB.out.trans (hb.mono hbs))
   clear hbs
   replace HN := Lib.hid (HN.out.below hb)
   replace HG := Lib.hid (HG.out.below hb HG.out.lt)
   replace HJ := Lib.hid ((HJ.out.below hb).more hb.size)
   replace HRA := Lib.hid (HRA.out.call hb)
   replace HRB := Lib.hid (HRB.out.call hb)
   replace HS := Lib.hid (HS.out.below hb HS.out.lt)
   clear hb
   go_wp2
   go_ret
   exact ⟨rfl, HB.out⟩
  ·obtain ⟨rfl, rfl⟩ := HNO.out hc
   have HC0 := Lib.hid hc
   have tc : (codeF n inj != 0) = true := bne_iff_ne.2 hc
   clear hc HOK HNO
   go_upto_region 6 with (fail)
   have hb := below_new w3 (.cells #[.slice none 0 0, .slice none 0 0] 73)
   have hx := Blk.new w3 73 #[.slice none 0 0, .slice none 0 0]
   have hbs := HB.out.size
   replace HB := Lib.hid (HB.out.trans (hb.mono hbs))
   clear hbs
   replace HN := Lib.hid (HN.out.below hb)
   replace HG := Lib.hid (HG.out.below hb HG.out.lt)
   replace HJ := Lib.hid ((HJ.out.below hb).more hb.size)
   clear hb
   have HS := Lib.hid hx
   clear hx
   generalize w3.alloc (.cells #[.slice none 0 0, .slice none 0 0] 73) = wsHS at *
   generalize w3.heap.size = gHS at *
   have x0 := HG.out.cell 0
   have x1 := HG.out.cell 1
   have x2 := HG.out.cell 2
   have x3 := HG.out.cell 3
   have x4 := HG.out.cell 4
   have x5 := HG.out.cell 5
   have z0 := HS.out.cell 0
   have z1 := HS.out.cell 1
   change _ = some (Value.slice none 0 0) at z0
   change _ = some (Value.slice none 0 0) at z1
   have HC := Lib.hid (flowCheck_any n v inj m A c wsHS HN.out HJ.out hm)
   unfold NetV.val NetV.parts at HC
   go_wp2_with fail
   refine HC.out.mono ?_
   rintro e w4 ⟨rfl, hb⟩
   clear HC
   clear x0 x1 x2 x3 x4 x5
   clear z0 z1
   have hbs := HB.out.size
   replace HB := Lib.hid (HB.out.trans (hb.mono hbs))
   clear hbs
   replace HN := Lib.hid (HN.out.below hb)
   replace HG := Lib.hid (HG.out.below hb HG.out.lt)
   replace HJ := Lib.hid ((HJ.out.below hb).more hb.size)
   replace HS := Lib.hid (HS.out.below hb HS.out.lt)
   clear hb
   have z0 := HS.out.cell 0
   have z1 := HS.out.cell 1
   change _ = some (Value.slice none 0 0) at z0
   change _ = some (Value.slice none 0 0) at z1
   rw [← HCE.out]
   have te : (codeF n inj == codeF n inj) = true := beq_self_eq_true _
   go_wp2
   go_ret
   exact ⟨rfl, HB.out⟩
theorem flowProves_row (n : NetD) (v : NetV) (inj : List Int) (A : Option Addr) (c : Nat) (w : World) (hN : Net w n v) (hj : Reads w w.heap.size 1 A inj.length (inj.map I)) (hm : inj.length ≤ 9223372036854775807) (htab : Tab w) : Calls Tryz.prog 6 #[v.val n, .slice A inj.length c] w fun e w' => e = .returned (.bool true) ∧ Below w.heap.size w w' :=
 flowProves_any n v inj inj.length A c w hN hj hm htab
end Go.Proofs.YtenbglfkdldheaaGreatDoor
namespace Go.Proofs.YtenbglfkdldheaaGreatDoor
open Go.ChangeShapes Go.WideShapes Go.ChangeAt Go.RowKit Go.ChangeMaps
theorem flowProves_door (os : Os) (args : Array Value) : laidMetH Tryz.prog Rows.flowProvesRow.laid ((World.doorLaid Tryz.prog 62 os).forCall (fun _ _ => 0) ⟨#[], args, []⟩).memory :=
 laidMetH_of_parts3 (fuel := 8) (laidMet_of_run' 8 (by kernel_rfl) (by kernel_rfl)) (by kernel_rfl) (by kernel_rfl)
set_option linter.unusedVariables false in
set_option maxRecDepth 100000 in
theorem flowProves_lifted (os : Os) (started : os.Started) (H : Type) (enc : TypeId × Value → H) :
  ReturnsInHanded {} Tryz.checked os 6 .any (fun w args => (Rows.flowProvesSpec.pre enc Tryz.prog Tryz.f6 [] false w args ∧ laidMetH Tryz.prog Rows.flowProvesRow.laid w) ∧ sizedMet enc Tryz.prog Tryz.f6 (OpenSpec.ofChange Rows.flowProvesSpec) false w args)
   (Rows.flowProvesSpec.post enc Tryz.prog Tryz.f6 false true false false) := by
 refine returnsInHanded_of_change_and (C := Tryz.checked) (X := fun w _ => laidMetH Tryz.prog Rows.flowProvesRow.laid w) (fun _ _ _ hh h => h.of_heap hh) own started (by kernel_rfl) Tryz.func6
  (ChangeSpec.witness_shaped (enc := enc) (C := Tryz.checked) (os := os) (X := fun w _ => laidMetH Tryz.prog Rows.flowProvesRow.laid w) false (World.doorLaid Tryz.prog 62 os) #[.agg #[.slice none 0 0, .slice none 0 0, .slice none 0 0, .slice none 0 0, .slice none 0 0, .slice none 0 0], .slice none 0 0] 8 rfl (World.shaped_of_RefB (by kernel_rfl) (by kernel_rfl)) (by kernel_rfl) (by kernel_rfl) (by kernel_rfl) (flowProves_door os _)) ?_
 intro W base args ds gs before hval0 hW _ _ hL _
 have hval : ∀ (j : Nat) t v, Tryz.f6.params[j]? = some t → args[j]? = some v → Value.okWide Tryz.prog W .any base t v := hval0
 have hW' := hW
 obtain ⟨p, q, hA0, hV, rfl, hfz, hnd⟩ := hW
 have hA : DataW.TrodAll enc Tryz.prog W 0 (fun _ => true) true Tryz.f6.params.toList args.toList ds p := hA0
 rw [Tryz.params6] at hA hval
 obtain ⟨v0, vs0, d0, ds0, p0, q0, hargs, rfl, rfl, h0, r0⟩ := trodAll_cons hA
 obtain ⟨v1, vs1, d1, ds1, p1, q1, rfl, rfl, rfl, h1, r1⟩ := trodAll_cons r0
 obtain ⟨rfl, rfl, rfl⟩ := trodAll_nil r1
 obtain rfl : args = #[v0, v1] := by cases args; simp_all
 obtain ⟨rfl, rfl⟩ := trodVars_none hV
 have k0 := h0
 have lt0 : ∀ x ∈ p0, x.block < W.heap.size := by obtain ⟨m, hm⟩ := k0; exact DataW.trod_lt m _ _ _ hm
 obtain ⟨n0, nv0, rfl, hn0⟩ := open_net (hval 0 29 v0 rfl rfl) h0
 have k1 := h1
 have lt1 : ∀ x ∈ p1, x.block < W.heap.size := by obtain ⟨m, hm⟩ := k1; exact DataW.trod_lt m _ _ _ hm
 obtain ⟨a1, len1, cap1, rfl⟩ := okWide_slice Tryz.underlying31 (hval 1 31 v1 rfl rfl)
 obtain ⟨fu1, ho1⟩ := h1
 obtain ⟨m1, A1, c1, e1, hm1, hl1⟩ := open_ints Tryz.underlying31 (u := .slice a1 len1 cap1) ho1
 injection e1 with ea1 eb1 ec1
 subst ea1 eb1 ec1
 clear hA0 hval0
 refine (flowProves_row n0 nv0 m1 _ _ W hn0 hm1 hl1 (tab_of_laid hL)).mono fun e W' ⟨he, bel⟩ => ?_
 subst he
 exact ⟨_, rfl, _, _, _, [], _, [], hW', trodAll_mk1 (shut_bool Tryz.underlying4 _), (trodAll_cons_mk (Below.trod laidOut (by kernel_rfl) (of_decide_eq_true (by kernel_rfl)) k0 bel lt0) (trodAll_cons_mk (Below.trod laidOut (by kernel_rfl) (of_decide_eq_true (by kernel_rfl)) k1 bel lt1) trodAll_mk0)), rfl, bel.frame _, fun h => by cases h⟩
end Go.Proofs.YtenbglfkdldheaaGreatDoor
