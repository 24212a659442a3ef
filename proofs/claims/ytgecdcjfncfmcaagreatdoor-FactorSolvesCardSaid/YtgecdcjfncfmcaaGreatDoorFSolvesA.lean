/- The walk of FactorSolves. FactorSolves returns true for every input: a factor solves what the solver solves, with the same determinant. No conditions. The row's listed variables hold what the program's text lays (the card ties them). -/
import Derived.Test.YtgecdcjfncfmcaaGreatDoorSJG
import Derived.Test.YtgecdcjfncfmcaaGreatDoorCards
import Derived.Test.YtgecdcjfncfmcaaGreatDoorTie
import Derived.Test.YtgecdcjfncfmcaaGreatDoorJZ
import Derived.ShutString
import Derived.ChangeMaps5
namespace Go.Proofs.YtgecdcjfncfmcaaGreatDoor
open Go.RowKit

theorem smat_one {w : World} {A : Option Addr} {n c : Nat} {l : List ByteArray} (h : SV w A n l) : SMat (w.alloc (.cells #[.slice A n c] vecT)) (some ⟨w.heap.size, 0, none⟩) 1 [l] ∧ Below w.heap.size w (w.alloc (.cells #[.slice A n c] vecT)) := by
  have hb := below_new w (.cells #[.slice A n c] vecT)
  refine ⟨⟨[.slice A n c], one_reads w vecT _, rfl, fun i u x hu hx => ?_⟩, hb⟩
  match i with
  | 0 =>
    simp at hu hx
    subst hu hx
    exact ss_of (h.below hb)
  | i + 1 => simp at hx
theorem fs_text {m : MT} (h : squareT m = 0) : txM (valsM m) = (m, 0) := by
  have va := chkM_ok (square_ok h).2.2
  rw [txM_fit va.fit, va.text]
theorem fsolT_len (V : MQ) (n : Nat) (b : List (List UInt8)) : (fsolT V n b).1.length ≤ V.length := by
  unfold fsolT
  split
  · exact Nat.zero_le _
  · unfold txV
    split
    · rw [List.length_map, fsolQ, List.length_map]; exact Nat.le_refl _
    · exact Nat.zero_le _
theorem det_pair {m : MT} (h : squareT m = 0) (hs : smallB 5 m = true) : detT m = (qText (detR (valsM m) m.length), 0) := by
  rw [detR_det (square_ok h).1.vals]
  exact detT_ok h hs
theorem small_rows5 {N : Nat} {m : List (List ByteArray)} (h : smallB N (tx2 m) = true) : ∀ r ∈ m, r.length ≤ N := fun r hr => by
  have h1 := (small_len h).2 (tx1 r) (List.mem_map_of_mem hr)
  rwa [tx1, List.length_map] at h1
set_option maxRecDepth 100000 in
set_option maxHeartbeats 16000000 in
theorem factorSolves_any (m : List (List ByteArray)) (nm : Nat) (Am : Option Addr) (cm : Nat) (b : List ByteArray) (nb : Nat) (Ab : Option Addr) (cb : Nat) (w : World) (hm : SMat w Am nm m) (sm : Sh2 m) (hb : SV w Ab nb b) (sb : Sh1 b) (htab : Tab w) :
    Calls Tryz.prog 7 #[.slice Am nm cm, .slice Ab nb cb] w fun e w' => e = .returned (.bool true) ∧ Below w.heap.size w w' := by
  have HTB := Lib.hid htab
  have HB := Lib.hid (Below.refl w.heap.size w)
  clear htab
  have Lm := Lib.hid (show m.length = nm by obtain ⟨_, _, h, _⟩ := hm; exact h)
  have Hm := Lib.hid hm
  have Sm := Lib.hid sm
  clear hm sm
  have Lb := Lib.hid (show b.length = nb from hb.len)
  have Hb := Lib.hid hb
  have Sb := Lib.hid sb
  clear hb sb
  go_enter Tryz.func7, Tryz.ntmps7
  have HC := Lib.hid (factorFact_any w HTB.out)
  go_wp2_with fail
  refine HC.out.mono ?_
  rintro e w1 ⟨rfl, hb⟩
  clear HC
  have hbs := HB.out.size
  replace HB := Lib.hid (HB.out.trans (hb.mono hbs))
  clear hbs
  replace Hm := Lib.hid (Hm.out.below hb)
  replace Hb := Lib.hid (Hb.out.below hb)
  clear hb
  obtain ⟨hb1, hb⟩ := smat_one (c := cb) Hb.out
  have hbs := HB.out.size
  replace HB := Lib.hid (HB.out.trans (hb.mono hbs))
  clear hbs
  replace Hm := Lib.hid (Hm.out.below hb)
  replace Hb := Lib.hid (Hb.out.below hb)
  clear hb
  obtain ⟨hsm, hb⟩ := sms2 (c := cm) (d := 1) Hm.out hb1
  clear hb1
  have hbs := HB.out.size
  replace HB := Lib.hid (HB.out.trans (hb.mono hbs))
  clear hbs
  replace Hm := Lib.hid (Hm.out.below hb)
  replace Hb := Lib.hid (Hb.out.below hb)
  clear hb
  simp only [World.size_alloc] at hsm
  unfold matT vecT at *
  have HC := Lib.hid (small_any 5 [m, [b]] 2 _ 2 _ hsm (by decide) (by decide))
  go_wp2_with fail
  refine HC.out.mono ?_
  rintro e w2 ⟨rfl, hb⟩
  clear HC
  clear hsm
  have hbs := HB.out.size
  replace HB := Lib.hid (HB.out.trans (hb.mono hbs))
  clear hbs
  replace Hm := Lib.hid (Hm.out.below hb)
  replace Hb := Lib.hid (Hb.out.below hb)
  clear hb
  cases hsm : [m, [b]].any (lgM 5) with
  | true =>
    go_wp2
    go_ret
    exact ⟨rfl, HB.out⟩
  | false =>
    have Zm := Lib.hid (lg_any hsm (m := m) (by simp))
    have LTm := Lib.hid (show (tx2 m).length = nm by rw [tx2, List.length_map, Lm.out])
    clear hsm
    have HN := Lib.hid (new_small Zm.out)
    have hn5 : nm ≤ 5 := by have h := (small_len Zm.out).1; rw [LTm.out] at h; exact h
    have HC := Lib.hid (fnew_any m nm Am cm w2 Hm.out Sm.out (tab_below HTB.out HB.out) (small_h5 Zm.out Lm.out))
    go_wp2_with fail
    refine HC.out.mono ?_
    rintro e w3 ⟨hbad, hok, hb⟩
    clear HC
    by_cases hz : newT (tx2 m) = 0
    · obtain ⟨g, rfl, hf⟩ := hok hz
      obtain ⟨hsq, hreg, hdf, hvf⟩ := new_ok hz
      have HFL := Lib.hid (fsolves_law hz (tx1 b))
      have HDP := Lib.hid (det_pair hsq Zm.out)
      have HTX := Lib.hid (fs_text hsq)
      have HVM := Lib.hid (square_ok hsq).1
      have HI := Lib.hid (show (invT (tx2 m)).2 = 0 by rw [← HN.out]; exact hz)
      rw [LTm.out] at hf hreg hdf hvf HFL HDP HVM
      have HF := Lib.hid (hf.less (Nat.zero_le _))
      have HRG := Lib.hid hreg
      have HDF := Lib.hid hdf
      have HVF := Lib.hid (fit_all hvf)
      clear hf hreg hdf hvf hbad hok hz hsq HN
      have hbs := HB.out.size
      replace HB := Lib.hid (HB.out.trans (hb.mono hbs))
      clear hbs
      replace Hm := Lib.hid (Hm.out.below hb)
      replace Hb := Lib.hid (Hb.out.below hb)
      clear hb
      have HRV := Lib.hid (rect_inv HRG.out.rect)
      have HFLN := Lib.hid (fsolT_len (invQ (valsM (tx2 m)) nm) nm (tx1 b))
      rw [HRV.out.1] at HFLN
      rw [HFL.out] at HFLN
      have HC := Lib.hid (sinverse_any m nm Am cm w3 Hm.out Sm.out (tab_below HTB.out HB.out))
      go_wp2_with fail
      refine HC.out.mono ?_
      rintro e w4 ⟨Ai, ni, ci, mi, rfl, -, -, -, hb⟩
      clear HC
      rw [HI.out]
      have hbs := HB.out.size
      replace HB := Lib.hid (HB.out.trans (hb.mono hbs))
      clear hbs
      replace Hm := Lib.hid (Hm.out.below hb)
      replace Hb := Lib.hid (Hb.out.below hb)
      replace HF := Lib.hid (HF.out.below hb)
      clear hb
      have HC := Lib.hid (fdet_any g nm (valsM (tx2 m)) (invQ (valsM (tx2 m)) nm) (detR (valsM (tx2 m)) nm) 0 w4 HF.out HDF.out (tab_below HTB.out HB.out))
      go_wp2_with fail
      refine HC.out.mono ?_
      rintro e w5 ⟨rfl, hb⟩
      clear HC
      have hbs := HB.out.size
      replace HB := Lib.hid (HB.out.trans (hb.mono hbs))
      clear hbs
      replace Hm := Lib.hid (Hm.out.below hb)
      replace Hb := Lib.hid (Hb.out.below hb)
      replace HF := Lib.hid (HF.out.below hb)
      clear hb
      have HC := Lib.hid (sdet_any m nm Am cm w5 Hm.out Sm.out (tab_below HTB.out HB.out) (small_h5 Zm.out Lm.out))
      go_wp2_with fail
      refine HC.out.mono ?_
      rintro e w6 ⟨rfl, hb⟩
      clear HC
      rw [HDP.out]
      have hbs := HB.out.size
      replace HB := Lib.hid (HB.out.trans (hb.mono hbs))
      clear hbs
      replace Hm := Lib.hid (Hm.out.below hb)
      replace Hb := Lib.hid (Hb.out.below hb)
      replace HF := Lib.hid (HF.out.below hb)
      clear hb
      have HC := Lib.hid (fmatrix_any g nm (valsM (tx2 m)) (invQ (valsM (tx2 m)) nm) (detR (valsM (tx2 m)) nm) 0 w6 HF.out HRG.out.rect (by omega) (tab_below HTB.out HB.out))
      go_wp2_with fail
      refine HC.out.mono ?_
      rintro e w7 h
      clear HC
      obtain ⟨Ax, nx, cx, rfl, hm, hn, hs, hb⟩ := h.known (m := m) (HTX.out)
      clear h
      have hbs := HB.out.size
      replace HB := Lib.hid (HB.out.trans (hb.mono hbs))
      clear hbs
      replace Hm := Lib.hid (Hm.out.below hb)
      replace Hb := Lib.hid (Hb.out.below hb)
      replace HF := Lib.hid (HF.out.below hb)
      clear hb
      have Hx := Lib.hid hm
      have Lx := Lib.hid hn
      have Sx := Lib.hid hs
      clear hm hn hs
      have HC0 := Lib.hid (fsolve_any g nm (valsM (tx2 m)) (invQ (valsM (tx2 m)) nm) (detR (valsM (tx2 m)) nm) 0 w7 HF.out b nb Ab cb Hb.out Sb.out HRV.out HVF.out (by omega) (tab_below HTB.out HB.out))
      rw [HFL.out] at HC0
      have HC := Lib.hid (HC0.out)
      go_wp2_with fail
      refine HC.out.mono ?_
      rintro e w8 ⟨Ay, ny, cy, y, rfl, hy, hey, hsy, hb⟩
      clear HC
      clear HC0
      have hbs := HB.out.size
      replace HB := Lib.hid (HB.out.trans (hb.mono hbs))
      clear hbs
      replace Hm := Lib.hid (Hm.out.below hb)
      replace Hb := Lib.hid (Hb.out.below hb)
      replace HF := Lib.hid (HF.out.below hb)
      replace Hx := Lib.hid (Hx.out.below hb)
      clear hb
      have Hy := Lib.hid hy
      have Ey := Lib.hid hey
      have Ly := Lib.hid hy.len
      clear hy hey hsy
      have HC := Lib.hid (ssolve_any m nm Am cm b nb Ab cb w8 Hm.out Sm.out Hb.out Sb.out (tab_below HTB.out HB.out))
      go_wp2_with fail
      refine HC.out.mono ?_
      rintro e w9 ⟨Az, nz, cz, z, rfl, hz, hez, hsz, hb⟩
      clear HC
      have hbs := HB.out.size
      replace HB := Lib.hid (HB.out.trans (hb.mono hbs))
      clear hbs
      replace Hm := Lib.hid (Hm.out.below hb)
      replace Hb := Lib.hid (Hb.out.below hb)
      replace HF := Lib.hid (HF.out.below hb)
      replace Hx := Lib.hid (Hx.out.below hb)
      replace Hy := Lib.hid (Hy.out.below hb)
      clear hb
      obtain rfl := tx1_inj (Ey.out.trans hez.symm)
      have Hz := Lib.hid hz
      clear hz hez hsz
      have hny : ny ≤ 5 := by
        have h := HFLN.out
        rw [← Ey.out, tx1, List.length_map, Ly.out] at h
        omega
      clear Ey HFLN HFL HI HDP HTX
      generalize (solveT (tx2 m) (tx1 b)).2 = se at *
      have HX := Lib.hid (fine_any [0, 0, 0] 3 (some ⟨w9.heap.size, 0, none⟩) 3 (w9.alloc (.cells #[I 0, I 0, I 0] 34)) _ (reads_lits w9 _ [I 0, I 0, I 0]) (by omega))
      rw [show fineB [0, 0, 0] = true from rfl] at HX
      have hb := below_new w9 (.cells #[I 0, I 0, I 0] 34)
      have hbs := HB.out.size
      replace HB := Lib.hid (HB.out.trans (hb.mono hbs))
      clear hbs
      replace Hm := Lib.hid (Hm.out.below hb)
      replace Hb := Lib.hid (Hb.out.below hb)
      replace HF := Lib.hid (HF.out.below hb)
      replace Hx := Lib.hid (Hx.out.below hb)
      replace Hy := Lib.hid (Hy.out.below hb)
      replace Hz := Lib.hid (Hz.out.below hb)
      clear hb
      go_wp2_with fail
      refine HX.out.mono ?_
      rintro e w10 ⟨rfl, rfl⟩
      clear HX
      have HC := Lib.hid (same_any m m nx nm Ax Am cx cm (w9.alloc (.cells #[I 0, I 0, I 0] 34)) Hx.out Hm.out (by have h := Lx.out; have h2 := Lm.out; omega) (fun l hl => by have h := small_rows5 Zm.out l hl; omega))
      go_wp2_with fail
      refine HC.out.mono ?_
      rintro e w11 ⟨rfl, hb⟩
      clear HC
      simp only [decide_true]
      have hbs := HB.out.size
      replace HB := Lib.hid (HB.out.trans (hb.mono hbs))
      clear hbs
      replace Hm := Lib.hid (Hm.out.below hb)
      replace Hb := Lib.hid (Hb.out.below hb)
      replace HF := Lib.hid (HF.out.below hb)
      replace Hx := Lib.hid (Hx.out.below hb)
      replace Hy := Lib.hid (Hy.out.below hb)
      replace Hz := Lib.hid (Hz.out.below hb)
      clear hb
      have HC := Lib.hid (fside_any g nm (valsM (tx2 m)) (invQ (valsM (tx2 m)) nm) (detR (valsM (tx2 m)) nm) 0 w11 HF.out)
      go_wp2_with fail
      refine HC.out.mono ?_
      rintro e w12 ⟨rfl, rfl⟩
      clear HC
      have HC := Lib.hid (equalV_any y y ny nz Ay Az cy cz _ Hy.out Hz.out (by omega))
      go_wp2_with fail
      refine HC.out.mono ?_
      rintro e w13 ⟨rfl, hb⟩
      clear HC
      simp only [decide_true]
      have hbs := HB.out.size
      replace HB := Lib.hid (HB.out.trans (hb.mono hbs))
      clear hbs
      replace Hm := Lib.hid (Hm.out.below hb)
      replace Hb := Lib.hid (Hb.out.below hb)
      replace HF := Lib.hid (HF.out.below hb)
      replace Hx := Lib.hid (Hx.out.below hb)
      replace Hy := Lib.hid (Hy.out.below hb)
      replace Hz := Lib.hid (Hz.out.below hb)
      clear hb
      go_wp2
      go_ret
      exact ⟨rfl, HB.out⟩
    · have hne := hbad hz
      subst hne
      have tc : (newT (tx2 m) != 0) = true := bad_of hz
      have hbs := HB.out.size
      replace HB := Lib.hid (HB.out.trans (hb.mono hbs))
      clear hbs
      replace Hm := Lib.hid (Hm.out.below hb)
      replace Hb := Lib.hid (Hb.out.below hb)
      clear hb
      have HC := Lib.hid (sinverse_any m nm Am cm w3 Hm.out Sm.out (tab_below HTB.out HB.out))
      go_wp2_with fail
      refine HC.out.mono ?_
      rintro e w4 ⟨Ai, ni, ci, mi, rfl, -, -, -, hb⟩
      clear HC
      rw [← HN.out]
      have hbs := HB.out.size
      replace HB := Lib.hid (HB.out.trans (hb.mono hbs))
      clear hbs
      replace Hm := Lib.hid (Hm.out.below hb)
      replace Hb := Lib.hid (Hb.out.below hb)
      clear hb
      clear HN hbad hok hz
      generalize newT (tx2 m) = cc at *
      go_wp2
      go_ret
      exact ⟨rfl, HB.out⟩
end Go.Proofs.YtgecdcjfncfmcaaGreatDoor
namespace Go.Proofs.YtgecdcjfncfmcaaGreatDoor
open Go.ChangeShapes Go.WideShapes Go.ChangeAt Go.RowKit Go.ChangeMaps

theorem factorSolves_door (os : Os) (args : Array Value) : laidMetH Tryz.prog Rows.factorSolvesRow.laid ((World.doorLaid Tryz.prog 62 os).forCall (fun _ _ => 0) ⟨#[], args, []⟩).memory :=
  laidMetH_of_parts3 (fuel := 8) (laidMet_of_run' 8 (by kernel_rfl) (by kernel_rfl)) (by kernel_rfl) (by kernel_rfl)
set_option linter.unusedVariables false in
set_option maxRecDepth 100000 in
theorem factorSolves_lifted (os : Os) (started : os.Started) (H : Type) (enc : TypeId × Value → H) :
    ReturnsInHanded {} Tryz.checked os 7 .any (fun w args => (Rows.factorSolvesSpec.pre enc Tryz.prog Tryz.f7 [] false w args ∧ laidMetH Tryz.prog Rows.factorSolvesRow.laid w) ∧ sizedMet enc Tryz.prog Tryz.f7 (OpenSpec.ofChange Rows.factorSolvesSpec) false w args)
      (Rows.factorSolvesSpec.post enc Tryz.prog Tryz.f7 false true false false) := by
  refine returnsInHanded_of_change_and (C := Tryz.checked) (X := fun w _ => laidMetH Tryz.prog Rows.factorSolvesRow.laid w) (fun _ _ _ hh h => h.of_heap hh) own started (by kernel_rfl) Tryz.func7
    (ChangeSpec.witness_shaped (enc := enc) (C := Tryz.checked) (os := os) (X := fun w _ => laidMetH Tryz.prog Rows.factorSolvesRow.laid w) false (World.doorLaid Tryz.prog 62 os) #[.slice none 0 0, .slice none 0 0] 8 rfl (World.shaped_of_RefB (by kernel_rfl) (by kernel_rfl)) (by kernel_rfl) (by kernel_rfl) (by kernel_rfl) (factorSolves_door os _)) ?_
  intro W base args ds gs before hval0 hW _ _ hL _
  have hval : ∀ (j : Nat) t v, Tryz.f7.params[j]? = some t → args[j]? = some v → Value.okWide Tryz.prog W .any base t v := hval0
  have hW' := hW
  obtain ⟨p, q, hA0, hV, rfl, hfz, hnd⟩ := hW
  have hA : DataW.TrodAll enc Tryz.prog W 0 (fun _ => true) true Tryz.f7.params.toList args.toList ds p := hA0
  rw [Tryz.params7] at hA hval
  obtain ⟨v0, vs0, d0, ds0, p0, q0, hargs, rfl, rfl, h0, r0⟩ := trodAll_cons hA
  obtain ⟨v1, vs1, d1, ds1, p1, q1, rfl, rfl, rfl, h1, r1⟩ := trodAll_cons r0
  obtain ⟨rfl, rfl, rfl⟩ := trodAll_nil r1
  obtain rfl : args = #[v0, v1] := by cases args; simp_all
  obtain ⟨rfl, rfl⟩ := trodVars_none hV
  have k0 := h0
  have lt0 : ∀ x ∈ p0, x.block < W.heap.size := by obtain ⟨m, hm⟩ := k0; exact DataW.trod_lt m _ _ _ hm
  obtain ⟨a0, len0, cap0, rfl⟩ := okWide_slice Tryz.underlying57 (hval 0 57 v0 rfl rfl)
  obtain ⟨fu0, ho0⟩ := h0
  obtain ⟨m0, A0, c0, e0, hm0, hs0⟩ := open_mat (u := .slice a0 len0 cap0) ho0
  injection e0 with ea0 eb0 ec0
  subst ea0 eb0 ec0
  have k1 := h1
  have lt1 : ∀ x ∈ p1, x.block < W.heap.size := by obtain ⟨m, hm⟩ := k1; exact DataW.trod_lt m _ _ _ hm
  obtain ⟨a1, len1, cap1, rfl⟩ := okWide_slice Tryz.underlying31 (hval 1 31 v1 rfl rfl)
  obtain ⟨fu1, ho1⟩ := h1
  obtain ⟨m1, A1, c1, e1, hm1, hs1, hl1⟩ := open_vec Tryz.underlying31 (u := .slice a1 len1 cap1) ho1
  injection e1 with ea1 eb1 ec1
  subst ea1 eb1 ec1
  clear hA0 hval0
  refine (factorSolves_any m0 _ _ _ m1 _ _ _ W hm0 hs0 hm1 hs1 (tab_of_laid hL)).mono fun e W' ⟨he, bel⟩ => ?_
  subst he
  exact ⟨_, rfl, _, _, _, [], _, [], hW', trodAll_mk1 (shut_bool Tryz.underlying4 _), (trodAll_cons_mk (Below.trod laidOut (by kernel_rfl) (of_decide_eq_true (by kernel_rfl)) k0 bel lt0) (trodAll_cons_mk (Below.trod laidOut (by kernel_rfl) (of_decide_eq_true (by kernel_rfl)) k1 bel lt1) trodAll_mk0)), rfl, bel.frame _, fun h => by cases h⟩

end Go.Proofs.YtgecdcjfncfmcaaGreatDoor
