/- The walk of SolveProducts. The walk of SolveKinds. SolveKinds returns true for every input: a system has no solution if its right side increases the rank, and several ones if the rank is less than the number of columns. No conditions. The row's listed variables hold what the program's text lays (the card ties them). -/
import Derived.Test.YtmnedfkinepnfaaGreatDoorSJG
import Derived.Test.YtmnedfkinepnfaaGreatDoorJR
import Derived.Test.YtmnedfkinepnfaaGreatDoorCards
import Derived.Test.YtmnedfkinepnfaaGreatDoorTie
import Derived.Test.YtmnedfkinepnfaaGreatDoorJZ
import Derived.ShutString
import Derived.ChangeMaps5
namespace Go.Proofs.YtmnedfkinepnfaaGreatDoor
open Go.RowKit

theorem fine2 (a b : Int) : fineB [a, b] = decide (a = 0 ∧ b = 0) := by
  by_cases h : a = 0 ∧ b = 0
  · rw [decide_eq_true h]; obtain ⟨rfl, rfl⟩ := h; rfl
  · rw [decide_eq_false h]
    cases e : fineB [a, b] with
    | false => rfl
    | true => exact absurd ⟨(fineB_iff _).1 e a (by simp), (fineB_iff _).1 e b (by simp)⟩ h
end Go.Proofs.YtmnedfkinepnfaaGreatDoor
namespace Go.Proofs.YtmnedfkinepnfaaGreatDoor
open Go.RowKit

theorem rank_err (m : MT) : (rankT m).2 = chkM m := by
  rw [rankT]
  split
  · rfl
  · rename_i h; exact (Decidable.not_not.1 h).symm
theorem join_chk {m : MT} {b : List (List UInt8)} (hl : b.length = m.length) (h40 : m.length ≤ 40) (h : chkM (joinT m b) = 0) : chkV b = 0 := by
  have v := chkM_ok h
  refine chkV_all (by omega) fun s hs => ?_
  obtain ⟨i, hi, rfl⟩ := List.mem_iff_getElem.1 hs
  refine v.ok (m[i]'(by omega) ++ [b.getD i []]) ?_ _ (List.mem_append_right _ ?_)
  · unfold joinT
    exact List.mem_mapIdx.2 ⟨i, by omega, rfl⟩
  · rw [List.getD_eq_getElem?_getD, List.getElem?_eq_getElem hi]
    exact List.mem_singleton.2 rfl
theorem kinds_bad {m : MT} {b : List (List UInt8)} (hl : b.length = m.length) (hw : wd m < 40) (h : ¬ ((rankT m).2 = 0 ∧ (rankT (joinT m b)).2 = 0)) : (solveT m b).2 ≠ 0 := by
  intro hs
  rw [solveT] at hs
  split at hs
  · rename_i h0; exact h0 hs
  · rename_i h0
    have hc := Decidable.not_not.1 h0
    split at hs
    · rename_i h1; exact h1 hs
    · rename_i h1
      have hv := Decidable.not_not.1 h1
      refine h ⟨by rw [rank_err, hc], ?_⟩
      rw [rank_err]
      exact (join_vm (chkM_ok hc) (chkV_ok hv).2 hl hw).chk
theorem smat_one {w : World} {A : Option Addr} {n c : Nat} {l : List ByteArray} (h : SV w A n l) : SMat (w.alloc (.cells #[.slice A n c] vecT)) (some ⟨w.heap.size, 0, none⟩) 1 [l] ∧ Below w.heap.size w (w.alloc (.cells #[.slice A n c] vecT)) := by
  have hb := below_new w (.cells #[.slice A n c] vecT)
  refine ⟨⟨[.slice A n c], one_reads w vecT _, rfl, fun i u x hu hx => ?_⟩, hb⟩
  match i with
  | 0 =>
    simp at hu hx
    subst hu hx
    exact ss_of (h.below hb)
  | i + 1 => simp at hx
theorem sh_join {m : List (List ByteArray)} {b : List ByteArray} (hm : Sh2 m) (hb : Sh1 b) : Sh2 (joinS m b) := fun r hr s hs => by
  obtain ⟨i, hi, rfl⟩ := List.mem_mapIdx.1 hr
  rcases List.mem_append.1 hs with h | h
  · exact hm _ (List.getElem_mem hi) s h
  · rw [List.mem_singleton.1 h, List.getD_eq_getElem?_getD]
    cases e : b[i]? with
    | none => decide
    | some x => exact hb x (List.mem_of_getElem? e)
theorem small_vec {b : List ByteArray} (h : smallB 5 (tx2 [b]) = true) : ∀ s ∈ tx1 b, s.length ≤ 12 := fun s hs => by
  unfold smallB at h
  rw [Bool.and_eq_true, List.all_eq_true] at h
  have h1 := h.2 (tx1 b) (List.mem_singleton.2 rfl)
  rw [Bool.and_eq_true, List.all_eq_true] at h1
  exact of_decide_eq_true (h1.2 s hs)
theorem small_rows {N : Nat} {m : List (List ByteArray)} (h : smallB N (tx2 m) = true) : ∀ r ∈ m, r.length ≤ N := fun r hr => by
  have h1 := (small_len h).2 (tx1 r) (List.mem_map_of_mem hr)
  rwa [tx1, List.length_map] at h1
set_option maxRecDepth 100000 in
set_option maxHeartbeats 16000000 in
theorem solveKinds_any (m : List (List ByteArray)) (nm : Nat) (Am : Option Addr) (cm : Nat) (b : List ByteArray) (nb : Nat) (Ab : Option Addr) (cb : Nat) (w : World) (hm : SMat w Am nm m) (sm : Sh2 m) (hb : SV w Ab nb b) (sb : Sh1 b) (htab : Tab w) :
    Calls Tryz.prog 10 #[.slice Am nm cm, .slice Ab nb cb] w fun e w' => e = .returned (.bool true) ∧ Below w.heap.size w w' := by
  have HTB := Lib.hid htab
  have HB := Lib.hid (Below.refl w.heap.size w)
  clear htab
  have Lm := Lib.hid (show m.length = nm by obtain ⟨_, _, h, _⟩ := hm; exact h)
  have Hm := Lib.hid hm
  have Sm := Lib.hid sm
  clear hm sm
  have Lb := Lib.hid (show b.length = nb from hb.len)
  have Hb := Lib.hid hb
  have Sb := Lib.hid sb
  clear hb sb
  go_enter Tryz.func10, Tryz.ntmps10
  have HC := Lib.hid (solveFact_any w HTB.out)
  go_wp2_with fail
  refine HC.out.mono ?_
  rintro e w1 ⟨rfl, hb⟩
  clear HC
  have hbs := HB.out.size
  replace HB := Lib.hid (HB.out.trans (hb.mono hbs))
  clear hbs
  replace Hm := Lib.hid (Hm.out.below hb)
  replace Hb := Lib.hid (Hb.out.below hb)
  clear hb
  have HC := Lib.hid (ssolve_any m nm Am cm b nb Ab cb w1 Hm.out Sm.out Hb.out Sb.out (tab_below HTB.out HB.out))
  go_wp2_with fail
  refine HC.out.mono ?_
  rintro e w2 ⟨Ax, nx, cx, x, rfl, hx, hex, hsx, hb⟩
  clear HC
  have hbs := HB.out.size
  replace HB := Lib.hid (HB.out.trans (hb.mono hbs))
  clear hbs
  replace Hm := Lib.hid (Hm.out.below hb)
  replace Hb := Lib.hid (Hb.out.below hb)
  clear hb
  have Hx := Lib.hid hx
  have Ex := Lib.hid hex
  have Sx := Lib.hid hsx
  have Lx := Lib.hid hx.len
  clear hx hex hsx
  obtain ⟨hb1, hb⟩ := smat_one (c := cb) Hb.out
  have hbs := HB.out.size
  replace HB := Lib.hid (HB.out.trans (hb.mono hbs))
  clear hbs
  replace Hm := Lib.hid (Hm.out.below hb)
  replace Hb := Lib.hid (Hb.out.below hb)
  replace Hx := Lib.hid (Hx.out.below hb)
  clear hb
  obtain ⟨hsm, hb⟩ := sms2 (c := cm) (d := 1) Hm.out hb1
  clear hb1
  have hbs := HB.out.size
  replace HB := Lib.hid (HB.out.trans (hb.mono hbs))
  clear hbs
  replace Hm := Lib.hid (Hm.out.below hb)
  replace Hb := Lib.hid (Hb.out.below hb)
  replace Hx := Lib.hid (Hx.out.below hb)
  clear hb
  simp only [World.size_alloc] at hsm
  unfold matT vecT at *
  have HC := Lib.hid (small_any 5 [m, [b]] 2 _ 2 _ hsm (by decide) (by decide))
  go_wp2_with fail
  refine HC.out.mono ?_
  rintro e w3 ⟨rfl, hb⟩
  clear HC
  clear hsm
  have hbs := HB.out.size
  replace HB := Lib.hid (HB.out.trans (hb.mono hbs))
  clear hbs
  replace Hm := Lib.hid (Hm.out.below hb)
  replace Hb := Lib.hid (Hb.out.below hb)
  replace Hx := Lib.hid (Hx.out.below hb)
  clear hb
  cases hsm : [m, [b]].any (lgM 5) with
  | true =>
    go_wp2
    go_ret
    exact ⟨rfl, HB.out⟩
  | false =>
    have Zm := Lib.hid (lg_any hsm (m := m) (by simp))
    have Zb := Lib.hid (small_vec (lg_any hsm (m := [b]) (by simp)))
    have LTm := Lib.hid (show (tx2 m).length = nm by rw [tx2, List.length_map, Lm.out])
    have LTb := Lib.hid (show (tx1 b).length = nb by rw [tx1, List.length_map, Lb.out])
    clear hsm
    by_cases hz : nm = 0
    · subst hz
      go_wp2
      go_ret
      exact ⟨rfl, HB.out⟩
    · have tz : ((nm : Int) == 0) = false := beq_eq_false_iff_ne.2 (by omega)
      have hp : 0 < nm := by omega
      by_cases hab : nm = nb
      · subst hab
        have tn : ((nm : Int) != nm) = false := by rw [bne_self_eq_false]
        have hn5 : nm ≤ 5 := by have h := (small_len Zm.out).1; rw [LTm.out] at h; exact h
        obtain ⟨x0, hx0⟩ : ∃ x, m[0]? = some x := ⟨_, List.getElem?_eq_getElem (by rw [Lm.out]; exact hp)⟩
        have HW := Lib.hid (show wd (tx2 m) = x0.length by rw [wd_tx, head_get m x0 _ hx0])
        have hw5 : x0.length ≤ 5 := small_rows Zm.out x0 (List.mem_of_getElem? hx0)
        have HC := Lib.hid (srank_any m nm Am cm w3 Hm.out Sm.out (tab_below HTB.out HB.out))
        go_wp2_with fail
        refine HC.out.mono ?_
        rintro e w4 ⟨rfl, hb⟩
        clear HC
        have hbs := HB.out.size
        replace HB := Lib.hid (HB.out.trans (hb.mono hbs))
        clear hbs
        replace Hm := Lib.hid (Hm.out.below hb)
        replace Hb := Lib.hid (Hb.out.below hb)
        replace Hx := Lib.hid (Hx.out.below hb)
        clear hb
        have HC := Lib.hid (joined_any m nm Am cm b nm Ab cb w4 Hm.out Hb.out (Nat.le_refl _) (by omega) (fun r hr => by have h := small_rows Zm.out r hr; omega))
        go_wp2_with fail
        refine HC.out.mono ?_
        rintro e w5 ⟨Aj, cj, rfl, hj, hb⟩
        clear HC
        have hbs := HB.out.size
        replace HB := Lib.hid (HB.out.trans (hb.mono hbs))
        clear hbs
        replace Hm := Lib.hid (Hm.out.below hb)
        replace Hb := Lib.hid (Hb.out.below hb)
        replace Hx := Lib.hid (Hx.out.below hb)
        clear hb
        have Hj := Lib.hid hj
        clear hj
        have HC := Lib.hid (srank_any (joinS m b) nm Aj cj w5 Hj.out (sh_join Sm.out Sb.out) (tab_below HTB.out HB.out))
        go_wp2_with fail
        refine HC.out.mono ?_
        rintro e w6 ⟨rfl, hb⟩
        clear HC
        rw [tx_join]
        have hbs := HB.out.size
        replace HB := Lib.hid (HB.out.trans (hb.mono hbs))
        clear hbs
        replace Hm := Lib.hid (Hm.out.below hb)
        replace Hb := Lib.hid (Hb.out.below hb)
        replace Hx := Lib.hid (Hx.out.below hb)
        replace Hj := Lib.hid (Hj.out.below hb)
        clear hb
        clear Hj
        by_cases he : (rankT (tx2 m)).2 = 0 ∧ (rankT (joinT (tx2 m) (tx1 b))).2 = 0
        · have hc : chkM (tx2 m) = 0 := by rw [← rank_err]; exact he.1
          have hv : chkV (tx1 b) = 0 := join_chk (by rw [LTm.out, LTb.out]) (by rw [LTm.out]; omega) (by rw [← rank_err]; exact he.2)
          obtain ⟨k1, k2, k3, k4⟩ := kinds_law hc hv (by rw [LTm.out, LTb.out]) (by rw [LTm.out]; exact hp) Zm.out Zb.out
          rw [he.1, he.2]
          clear he hc hv k1
          rw [HW.out] at k3 k4
          clear HW
          generalize (rankT (tx2 m)).1 = r at *
          generalize (rankT (joinT (tx2 m) (tx1 b))).1 = s at *
          have HX := Lib.hid (fine_any [0, 0] 2 (some ⟨w6.heap.size, 0, none⟩) 2 (w6.alloc (.cells #[I 0, I 0] 25)) _ (reads_lits w6 _ [I 0, I 0]) (by omega))
          rw [show fineB [0, 0] = true from rfl] at HX
          have hb := below_new w6 (.cells #[I 0, I 0] 25)
          have hbs := HB.out.size
          replace HB := Lib.hid (HB.out.trans (hb.mono hbs))
          clear hbs
          replace Hm := Lib.hid (Hm.out.below hb)
          replace Hb := Lib.hid (Hb.out.below hb)
          replace Hx := Lib.hid (Hx.out.below hb)
          clear hb
          go_wp2_with fail
          refine HX.out.mono ?_
          rintro e w7 ⟨rfl, rfl⟩
          clear HX
          obtain ⟨b0, o0, B0, d0, rfl, hc0, _⟩ := Hm.out.at_ hp x0 hx0
          rw [Nat.add_zero] at hc0
          clear hx0
          generalize x0.length = wa at *
          by_cases h1 : r < s
          · have t1 : decide (r < s) = true := decide_eq_true h1
            have hq := k2 h1
            have hnx : nx = 0 := by
              have h1 := Ex.out
              rw [hq] at h1
              have h2 := congrArg List.length h1
              rw [tx1, List.length_map, Lx.out] at h2
              exact h2
            subst hnx
            rw [hq]
            clear k2 k3 k4 hq Hx Ex Lx h1
            go_wp2
            go_ret
            exact ⟨rfl, HB.out⟩
          · have t1 : decide (r < s) = false := decide_eq_false h1
            by_cases h2 : r < wa
            · have t2 : decide (r < wa) = true := decide_eq_true h2
              have hq := k3 h1 h2
              have hnx : nx = 0 := by
                have h1 := Ex.out
                rw [hq] at h1
                have h2 := congrArg List.length h1
                rw [tx1, List.length_map, Lx.out] at h2
                exact h2
              subst hnx
              rw [hq]
              clear k2 k3 k4 hq Hx Ex Lx h1 h2
              go_wp2
              go_ret
              exact ⟨rfl, HB.out⟩
            · have t2 : decide (r < wa) = false := decide_eq_false h2
              obtain ⟨X, q1, q2⟩ := k4 h1 h2
              rw [← tx_mk X] at q1 q2
              obtain rfl : x = mkS X := tx1_inj (by rw [Ex.out, q1])
              rw [q1]
              have Q2 := Lib.hid q2
              clear k2 k3 k4 q1 q2 h1 h2
              have HC := Lib.hid (applyM_any m nm (some ⟨b0, o0, none⟩) cm (mkS X) nx Ax cx _ Hm.out Sm.out Hx.out Sx.out (tab_below HTB.out HB.out))
              go_wp2_with fail
              refine HC.out.mono ?_
              rintro e w8 h
              clear HC
              obtain ⟨Ay, ny, cy, rfl, hy, hyn, hb⟩ := h.lit Q2.out
              clear h hc0
              have hbs := HB.out.size
              replace HB := Lib.hid (HB.out.trans (hb.mono hbs))
              clear hbs
              replace Hm := Lib.hid (Hm.out.below hb)
              replace Hb := Lib.hid (Hb.out.below hb)
              replace Hx := Lib.hid (Hx.out.below hb)
              clear hb
              have Hy := Lib.hid hy
              have Ly := Lib.hid hyn
              clear hy hyn
              clear Hx
              have HC := Lib.hid (equalV_any b b ny nm Ay Ab cy cb _ Hy.out Hb.out (by have h := Ly.out; have h2 := Lb.out; omega))
              go_wp2_with fail
              refine HC.out.mono ?_
              rintro e w9 ⟨rfl, hb⟩
              clear HC
              simp only [decide_true]
              have hbs := HB.out.size
              replace HB := Lib.hid (HB.out.trans (hb.mono hbs))
              clear hbs
              replace Hm := Lib.hid (Hm.out.below hb)
              replace Hb := Lib.hid (Hb.out.below hb)
              replace Hy := Lib.hid (Hy.out.below hb)
              clear hb
              go_wp2
              go_ret
              exact ⟨rfl, HB.out⟩
        · have hbad := kinds_bad (b := tx1 b) (by rw [LTm.out, LTb.out]) (by rw [HW.out]; omega) he
          have te : ((solveT (tx2 m) (tx1 b)).2 != 0) = true := bne_iff_ne.2 hbad
          clear Ex hbad HW hx0
          generalize (solveT (tx2 m) (tx1 b)).2 = es at *
          generalize (rankT (tx2 m)).2 = e1 at *
          generalize (rankT (joinT (tx2 m) (tx1 b))).2 = e2 at *
          generalize (rankT (tx2 m)).1 = r at *
          generalize (rankT (joinT (tx2 m) (tx1 b))).1 = s at *
          have HX := Lib.hid (fine_any [e1, e2] 2 (some ⟨w6.heap.size, 0, none⟩) 2 (w6.alloc (.cells #[I e1, I e2] 25)) _ (reads_lits w6 _ [I e1, I e2]) (by omega))
          rw [show fineB [e1, e2] = false from by rw [fine2]; exact decide_eq_false he] at HX
          have hb := below_new w6 (.cells #[I e1, I e2] 25)
          have hbs := HB.out.size
          replace HB := Lib.hid (HB.out.trans (hb.mono hbs))
          clear hbs
          replace Hm := Lib.hid (Hm.out.below hb)
          replace Hb := Lib.hid (Hb.out.below hb)
          replace Hx := Lib.hid (Hx.out.below hb)
          clear hb
          go_wp2_with fail
          refine HX.out.mono ?_
          rintro e w7 ⟨rfl, rfl⟩
          clear HX
          go_wp2
          go_ret
          exact ⟨rfl, HB.out⟩
      · have tn : ((nm : Int) != (nb : Int)) = true := bne_iff_ne.2 (by omega)
        go_wp2
        go_ret
        exact ⟨rfl, HB.out⟩
end Go.Proofs.YtmnedfkinepnfaaGreatDoor
namespace Go.Proofs.YtmnedfkinepnfaaGreatDoor
open Go.ChangeShapes Go.WideShapes Go.ChangeAt Go.RowKit Go.ChangeMaps

theorem solveKinds_door (os : Os) (args : Array Value) : laidMetH Tryz.prog Rows.solveKindsRow.laid ((World.doorLaid Tryz.prog 62 os).forCall (fun _ _ => 0) ⟨#[], args, []⟩).memory :=
  laidMetH_of_parts3 (fuel := 8) (laidMet_of_run' 8 (by kernel_rfl) (by kernel_rfl)) (by kernel_rfl) (by kernel_rfl)
set_option linter.unusedVariables false in
set_option maxRecDepth 100000 in
theorem solveKinds_lifted (os : Os) (started : os.Started) (H : Type) (enc : TypeId × Value → H) :
    ReturnsInHanded {} Tryz.checked os 10 .any (fun w args => (Rows.solveKindsSpec.pre enc Tryz.prog Tryz.f10 [] false w args ∧ laidMetH Tryz.prog Rows.solveKindsRow.laid w) ∧ sizedMet enc Tryz.prog Tryz.f10 (OpenSpec.ofChange Rows.solveKindsSpec) false w args)
      (Rows.solveKindsSpec.post enc Tryz.prog Tryz.f10 false true false false) := by
  refine returnsInHanded_of_change_and (C := Tryz.checked) (X := fun w _ => laidMetH Tryz.prog Rows.solveKindsRow.laid w) (fun _ _ _ hh h => h.of_heap hh) own started (by kernel_rfl) Tryz.func10
    (ChangeSpec.witness_shaped (enc := enc) (C := Tryz.checked) (os := os) (X := fun w _ => laidMetH Tryz.prog Rows.solveKindsRow.laid w) false (World.doorLaid Tryz.prog 62 os) #[.slice none 0 0, .slice none 0 0] 8 rfl (World.shaped_of_RefB (by kernel_rfl) (by kernel_rfl)) (by kernel_rfl) (by kernel_rfl) (by kernel_rfl) (solveKinds_door os _)) ?_
  intro W base args ds gs before hval0 hW _ _ hL _
  have hval : ∀ (j : Nat) t v, Tryz.f10.params[j]? = some t → args[j]? = some v → Value.okWide Tryz.prog W .any base t v := hval0
  have hW' := hW
  obtain ⟨p, q, hA0, hV, rfl, hfz, hnd⟩ := hW
  have hA : DataW.TrodAll enc Tryz.prog W 0 (fun _ => true) true Tryz.f10.params.toList args.toList ds p := hA0
  rw [Tryz.params10] at hA hval
  obtain ⟨v0, vs0, d0, ds0, p0, q0, hargs, rfl, rfl, h0, r0⟩ := trodAll_cons hA
  obtain ⟨v1, vs1, d1, ds1, p1, q1, rfl, rfl, rfl, h1, r1⟩ := trodAll_cons r0
  obtain ⟨rfl, rfl, rfl⟩ := trodAll_nil r1
  obtain rfl : args = #[v0, v1] := by cases args; simp_all
  obtain ⟨rfl, rfl⟩ := trodVars_none hV
  have k0 := h0
  have lt0 : ∀ x ∈ p0, x.block < W.heap.size := by obtain ⟨m, hm⟩ := k0; exact DataW.trod_lt m _ _ _ hm
  obtain ⟨a0, len0, cap0, rfl⟩ := okWide_slice Tryz.underlying46 (hval 0 46 v0 rfl rfl)
  obtain ⟨fu0, ho0⟩ := h0
  obtain ⟨m0, A0, c0, e0, hm0, hs0⟩ := open_mat (u := .slice a0 len0 cap0) ho0
  injection e0 with ea0 eb0 ec0
  subst ea0 eb0 ec0
  have k1 := h1
  have lt1 : ∀ x ∈ p1, x.block < W.heap.size := by obtain ⟨m, hm⟩ := k1; exact DataW.trod_lt m _ _ _ hm
  obtain ⟨a1, len1, cap1, rfl⟩ := okWide_slice Tryz.underlying50 (hval 1 50 v1 rfl rfl)
  obtain ⟨fu1, ho1⟩ := h1
  obtain ⟨m1, A1, c1, e1, hm1, hs1, hl1⟩ := open_vec Tryz.underlying50 (u := .slice a1 len1 cap1) ho1
  injection e1 with ea1 eb1 ec1
  subst ea1 eb1 ec1
  clear hA0 hval0
  refine (solveKinds_any m0 _ _ _ m1 _ _ _ W hm0 hs0 hm1 hs1 (tab_of_laid hL)).mono fun e W' ⟨he, bel⟩ => ?_
  subst he
  exact ⟨_, rfl, _, _, _, [], _, [], hW', trodAll_mk1 (shut_bool Tryz.underlying4 _), (trodAll_cons_mk (Below.trod laidOut (by kernel_rfl) (of_decide_eq_true (by kernel_rfl)) k0 bel lt0) (trodAll_cons_mk (Below.trod laidOut (by kernel_rfl) (of_decide_eq_true (by kernel_rfl)) k1 bel lt1) trodAll_mk0)), rfl, bel.frame _, fun h => by cases h⟩

theorem solveKinds_said : Rows.SolveKindsSaid :=
  OpenClaim.holds_of_wide 10 Tryz.f10 rfl rfl rfl rfl rfl rfl rfl ⟨rfl, rfl, rfl, rfl, rfl⟩ rfl rfl rfl rfl rfl (by kernel_rfl) Tryz.func10 (by kernel_rfl)
    (of_decide_eq_true (by kernel_rfl)) (by unfold Func.isWrapper; first | (rw [if_pos (by decide +kernel)]; kernel_rfl) | (rw [if_neg (by decide +kernel)]; exact ⟨rfl, rfl⟩))
    (fun os started H enc _ => solveKinds_lifted os started H enc)
theorem solveKinds_plain (f : FuncId) (fn : Func) (hf : Tryz.pinned.checked.prog.funcNamed "gridhall/gridhallkeep1.SolveKinds" = some f) (hfn : Tryz.pinned.checked.prog.funcs[f]? = some fn) :
    true = Tryz.pinned.checked.prog.looks [] ∧ ∀ (j : Nat) t, fn.params[j]? = some t → Tryz.pinned.checked.prog.wantsStandIn t = false := by
  obtain rfl : f = 10 := Option.some.inj ((show Tryz.prog.funcNamed "gridhall/gridhallkeep1.SolveKinds" = some 10 by kernel_rfl).symm.trans hf) |>.symm
  obtain rfl : fn = Tryz.f10 := (Option.some.inj (Tryz.func10.symm.trans hfn)).symm
  refine ⟨by kernel_rfl, fun j t ht => ?_⟩
  rw [Tryz.params10] at ht
  have hm : t ∈ [46, 50] := by
    have := Array.mem_of_getElem? ht
    clear ht hf hfn
    revert this
    revert t
    simp
  have hall : ([46, 50].all fun u => !Tryz.prog.wantsStandIn u) = true := by kernel_rfl
  exact (show Tryz.prog.wantsStandIn t = false by simpa using List.all_eq_true.1 hall t hm)
theorem solveKinds_card : Rows.SolveKindsCardSaid :=
  Claim7.holds_tied_plain_at .later [] _ _ _ _ solveKinds_said (fun _ h => by cases h) (by kernel_rfl) (fun _ h => by cases h) solveKinds_row_tie rfl ⟨rfl, rfl⟩ (by kernel_rfl) rfl solveKinds_plain (by kernel_rfl)
#print axioms solveKinds_card
end Go.Proofs.YtmnedfkinepnfaaGreatDoor
