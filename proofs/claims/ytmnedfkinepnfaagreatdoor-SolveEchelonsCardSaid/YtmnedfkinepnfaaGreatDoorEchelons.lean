/- The walk of SolveBases. The walk of SolveKernels. The walk of SolveEchelons. SolveEchelons returns true for every input: each vector of the kernel has a 1 where all others have a 0, and depends only on columns before it. No conditions. The row's listed variables hold what the program's text lays (the card ties them). -/
import Derived.Test.YtmnedfkinepnfaaGreatDoorSJG
import Derived.Test.YtmnedfkinepnfaaGreatDoorJY
import Derived.Test.YtmnedfkinepnfaaGreatDoorCards
import Derived.Test.YtmnedfkinepnfaaGreatDoorTie
import Derived.Test.YtmnedfkinepnfaaGreatDoorJZ
import Derived.ShutString
import Derived.ChangeMaps5
namespace Go.Proofs.YtmnedfkinepnfaaGreatDoor
open Go.RowKit

theorem rect_w40 {m : MT} (h : chkM m = 0) : wd m ≤ 40 := (chkM_ok h).hk.elim id fun h => by rw [wd_nil h]; omega
end Go.Proofs.YtmnedfkinepnfaaGreatDoor
namespace Go.Proofs.YtmnedfkinepnfaaGreatDoor
open Go.RowKit

theorem ker_chk {m : MT} (h : (kerT m).2 = 0) : chkM m = 0 ∧ kerT m = ((kerT m).1, 0) := by
  refine ⟨?_, by rw [← h]⟩
  rw [kerT] at h
  split at h
  · rename_i h0; exact absurd h h0
  · rename_i h0; exact Decidable.not_not.1 h0
theorem ker_bad {m : MT} (h : (kerT m).2 ≠ 0) : (kerT m).1 = [] := by
  rw [kerT] at h ⊢
  split at h
  · rename_i h0; rw [if_pos h0]
  · rename_i h0; rw [if_neg h0]; exact txM_bad h
end Go.Proofs.YtmnedfkinepnfaaGreatDoor
namespace Go.Proofs.YtmnedfkinepnfaaGreatDoor
open Go.RowKit

/-- the column of the vector before the i-th one -/
def lastI (m : MT) (i : Nat) : Int := if i = 0 then -1 else (freeAt m (i - 1) : Int)
theorem lastI_succ (m : MT) (i : Nat) : lastI m (i + 1) = (freeAt m i : Int) := by
  unfold lastI
  rw [if_neg (by omega), Nat.add_sub_cancel]
theorem tx_get {m : List (List ByteArray)} {i : Nat} {v : List ByteArray} (h : m[i]? = some v) : (tx2 m)[i]? = some (tx1 v) := by
  unfold tx2
  rw [List.getElem?_map, h]; rfl
theorem tx_getD {v : List ByteArray} {j : Nat} (h : j < v.length) : (tx1 v).getD j [] = SL v[j] := by
  unfold tx1
  rw [List.getD_eq_getElem?_getD, List.getElem?_map, List.getElem?_eq_getElem h]; rfl
/-- what the walk needs of vector i -/
structure Ech (k : List (List ByteArray)) (W : Nat) (f : Nat → Nat) (i : Nat) (v : List ByteArray) : Prop where
  len : v.length = W
  lt : f i < W
  one : ∀ s, v[f i]? = some s → SL s = [49]
  after : ∀ j s, f i < j → v[j]? = some s → SL s = [48]
  inc : ∀ j, j < i → f j < f i
  other : ∀ (x : Nat) (u : List ByteArray), x ≠ i → k[x]? = some u → u.length = W ∧ ∀ s, u[f i]? = some s → SL s = [48]
theorem ech_of {m k : List (List ByteArray)} (hc : chkM (tx2 m) = 0) (h : kerT (tx2 m) = (tx2 k, 0)) {i : Nat} {v : List ByteArray} (hv : k[i]? = some v) : Ech k (wd (tx2 m)) (freeAt (tx2 m)) i v := by
  obtain ⟨h1, h2, h3, h4, h5, h6⟩ := echelons_law hc h (tx_get hv)
  rw [tx1, List.length_map] at h1
  have at_ : ∀ {u : List ByteArray} {j : Nat} {s : ByteArray}, u[j]? = some s → (tx1 u).getD j [] = SL s := fun {u j s} hs => by
    obtain ⟨hj, e⟩ := List.getElem?_eq_some_iff.1 hs
    rw [tx_getD hj, e]
  refine ⟨h1, h2, fun s hs => by rw [← at_ hs]; exact h3, fun j s hj hs => by rw [← at_ hs]; exact h4 j hj (by have := (List.getElem?_eq_some_iff.1 hs).1; omega), h5, fun x u hx hu => ?_⟩
  obtain ⟨k1, k2⟩ := h6 x (tx1 u) hx (tx_get hu)
  rw [tx1, List.length_map] at k1
  exact ⟨k1, fun s hs => by rw [← at_ hs]; exact k2⟩
theorem lit_of {s : ByteArray} {l : List UInt8} (L : List UInt8) (h : (⟨l.toArray⟩ : ByteArray).toList = L) (e : SL s = l) : (s.toList == L) = true := by rw [beq_lit s l L h, decide_eq_true e]
theorem lit_ne {s : ByteArray} {l : List UInt8} (L : List UInt8) (h : (⟨l.toArray⟩ : ByteArray).toList = L) (e : SL s ≠ l) : (s.toList == L) = false := by rw [beq_lit s l L h, decide_eq_false e]
set_option maxRecDepth 100000 in
set_option maxHeartbeats 16000000 in
theorem solveEchelons_any (m : List (List ByteArray)) (nm : Nat) (Am : Option Addr) (cm : Nat) (w : World) (hm : SMat w Am nm m) (sm : Sh2 m) (htab : Tab w) :
    Calls Tryz.prog 8 #[.slice Am nm cm] w fun e w' => e = .returned (.bool true) ∧ Below w.heap.size w w' := by
  have HTB := Lib.hid htab
  have HB := Lib.hid (Below.refl w.heap.size w)
  clear htab
  have Lm := Lib.hid (show m.length = nm by obtain ⟨_, _, h, _⟩ := hm; exact h)
  have Hm := Lib.hid hm
  have Sm := Lib.hid sm
  clear hm sm
  go_enter Tryz.func8, Tryz.ntmps8
  have HC := Lib.hid (solveFact_any w HTB.out)
  go_wp2_with fail
  refine HC.out.mono ?_
  rintro e w1 ⟨rfl, hb⟩
  clear HC
  have hbs := HB.out.size
  replace HB := Lib.hid (HB.out.trans (hb.mono hbs))
  clear hbs
  replace Hm := Lib.hid (Hm.out.below hb)
  clear hb
  have HC := Lib.hid (skernel_any m nm Am cm w1 Hm.out Sm.out (tab_below HTB.out HB.out))
  go_wp2_with fail
  refine HC.out.mono ?_
  rintro e w2 ⟨Ak, nk, ck, k, rfl, hm, he, hs, hb⟩
  clear HC
  have hbs := HB.out.size
  replace HB := Lib.hid (HB.out.trans (hb.mono hbs))
  clear hbs
  replace Hm := Lib.hid (Hm.out.below hb)
  clear hb
  have Hk := Lib.hid hm
  have Ek := Lib.hid he
  have Sk := Lib.hid hs
  have Lk := Lib.hid (show k.length = nk by obtain ⟨_, _, h, _⟩ := hm; exact h)
  clear hm he hs
  have LT := Lib.hid (show (tx2 m).length = nm by rw [tx2, List.length_map, Lm.out])
  have LTk := Lib.hid (show (tx2 k).length = nk by rw [tx2, List.length_map, Lk.out])
  by_cases he : (kerT (tx2 m)).2 = 0
  · obtain ⟨hc, hk⟩ := ker_chk he
    rw [he]
    rw [← Ek.out] at hk
    have hw40 := rect_w40 hc
    have HEC := Lib.hid (fun (i : Nat) (v : List ByteArray) (hv : k[i]? = some v) => ech_of hc hk hv)
    have hnk : nk ≤ 40 := by
      have h1 := (ker_facts hc hk).len
      have h2 := frees_len (chkM_ok hc).vals (wd (tx2 m))
      rw [LTk.out] at h1
      omega
    clear he hc hk
    by_cases hz : nm = 0
    · subst hz
      go_wp2
      go_ret
      exact ⟨rfl, HB.out⟩
    · have tz : ((nm : Int) == 0) = false := beq_eq_false_iff_ne.2 (by omega)
      have hsmb := sms1 (c := cm) Hm.out
      obtain ⟨hsm, hb⟩ := hsmb
      have hbs := HB.out.size
      replace HB := Lib.hid (HB.out.trans (hb.mono hbs))
      clear hbs
      replace Hm := Lib.hid (Hm.out.below hb)
      replace Hk := Lib.hid (Hk.out.below hb)
      clear hb
      unfold matT at *
      have HC := Lib.hid (small_any 6 [m] 1 _ 1 _ hsm (by decide) (by decide))
      go_wp2_with fail
      refine HC.out.mono ?_
      rintro e w3 ⟨rfl, hb⟩
      clear HC
      clear hsm
      have hbs := HB.out.size
      replace HB := Lib.hid (HB.out.trans (hb.mono hbs))
      clear hbs
      replace Hm := Lib.hid (Hm.out.below hb)
      replace Hk := Lib.hid (Hk.out.below hb)
      clear hb
      cases hsm : [m].any (lgM 6) with
      | true =>
        go_wp2
        go_ret
        exact ⟨rfl, HB.out⟩
      | false =>
        clear hsm
        clear Hm
        have HLI := Lib.hid (lastI_succ (tx2 m))
        have HL0 := Lib.hid (show ∀ i, 0 < i → lastI (tx2 m) i = (freeAt (tx2 m) (i - 1) : Int) from fun i hi => by unfold lastI; rw [if_neg (by omega)])
        have HLZ := Lib.hid (show lastI (tx2 m) 0 = -1 from rfl)
        generalize wd (tx2 m) = W at *
        generalize freeAt (tx2 m) = f at *
        generalize lastI (tx2 m) = la at *
        obtain ⟨wl, rfl⟩ : ∃ wl : World, wl = w3 := ⟨_, rfl⟩
        have HB0 := Lib.hid (Below.refl wl.heap.size wl)
        go_wp2
        go_loopg [5, 40] (nk - 0) (fun r o v wr => ∃ i : Nat, r = nk - i ∧ o = I (la i) ∧ v = I i ∧ i ≤ nk ∧ Hid (wr = wl))
        case atStart => exact ⟨0, rfl, by rw [HLZ.out], rfl, by omega, rfl⟩
        case round =>
          obtain ⟨i, rfl, rfl, rfl, hi, HWR⟩ := hrel
          obtain rfl := HWR.out
          clear HWR
          by_cases hlt : i < nk
          · obtain ⟨v, hv⟩ : ∃ x, k[i]? = some x := ⟨_, List.getElem?_eq_getElem (by rw [Lk.out]; exact hlt)⟩
            have HV := Lib.hid (HEC.out i v hv)
            have hfw := HV.out.lt
            have hvl := HV.out.len
            obtain ⟨bk, ok, Bv, dv, rfl, hcv, hrv⟩ := Hk.out.at_ hlt v hv
            rw [hvl] at hcv hrv
            have HRV := Lib.hid (show SV wr Bv W v from hrv)
            clear hrv hv
            have hla : la i < (f i : Int) := by
              by_cases h0 : i = 0
              · rw [h0, HLZ.out]; omega
              · rw [HL0.out i (by omega)]
                have h := HV.out.inc (i - 1) (by omega)
                omega
            generalize la i = li at *
            have hfi : ∃ fi, f i = fi := ⟨_, rfl⟩
            obtain ⟨fi, hfi⟩ := hfi
            have HFI := Lib.hid hfi
            rw [hfi] at hfw hla
            clear hfi
            obtain ⟨s1, hs1⟩ : ∃ s, v[fi]? = some s := ⟨_, List.getElem?_eq_getElem (by omega)⟩
            have e49 := HV.out.one s1 (by rw [HFI.out]; exact hs1)
            obtain ⟨bv, ov, rfl, hc1⟩ := HRV.out.at_ hfw hs1
            have l49 := lit_of (s := s1) (l := [49]) [49] (by decide +kernel) e49
            have l48 := lit_ne (s := s1) (l := [48]) [48] (by decide +kernel) (by rw [e49]; decide)
            clear hs1 e49 hvl
            have hw0 : (0 : Int) ≤ (W : Int) - 1 := by omega
            go_wp2
            clear hcv
            go_loopg [8] (W - 1 - fi) (fun r v wr2 => ∃ j : Nat, r = j - fi ∧ v = I j ∧ fi ≤ j ∧ j < W ∧ Hid (wr2 = wr))
            case atStart => exact ⟨W - 1, by omega, by congr 1; omega, by omega, by omega, rfl⟩
            case round =>
              obtain ⟨j, rfl, rfl, hfj, hjw, HWR⟩ := hrel
              obtain rfl := HWR.out
              clear HWR
              by_cases hjf : fi < j
              · obtain ⟨s2, hs2⟩ : ∃ s, v[j]? = some s := ⟨_, List.getElem?_eq_getElem (by rw [HV.out.len]; exact hjw)⟩
                have e48 := HV.out.after j s2 (by rw [HFI.out]; exact hjf) hs2
                obtain ⟨bv2, ov2, e2, hc2⟩ := HRV.out.at_ hjw hs2
                injection e2 with e2
                injection e2 with e3 e4
                subst e3 e4
                have l2 := lit_of (s := s2) (l := [48]) [48] (by decide +kernel) e48
                clear hs2 e48
                have hj0 : (0 : Int) ≤ (j : Int) := by omega
                go_wp2
                go_roundg ((j - 1) - fi)
                case measure => omega
                case rel => exact ⟨j - 1, rfl, by congr 1; omega, by omega, by omega, rfl⟩
              · obtain rfl : fi = j := by omega
                have hj0 : (0 : Int) ≤ (fi : Int) := by omega
                have tle : decide ((fi : Int) ≤ li) = false := decide_eq_false (by omega)
                go_wp2
                clear hc1 l49 l48
                go_loopg [71] (nk - 0) (fun r v wr2 => ∃ x : Nat, r = nk - x ∧ v = I x ∧ x ≤ nk ∧ Hid (wr2 = wr))
                case atStart => exact ⟨0, rfl, rfl, by omega, rfl⟩
                case round =>
                  obtain ⟨x, rfl, rfl, hx, HWR⟩ := hrel
                  obtain rfl := HWR.out
                  clear HWR
                  by_cases hxl : x < nk
                  · obtain ⟨u, hu⟩ : ∃ y, k[x]? = some y := ⟨_, List.getElem?_eq_getElem (by rw [Lk.out]; exact hxl)⟩
                    obtain ⟨bk2, ok2, Bu, du, e2, hcu, hru⟩ := Hk.out.at_ hxl u hu
                    injection e2 with e2
                    injection e2 with e3 e4
                    subst e3 e4
                    by_cases hxi : x = i
                    · have tx : ((x : Int) != (i : Int)) = false := by rw [hxi, bne_self_eq_false]
                      clear hu hru hxi
                      generalize u.length = ul at *
                      go_wp2
                      go_roundg (nk - (x + 1))
                      case measure => omega
                      case rel => exact ⟨x + 1, rfl, by go_num, by omega, rfl⟩
                    · have tx : ((x : Int) != (i : Int)) = true := bne_iff_ne.2 (by omega)
                      obtain ⟨hul, huo⟩ := HV.out.other x u hxi hu
                      obtain ⟨s3, hs3⟩ : ∃ s, u[fi]? = some s := ⟨_, List.getElem?_eq_getElem (by omega)⟩
                      have e48 := huo s3 (by rw [HFI.out]; exact hs3)
                      rw [hul] at hcu hru
                      obtain ⟨bu, ou, rfl, hc3⟩ := SV.at_ (show SV _ Bu W u from hru) hfw hs3
                      have l3 := lit_of (s := s3) (l := [48]) [48] (by decide +kernel) e48
                      have tw : ((W : Int) != W) = false := by rw [bne_self_eq_false]
                      clear hu hru hxi hul huo hs3 e48
                      go_wp2
                      go_roundg (nk - (x + 1))
                      case measure => omega
                      case rel => exact ⟨x + 1, rfl, by go_num, by omega, rfl⟩
                  · go_wp2
                    go_roundg (nk - (i + 1))
                    case measure => omega
                    case rel => exact ⟨i + 1, rfl, by rw [HLI.out, HFI.out], by go_num, by omega, rfl⟩
          · go_wp2
            go_ret
            exact ⟨rfl, HB.out⟩
  · have hk0 := ker_bad he
    rw [← Ek.out] at hk0
    have hn0 : nk = 0 := by rw [← LTk.out, hk0]; rfl
    subst hn0
    have tc : ((kerT (tx2 m)).2 != 0) = true := bne_iff_ne.2 he
    have tz : ((kerT (tx2 m)).2 == 0) = false := beq_eq_false_iff_ne.2 he
    clear Ek hk0 he
    generalize (kerT (tx2 m)).2 = cc at *
    go_wp2
    go_ret
    exact ⟨rfl, HB.out⟩
end Go.Proofs.YtmnedfkinepnfaaGreatDoor
namespace Go.Proofs.YtmnedfkinepnfaaGreatDoor
open Go.ChangeShapes Go.WideShapes Go.ChangeAt Go.RowKit Go.ChangeMaps

theorem solveEchelons_door (os : Os) (args : Array Value) : laidMetH Tryz.prog Rows.solveEchelonsRow.laid ((World.doorLaid Tryz.prog 62 os).forCall (fun _ _ => 0) ⟨#[], args, []⟩).memory :=
  laidMetH_of_parts3 (fuel := 8) (laidMet_of_run' 8 (by kernel_rfl) (by kernel_rfl)) (by kernel_rfl) (by kernel_rfl)
set_option linter.unusedVariables false in
set_option maxRecDepth 100000 in
theorem solveEchelons_lifted (os : Os) (started : os.Started) (H : Type) (enc : TypeId × Value → H) :
    ReturnsInHanded {} Tryz.checked os 8 .any (fun w args => (Rows.solveEchelonsSpec.pre enc Tryz.prog Tryz.f8 [] false w args ∧ laidMetH Tryz.prog Rows.solveEchelonsRow.laid w) ∧ sizedMet enc Tryz.prog Tryz.f8 (OpenSpec.ofChange Rows.solveEchelonsSpec) false w args)
      (Rows.solveEchelonsSpec.post enc Tryz.prog Tryz.f8 false true false false) := by
  refine returnsInHanded_of_change_and (C := Tryz.checked) (X := fun w _ => laidMetH Tryz.prog Rows.solveEchelonsRow.laid w) (fun _ _ _ hh h => h.of_heap hh) own started (by kernel_rfl) Tryz.func8
    (ChangeSpec.witness_shaped (enc := enc) (C := Tryz.checked) (os := os) (X := fun w _ => laidMetH Tryz.prog Rows.solveEchelonsRow.laid w) false (World.doorLaid Tryz.prog 62 os) #[.slice none 0 0] 8 rfl (World.shaped_of_RefB (by kernel_rfl) (by kernel_rfl)) (by kernel_rfl) (by kernel_rfl) (by kernel_rfl) (solveEchelons_door os _)) ?_
  intro W base args ds gs before hval0 hW _ _ hL _
  have hval : ∀ (j : Nat) t v, Tryz.f8.params[j]? = some t → args[j]? = some v → Value.okWide Tryz.prog W .any base t v := hval0
  have hW' := hW
  obtain ⟨p, q, hA0, hV, rfl, hfz, hnd⟩ := hW
  have hA : DataW.TrodAll enc Tryz.prog W 0 (fun _ => true) true Tryz.f8.params.toList args.toList ds p := hA0
  rw [Tryz.params8] at hA hval
  obtain ⟨v0, vs0, d0, ds0, p0, q0, hargs, rfl, rfl, h0, r0⟩ := trodAll_cons hA
  obtain ⟨rfl, rfl, rfl⟩ := trodAll_nil r0
  obtain rfl : args = #[v0] := by cases args; simp_all
  obtain ⟨rfl, rfl⟩ := trodVars_none hV
  have k0 := h0
  have lt0 : ∀ x ∈ p0, x.block < W.heap.size := by obtain ⟨m, hm⟩ := k0; exact DataW.trod_lt m _ _ _ hm
  obtain ⟨a0, len0, cap0, rfl⟩ := okWide_slice Tryz.underlying46 (hval 0 46 v0 rfl rfl)
  obtain ⟨fu0, ho0⟩ := h0
  obtain ⟨m0, A0, c0, e0, hm0, hs0⟩ := open_mat (u := .slice a0 len0 cap0) ho0
  injection e0 with ea0 eb0 ec0
  subst ea0 eb0 ec0
  clear hA0 hval0
  refine (solveEchelons_any m0 _ _ _ W hm0 hs0 (tab_of_laid hL)).mono fun e W' ⟨he, bel⟩ => ?_
  subst he
  exact ⟨_, rfl, _, _, _, [], _, [], hW', trodAll_mk1 (shut_bool Tryz.underlying4 _), (trodAll_cons_mk (Below.trod laidOut (by kernel_rfl) (of_decide_eq_true (by kernel_rfl)) k0 bel lt0) trodAll_mk0), rfl, bel.frame _, fun h => by cases h⟩

theorem solveEchelons_said : Rows.SolveEchelonsSaid :=
  OpenClaim.holds_of_wide 8 Tryz.f8 rfl rfl rfl rfl rfl rfl rfl ⟨rfl, rfl, rfl, rfl, rfl⟩ rfl rfl rfl rfl rfl (by kernel_rfl) Tryz.func8 (by kernel_rfl)
    (of_decide_eq_true (by kernel_rfl)) (by unfold Func.isWrapper; first | (rw [if_pos (by decide +kernel)]; kernel_rfl) | (rw [if_neg (by decide +kernel)]; exact ⟨rfl, rfl⟩))
    (fun os started H enc _ => solveEchelons_lifted os started H enc)
theorem solveEchelons_plain (f : FuncId) (fn : Func) (hf : Tryz.pinned.checked.prog.funcNamed "gridhall/gridhallkeep1.SolveEchelons" = some f) (hfn : Tryz.pinned.checked.prog.funcs[f]? = some fn) :
    true = Tryz.pinned.checked.prog.looks [] ∧ ∀ (j : Nat) t, fn.params[j]? = some t → Tryz.pinned.checked.prog.wantsStandIn t = false := by
  obtain rfl : f = 8 := Option.some.inj ((show Tryz.prog.funcNamed "gridhall/gridhallkeep1.SolveEchelons" = some 8 by kernel_rfl).symm.trans hf) |>.symm
  obtain rfl : fn = Tryz.f8 := (Option.some.inj (Tryz.func8.symm.trans hfn)).symm
  refine ⟨by kernel_rfl, fun j t ht => ?_⟩
  rw [Tryz.params8] at ht
  have hm : t ∈ [46] := by
    have := Array.mem_of_getElem? ht
    clear ht hf hfn
    revert this
    revert t
    simp
  have hall : ([46].all fun u => !Tryz.prog.wantsStandIn u) = true := by kernel_rfl
  exact (show Tryz.prog.wantsStandIn t = false by simpa using List.all_eq_true.1 hall t hm)
theorem solveEchelons_card : Rows.SolveEchelonsCardSaid :=
  Claim7.holds_tied_plain_at .later [] _ _ _ _ solveEchelons_said (fun _ h => by cases h) (by kernel_rfl) (fun _ h => by cases h) solveEchelons_row_tie rfl ⟨rfl, rfl⟩ (by kernel_rfl) rfl solveEchelons_plain (by kernel_rfl)
#print axioms solveEchelons_card
end Go.Proofs.YtmnedfkinepnfaaGreatDoor
