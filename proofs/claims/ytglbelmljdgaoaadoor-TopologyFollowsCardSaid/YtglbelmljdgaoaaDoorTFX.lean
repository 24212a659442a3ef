/- The arguments of the network laws, opened: a slice of ints; the table of powers of ten, out of the row's list. TopologyFollows returns true for every input: a follower has the topology of its network after any switching. No conditions. The row's listed variables hold what the program's text lays (the card ties them). -/
import Derived.Test.YtglbelmljdgaoaaDoorOpenNet
import Derived.Test.YtglbelmljdgaoaaDoorNxA
import Derived.Test.YtglbelmljdgaoaaDoorRows
import Derived.Lib.LaidTab
import Derived.Stop.LaidErr
import Derived.LaidMore
import Derived.Test.YtglbelmljdgaoaaDoorTFW
import Derived.ShutString
import Derived.ChangeMaps5
namespace Go.Proofs.YtglbelmljdgaoaaDoor
open Go.ChangeShapes Go.WideShapes Go.ChangeAt Go.RowKit Go.Deep

theorem gPow : (Tryd.prog.globalNamed "internal/strconv.uint64pow10").isSome = true := by kernel_rfl
theorem pow_data {H : Type} : (Rows.laid_internal_strconv_uint64pow10 : DataW H) = Lib.tabData .u64 Lib.pow10Tab := rfl
theorem tab_of_laid {W : World} (h : laidMetH Tryd.prog Rows.topologyFollowsRow.laid W) : Tab W := by
  rw [MakeChecks.laidMetH_plain _ _ _ (by kernel_rfl)] at h
  have h2 := (show laidMet Tryd.prog [("math/bits.deBruijn32tab", Rows.laid_math_bits_deBruijn32tab), ("math/bits.deBruijn64tab", Rows.laid_math_bits_deBruijn64tab), ("internal/strconv.uint64pow10", Lib.tabData .u64 Lib.pow10Tab)] W from h).tail.tail
  obtain ⟨g, hg⟩ := Option.isSome_iff_exists.1 gPow
  exact Lib.tabIs_of_head hg (by obtain rfl : g = (Tryd.prog.globalNamed "internal/strconv.uint64pow10").get gPow := by simp [hg]
                                 kernel_rfl) Tryd.underlying193 Tryd.underlying170 (by kernel_rfl) (by kernel_rfl) h2
section
variable {H : Type} {enc : TypeId × Value → H} {W : World}
theorem el_int (fuel : Nat) (cs : List Value) (y : DataW H × List MemPlace) (h : DataW.trod enc Tryd.prog W 0 (fun _ => true) true fuel 3 cs = some y) : ∃ z : Int, [I z] = cs ∧ True := by
  obtain ⟨z, rfl, _, _⟩ := DataW.trod_int Tryd.underlying3 h
  exact ⟨z, rfl, trivial⟩
theorem by_int (l : List Int) : cellsBy (fun z => [I z]) l = l.map I := by
  induction l with
  | nil => rfl
  | cons x l ih => simp only [cellsBy, List.flatMap_cons, List.map_cons] at ih ⊢; rw [ih]; rfl
theorem open_ints {T : TypeId} (hT : Tryd.prog.underlying T = some (.slice 3)) {fuel : Nat} {u : Value} {y : DataW H × List MemPlace} (h : DataW.trod enc Tryd.prog W 0 (fun _ => true) true fuel T [u] = some y) :
    ∃ (l : List Int) (A : Option Addr) (c : Nat), u = .slice A l.length c ∧ Reads W W.heap.size 1 A l.length (l.map I) ∧ l.length ≤ 9223372036854775807 := by
  obtain ⟨l, A, c, h1, h2, _, h4, _⟩ := open_many (f := fun z : Int => [I z]) (ok := fun _ => True) (sz := 1) (by decide) (fun _ => rfl) hT cells3 el_int h
  rw [by_int] at h2
  exact ⟨l, A, c, h1, h2, h4⟩
end
end Go.Proofs.YtglbelmljdgaoaaDoor
namespace Go.Proofs.YtglbelmljdgaoaaDoor
open Go.ChangeShapes Go.WideShapes Go.ChangeAt Go.RowKit Go.ChangeMaps

theorem topologyFollows_door (os : Os) (args : Array Value) : laidMetH Tryd.prog Rows.topologyFollowsRow.laid ((World.doorLaid Tryd.prog 62 os).forCall (fun _ _ => 0) ⟨#[], args, []⟩).memory :=
  laidMetH_of_parts3 (fuel := 8) (laidMet_of_run' 8 (by kernel_rfl) (by kernel_rfl)) (by kernel_rfl) (by kernel_rfl)
set_option linter.unusedVariables false in
set_option maxRecDepth 100000 in
theorem topologyFollows_lifted (os : Os) (started : os.Started) (H : Type) (enc : TypeId × Value → H) :
    ReturnsInHanded {} Tryd.checked os 3 .any (fun w args => (Rows.topologyFollowsSpec.pre enc Tryd.prog Tryd.f3 [] false w args ∧ laidMetH Tryd.prog Rows.topologyFollowsRow.laid w) ∧ sizedMet enc Tryd.prog Tryd.f3 (OpenSpec.ofChange Rows.topologyFollowsSpec) false w args)
      (Rows.topologyFollowsSpec.post enc Tryd.prog Tryd.f3 false true false false) := by
  refine returnsInHanded_of_change_and (C := Tryd.checked) (X := fun w _ => laidMetH Tryd.prog Rows.topologyFollowsRow.laid w) (fun _ _ _ hh h => h.of_heap hh) own started (by kernel_rfl) Tryd.func3
    (ChangeSpec.witness_shaped (enc := enc) (C := Tryd.checked) (os := os) (X := fun w _ => laidMetH Tryd.prog Rows.topologyFollowsRow.laid w) false (World.doorLaid Tryd.prog 62 os) #[.agg #[.slice none 0 0, .slice none 0 0, .slice none 0 0, .slice none 0 0, .slice none 0 0, .slice none 0 0], .slice none 0 0] 8 rfl (World.shaped_of_RefB (by kernel_rfl) (by kernel_rfl)) (by kernel_rfl) (by kernel_rfl) (by kernel_rfl) (topologyFollows_door os _)) ?_
  intro W base args ds gs before hval0 hW _ _ hL _
  have hval : ∀ (j : Nat) t v, Tryd.f3.params[j]? = some t → args[j]? = some v → Value.okWide Tryd.prog W .any base t v := hval0
  have hW' := hW
  obtain ⟨p, q, hA0, hV, rfl, hfz, hnd⟩ := hW
  have hA : DataW.TrodAll enc Tryd.prog W 0 (fun _ => true) true Tryd.f3.params.toList args.toList ds p := hA0
  rw [Tryd.params3] at hA hval
  obtain ⟨v0, vs0, d0, ds0, p0, q0, hargs, rfl, rfl, h0, r0⟩ := trodAll_cons hA
  obtain ⟨v1, vs1, d1, ds1, p1, q1, rfl, rfl, rfl, h1, r1⟩ := trodAll_cons r0
  obtain ⟨rfl, rfl, rfl⟩ := trodAll_nil r1
  obtain rfl : args = #[v0, v1] := by cases args; simp_all
  obtain ⟨rfl, rfl⟩ := trodVars_none hV
  have k0 := h0
  have lt0 : ∀ x ∈ p0, x.block < W.heap.size := by obtain ⟨m, hm⟩ := k0; exact DataW.trod_lt m _ _ _ hm
  obtain ⟨n0, nv0, rfl, hn0⟩ := open_net (hval 0 29 v0 rfl rfl) h0
  have k1 := h1
  have lt1 : ∀ x ∈ p1, x.block < W.heap.size := by obtain ⟨m, hm⟩ := k1; exact DataW.trod_lt m _ _ _ hm
  obtain ⟨a1, len1, cap1, rfl⟩ := okWide_slice Tryd.underlying30 (hval 1 30 v1 rfl rfl)
  obtain ⟨fu1, ho1⟩ := h1
  obtain ⟨m1, A1, c1, e1, hm1, hl1⟩ := open_ints Tryd.underlying30 (u := .slice a1 len1 cap1) ho1
  injection e1 with ea1 eb1 ec1
  subst ea1 eb1 ec1
  clear hA0 hval0
  refine (follows_any n0 nv0 m1 _ _ W hn0 hm1 hl1 (tab_of_laid hL)).mono fun e W' ⟨he, bel⟩ => ?_
  subst he
  exact ⟨_, rfl, _, _, _, [], _, [], hW', trodAll_mk1 (shut_bool Tryd.underlying4 _), (trodAll_cons_mk (Below.trod laidOut (by kernel_rfl) (of_decide_eq_true (by kernel_rfl)) k0 bel lt0) (trodAll_cons_mk (Below.trod laidOut (by kernel_rfl) (of_decide_eq_true (by kernel_rfl)) k1 bel lt1) trodAll_mk0)), rfl, bel.frame _, fun h => by cases h⟩
end Go.Proofs.YtglbelmljdgaoaaDoor
