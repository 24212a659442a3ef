/- The reach of a network that is handed in: its slices and strings take at most reachBytes. NetmodelCopies returns true for every input: a copy has the same text, and shares no memory. No conditions. The row's listed variables hold what the program's text lays (the card ties them). NetmodelCopies returns true for every input: a copy has the same text, and shares no memory. No conditions: the row and the card. -/
import Derived.Test.YtglbelmljdgaoaaGreatDoorNV
import Derived.Test.YtglbelmljdgaoaaGreatDoorCopy
import Derived.Test.YtglbelmljdgaoaaGreatDoorKC
import Derived.ShutString
import Derived.Lay
import Derived.ChangeMaps5
import Derived.Test.YtglbelmljdgaoaaGreatDoorCards
import Derived.Test.YtglbelmljdgaoaaGreatDoorTie
namespace Go.Proofs.YtglbelmljdgaoaaGreatDoor
open Go.ChangeShapes Go.WideShapes Go.ChangeAt Go.RowKit Go.Deep

section
variable {H : Type} {enc : TypeId × Value → H} {W : World}
theorem mem_weightsAll {P : Program} {e : TypeId} {x : Nat} : ∀ {l : List (DataW H)} {d : DataW H}, d ∈ l → x ∈ d.weights P e → x ∈ DataW.weightsAll P e l
  | [], _, h, _ => by cases h
  | c :: l, d, h, hx => by
    rw [DataW.weightsAll, List.mem_append]
    rcases List.mem_cons.1 h with rfl | h
    · exact .inl hx
    · exact .inr (mem_weightsAll h hx)
theorem mem_weightsEach {P : Program} {x : Nat} : ∀ {ts : List TypeId} {ds : List (DataW H)} {i : Nat} {t : TypeId} {d : DataW H}, ts[i]? = some t → ds[i]? = some d → x ∈ d.weights P t → x ∈ DataW.weightsEach P ts ds
  | [], _, _, _, _, h, _, _ => by simp at h
  | _ :: _, [], _, _, _, _, h, _ => by simp at h
  | t :: ts, d :: ds, 0, t', d', h1, h2, hx => by
    rw [List.getElem?_cons_zero] at h1 h2
    injection h1 with h1
    injection h2 with h2
    subst h1 h2
    rw [DataW.weightsEach, List.mem_append]
    exact .inl hx
  | t :: ts, d :: ds, i + 1, t', d', h1, h2, hx => by
    rw [DataW.weightsEach, List.mem_append]
    exact .inr (mem_weightsEach (by simpa using h1) (by simpa using h2) hx)
theorem fields_w {t : TypeId} {fs : Array Field} {fuel : Nat} {cs : List Value} {x : DataW H × List MemPlace} (ht : Tryz.prog.underlying t = some (.struct fs)) (hone : oneCellFields Tryz.prog fs = true) (hC : Tryz.prog.cellsOf t = fs.size)
    (h : DataW.trod enc Tryz.prog W 0 (fun _ => true) true fuel t cs = some x) (hw : ∀ z ∈ x.1.weights Tryz.prog t, z ≤ reachBytes) (j : Nat) (f : Field) (hj : fs[j]? = some f) : ∃ v n y, cs[j]? = some v ∧ DataW.trod enc Tryz.prog W 0 (fun _ => true) true n f.type [v] = some y ∧ ∀ z ∈ y.1.weights Tryz.prog f.type, z ≤ reachBytes := by
  obtain ⟨xs, n, _, hx, hl, hxl, hf⟩ := DataW.trod_struct ht h
  rw [hC] at hl
  obtain ⟨ho, hk⟩ := hone_of hone j f hj
  have hjl : j < fs.size := (Array.getElem?_eq_some_iff.1 hj).1
  have h1 := hf j f hj
  rw [ho, hk] at h1
  have hd : (cs.drop j).take 1 = [cs[j]'(by omega)] := by
    rw [List.drop_eq_getElem_cons (by omega)]; rfl
  rw [hd] at h1
  refine ⟨cs[j]'(by omega), n, xs[j]'(by omega), List.getElem?_eq_getElem (by omega), h1.trans (List.getElem?_eq_getElem (by omega)), fun z hz => hw z ?_⟩
  rw [hx, DataW.weights, ht]
  exact mem_weightsEach (i := j) (t := f.type) (d := (xs[j]'(by omega)).1) (by simp [hj]) (by rw [List.getElem?_map, List.getElem?_eq_getElem (by omega)]; rfl) hz
theorem slice_w {T E : TypeId} {fuel len cap : Nat} {A : Option Addr} {y : DataW H × List MemPlace} (hT : Tryz.prog.underlying T = some (.slice E)) (h : DataW.trod enc Tryz.prog W 0 (fun _ => true) true fuel T [.slice A len cap] = some y) (hw : ∀ z ∈ y.1.weights Tryz.prog T, z ≤ reachBytes) :
    len * Tryz.prog.bytesOf E ≤ reachBytes ∧ (0 < len → ∃ a cs n y0, A = some a ∧ W.cells? 0 a (Tryz.prog.cellsOf E) = some cs ∧ DataW.trod enc Tryz.prog W 0 (fun _ => true) true n E cs = some y0 ∧ ∀ z ∈ y0.1.weights Tryz.prog E, z ≤ reachBytes) := by
  rcases open_slice hT h with ⟨hcs, _⟩ | ⟨a, len', cap', m, n, D, Pl, hcs, _, hl, _, hmm, hx, hi⟩
  · injection hcs with hcs
    injection hcs with _ hcs _
    subst hcs
    exact ⟨by simp, fun h => absurd h (by omega)⟩
  · injection hcs with hcs
    injection hcs with hA hlen hcap
    subst hlen hcap
    simp at hmm
    subst hmm
    rw [hx, DataW.weights, hT] at hw
    refine ⟨Nat.le_trans (Nat.mul_le_mul_right _ (by simp)) (hw _ List.mem_cons_self), fun h0 => ?_⟩
    obtain ⟨cs', g1, g2⟩ := hi 0 (by omega)
    refine ⟨a, cs', n, _, hA, ?_, g2, fun z hz => hw z (List.mem_cons_of_mem _ (List.mem_append_left _ (mem_weightsAll (d := D 0) (List.mem_map.2 ⟨0, by simpa using h0, rfl⟩) hz)))⟩
    rw [Nat.zero_mul, add0] at g1
    exact g1
theorem string_w {fuel : Nat} {v : Value} {y : DataW H × List MemPlace} (h : DataW.trod enc Tryz.prog W 0 (fun _ => true) true fuel 9 [v] = some y) (hw : ∀ z ∈ y.1.weights Tryz.prog 9, z ≤ reachBytes) : ∃ s : ByteArray, v = .string s ∧ s.size ≤ 140737488351232 := by
  obtain ⟨s, hs, hy, _⟩ := DataW.trod_string Tryz.underlying9 h
  injection hs with hs
  refine ⟨s, hs, ?_⟩
  rw [hy, DataW.weights] at hw
  have := hw _ List.mem_cons_self
  rw [Array.length_toList] at this
  unfold reachBytes at this
  have e : s.size = s.data.size := rfl
  omega
/-- what the row's reach says of a network -/
theorem net_sized {n : NetD} {u : NetV} {d : DataW H} {p : List MemPlace} (hN : Net W n u) (h : DataW.Trod enc Tryz.prog W 0 (fun _ => true) true 29 (u.val n) d p) (hw : ∀ z ∈ d.weights Tryz.prog 29, z ≤ reachBytes) :
    NetBy n ∧ (∀ s, n.nodes[0]? = some s → s.size ≤ 140737488351232) ∧ (∀ b, n.branches[0]? = some b → b.name.size ≤ 140737488351232) := by
  obtain ⟨fuel, hf⟩ := h
  have F := fields_w Tryz.underlying29 (by kernel_rfl) (by kernel_rfl) hf hw
  obtain ⟨v0, n0, y0, e0, t0, w0⟩ := F 0 _ rfl
  obtain rfl : .slice u.na n.nodes.length u.nc = v0 := by simpa [Value.cells, NetV.val, NetV.parts] using e0
  obtain ⟨v1, n1, y1, e1, t1, w1⟩ := F 1 _ rfl
  obtain rfl : .slice u.sa n.switches.length u.sc = v1 := by simpa [Value.cells, NetV.val, NetV.parts] using e1
  obtain ⟨v2, n2, y2, e2, t2, w2⟩ := F 2 _ rfl
  obtain rfl : .slice u.ba n.branches.length u.bc = v2 := by simpa [Value.cells, NetV.val, NetV.parts] using e2
  obtain ⟨v3, n3, y3, e3, t3, w3⟩ := F 3 _ rfl
  obtain rfl : .slice u.ga n.gens.length u.gc = v3 := by simpa [Value.cells, NetV.val, NetV.parts] using e3
  obtain ⟨v4, n4, y4, e4, t4, w4⟩ := F 4 _ rfl
  obtain rfl : .slice u.la n.loads.length u.lc = v4 := by simpa [Value.cells, NetV.val, NetV.parts] using e4
  obtain ⟨v5, n5, y5, e5, t5, w5⟩ := F 5 _ rfl
  obtain rfl : .slice u.ta n.stores.length u.tc = v5 := by simpa [Value.cells, NetV.val, NetV.parts] using e5
  clear F e0 e1 e2 e3 e4 e5
  obtain ⟨b0, k0⟩ := slice_w Tryz.underlying22 t0 w0
  obtain ⟨b1, -⟩ := slice_w Tryz.underlying23 t1 w1
  obtain ⟨b2, k2⟩ := slice_w Tryz.underlying24 t2 w2
  obtain ⟨b3, -⟩ := slice_w Tryz.underlying25 t3 w3
  obtain ⟨b4, -⟩ := slice_w Tryz.underlying26 t4 w4
  obtain ⟨b5, -⟩ := slice_w Tryz.underlying27 t5 w5
  rw [show Tryz.prog.bytesOf 9 = 16 by kernel_rfl] at b0
  rw [show Tryz.prog.bytesOf 39 = 56 by kernel_rfl] at b1
  rw [show Tryz.prog.bytesOf 48 = 96 by kernel_rfl] at b2
  rw [show Tryz.prog.bytesOf 64 = 56 by kernel_rfl] at b3
  rw [show Tryz.prog.bytesOf 59 = 40 by kernel_rfl] at b4
  rw [show Tryz.prog.bytesOf 68 = 56 by kernel_rfl] at b5
  unfold reachBytes at b0 b1 b2 b3 b4 b5
  refine ⟨⟨by omega, by omega, by omega, by omega, by omega, by omega⟩, fun s hs => ?_, fun b hb => ?_⟩
  · have h0 : 0 < n.nodes.length := (List.getElem?_eq_some_iff.1 hs).1
    obtain ⟨a, cs, m, y, hA, g1, g2, g3⟩ := k0 h0
    obtain ⟨bk, off, hA', _, hc⟩ := hN.net.nodes.2 h0
    rw [hA] at hA'
    injection hA' with hA'
    subst hA'
    rw [show Tryz.prog.cellsOf 9 = 1 by kernel_rfl] at g1
    obtain ⟨_, hl, hat⟩ := World.cells?_some g1
    have c0 := hat 0 (by omega)
    rw [Addr.add_lit, hc 0 (S s) (by rw [List.getElem?_map, hs]; rfl)] at c0
    match cs, hl with
    | [v], _ =>
      obtain ⟨s', hs', hz⟩ := string_w g2 g3
      subst hs'
      simp at c0
      rw [c0]
      exact hz
  · have h0 : 0 < n.branches.length := (List.getElem?_eq_some_iff.1 hb).1
    obtain ⟨a, cs, m, y, hA, g1, g2, g3⟩ := k2 h0
    obtain ⟨bk, off, hA', _, hc⟩ := hN.net.branches.2 h0
    rw [hA] at hA'
    injection hA' with hA'
    subst hA'
    rw [show Tryz.prog.cellsOf 48 = 9 by kernel_rfl] at g1
    obtain ⟨_, hl, hat⟩ := World.cells?_some g1
    have c0 := hat 0 (by omega)
    have hb0 := cellsBy_at (f := BranchD.cells) (sz := 9) (fun _ => rfl) n.branches 0 b hb 0 (by omega)
    rw [Addr.add_lit, hc 0 (.string b.name) hb0] at c0
    obtain ⟨v, m', y', e', t', w'⟩ := fields_w Tryz.underlying48 (by kernel_rfl) (by kernel_rfl) g2 g3 0 _ rfl
    obtain ⟨s', hs', hz⟩ := string_w t' w'
    subst hs'
    rw [e'] at c0
    injection c0 with c0
    injection c0 with c0
    rw [c0]
    exact hz
end
end Go.Proofs.YtglbelmljdgaoaaGreatDoor
namespace Go.Proofs.YtglbelmljdgaoaaGreatDoor
open Go.ChangeShapes Go.WideShapes Go.ChangeAt Go.RowKit Go.ChangeMaps

set_option linter.unusedVariables false in
set_option maxRecDepth 100000 in
theorem netmodelCopies_lifted (os : Os) (started : os.Started) (H : Type) (enc : TypeId × Value → H) :
    ReturnsInHanded {} Tryz.checked os 4 .any (fun w args => (Rows.netmodelCopiesSpec.pre enc Tryz.prog Tryz.f4 [] false w args ∧ laidMetH Tryz.prog Rows.netmodelCopiesRow.laid w) ∧ sizedMet enc Tryz.prog Tryz.f4 (OpenSpec.ofChange Rows.netmodelCopiesSpec) false w args)
      (Rows.netmodelCopiesSpec.post enc Tryz.prog Tryz.f4 false true false false) := by
  refine returnsInHanded_of_change_and (C := Tryz.checked) (X := fun w _ => laidMetH Tryz.prog Rows.netmodelCopiesRow.laid w) (fun _ _ _ hh h => h.of_heap hh) own started (by kernel_rfl) Tryz.func4
    (ChangeSpec.witness_shaped (enc := enc) (C := Tryz.checked) (os := os) (X := fun w _ => laidMetH Tryz.prog Rows.netmodelCopiesRow.laid w) false (World.laidAll Tryz.prog os Rows.netmodelCopiesRow.laid) #[.agg #[.slice none 0 0, .slice none 0 0, .slice none 0 0, .slice none 0 0, .slice none 0 0, .slice none 0 0]] 8 (World.laidAll_os _ _ _)
      (World.shaped_of_ZipB (by kernel_rfl) (by kernel_rfl)) (by kernel_rfl) (by kernel_rfl) (by kernel_rfl)
      (by rw [MakeChecks.laidMetH_plain _ _ _ (by kernel_rfl)]; exact laidMet_laidAll _ (by kernel_rfl) (by kernel_rfl))) ?_
  intro W base args ds gs before hval0 hW _ hwt hL _
  have hval : ∀ (j : Nat) t v, Tryz.f4.params[j]? = some t → args[j]? = some v → Value.okWide Tryz.prog W .any base t v := hval0
  have hW' := hW
  obtain ⟨p, q, hA0, hV, rfl, hfz, hnd⟩ := hW
  have hA : DataW.TrodAll enc Tryz.prog W 0 (fun _ => true) true Tryz.f4.params.toList args.toList ds p := hA0
  rw [Tryz.params4] at hA hval
  obtain ⟨v0, vs0, d0, ds0, p0, q0, hargs, rfl, rfl, h0, r0⟩ := trodAll_cons hA
  obtain ⟨rfl, rfl, rfl⟩ := trodAll_nil r0
  obtain rfl : args = #[v0] := by cases args; simp_all
  obtain ⟨rfl, rfl⟩ := trodVars_none hV
  have k0 := h0
  have lt0 : ∀ x ∈ p0, x.block < W.heap.size := by obtain ⟨m, hm⟩ := k0; exact DataW.trod_lt m _ _ _ hm
  obtain ⟨n0, nv0, rfl, hn0⟩ := open_net (hval 0 29 v0 rfl rfl) h0
  have hw0 : ∀ z ∈ d0.weights Tryz.prog 29, z ≤ reachBytes := fun z hz => by simpa using List.all_eq_true.1 hwt z (mem_weightsEach (i := 0) (t := 29) (d := d0) (by rfl) (by rfl) hz)
  obtain ⟨hby, hs0, hs1⟩ := net_sized hn0 h0 hw0
  clear hA0 hval0
  refine (netmodelCopies_any n0 nv0 W hn0 hby hs0 hs1 (vars_of_laid2 hL)).mono fun e W' ⟨he, bel⟩ => ?_
  subst he
  exact ⟨_, rfl, _, _, _, [], _, [], hW', trodAll_mk1 (shut_bool Tryz.underlying4 _), (trodAll_cons_mk (Below.trod laidOut (by kernel_rfl) (of_decide_eq_true (by kernel_rfl)) k0 bel lt0) trodAll_mk0), rfl, bel.frame _, fun h => by cases h⟩
end Go.Proofs.YtglbelmljdgaoaaGreatDoor
namespace Go.Proofs.YtglbelmljdgaoaaGreatDoor
open Go.ChangeShapes Go.WideShapes Go.ChangeAt Go.RowKit Go.ChangeMaps

set_option maxHeartbeats 16000000 in
set_option maxRecDepth 100000 in
theorem netmodelCopies_closed : joinedFacts Tryz.pinned.checked.prog 4 Tryz.f4 Rows.netmodelCopiesSpec Rows.netmodelCopiesRow = true := by
  unfold joinedFacts
  repeat' (with_reducible refine (Bool.and_eq_true _ _).mpr ⟨?_, ?_⟩)
  all_goals decide +kernel
theorem netmodelCopies_said : Rows.NetmodelCopiesSaid :=
  OpenClaim.holds_of_wide 4 Tryz.f4 rfl rfl rfl rfl rfl rfl rfl ⟨rfl, rfl, rfl, rfl, rfl⟩ rfl rfl rfl rfl rfl (by kernel_rfl) Tryz.func4 netmodelCopies_closed
    (of_decide_eq_true (by kernel_rfl)) (by unfold Func.isWrapper; first | (rw [if_pos (by decide +kernel)]; kernel_rfl) | (rw [if_neg (by decide +kernel)]; exact ⟨rfl, rfl⟩))
    (fun os started H enc _ => netmodelCopies_lifted os started H enc)
theorem netmodelCopies_plain (f : FuncId) (fn : Func) (hf : Tryz.pinned.checked.prog.funcNamed "gridhall/gridhallkeep1.NetmodelCopies" = some f) (hfn : Tryz.pinned.checked.prog.funcs[f]? = some fn) :
    true = Tryz.pinned.checked.prog.looks [] ∧ ∀ (j : Nat) t, fn.params[j]? = some t → Tryz.pinned.checked.prog.wantsStandIn t = false := by
  obtain rfl : f = 4 := Option.some.inj ((show Tryz.prog.funcNamed "gridhall/gridhallkeep1.NetmodelCopies" = some 4 by kernel_rfl).symm.trans hf) |>.symm
  obtain rfl : fn = Tryz.f4 := (Option.some.inj (Tryz.func4.symm.trans hfn)).symm
  refine ⟨by kernel_rfl, fun j t ht => ?_⟩
  rw [Tryz.params4] at ht
  have hm : t ∈ [29] := by
    have := Array.mem_of_getElem? ht
    clear ht hf hfn
    revert this
    revert t
    simp
  have hall : ([29].all fun u => !Tryz.prog.wantsStandIn u) = true := by kernel_rfl
  exact (show Tryz.prog.wantsStandIn t = false by simpa using List.all_eq_true.1 hall t hm)
theorem netmodelCopies_card : Rows.NetmodelCopiesCardSaid :=
  Claim7.holds_tied_plain_at .later [] _ _ _ _ netmodelCopies_said (fun _ h => by cases h) (by kernel_rfl) (fun _ h => by cases h) netmodelCopies_row_tie rfl ⟨rfl, rfl⟩ (by kernel_rfl) rfl netmodelCopies_plain (by kernel_rfl)
#print axioms netmodelCopies_card
end Go.Proofs.YtglbelmljdgaoaaGreatDoor
