/- GraphBridges: its walk answers true. -/
import Derived.Test.YtphiiflcpeploaaForest
namespace Go.Proofs.Ytphiiflcpeploaa
open Go.RowKit

/-- the place of the first list that holds k -/
def fidx (k : Int) : List (List Int) → Int → Int
  | [], _ => -1
  | y :: ys, i => if y.contains k = true then i else fidx k ys (i + 1)
theorem fidx_any (k : Int) : ∀ (ys : List (List Int)) (i : Int), 0 ≤ i → decide (0 ≤ fidx k ys i) = ys.any fun y => y.contains k
  | [], i, _ => by simp [fidx]
  | y :: ys, i, h => by
    rw [fidx, List.any_cons]
    by_cases hc : y.contains k = true
    · rw [if_pos hc, hc]; simp [h]
    · rw [if_neg hc, Bool.eq_false_iff.2 hc, fidx_any k ys (i + 1) (by omega), Bool.false_or]

/-- a slice of slices of ints that is read -/
def Reads2 (w : World) (A : Option Addr) (n : Nat) (ys : List (List Int)) : Prop :=
  ys.length = n ∧ ∃ vs : List Value, Reads w w.heap.size 1 A n vs ∧ ∀ i (hi : i < ys.length), ∃ B c, vs[i]? = some (.slice B ys[i].length c) ∧ ys[i].length ≤ c ∧ Reads w w.heap.size 1 B ys[i].length (ys[i].map I)
theorem Rows2.reads2 {w : World} {base : Nat} {T E : TypeId} {A : Option Addr} {n c : Nat} {ys : List (List Int)} (h : Rows2 w base T E (.slice A n c) ys) : Reads2 w A n ys ∧ ys.length = n := by
  obtain ⟨vs, h1, h2⟩ := h
  have hn : ys.length = n := by
    obtain ⟨A', c', e⟩ := h1.val
    injection e with _ e _
    exact e.symm
  subst hn
  refine ⟨⟨rfl, vs, h1.reads, fun i hi => ?_⟩, rfl⟩
  have hl : i < vs.length := by have := h1.1; omega
  have h3 := h2 i hi vs[i] (List.getElem?_eq_getElem hl)
  rcases h3.2 with ⟨e, h0⟩ | ⟨g, off, cap, cur, e, _, _, hnc, _⟩
  · refine ⟨none, 0, by rw [List.getElem?_eq_getElem hl, e, h0], by omega, ?_⟩
    exact ⟨h3.1, fun h => by omega⟩
  · refine ⟨some ⟨g, off, none⟩, cap, by rw [List.getElem?_eq_getElem hl, e], hnc, ?_⟩
    rw [e] at h3
    exact h3.reads
theorem Reads2.ext {w w' : World} {A : Option Addr} {n : Nat} {ys : List (List Int)} (h : Reads2 w A n ys) (hb : Ext w w') : Reads2 w' A n ys := by
  obtain ⟨h0, vs, h1, h2⟩ := h
  refine ⟨h0, vs, h1.ext hb, fun i hi => ?_⟩
  obtain ⟨B, c, e, hc, h3⟩ := h2 i hi
  exact ⟨B, c, e, hc, h3.ext hb⟩

set_option maxRecDepth 100000 in
set_option maxHeartbeats 400000 in
theorem has_any (y : List Int) (k : Int) (B : Option Addr) (c g m : Nat) (w : World) (hm : y.length = m) (hr : Reads w w.heap.size 1 B m (y.map I)) (hc : w.cell? ⟨g, 0, none⟩ = some (I k)) (hl : m ≤ 1000000) :
    Calls Try.prog 16 #[.slice B m c, .pointer (some ⟨g, 0, none⟩)] w fun e w' => e = .returned (.bool (y.contains k)) ∧ w = w' := by
  go_enter Try.func16, Try.ntmps16
  go_wp2_with (go_at_call 13; refine (contains_any y m B c k _ hm hr hl).mono ?_; rintro e w' ⟨rfl, rfl⟩)
  go_ret
  exact ⟨ret_bool (show decide (k ∈ y) = y.contains k by simp), rfl⟩

set_option maxRecDepth 100000 in
set_option maxHeartbeats 400000 in
theorem fidx_call (ys : List (List Int)) (k : Int) (A : Option Addr) (c g n : Nat) (w : World) (hr : Reads2 w A n ys) (hc : w.cell? ⟨g, 0, none⟩ = some (I k)) (hn : n ≤ 1000000) (hy : ∀ y ∈ ys, y.length ≤ 1000000) :
    Calls Try.prog 39 #[.slice A n c, .func (.func 16) #[] #[.pointer (some ⟨g, 0, none⟩)]] w fun e w' => e = .returned (I (fidx k ys 0)) ∧ w = w' := by
  obtain ⟨hl, vs, h1, h2⟩ := hr
  subst hl
  have H2 := Lib.hid h2
  have HY := Lib.hid hy
  clear h2 hy
  go_enter Try.func39, Try.ntmps39
  go_wp2
  go_loopg [8] (ys.length - 0) (fun r v wr => ∃ j : Nat, r = ys.length - j ∧ v = I j ∧ j ≤ ys.length ∧ w = wr ∧ Hid (fidx k (ys.drop j) j = fidx k ys 0))
  case atStart => exact ⟨0, rfl, rfl, by omega, rfl, rfl⟩
  case round =>
    obtain ⟨j, rfl, rfl, hj, rfl, HF⟩ := hrel
    by_cases hlt : j < ys.length
    · obtain ⟨b, off, u, rfl, _, hu, hcu⟩ := h1.at1 hlt
      obtain ⟨B, cB, hB, _, hRB⟩ := H2.out j hlt
      obtain rfl : u = .slice B ys[j].length cB := by rw [hu] at hB; injection hB
      have HRB := Lib.hid hRB
      have hyl := HY.out ys[j] (List.getElem_mem hlt)
      have HF2 := Lib.hid (show (if ys[j].contains k = true then (j : Int) else fidx k (ys.drop (j + 1)) (j + 1)) = fidx k ys 0 by
        have := HF.out
        rw [List.drop_eq_getElem_cons hlt, fidx] at this
        exact this)
      clear hu hB hRB HF
      obtain ⟨y, hy⟩ : ∃ y, ys[j] = y := ⟨_, rfl⟩
      rw [hy] at hcu HRB hyl HF2
      clear hy
      cases hcb : y.contains k
      · rw [hcb] at HF2
        go_wp2_with (go_at_call 16; refine (has_any y k B cB g y.length _ rfl HRB.out hc hyl).mono ?_; rintro e w' ⟨rfl, rfl⟩; rw [hcb])
        go_roundg (ys.length - (j + 1))
        case measure => omega
        case rel => exact ⟨j + 1, rfl, by go_num, by omega, rfl, Lib.hid (by have := HF2.out; simpa using this)⟩
      · rw [hcb] at HF2
        go_wp2_with (go_at_call 16; refine (has_any y k B cB g y.length _ rfl HRB.out hc hyl).mono ?_; rintro e w' ⟨rfl, rfl⟩; rw [hcb])
        go_ret
        exact ⟨ret_int (by have := HF2.out; simpa using this), rfl⟩
    · obtain rfl : j = ys.length := by omega
      go_wp2
      go_ret
      refine ⟨ret_int ?_, rfl⟩
      have := HF.out
      rw [List.drop_of_length_le (Nat.le_refl _), fidx] at this
      exact this

set_option maxRecDepth 100000 in
set_option maxHeartbeats 400000 in
theorem within_call (ys : List (List Int)) (k : Int) (A : Option Addr) (c g n : Nat) (w : World) (hr : Reads2 w A n ys) (hc : w.cell? ⟨g, 0, none⟩ = some (I k)) (hn : n ≤ 1000000) (hy : ∀ y ∈ ys, y.length ≤ 1000000) :
    Calls Try.prog 15 #[.slice A n c, .func (.func 16) #[] #[.pointer (some ⟨g, 0, none⟩)]] w fun e w' => e = .returned (.bool (ys.any fun y => y.contains k)) ∧ w = w' := by
  have HA := Lib.hid (fidx_any k ys 0 (by omega))
  have HY := Lib.hid hy
  clear hy
  go_enter Try.func15, Try.ntmps15
  go_wp2_with (go_at_call 39; refine (fidx_call ys k A c g n _ hr hc hn HY.out).mono ?_; rintro e w' ⟨rfl, rfl⟩)
  go_ret
  exact ⟨by rw [← HA.out]; rfl, rfl⟩

theorem cycle_len {n : Nat} {l : List (Int × Int)} (hv : Valid n l) (hn : n ≤ 24) : ∀ y ∈ cyclesL n l, y.length ≤ 1000000 := by
  intro y hy
  obtain ⟨k, hk, _, rfl⟩ := mem_cycles.1 hy
  have he := edgeAt_ok hv (k := (k : Int)) (by omega) (by omega)
  have := path_len (es := treeL n l) (a := (edgeAt l k).2) (to := (edgeAt l k).1) hv (tree_within n l) ⟨he.2.2.1, he.2.2.2⟩ ⟨he.1, he.2.1⟩
  rw [cycleAt]
  simp only [List.length_cons]
  omega

set_option maxRecDepth 100000 in
set_option maxHeartbeats 1000000 in
theorem bridgesLaw_any (n : Int) (l : List (Int × Int)) (A : Option Addr) (c : Nat) (w : World) (hG : GArgs w n l A c) :
    Calls Try.prog 4 #[I n, .slice A l.length c] w fun e w' => e = .returned (.bool true) ∧ Below w.heap.size w w' := by
  by_cases h0 : chk n l = 0
  · obtain ⟨hn0, hn, hl, hv⟩ := chk_ok h0
    obtain ⟨n, rfl⟩ := Int.eq_ofNat_of_zero_le hn0
    simp only [Int.toNat_natCast] at hv
    have hn : n ≤ 24 := by omega
    have HBE := Lib.hid (show guardE (n : Int) l [] (bridgesL n l) = (bridgesL n l, 0) by rw [guardE, if_pos h0])
    have HCE := Lib.hid (show guardE (n : Int) l [] (cyclesL n l) = (cyclesL n l, 0) by rw [guardE, if_pos h0])
    have hbl : (bridgesL n l).length ≤ l.length := sel_len _ _
    have hcl : (cyclesL n l).length ≤ l.length := cycTo_len n l l.length
    have HY := Lib.hid (cycle_len hv hn)
    have HP := Lib.hid (fun k hk => bridges_plain (k := k) hv hk)
    clear h0 hv
    go_enter Try.func4, Try.ntmps4
    go_wp2_with (first | (go_at_call 10; refine (graphFact_any _).mono ?_; rintro e w0 ⟨rfl, hb0⟩) | (go_at_call 14; refine (bridges_any n l _ _ _ (hG.below hb0)).mono ?_; rw [Int.toNat_natCast, HBE.out]; rintro e wb ⟨vb, rfl, hbrow, hbb⟩; obtain ⟨BA, bc, rfl⟩ := hbrow.val) | (go_at_call 11; refine (cycles_any n l _ _ _ ((hG.below hb0).below hbb)).mono ?_; rw [Int.toNat_natCast, HCE.out]; rintro e wc ⟨vc, rfl, hcrow, hbc⟩; obtain ⟨CA, cn, cc, rfl⟩ : ∃ CA cn cc, vc = .slice CA cn cc := ⟨_, _, _, hcrow.choose_spec.1.val.choose_spec.choose_spec⟩))
    obtain ⟨hR2, hcn⟩ := hcrow.reads2
    subst hcn
    have X0 : Hid (Ext w wc) := (Ext.trans (Ext.trans hb0 hbb) hbc)
    have HRB := Lib.hid (hbrow.reads.ext hbc)
    have HRC := Lib.hid hR2
    clear hbrow hcrow hR2 hb0 hbb hbc
    go_loopg [44] (l.length - 0) (fun r v wr => ∃ k : Nat, r = l.length - k ∧ v = I k ∧ k ≤ l.length ∧ Ext wc wr)
    case atStart => exact ⟨0, rfl, rfl, by omega, Ext.refl _⟩
    case round =>
      obtain ⟨k, rfl, rfl, hk, hX⟩ := hrel
      have HX := Lib.hid hX
      clear hX
      by_cases hlt : k < l.length
      · have hpk := HP.out k hlt
        have HX1 := Lib.hid (HX.out.alloc (.cells #[I k] 3))
        have HC := Lib.hid (show ((cyclesL n l).any fun y => y.contains (k : Int)) = !(bridgesL n l).contains (k : Int) from hpk)
        clear hpk
        obtain ⟨bb, hbb⟩ : ∃ bb, (bridgesL n l).contains (k : Int) = bb := ⟨_, rfl⟩
        obtain ⟨cb, hcb⟩ : ∃ cb, ((cyclesL n l).any fun y => y.contains (k : Int)) = cb := ⟨_, rfl⟩
        rw [hbb, hcb] at HC
        have HBB := Lib.hid hbb
        have HCB := Lib.hid hcb
        clear hbb hcb
        have hcc := HC.out
        subst hcc
        cases bb
        all_goals
          go_wp2_with (first | (go_at_call 15; refine (within_call (cyclesL n l) k _ _ wr.heap.size _ _ (HRC.out.ext HX1.out) (by simp) (by omega) HY.out).mono ?_; rintro e w' ⟨rfl, rfl⟩; rw [HCB.out]) | (go_at_call 13; refine (contains_any (bridgesL n l) _ BA bc k _ rfl (HRB.out.ext HX1.out) (by omega)).mono ?_; rintro e w1 ⟨rfl, rfl⟩; rw [HBB.out]))
          go_roundg (l.length - (k + 1))
          case measure => omega
          case rel => exact ⟨k + 1, rfl, by go_num, by omega, HX1.out⟩
      · go_wp2
        go_ret
        exact ⟨rfl, X0.out.trans HX.out⟩
  · have HBE := Lib.hid (show guardE n l [] (bridgesL n.toNat l) = ([], chk n l) by rw [guardE, if_neg h0])
    have HCE := Lib.hid (show guardE n l [] (cyclesL n.toNat l) = ([], chk n l) by rw [guardE, if_neg h0])
    have t0 : (chk n l != 0) = true := by simp [h0]
    clear h0
    go_enter Try.func4, Try.ntmps4
    go_wp2_with (first | (go_at_call 10; refine (graphFact_any _).mono ?_; rintro e w0 ⟨rfl, hb0⟩) | (go_at_call 14; refine (bridges_any n l _ _ _ (hG.below hb0)).mono ?_; rw [HBE.out]; rintro e wb ⟨vb, rfl, hbrow, hbb⟩; obtain ⟨BA, bc, rfl⟩ := hbrow.val) | (go_at_call 11; refine (cycles_any n l _ _ _ ((hG.below hb0).below hbb)).mono ?_; rw [HCE.out]; rintro e wc ⟨vc, rfl, ⟨vs, hcrow, _⟩, hbc⟩; obtain ⟨CA, cc, rfl⟩ := hcrow.val))
    go_ret
    exact ⟨rfl, Ext.trans (Ext.trans hb0 hbb) hbc⟩
end Go.Proofs.Ytphiiflcpeploaa
