/- GraphTrees: its walk answers true. -/
import Derived.Test.YtphiiflcpeploaaForest
namespace Go.Proofs.Ytphiiflcpeploaa
open Go.RowKit

theorem map_at {xs : List Int} {i : Nat} (h : i < xs.length) : (xs.map I)[i]? = some (I (xs.getD i 0)) := by simp [h]
theorem less_any (x y : Int) (w : World) : Calls Try.prog 43 #[I x, I y] w fun e w' => e = .returned (.bool (decide (x < y))) ∧ w' = w := Try.cmp_Less_int2 x y w

set_option maxRecDepth 100000 in
set_option maxHeartbeats 400000 in
theorem sorted_ok (xs : List Int) (n : Nat) (A : Option Addr) (c : Nat) (w : World) (B : Nat) (hx : Reads w B 1 A n (xs.map I)) (hn : n ≤ 1000000) (hs : ∀ i, 0 < i → i < n → xs.getD (i - 1) 0 ≤ xs.getD i 0) :
    Calls Try.prog 21 #[.slice A n c] w fun e w' => e = .returned (.bool true) ∧ ∃ q, w.drewN q = w' := by
  have hl : xs.length = n := by have := hx.1; simpa using this
  have HS := Lib.hid hs
  have HL := Lib.hid hl
  clear hs hl
  go_enter Try.func21, Try.ntmps21
  go_wp2
  go_loopg [3] (n - 0) (fun r v wr => ∃ (k : Nat) (q : Nat), r = k ∧ v = I ((k : Int) - 1) ∧ k ≤ n ∧ w.drewN q = wr)
  case atStart => exact ⟨n, 0, rfl, rfl, by omega, rfl⟩
  case round =>
    obtain ⟨k, q, rfl, rfl, hk, rfl⟩ := hrel
    by_cases hlt : 1 < gk
    · obtain ⟨b, off, rfl, _, hc⟩ := hx.2 (by omega)
      have h1 := hc (gk - 1) _ (map_at (by have := HL.out; omega))
      have h2 := hc (gk - 2) _ (map_at (by have := HL.out; omega))
      have hle := HS.out (gk - 1) (by omega) (by omega)
      rw [show gk - 1 - 1 = gk - 2 by omega] at hle
      obtain ⟨p1, hp1⟩ : ∃ p, xs.getD (gk - 1) 0 = p := ⟨_, rfl⟩
      obtain ⟨p2, hp2⟩ : ∃ p, xs.getD (gk - 2) 0 = p := ⟨_, rfl⟩
      rw [hp1] at h1 hle
      rw [hp2] at h2 hle
      clear hp1 hp2 hc
      obtain ⟨k, rfl⟩ : ∃ k, gk = k + 2 := ⟨gk - 2, by omega⟩
      simp only [Nat.add_sub_cancel, show k + 2 - 1 = k + 1 by omega] at h1 h2
      have e1 : ((k + 2 : Nat) : Int) - 1 = (k + 1 : Nat) := by omega
      have e2 : ((k + 1 : Nat) : Int) - 1 = k := by omega
      rw [e1]
      have hd : decide (p1 < p2) = false := by simp; omega
      have b1 : (0 : Int) ≤ ((k + 1 : Nat) : Int) := by omega
      have b2 : ((k + 1 : Nat) : Int) < n := by omega
      have b3 : (0 : Int) ≤ (k : Int) := by omega
      have b4 : (k : Int) < n := by omega
      have b5 : (0 : Int) < ((k + 1 : Nat) : Int) := by omega
      clear e1
      have HX := Lib.hid (show ∀ q2, ∃ q3, w.drewN q3 = (w.drewN q).drewN q2 from fun q2 => ⟨q + q2, by rw [World.drewN_drewN]⟩)
      have g1 : (w.drewN q).cell? ⟨b, off + (k + 1), none⟩ = some (I p1) := h1
      have g2 : (w.drewN q).cell? ⟨b, off + k, none⟩ = some (I p2) := h2
      obtain ⟨wx, hwx⟩ : ∃ wx, w.drewN q = wx := ⟨_, rfl⟩
      rw [hwx] at g1 g2 HX ⊢
      clear hwx h1 h2
      go_wp2
      go_quiet ((go_at_call 43; exact Calls.quiet_of_same (less_any _ _ _)))
      go_wp2
      obtain ⟨q3, hq3⟩ := HX.out nq
      go_roundg (k + 1)
      case measure => omega
      case rel => exact ⟨k + 1, q3, rfl, by go_num, by omega, hq3⟩
    · go_wp2
      go_ret
      exact ⟨rfl, q, rfl⟩

theorem Try.info32 : (Try.prog.info? 32).map (fun i => (i.zero, i.size, i.bytes)) = some (some (.agg #[.int .i64 0, .int .i64 0]), 2, 16) := by kernel_rfl
/-- append of one pair to a row of pairs, behind the block of the new element -/
theorem wpList_app22 {ops : Array Oper} {rest : List Oper} {o : Oper} {a : Act} {Q : Exit → Act → World → Prop} {W : World} (hgd : o.guard = none) (s x : Operand)
    (ho : o.op = .call { callee := .builtin .append, args := #[s, x], argTypes := #[22, 22] }) (base : Nat) (v : Value) (q : List (Int × Int)) (y : Int × Int) (N : Nat) (hN : W.heap.size = N)
    (hsv : a.eval s = v) (hx : a.eval x = .slice (some ⟨N, 0, none⟩) 1 1) (hr : Row W base 32 2 v q.length (cells2 q)) (hq : q.length ≤ 1000000) (hb : base ≤ W.heap.size)
    (h : ∀ v' w', Row w' base 32 2 v' (q ++ [y]).length (cells2 (q ++ [y])) → Below base (W.alloc (.cells #[I y.1, I y.2] 32)) w' → wpList Try.prog ops Q rest (a.put o.dst v') w') :
    wpList Try.prog ops Q (o :: rest) a (W.alloc (.cells #[I y.1, I y.2] 32)) := by
  obtain ⟨i0, hi0, hz0, hz1, hz2⟩ := info_parts Try.info32
  subst hN
  have hsrc : Reads (W.alloc (.cells #[I y.1, I y.2] 32)) (W.heap.size + 1) 2 (some ⟨W.heap.size, 0, none⟩) 1 [I y.1, I y.2] := reads_new W 32 [I y.1, I y.2] 1 2 rfl
  refine wpList_append_row hgd s x 22 ho base 32 i0 (.agg #[.int .i64 0, .int .i64 0]) 2 16 Try.underlying22 hi0 hz0 hz1 hz2 rfl (by decide) v q.length (cells2 q) hsv (hr.alloc _) (W.heap.size + 1) (some ⟨W.heap.size, 0, none⟩) 1 1 [I y.1, I y.2] hx
    hsrc (by simp [Value.oneCell']) (by unfold maxLen; omega) (by omega) (by simp; omega) ?_
  intro v' w' h1 h2
  refine h v' w' ?_ h2
  have e : cells2 (q ++ [y]) = cells2 q ++ [I y.1, I y.2] := by simp [cells2]
  rw [e]
  simpa using h1

theorem Row.reads' {w : World} {base : Nat} {e : TypeId} {sz : Nat} {v : Value} {n : Nat} {xs : List Value} {A : Option Addr} (h : Row w base e sz v n xs) (hn : n = 0) : Reads w w.heap.size sz A n xs := ⟨h.1, fun h0 => by omega⟩

structure TreeInv (w : World) (l : List (Int × Int)) (t : List Int) (k : Nat) (v : Value) (wr : World) : Prop where
  hk : k ≤ t.length
  row : Row wr w.heap.size 32 2 v (partOf l (t.take k)).length (cells2 (partOf l (t.take k)))
  below : Below w.heap.size w wr
theorem part_take {l : List (Int × Int)} {t : List Int} {k : Nat} (hk : k < t.length) : partOf l (t.take (k + 1)) = partOf l (t.take k) ++ [edgeAt l t[k]] := by
  unfold partOf; rw [List.take_succ_eq_append_getElem hk, List.map_append]; rfl
theorem sel_sorted (p : Nat → Bool) (m i : Nat) (h0 : 0 < i) (h1 : i < (sel p m).length) : (sel p m).getD (i - 1) 0 ≤ (sel p m).getD i 0 := by
  have hp : (sel p m).Pairwise (· < ·) := by
    unfold sel
    rw [List.pairwise_map]
    exact (List.pairwise_lt_range.filter _).imp fun h => by simpa using h
  have := List.pairwise_iff_getElem.1 hp (i - 1) i (by omega) h1 (by omega)
  rw [getD_at (by omega), getD_at h1]
  omega

set_option maxRecDepth 100000 in
set_option maxHeartbeats 1000000 in
theorem trees_any (n : Int) (l : List (Int × Int)) (A : Option Addr) (c : Nat) (w : World) (hG : GArgs w n l A c) :
    Calls Try.prog 6 #[I n, .slice A l.length c] w fun e w' => e = .returned (.bool true) ∧ Below w.heap.size w w' := by
  by_cases h0 : chk n l = 0
  · obtain ⟨hn0, hn, hl, hv⟩ := chk_ok h0
    obtain ⟨n, rfl⟩ := Int.eq_ofNat_of_zero_le hn0
    simp only [Int.toNat_natCast] at hv
    have hn : n ≤ 24 := by omega
    have HTE := Lib.hid (show guardE (n : Int) l [] (treeL n l) = (treeL n l, 0) by rw [guardE, if_pos h0])
    have HCE := Lib.hid (show guardE (n : Int) l [] (parts n l (-1)) = (parts n l (-1), 0) by rw [guardE, if_pos h0])
    have htl := tree_len n l
    have HW := Lib.hid (tree_within n l)
    have HPL := Lib.hid (trees_plain hv)
    have hpv := part_valid hv (tree_within n l)
    have hpl : (partOf l (treeL n l)).length = (treeL n l).length := by simp [partOf]
    have hchk : chk (n : Int) (partOf l (treeL n l)) = 0 := by
      rw [chk, if_neg (by omega), if_pos]
      rw [List.all_eq_true]
      intro x hx
      have := hpv x hx
      exact decide_eq_true (by omega)
    have HCP := Lib.hid (show guardE (n : Int) (partOf l (treeL n l)) [] (parts n (partOf l (treeL n l)) (-1)) = (parts n (partOf l (treeL n l)) (-1), 0) by rw [guardE, if_pos hchk])
    have HBP := Lib.hid (show guardE (n : Int) (partOf l (treeL n l)) [] (bridgesL n (partOf l (treeL n l))) = (bridgesL n (partOf l (treeL n l)), 0) by rw [guardE, if_pos hchk])
    have HLP := Lib.hid hpl
    have HSO := Lib.hid (sel_sorted (trB n l) l.length)
    clear h0 hchk hpv hpl hv
    go_enter Try.func6, Try.ntmps6
    go_wp2_with (first | (go_at_call 10; refine (graphFact_any _).mono ?_; rintro e w0 ⟨rfl, hb0⟩) | (go_at_call 12; refine (tree_E n l _ _ _ (hG.below hb0)).mono ?_; rw [Int.toNat_natCast, HTE.out]; rintro e wt ⟨vt, rfl, htrow, hbt⟩; obtain ⟨TA, tc, rfl⟩ := htrow.val))
    have X0 : Hid (Ext w wt) := Ext.trans hb0 hbt
    have HTR := Lib.hid htrow.reads
    clear htrow hb0 hbt
    go_loopg [7, 31] ((treeL n l).length - 0) (fun r v7 v31 wr => ∃ k : Nat, r = (treeL n l).length - k ∧ v31 = I k ∧ TreeInv wt l (treeL n l) k v7 wr)
    case atStart => exact ⟨0, rfl, rfl, ⟨by omega, by simpa [partOf, cells2] using Row.nil _ _ _ _, Below.refl _ _⟩⟩
    case round =>
      obtain ⟨k, rfl, rfl, hS⟩ := hrel
      have hk := hS.hk
      by_cases hlt : k < (treeL n l).length
      · obtain ⟨b1, off1, u1, rfl, _, hu1, hc1⟩ := (HTR.out.below hS.below).at1 hlt
        obtain ⟨kv, hkv⟩ : ∃ kv, (treeL n l)[k] = kv := ⟨_, rfl⟩
        obtain rfl : u1 = I kv := by simp [hlt, hkv] at hu1; exact hu1.symm
        clear hu1
        obtain ⟨hkv0, hkv1⟩ := HW.out kv (by rw [← hkv]; exact List.getElem_mem hlt)
        have hkn : kv.toNat < l.length := by omega
        have hbw : Below w.heap.size w wr := Ext.trans X0.out hS.below
        obtain ⟨b, off, rfl, hbl, hx0, hx1⟩ := reads2_at (hG.reads.below hbw) hkn
        obtain ⟨y1, hy1⟩ : ∃ y, l[kv.toNat].1 = y := ⟨_, rfl⟩
        obtain ⟨y2, hy2⟩ : ∃ y, l[kv.toNat].2 = y := ⟨_, rfl⟩
        rw [hy1] at hx0
        rw [hy2] at hx1
        have HE := Lib.hid (show partOf l ((treeL n l).take (k + 1)) = partOf l ((treeL n l).take k) ++ [(y1, y2)] by
          rw [part_take hlt, hkv]
          have e : edgeAt l kv = l[kv.toNat] := by simp [edgeAt, hkn]
          rw [e, ← hy1, ← hy2])
        have hpq : (partOf l ((treeL n l).take k)).length ≤ 1000000 := by simp [partOf]; omega
        clear hy1 hy2 hkv
        go_wp2_with (at_builtin; refine wpList_app22 rfl _ _ rfl wt.heap.size u7 (partOf l ((treeL n l).take k)) (y1, y2) wr.heap.size (by rfl) (by rfl) (by rfl) hS.row hpq hS.below.size ?_; intro v2 w2 hrow2 hb2)
        go_roundg ((treeL n l).length - (k + 1))
        case measure => omega
        case rel => exact ⟨k + 1, rfl, by go_num, ⟨by omega, by rw [HE.out]; exact hrow2, hS.below.trans (((Below.refl _ _).alloc hS.below.size _).trans hb2)⟩⟩
      · obtain rfl : k = (treeL n l).length := by omega
        have hrow := hS.row
        rw [List.take_of_length_le (Nat.le_refl _)] at hrow
        have HGP : Hid (∃ PA pc, u7 = .slice PA (partOf l (treeL n l)).length pc ∧ GArgs wr n (partOf l (treeL n l)) PA pc) := by
          rcases hrow.2 with ⟨rfl, h1⟩ | ⟨g, off, cap, cur, rfl, _, _, hnc, _⟩
          · refine ⟨none, 0, by rw [h1], hrow.reads' h1, by omega, by omega, by omega, by omega⟩
          · exact ⟨_, _, rfl, hrow.reads, by rw [HLP.out]; omega, by omega, by omega, hnc⟩
        obtain ⟨PA, pc, rfl, hGP⟩ := HGP.out
        have X1 : Hid (Ext wt wr) := hS.below
        have hGr := Lib.hid (hG.below (X0.out.trans X1.out))
        clear hS hrow HGP
        go_wp2_with fail
        refine (components_any n l _ _ _ hGr.out).mono ?_
        rw [Int.toNat_natCast, HCE.out]
        rintro e w2 ⟨v2, rfl, r2, b2⟩
        obtain ⟨A2, c2, rfl⟩ := r2.val
        have R2 := Lib.hid r2.reads
        have X2 : Hid (Ext wr w2) := b2
        clear r2 b2
        go_wp2_with fail
        refine (components_any n (partOf l (treeL n l)) _ _ _ (hGP.below X2.out)).mono ?_
        rw [Int.toNat_natCast, HCP.out]
        rintro e w3 ⟨v3, rfl, r3, b3⟩
        obtain ⟨A3, c3, rfl⟩ := r3.val
        have R3 := Lib.hid r3.reads
        have X3 : Hid (Ext w2 w3) := b3
        clear r3 b3
        go_wp2_with fail
        refine (bridges_any n (partOf l (treeL n l)) _ _ _ (hGP.below (X2.out.trans X3.out))).mono ?_
        rw [Int.toNat_natCast, HBP.out]
        rintro e w4 ⟨v4, rfl, r4, b4⟩
        simp only [HPL.out.2] at r4
        obtain ⟨A4, c4, rfl⟩ := r4.val
        have X4 : Hid (Ext w3 w4) := b4
        clear r4 b4
        rw [← HPL.out.1] at R3
        have HPN := Lib.hid (parts_len n l (-1))
        simp only [HPN.out] at R2 R3
        simp only [← HPL.out.1, HPN.out]
        go_wp2_with fail
        refine (fine_ok 3 _ _ _ _ (reads_new w4 25 (List.replicate 3 (I 0)) 3 1 rfl) (by omega)).mono ?_
        rintro e w6 ⟨rfl, rfl⟩
        go_wp2_with fail
        refine (equal_lit (parts n l (-1)) n _ _ _ _ _ _ _ (R2.out.ext ((X3.out.trans X4.out).alloc _)) (R3.out.ext (X4.out.alloc _)) (by omega)).mono ?_
        rintro e w7 ⟨rfl, hq7⟩
        have X7 : Hid (Ext w4 w7) := by
          obtain ⟨q, rfl⟩ := hq7
          exact ((Ext.refl w4).alloc _).drewN q
        clear hq7
        go_wp2_with fail
        refine (sorted_ok (treeL n l) (treeL n l).length _ _ _ _ (HTR.out.ext (X1.out.trans (X2.out.trans (X3.out.trans (X4.out.trans X7.out))))) (by omega) HSO.out).mono ?_
        rintro e w8 ⟨rfl, q8, rfl⟩
        go_wp2
        go_ret
        exact ⟨rfl, (X0.out.trans (X1.out.trans (X2.out.trans (X3.out.trans (X4.out.trans X7.out))))).drewN _⟩
  · have HTE := Lib.hid (show guardE n l [] (treeL n.toNat l) = ([], chk n l) by rw [guardE, if_neg h0])
    have t0 : (chk n l != 0) = true := by simp [h0]
    clear h0
    go_enter Try.func6, Try.ntmps6
    go_wp2_with (first | (go_at_call 10; refine (graphFact_any _).mono ?_; rintro e w0 ⟨rfl, hb0⟩) | (go_at_call 12; refine (tree_E n l _ _ _ (hG.below hb0)).mono ?_; rw [HTE.out]; rintro e wt ⟨vt, rfl, htrow, hbt⟩; obtain ⟨TA, tc, rfl⟩ := htrow.val))
    go_ret
    exact ⟨rfl, Ext.trans hb0 hbt⟩
end Go.Proofs.Ytphiiflcpeploaa
