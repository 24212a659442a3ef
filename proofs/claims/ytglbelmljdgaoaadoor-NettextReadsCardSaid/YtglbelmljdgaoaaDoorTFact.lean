/- topologyFact returns true. -/
import Derived.Test.YtglbelmljdgaoaaDoorFSet
namespace Go.Proofs.YtglbelmljdgaoaaDoor
open Go.RowKit

set_option maxRecDepth 100000 in
set_option maxHeartbeats 1000000 in
theorem equalB_one (b1 o1 c b2 o2 d : Nat) (w : World) (h1 : w.cell? ⟨b1, o1, none⟩ = some (.bool true)) (h2 : w.cell? ⟨b2, o2, none⟩ = some (.bool true)) :
    Calls Tryd.prog 22 #[.slice (some ⟨b1, o1, none⟩) 1 c, .slice (some ⟨b2, o2, none⟩) 1 d] w fun e w' => e = .returned (.bool true) ∧ ∃ q, w' = w.drewN q := by
  go_enter Tryd.func22, Tryd.ntmps22
  go_wp2
  refine wp_loop_rounds 2 ?_
  rw [rounds_succ]
  go_wp2
  go_quiet (fail)
  go_wp2
  rw [rounds_succ]
  go_wp2
  go_ret
  exact ⟨rfl, _, rfl⟩

theorem pair_set : setSw (pairN false) 0 true = pairN true := rfl
theorem pair_bus : busesL (pairN false) = [0, 0, 1] := by decide +kernel
theorem pair_isl : islandsL (pairN false) = [0, 0] := by decide +kernel
theorem pair_bus' : busesL (pairN true) = [0, 1, 2] := by decide +kernel
theorem pair_isl' : islandsL (pairN true) = [0, 1, 0] := by decide +kernel
theorem pair_idx : nmIdx SwitchD.name ⟨#[83]⟩ (pairN false).switches 0 = 0 := by decide +kernel

/-- New at the network of the fact -/
theorem new_pair (v : NetV) (w : World) (hN : NetIn w (pairN false) v) : Calls Tryd.prog 7 #[v.val (pairN false)] w fun e w' => ∃ g v bA bc iA ic, e = .returned (.tuple #[.pointer (some ⟨g, 0, none⟩), I 0]) ∧ FollIn w' w.heap.size g (pairN false) v [0, 0, 1] [0, 0] bA bc iA ic ∧ Below w.heap.size w w' := by
  refine (new_any (pairN false) v w (pair_net hN)).mono ?_
  rintro e w' (⟨_, g, v', bA, bc, iA, ic, he, hf, hb⟩ | ⟨h0, _⟩)
  · rw [pair_bus, pair_isl] at hf
    exact ⟨g, v', bA, bc, iA, ic, he, hf, hb⟩
  · exact absurd (pair_check false) h0
/-- Set at the follower of the fact -/
theorem fset_pair {base g : Nat} {v : NetV} {bA iA : Option Addr} {bc ic : Nat} (w : World) (h : FollIn w base g (pairN false) v [0, 0, 1] [0, 0] bA bc iA ic) (hbase : base ≤ w.heap.size) :
    Calls Tryd.prog 10 #[.pointer (some ⟨g, 0, none⟩), .string ⟨#[83]⟩, .bool true] w fun e w' => ∃ bA bc iA ic, e = .returned (.tuple #[.bool true, I 0]) ∧ FollIn w' base g (pairN true) v [0, 1, 2] [0, 1, 0] bA bc iA ic ∧ Below base w w' := by
  refine (fset_any ⟨#[83]⟩ true w h (pair_check false) hbase (by decide) (by decide)).mono ?_
  rintro e w' (⟨_, bA, bc, iA, ic, he, hf, hb, _⟩ | ⟨h0, _⟩)
  · rw [pair_idx] at he hf
    rw [show (0 : Int).toNat = 0 from rfl, pair_set, pair_bus', pair_isl'] at hf he
    exact ⟨bA, bc, iA, ic, he, hf, hb⟩
  · rw [pair_idx] at h0
    omega

theorem cell_at0 (W : World) (t : TypeId) (u : Value) (N : Nat) (hN : W.heap.size = N) : (W.alloc (.cells #[u] t)).cell? ⟨N, 0, none⟩ = some u := by
  subst hN; exact (Blk.new W t #[u]).cell 0
theorem field47_0 (a b c d e f : Option Addr) (n1 c1 n2 c2 n3 c3 n4 c4 n5 c5 n6 c6 : Nat) (w : World) : (Instr.field 29 (.agg #[.slice a n1 c1, .slice b n2 c2, .slice c n3 c3, .slice d n4 c4, .slice e n5 c5, .slice f n6 c6]) 0).run Tryd.prog w = .ok (.slice a n1 c1) w := by kernel_rfl
theorem Ext.trans' {a b c : World} (h : Ext a b) (k : Below b.heap.size b c) : Ext a c := Ext.trans h k
theorem Ext.cell {w w' : World} (h : Ext w w') {g o : Nat} {u : Value} (hc : w.cell? ⟨g, o, none⟩ = some u) : w'.cell? ⟨g, o, none⟩ = some u :=
  (Below.cell h (World.block_lt_of_cell? w _ hc)).trans hc

set_option maxRecDepth 100000 in
set_option maxHeartbeats 2000000 in
theorem topologyFact_any (w : World) : Calls Tryd.prog 6 #[] w fun e w' => e = .returned (.bool true) ∧ Below w.heap.size w w' := by
  go_enter Tryd.func6, Tryd.ntmps6
  go_wp2_with fail
  refine (pair_any w).mono ?_
  rintro e w1 ⟨v1, rfl, n1, -, b1⟩
  go_wp2_with fail
  refine (topOf_any (pairN false) v1 w1 (pair_net n1)).mono ?_
  rw [pair_of]
  rintro e w2 ⟨bv, iv, rfl, r1, r2, b2⟩
  obtain ⟨A1, c1, rfl⟩ := r1.val
  obtain ⟨A2, c2, rfl⟩ := r2.val
  have R1 := Lib.hid r1.reads
  have R2 := Lib.hid r2.reads
  have X2 : Hid (Ext w w2) := Ext.trans b1 b2
  clear r1 r2 b2 n1 b1
  simp only [List.length_cons, List.length_nil, Nat.zero_add] at R1 R2 ⊢
  go_wp2_with fail
  have T0 := Lib.hid (Blk.new w2 37 #[Value.slice A1 3 c1, Value.slice A2 2 c2])
  have Y2 : Hid (Ext w2 (w2.alloc (Obj.cells #[Value.slice A1 3 c1, Value.slice A2 2 c2] 37))) := (Ext.refl w2).alloc _
  have hl2 : w2.heap.size < (w2.alloc (Obj.cells #[Value.slice A1 3 c1, Value.slice A2 2 c2] 37)).heap.size := T0.out.lt
  generalize w2.alloc (Obj.cells #[Value.slice A1 3 c1, Value.slice A2 2 c2] 37) = w2a at *
  refine (pair_any w2a).mono ?_
  rintro e w3 ⟨v3, rfl, n3, -, b3⟩
  go_wp2_with fail
  refine (live_pair v3 w3 n3).mono ?_
  rintro e w4 ⟨lg, rfl, lb, b4⟩
  have LB := Lib.hid lb
  have X4 : Hid (Ext w2a w4) := Ext.trans b3 b4
  clear lb b3 b4 n3
  go_wp2_with fail
  refine (pair_any w4).mono ?_
  rintro e w5 ⟨v5, rfl, n5, -, b5⟩
  go_wp2_with fail
  refine (new_pair v5 w5 n5).mono ?_
  rintro e w6 ⟨fg, fv, fA, fc, gA, gc, rfl, hf, b6⟩
  have X5 : Hid (Ext w4 w5) := b5
  have X6 : Hid (Ext w5 w6) := b6
  have HF := Lib.hid hf
  have hb6 := b6.size
  clear hf b5 n5
  have hq : (some (⟨fg, 0, none⟩ : Addr)).isNone = false := rfl
  go_wp2_with fail
  refine (fine_ok 3 _ _ _ _ (reads_new w6 33 (List.replicate 3 (I 0)) 3 1 rfl) (by omega)).mono ?_
  rintro e w6' ⟨rfl, rfl⟩
  go_wp2_with fail
  refine (fset_pair _ (HF.out.below ((Below.refl _ w6).alloc (Nat.le_refl _) _)) (by simp; omega)).mono ?_
  rintro e w7 ⟨pA, pc, qA, qc, rfl, hf7, b7⟩
  have HF7 := Lib.hid hf7
  have X7 : Hid (Below w5.heap.size w5 w7) := (b6.trans (((Below.refl _ w6).alloc (Nat.le_refl _) _).mono b6.size)).trans b7
  clear hf7 b7 b6 HF
  go_wp2_with fail
  refine (topology_any w7 HF7.out (by decide) (by decide)).mono ?_
  rintro e w8 ⟨sA, sc, zA, zc, rfl, s1, s2, b8⟩
  have S1 := Lib.hid s1
  have S2 := Lib.hid s2
  have HF8 := Lib.hid (HF7.out.below b8)
  have X8 : Hid (Below w5.heap.size w5 w8) := X7.out.trans (b8.mono (X7.out.size))
  clear s1 s2 b8 HF7 X7
  simp only [List.length_cons, List.length_nil, Nat.zero_add] at S1 S2 ⊢
  have Z8 : Hid (Ext w2 w5) := Y2.out.trans (X4.out.trans X5.out)
  have T8 := ((T0.out.below X4.out T0.out.lt).below X5.out (Nat.lt_of_lt_of_le T0.out.lt X4.out.size)).below X8.out (Nat.lt_of_lt_of_le (Nat.lt_of_lt_of_le T0.out.lt X4.out.size) X5.out.size)
  have t0 := T8.cell 0
  have t1 := T8.cell 1
  have ht8 : w2.heap.size < w8.heap.size := T8.lt
  have Q1 := Lib.hid (((R1.out.ext Z8.out).below X8.out).more X8.out.size)
  have Q2 := Lib.hid (((R2.out.ext Z8.out).below X8.out).more X8.out.size)
  have L8 := (LB.out.below X5.out LB.out.lt).below X8.out (Nat.lt_of_lt_of_le LB.out.lt X5.out.size)
  have L0 := L8.cell 0
  have hl8 : lg < w8.heap.size := L8.lt
  clear T8 L8
  go_wp2_with fail
  refine (equal_lit [0, 0, 1] 3 _ _ _ _ _ _ _ (Q1.out.ext (by repeat (first | exact Ext.refl _ | apply Ext.alloc | apply Ext.drewN))) (reads_at0 _ 3 [I 0, I 0, I 1] 3 1 _ (by first | rfl | simp) rfl) (by omega)).mono ?_
  rintro e w9 ⟨rfl, q1, rfl⟩
  go_wp2_with fail
  refine (equal_lit [0, 0] 2 _ _ _ _ _ _ _ (Q2.out.ext (by repeat (first | exact Ext.refl _ | apply Ext.alloc | apply Ext.drewN))) (reads_at0 _ 3 [I 0, I 0] 2 1 _ (by first | rfl | simp) rfl) (by omega)).mono ?_
  rintro e w9 ⟨rfl, q2, rfl⟩
  go_wp2_with fail
  have X9 : Hid (Ext (w8.alloc (Obj.cells #[Value.slice sA 3 sc, Value.slice zA 3 zc] 37)) ((((((w8.alloc (Obj.cells #[Value.slice sA 3 sc, Value.slice zA 3 zc] 37)).alloc (Obj.cells #[I 0, I 0, I 1] 3)).drewN q1).alloc (Obj.cells #[I 0, I 0] 3)).drewN q2).alloc (Obj.cells #[Value.bool true] 4))) := by
    show Ext _ _
    repeat (first | exact Ext.refl _ | apply Ext.alloc | apply Ext.drewN)
  refine (equalB_one lg 0 1 _ 0 1 _ (X9.out.cell (((Ext.refl w8).alloc _).cell L0)) (cell_at0 _ 4 _ _ (by first | rfl | simp))).mono ?_
  rintro e w9 ⟨rfl, hw9⟩
  have X10 : Hid (Ext (w8.alloc (Obj.cells #[Value.slice sA 3 sc, Value.slice zA 3 zc] 37)) w9) := by
    obtain ⟨q, rfl⟩ := hw9
    exact X9.out.drewN q
  have u0 := X10.out.cell ((Blk.new w8 37 #[Value.slice sA 3 sc, Value.slice zA 3 zc]).cell 0)
  have u1 := X10.out.cell ((Blk.new w8 37 #[Value.slice sA 3 sc, Value.slice zA 3 zc]).cell 1)
  have hu9 : w8.heap.size < w9.heap.size := by have := Below.size X10.out; simp at this; omega
  have X11 : Hid (Ext w8 w9) := ((Ext.refl w8).alloc _).trans X10.out
  have V1 := Lib.hid (S1.out.ext X11.out)
  have V2 := Lib.hid (S2.out.ext X11.out)
  have HF9 := Lib.hid (HF8.out.below X11.out)
  clear hw9 X9 X10 S1 S2 HF8 L0 t0 t1
  go_wp2_with fail
  refine (equal_lit [0, 1, 2] 3 _ _ _ _ _ _ _ (V1.out.ext (by repeat (first | exact Ext.refl _ | apply Ext.alloc | apply Ext.drewN))) (reads_at0 _ 3 [I 0, I 1, I 2] 3 1 _ (by first | rfl | simp) rfl) (by omega)).mono ?_
  rintro e w10 ⟨rfl, q3, rfl⟩
  go_wp2_with fail
  refine (equal_lit [0, 1, 0] 3 _ _ _ _ _ _ _ (V2.out.ext (by repeat (first | exact Ext.refl _ | apply Ext.alloc | apply Ext.drewN))) (reads_at0 _ 3 [I 0, I 1, I 0] 3 1 _ (by first | rfl | simp) rfl) (by omega)).mono ?_
  rintro e w10 ⟨rfl, q4, rfl⟩
  go_wp2_with fail
  have X12 : Hid (Ext w9 ((((w9.alloc (Obj.cells #[I 0, I 1, I 2] 3)).drewN q3).alloc (Obj.cells #[I 0, I 1, I 0] 3)).drewN q4)) := by
    show Ext _ _
    repeat (first | exact Ext.refl _ | apply Ext.alloc | apply Ext.drewN)
  refine (network_any _ (HF9.out.below X12.out) (pair_le true)).mono ?_
  rintro e w11 ⟨vn, rfl, -, -, b11⟩
  have hnl : (pairN true).nodes.length = 3 := rfl
  have XE : Hid (Ext w w11) := (X2.out.trans (Y2.out.trans (X4.out.trans X5.out))).trans' (X8.out.trans (((X11.out.trans X12.out).trans b11).mono X8.out.size))
  unfold NetV.val NetV.parts
  rw [hnl]
  clear b11 X12 HF9
  have hfl := field47_0
  go_wp2
  go_ret
  exact ⟨rfl, XE.out⟩
end Go.Proofs.YtglbelmljdgaoaaDoor
