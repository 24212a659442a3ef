/- fine, slices.Equal at ints, and graphFact: the examples of the document hold. -/
import Derived.Test.YtphiiflcpeploaaCyc
namespace Go.Proofs.Ytphiiflcpeploaa
open Go.RowKit

theorem reads_new (W : World) (t : TypeId) (xs : List Value) (n sz : Nat) (hn : xs.length = n * sz) : Reads (W.alloc (.cells xs.toArray t)) (W.heap.size + 1) sz (some ⟨W.heap.size, 0, none⟩) n xs := by
  refine ⟨hn, fun _ => ⟨_, _, rfl, by omega, fun j u hu => ?_⟩⟩
  rw [(Blk.new W t xs.toArray).cell]
  simpa using hu

set_option maxRecDepth 100000 in
set_option maxHeartbeats 400000 in
theorem nz_false (w : World) : Calls Try.prog 42 #[I 0] w fun e w' => e = .returned (.bool false) ∧ w = w' := by
  go_enter Try.func42, Try.ntmps42
  go_wp2
  go_ret
  exact ⟨rfl, rfl⟩

set_option maxRecDepth 100000 in
set_option maxHeartbeats 400000 in
theorem idx_ok (n : Nat) (A : Option Addr) (c : Nat) (w : World) (B : Nat) (hr : Reads w B 1 A n (List.replicate n (I 0))) (hn : n ≤ 1000000) :
    Calls Try.prog 62 #[.slice A n c, .func (.func 42) #[] #[]] w fun e w' => e = .returned (I (-1)) ∧ w = w' := by
  go_enter Try.func62, Try.ntmps62
  go_wp2
  go_loopg [8] (n - 0) (fun r v wr => ∃ k : Nat, r = n - k ∧ v = I k ∧ k ≤ n ∧ w = wr)
  case atStart => exact ⟨0, rfl, rfl, by omega, rfl⟩
  case round =>
    obtain ⟨k, rfl, rfl, hk, rfl⟩ := hrel
    by_cases hlt : k < n
    · obtain ⟨b, off, u, rfl, _, hu, hc⟩ := hr.at1 hlt
      obtain rfl : u = I 0 := by simp [hlt] at hu; exact hu.symm
      clear hu hr
      go_wp2_with (go_at_call 42; refine (nz_false _).mono ?_; rintro e w' ⟨rfl, rfl⟩)
      go_roundg (n - (k + 1))
      case measure => omega
      case rel => exact ⟨k + 1, rfl, by go_num, by omega, rfl⟩
    · obtain rfl : k = n := by omega
      go_wp2
      go_ret
      exact ⟨rfl, rfl⟩

set_option maxRecDepth 100000 in
set_option maxHeartbeats 400000 in
theorem fine_ok (n : Nat) (A : Option Addr) (c : Nat) (w : World) (B : Nat) (hr : Reads w B 1 A n (List.replicate n (I 0))) (hn : n ≤ 1000000) :
    Calls Try.prog 19 #[.slice A n c] w fun e w' => e = .returned (.bool true) ∧ w = w' := by
  have h41 : ∀ w, Reads w B 1 A n (List.replicate n (I 0)) → Calls Try.prog 41 #[.slice A n c, .func (.func 42) #[] #[]] w fun e w' => e = .returned (.bool false) ∧ w = w' := by
    intro w hr
    go_enter Try.func41, Try.ntmps41
    go_wp2_with (go_at_call 62; refine (idx_ok n A c _ B hr hn).mono ?_; rintro e w' ⟨rfl, rfl⟩)
    go_ret
    exact ⟨rfl, rfl⟩
  have H41 := Lib.hid h41
  clear h41
  go_enter Try.func19, Try.ntmps19
  go_wp2_with (go_at_call 41; refine (H41.out _ hr).mono ?_; rintro e w' ⟨rfl, rfl⟩)
  go_ret
  exact ⟨rfl, rfl⟩

theorem equal_any (xs ys : List Int) (n m : Nat) (A B : Option Addr) (c d : Nat) (w : World) (K L : Nat) (hx : Reads w K 1 A n (xs.map I)) (hy : Reads w L 1 B m (ys.map I)) (hn : n ≤ 1000000) (hm : m ≤ 1000000) :
    Calls Try.prog 20 #[.slice A n c, .slice B m d] w fun e w' => e = .returned (.bool (xs == ys)) ∧ ∃ q, w' = w.drewN q := by
  have hxl : xs.length = n := by have := hx.1; simpa using this
  have hyl : ys.length = m := by have := hy.1; simpa using this
  subst hxl hyl
  by_cases h0 : xs.length = 0
  · have : xs = [] := List.eq_nil_of_length_eq_zero h0
    subst this
    refine (Try.slices_Equal_int_empty A B c ys.length d w (by omega)).mono fun e w' ⟨h1, h2⟩ => ⟨?_, 0, h2⟩
    rw [h1]
    cases ys <;> simp
  · by_cases h1 : ys.length = 0
    · refine (Try.slices_Equal_int_lens A B xs.length c ys.length d w (by omega)).mono fun e w' ⟨h2, h3⟩ => ⟨?_, 0, h3⟩
      rw [h2]
      have : ys = [] := List.eq_nil_of_length_eq_zero h1
      subst this
      cases xs <;> simp at h0 ⊢
    · obtain ⟨b, off, rfl, _, hc⟩ := hx.2 (by omega)
      obtain ⟨b2, off2, rfl, _, hc2⟩ := hy.2 (by omega)
      refine (Try.slices_Equal_int b off xs.length c b2 off2 ys.length d xs ys w (Nat.le_refl _) (Nat.le_refl _) (by omega) (by omega) (fun j hj => hc j _ (by simp [hj])) (fun j hj => hc2 j _ (by simp [hj]))).mono fun e w' ⟨h2, h3⟩ => ⟨?_, h3⟩
      rw [h2, List.take_of_length_le (Nat.le_refl _), List.take_of_length_le (Nat.le_refl _)]

set_option maxRecDepth 100000 in
set_option maxHeartbeats 400000 in
theorem triangle_any (w : World) : Calls Try.prog 33 #[] w fun e w' => e = .returned (.slice (some ⟨w.heap.size, 0, none⟩) 3 3) ∧ w.alloc (.cells (cells2 [(0, 1), (1, 2), (2, 0)]).toArray 32) = w' := by
  go_enter Try.func33, Try.ntmps33
  go_wp2
  go_ret
  exact ⟨rfl, rfl⟩

/-- w' is a later world -/
def Ext (w w' : World) : Prop := Below w.heap.size w w'
theorem Ext.refl (w : World) : Ext w w := Below.refl _ _
theorem Ext.trans {a b c : World} (h : Ext a b) (k : Ext b c) : Ext a c := Below.trans h (k.mono h.size)
theorem Ext.alloc {a b : World} (h : Ext a b) (o : Obj) : Ext a (b.alloc o) := Below.alloc h h.size o
theorem Ext.drewN {a b : World} (h : Ext a b) (n : Nat) : Ext a (b.drewN n) := below_drewN h n
theorem Reads.ext {w w' : World} {sz n : Nat} {A : Option Addr} {xs : List Value} (h : Reads w w.heap.size sz A n xs) (hb : Ext w w') : Reads w' w'.heap.size sz A n xs := (h.below hb).more hb.size

theorem lit_args (W : World) (n : Int) (l : List (Int × Int)) (m : Nat) (hm : l.length = m) (hl : m ≤ 1000) (h0 : -9223372036854775808 ≤ n) (h1 : n ≤ 9223372036854775807) : GArgs (W.alloc (.cells (cells2 l).toArray 32)) n l (some ⟨W.heap.size, 0, none⟩) m := by
  subst hm
  refine ⟨?_, by omega, h0, h1, Nat.le_refl _⟩
  have := reads_new W 32 (cells2 l) l.length 2 (cells2_len l)
  simpa using this

theorem reads_newD (W : World) (q : Nat) (t : TypeId) (xs : List Value) (n sz : Nat) (hn : xs.length = n * sz) : Reads ((W.alloc (.cells xs.toArray t)).drewN q) (W.heap.size + 1) sz (some ⟨W.heap.size, 0, none⟩) n xs := reads_new W t xs n sz hn
theorem lit_argsD (W : World) (q : Nat) (n : Int) (l : List (Int × Int)) (m : Nat) (hm : l.length = m) (hl : m ≤ 1000) (h0 : -9223372036854775808 ≤ n) (h1 : n ≤ 9223372036854775807) : GArgs ((W.alloc (.cells (cells2 l).toArray 32)).drewN q) n l (some ⟨W.heap.size, 0, none⟩) m := by
  obtain ⟨a, b, c, d, e⟩ := lit_args W n l m hm hl h0 h1
  exact ⟨a, b, c, d, e⟩
theorem reads_at (W : World) (q : Nat) (t : TypeId) (xs : List Value) (n sz N : Nat) (hN : W.heap.size = N) (hn : xs.length = n * sz) : Reads ((W.alloc (.cells xs.toArray t)).drewN q) (N + 1) sz (some ⟨N, 0, none⟩) n xs := by
  subst hN; exact reads_new W t xs n sz hn
theorem reads_at0 (W : World) (t : TypeId) (xs : List Value) (n sz N : Nat) (hN : W.heap.size = N) (hn : xs.length = n * sz) : Reads (W.alloc (.cells xs.toArray t)) (N + 1) sz (some ⟨N, 0, none⟩) n xs := by
  subst hN; exact reads_new W t xs n sz hn
theorem args_at (W : World) (q : Nat) (n : Int) (l : List (Int × Int)) (m N : Nat) (hN : W.heap.size = N) (hm : l.length = m) (hl : m ≤ 1000) (h0 : -9223372036854775808 ≤ n) (h1 : n ≤ 9223372036854775807) : GArgs ((W.alloc (.cells (cells2 l).toArray 32)).drewN q) n l (some ⟨N, 0, none⟩) m := by
  subst hN; exact lit_argsD W q n l m hm hl h0 h1
theorem args_at0 (W : World) (n : Int) (l : List (Int × Int)) (m N : Nat) (hN : W.heap.size = N) (hm : l.length = m) (hl : m ≤ 1000) (h0 : -9223372036854775808 ≤ n) (h1 : n ≤ 9223372036854775807) : GArgs (W.alloc (.cells (cells2 l).toArray 32)) n l (some ⟨N, 0, none⟩) m := by
  subst hN; exact lit_args W n l m hm hl h0 h1
theorem fact1 : guardE (4 : Int) [(0, 1), (2, 3)] [] (parts (4 : Int).toNat [(0, 1), (2, 3)] (-1)) = ([0, 0, 1, 1], 0) := by decide +kernel
theorem fact2 : guardE (4 : Int) [(0, 1), (2, 3), (3, 2)] [] (bridgesL (4 : Int).toNat [(0, 1), (2, 3), (3, 2)]) = ([0], 0) := by decide +kernel
theorem fact3 : guardE (3 : Int) [(0, 1), (1, 2), (2, 0)] [] (treeL (3 : Int).toNat [(0, 1), (1, 2), (2, 0)]) = ([0, 1], 0) := by decide +kernel
theorem fact4 : pathE (3 : Int) [(0, 1), (1, 2), (2, 0)] 0 2 = ([2], 0) := by decide +kernel
theorem fact5 : guardE (3 : Int) [(0, 1), (1, 2), (2, 0)] [] (cyclesL (3 : Int).toNat [(0, 1), (1, 2), (2, 0)]) = ([[2, 0, 1]], 0) := by decide +kernel
theorem fact6 : chk 1 [(0, 1), (1, 2), (2, 0)] = 4 := by decide +kernel

theorem equal_lit (xs : List Int) (n : Nat) (A B : Option Addr) (c d : Nat) (w : World) (K L : Nat) (hx : Reads w K 1 A n (xs.map I)) (hy : Reads w L 1 B n (xs.map I)) (hn : n ≤ 1000000) :
    Calls Try.prog 20 #[.slice A n c, .slice B n d] w fun e w' => e = .returned (.bool true) ∧ ∃ q, w' = w.drewN q :=
  (equal_any xs xs n n A B c d w K L hx hy hn hn).mono fun e w' ⟨h1, h2⟩ => ⟨by rw [h1]; simp, h2⟩

set_option maxRecDepth 100000 in
set_option maxHeartbeats 1000000 in
theorem graphFact_any (w : World) : Calls Try.prog 10 #[] w fun e w' => e = .returned (.bool true) ∧ Below w.heap.size w w' := by
  go_enter Try.func10, Try.ntmps10
  go_wp2_with fail
  refine (components_any 4 [(0, 1), (2, 3)] _ 2 _ (lit_args w 4 [(0, 1), (2, 3)] 2 rfl (by omega) (by omega) (by omega))).mono ?_
  rw [fact1]
  rintro e w1 ⟨v1, rfl, r1, b1⟩
  obtain ⟨A1, c1, rfl⟩ := r1.val
  have R1 := Lib.hid r1.reads
  have X1 : Hid (Ext w w1) := (((Ext.refl w).alloc _).trans b1)
  clear r1 b1
  go_wp2_with fail
  refine (bridges_any 4 [(0, 1), (2, 3), (3, 2)] _ 3 _ (lit_args w1 4 [(0, 1), (2, 3), (3, 2)] 3 rfl (by omega) (by omega) (by omega))).mono ?_
  rw [fact2]
  rintro e w2 ⟨v2, rfl, r2, b2⟩
  obtain ⟨A2, c2, rfl⟩ := r2.val
  have R2 := Lib.hid r2.reads
  have X2 : Hid (Ext w1 w2) := (((Ext.refl w1).alloc _).trans b2)
  clear r2 b2
  go_wp2_with fail
  refine (triangle_any _).mono ?_
  rintro e w2' ⟨rfl, rfl⟩
  go_wp2_with fail
  refine (tree_E 3 [(0, 1), (1, 2), (2, 0)] _ 3 _ (lit_args w2 3 [(0, 1), (1, 2), (2, 0)] 3 rfl (by omega) (by omega) (by omega))).mono ?_
  rw [fact3]
  rintro e w3 ⟨v3, rfl, r3, b3⟩
  obtain ⟨A3, c3, rfl⟩ := r3.val
  have R3 := Lib.hid r3.reads
  have X3 : Hid (Ext w2 w3) := (((Ext.refl w2).alloc _).trans b3)
  clear r3 b3
  go_wp2_with fail
  refine (triangle_any _).mono ?_
  rintro e w3' ⟨rfl, rfl⟩
  go_wp2_with fail
  refine (pathE_any 3 [(0, 1), (1, 2), (2, 0)] _ 3 0 2 _ (lit_args w3 3 [(0, 1), (1, 2), (2, 0)] 3 rfl (by omega) (by omega) (by omega))).mono ?_
  rw [fact4]
  rintro e w4 ⟨v4, rfl, r4, b4⟩
  obtain ⟨A4, c4, rfl⟩ := r4.val
  have R4 := Lib.hid r4.reads
  have X4 : Hid (Ext w3 w4) := (((Ext.refl w3).alloc _).trans b4)
  clear r4 b4
  go_wp2_with fail
  refine (triangle_any _).mono ?_
  rintro e w4' ⟨rfl, rfl⟩
  go_wp2_with fail
  refine (cycles_any 3 [(0, 1), (1, 2), (2, 0)] _ 3 _ (lit_args w4 3 [(0, 1), (1, 2), (2, 0)] 3 rfl (by omega) (by omega) (by omega))).mono ?_
  rw [fact5]
  rintro e w5 ⟨v5, rfl, r5, b5⟩
  obtain ⟨vs, r5a, r5b⟩ := r5
  obtain ⟨u5, rfl⟩ : ∃ u5, vs = [u5] := by
    have := r5a.1
    match vs, this with
    | [u], _ => exact ⟨u, rfl⟩
  have r6 := r5b 0 (by simp) u5 rfl
  obtain ⟨b5g, off5, cap5, cur5, rfl, _, hblk5, _, _, _, hcur5⟩ := r5a.form (by simp)
  obtain ⟨A6, c6, rfl⟩ := r6.val
  have R6 := Lib.hid r6.reads
  have hc5 : w5.cell? ⟨b5g, off5, none⟩ = some (.slice A6 3 c6) := by
    obtain ⟨b', off', e', _, hc⟩ := r5a.reads.2 (by simp)
    injection e' with e'
    injection e' with e1 e2
    subst e1 e2
    exact hc 0 _ rfl
  have hl5 : b5g < w5.heap.size := hblk5.lt
  have X5 : Hid (Ext w4 w5) := (((Ext.refl w4).alloc _).trans b5)
  clear r5a r5b r6 b5 hblk5 hcur5
  go_wp2_with fail
  refine (fine_ok 5 _ _ _ _ (reads_new w5 25 (List.replicate 5 (I 0)) 5 1 rfl) (by omega)).mono ?_
  rintro e w6 ⟨rfl, rfl⟩
  have S1 := Lib.hid (R1.out.ext (X2.out.trans (X3.out.trans (X4.out.trans X5.out))))
  have S2 := Lib.hid (R2.out.ext (X3.out.trans (X4.out.trans X5.out)))
  have S3 := Lib.hid (R3.out.ext (X4.out.trans X5.out))
  have S4 := Lib.hid (R4.out.ext X5.out)
  go_wp2_with fail
  refine (equal_lit [0, 0, 1, 1] 4 _ _ _ _ _ _ _ (S1.out.ext (by repeat (first | exact Ext.refl _ | apply Ext.alloc | apply Ext.drewN))) (reads_at0 _ 3 [I 0, I 0, I 1, I 1] 4 1 _ (by first | rfl | simp) rfl) (by omega)).mono ?_
  rintro e w7 ⟨rfl, qS1, rfl⟩
  go_wp2_with fail
  refine (equal_lit [0] 1 _ _ _ _ _ _ _ (S2.out.ext (by repeat (first | exact Ext.refl _ | apply Ext.alloc | apply Ext.drewN))) (reads_at0 _ 3 [I 0] 1 1 _ (by first | rfl | simp) rfl) (by omega)).mono ?_
  rintro e w7 ⟨rfl, qS2, rfl⟩
  go_wp2_with fail
  refine (equal_lit [0, 1] 2 _ _ _ _ _ _ _ (S3.out.ext (by repeat (first | exact Ext.refl _ | apply Ext.alloc | apply Ext.drewN))) (reads_at0 _ 3 [I 0, I 1] 2 1 _ (by first | rfl | simp) rfl) (by omega)).mono ?_
  rintro e w7 ⟨rfl, qS3, rfl⟩
  go_wp2_with fail
  refine (equal_lit [2] 1 _ _ _ _ _ _ _ (S4.out.ext (by repeat (first | exact Ext.refl _ | apply Ext.alloc | apply Ext.drewN))) (reads_at0 _ 3 [I 2] 1 1 _ (by first | rfl | simp) rfl) (by omega)).mono ?_
  rintro e w7 ⟨rfl, hq7⟩
  have X7 : Hid (Ext w5 w7) := by
    obtain ⟨q, rfl⟩ := hq7
    show Ext w5 _
    repeat (first | exact Ext.refl _ | apply Ext.alloc | apply Ext.drewN)
  have hc7 : w7.cell? ⟨b5g, off5, none⟩ = some (.slice A6 3 c6) := (Below.cell X7.out hl5).trans hc5
  clear hq7 hc5
  go_wp2_with fail
  refine (equal_lit [2, 0, 1] 3 _ _ _ _ _ _ _ (R6.out.ext (X7.out.trans (by repeat (first | exact Ext.refl _ | apply Ext.alloc | apply Ext.drewN)))) (reads_at0 _ 3 [I 2, I 0, I 1] 3 1 _ (by first | rfl | simp) rfl) (by omega)).mono ?_
  rintro e w7 ⟨rfl, qR6, rfl⟩
  go_wp2_with fail
  refine (triangle_any _).mono ?_
  rintro e w8 ⟨rfl, rfl⟩
  go_wp2_with fail
  refine (check_call (args_at0 _ 1 [(0, 1), (1, 2), (2, 0)] 3 _ (by first | rfl | simp) rfl (by omega) (by omega) (by omega))).mono ?_
  rw [fact6]
  rintro e w9 ⟨rfl, hb9⟩
  go_wp2
  go_ret
  refine ⟨rfl, ?_⟩
  have X0 : Ext w w5 := X1.out.trans (X2.out.trans (X3.out.trans (X4.out.trans X5.out)))
  exact (Ext.trans ((X0.trans X7.out).trans (by repeat (first | exact Ext.refl _ | apply Ext.alloc | apply Ext.drewN))) hb9)
end Go.Proofs.Ytphiiflcpeploaa
