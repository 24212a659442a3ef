/- fine, slices.Equal at ints, and graphFact: the examples of the document hold. -/
import Derived.Test.YtglbelmljdgaoaaDoorCyc
namespace Go.Proofs.YtglbelmljdgaoaaDoor
open Go.RowKit

theorem reads_new (W : World) (t : TypeId) (xs : List Value) (n sz : Nat) (hn : xs.length = n * sz) : Reads (W.alloc (.cells xs.toArray t)) (W.heap.size + 1) sz (some ⟨W.heap.size, 0, none⟩) n xs := by
  refine ⟨hn, fun _ => ⟨_, _, rfl, by omega, fun j u hu => ?_⟩⟩
  rw [(Blk.new W t xs.toArray).cell]
  simpa using hu

set_option maxRecDepth 100000 in
set_option maxHeartbeats 400000 in
theorem nz_false (w : World) : Calls Tryd.prog 38 #[I 0] w fun e w' => e = .returned (.bool false) ∧ w = w' := by
  go_enter Tryd.func38, Tryd.ntmps38
  go_wp2
  go_ret
  exact ⟨rfl, rfl⟩

set_option maxRecDepth 100000 in
set_option maxHeartbeats 400000 in
theorem idx_ok (n : Nat) (A : Option Addr) (c : Nat) (w : World) (B : Nat) (hr : Reads w B 1 A n (List.replicate n (I 0))) (hn : n ≤ 1000000) :
    Calls Tryd.prog 58 #[.slice A n c, .func (.func 38) #[] #[]] w fun e w' => e = .returned (I (-1)) ∧ w = w' := by
  go_enter Tryd.func58, Tryd.ntmps58
  go_wp2
  go_loopg [8] (n - 0) (fun r v wr => ∃ k : Nat, r = n - k ∧ v = I k ∧ k ≤ n ∧ w = wr)
  case atStart => exact ⟨0, rfl, rfl, by omega, rfl⟩
  case round =>
    obtain ⟨k, rfl, rfl, hk, rfl⟩ := hrel
    by_cases hlt : k < n
    · obtain ⟨b, off, u, rfl, _, hu, hc⟩ := hr.at1 hlt
      obtain rfl : u = I 0 := by simp [hlt] at hu; exact hu.symm
      clear hu hr
      go_wp2_with (go_at_call 38; refine (nz_false _).mono ?_; rintro e w' ⟨rfl, rfl⟩)
      go_roundg (n - (k + 1))
      case measure => omega
      case rel => exact ⟨k + 1, rfl, by go_num, by omega, rfl⟩
    · obtain rfl : k = n := by omega
      go_wp2
      go_ret
      exact ⟨rfl, rfl⟩

set_option maxRecDepth 100000 in
set_option maxHeartbeats 400000 in
theorem fine_ok (n : Nat) (A : Option Addr) (c : Nat) (w : World) (B : Nat) (hr : Reads w B 1 A n (List.replicate n (I 0))) (hn : n ≤ 1000000) :
    Calls Tryd.prog 19 #[.slice A n c] w fun e w' => e = .returned (.bool true) ∧ w = w' := by
  have h41 : ∀ w, Reads w B 1 A n (List.replicate n (I 0)) → Calls Tryd.prog 37 #[.slice A n c, .func (.func 38) #[] #[]] w fun e w' => e = .returned (.bool false) ∧ w = w' := by
    intro w hr
    go_enter Tryd.func37, Tryd.ntmps37
    go_wp2_with (go_at_call 58; refine (idx_ok n A c _ B hr hn).mono ?_; rintro e w' ⟨rfl, rfl⟩)
    go_ret
    exact ⟨rfl, rfl⟩
  have H41 := Lib.hid h41
  clear h41
  go_enter Tryd.func19, Tryd.ntmps19
  go_wp2_with (go_at_call 37; refine (H41.out _ hr).mono ?_; rintro e w' ⟨rfl, rfl⟩)
  go_ret
  exact ⟨rfl, rfl⟩

theorem equal_any (xs ys : List Int) (n m : Nat) (A B : Option Addr) (c d : Nat) (w : World) (K L : Nat) (hx : Reads w K 1 A n (xs.map I)) (hy : Reads w L 1 B m (ys.map I)) (hn : n ≤ 1000000) (hm : m ≤ 1000000) :
    Calls Tryd.prog 13 #[.slice A n c, .slice B m d] w fun e w' => e = .returned (.bool (xs == ys)) ∧ ∃ q, w' = w.drewN q := by
  have hxl : xs.length = n := by have := hx.1; simpa using this
  have hyl : ys.length = m := by have := hy.1; simpa using this
  subst hxl hyl
  by_cases h0 : xs.length = 0
  · have : xs = [] := List.eq_nil_of_length_eq_zero h0
    subst this
    refine (Tryd.slices_Equal_int_empty A B c ys.length d w (by omega)).mono fun e w' ⟨h1, h2⟩ => ⟨?_, 0, h2⟩
    rw [h1]
    cases ys <;> simp
  · by_cases h1 : ys.length = 0
    · refine (Tryd.slices_Equal_int_lens A B xs.length c ys.length d w (by omega)).mono fun e w' ⟨h2, h3⟩ => ⟨?_, 0, h3⟩
      rw [h2]
      have : ys = [] := List.eq_nil_of_length_eq_zero h1
      subst this
      cases xs <;> simp at h0 ⊢
    · obtain ⟨b, off, rfl, _, hc⟩ := hx.2 (by omega)
      obtain ⟨b2, off2, rfl, _, hc2⟩ := hy.2 (by omega)
      refine (Tryd.slices_Equal_int b off xs.length c b2 off2 ys.length d xs ys w (Nat.le_refl _) (Nat.le_refl _) (by omega) (by omega) (fun j hj => hc j _ (by simp [hj])) (fun j hj => hc2 j _ (by simp [hj]))).mono fun e w' ⟨h2, h3⟩ => ⟨?_, h3⟩
      rw [h2, List.take_of_length_le (Nat.le_refl _), List.take_of_length_le (Nat.le_refl _)]

/-- w' is a later world -/
def Ext (w w' : World) : Prop := Below w.heap.size w w'
theorem Ext.refl (w : World) : Ext w w := Below.refl _ _
theorem Ext.trans {a b c : World} (h : Ext a b) (k : Ext b c) : Ext a c := Below.trans h (k.mono h.size)
theorem Ext.alloc {a b : World} (h : Ext a b) (o : Obj) : Ext a (b.alloc o) := Below.alloc h h.size o
theorem Ext.drewN {a b : World} (h : Ext a b) (n : Nat) : Ext a (b.drewN n) := below_drewN h n
theorem Reads.ext {w w' : World} {sz n : Nat} {A : Option Addr} {xs : List Value} (h : Reads w w.heap.size sz A n xs) (hb : Ext w w') : Reads w' w'.heap.size sz A n xs := (h.below hb).more hb.size

theorem lit_args (W : World) (n : Int) (l : List (Int × Int)) (m : Nat) (hm : l.length = m) (hl : m ≤ 1000) (h0 : -9223372036854775808 ≤ n) (h1 : n ≤ 9223372036854775807) : GArgs (W.alloc (.cells (cells2 l).toArray 105)) n l (some ⟨W.heap.size, 0, none⟩) m := by
  subst hm
  refine ⟨?_, by omega, h0, h1, Nat.le_refl _⟩
  have := reads_new W 105 (cells2 l) l.length 2 (cells2_len l)
  simpa using this

theorem reads_newD (W : World) (q : Nat) (t : TypeId) (xs : List Value) (n sz : Nat) (hn : xs.length = n * sz) : Reads ((W.alloc (.cells xs.toArray t)).drewN q) (W.heap.size + 1) sz (some ⟨W.heap.size, 0, none⟩) n xs := reads_new W t xs n sz hn
theorem lit_argsD (W : World) (q : Nat) (n : Int) (l : List (Int × Int)) (m : Nat) (hm : l.length = m) (hl : m ≤ 1000) (h0 : -9223372036854775808 ≤ n) (h1 : n ≤ 9223372036854775807) : GArgs ((W.alloc (.cells (cells2 l).toArray 105)).drewN q) n l (some ⟨W.heap.size, 0, none⟩) m := by
  obtain ⟨a, b, c, d, e⟩ := lit_args W n l m hm hl h0 h1
  exact ⟨a, b, c, d, e⟩
theorem reads_at (W : World) (q : Nat) (t : TypeId) (xs : List Value) (n sz N : Nat) (hN : W.heap.size = N) (hn : xs.length = n * sz) : Reads ((W.alloc (.cells xs.toArray t)).drewN q) (N + 1) sz (some ⟨N, 0, none⟩) n xs := by
  subst hN; exact reads_new W t xs n sz hn
theorem reads_at0 (W : World) (t : TypeId) (xs : List Value) (n sz N : Nat) (hN : W.heap.size = N) (hn : xs.length = n * sz) : Reads (W.alloc (.cells xs.toArray t)) (N + 1) sz (some ⟨N, 0, none⟩) n xs := by
  subst hN; exact reads_new W t xs n sz hn
theorem args_at (W : World) (q : Nat) (n : Int) (l : List (Int × Int)) (m N : Nat) (hN : W.heap.size = N) (hm : l.length = m) (hl : m ≤ 1000) (h0 : -9223372036854775808 ≤ n) (h1 : n ≤ 9223372036854775807) : GArgs ((W.alloc (.cells (cells2 l).toArray 105)).drewN q) n l (some ⟨N, 0, none⟩) m := by
  subst hN; exact lit_argsD W q n l m hm hl h0 h1
theorem args_at0 (W : World) (n : Int) (l : List (Int × Int)) (m N : Nat) (hN : W.heap.size = N) (hm : l.length = m) (hl : m ≤ 1000) (h0 : -9223372036854775808 ≤ n) (h1 : n ≤ 9223372036854775807) : GArgs (W.alloc (.cells (cells2 l).toArray 105)) n l (some ⟨N, 0, none⟩) m := by
  subst hN; exact lit_args W n l m hm hl h0 h1
theorem fact1 : guardE (4 : Int) [(0, 1), (2, 3)] [] (parts (4 : Int).toNat [(0, 1), (2, 3)] (-1)) = ([0, 0, 1, 1], 0) := by decide +kernel
theorem fact2 : guardE (4 : Int) [(0, 1), (2, 3), (3, 2)] [] (bridgesL (4 : Int).toNat [(0, 1), (2, 3), (3, 2)]) = ([0], 0) := by decide +kernel
theorem fact3 : guardE (3 : Int) [(0, 1), (1, 2), (2, 0)] [] (treeL (3 : Int).toNat [(0, 1), (1, 2), (2, 0)]) = ([0, 1], 0) := by decide +kernel
theorem fact4 : pathE (3 : Int) [(0, 1), (1, 2), (2, 0)] 0 2 = ([2], 0) := by decide +kernel
theorem fact5 : guardE (3 : Int) [(0, 1), (1, 2), (2, 0)] [] (cyclesL (3 : Int).toNat [(0, 1), (1, 2), (2, 0)]) = ([[2, 0, 1]], 0) := by decide +kernel
theorem fact6 : gchk 1 [(0, 1), (1, 2), (2, 0)] = 4 := by decide +kernel

theorem equal_lit (xs : List Int) (n : Nat) (A B : Option Addr) (c d : Nat) (w : World) (K L : Nat) (hx : Reads w K 1 A n (xs.map I)) (hy : Reads w L 1 B n (xs.map I)) (hn : n ≤ 1000000) :
    Calls Tryd.prog 13 #[.slice A n c, .slice B n d] w fun e w' => e = .returned (.bool true) ∧ ∃ q, w' = w.drewN q :=
  (equal_any xs xs n n A B c d w K L hx hy hn hn).mono fun e w' ⟨h1, h2⟩ => ⟨by rw [h1]; simp, h2⟩

end Go.Proofs.YtglbelmljdgaoaaDoor
