/- slices.Clone at the types of a network's parts. -/
import Derived.Test.YtphiiflcpeploaaCheck
import Derived.Test.YtphiiflcpeploaaRepeat
namespace Go.Proofs.Ytphiiflcpeploaa
open Go.RowKit

/-- a copy of a slice: it reads as the slice did, in memory of its own -/
def CloneOf (w : World) (E : TypeId) (sz n : Nat) (xs : List Value) (e : Ending) (w' : World) : Prop :=
  ∃ A c, e = .returned (.slice A n c) ∧ Reads w' w'.heap.size sz A n xs ∧ (0 < n → Row w' w.heap.size E sz (.slice A n c) n xs) ∧ Below w.heap.size w w'
theorem Row.empty (w : World) (base : Nat) (e : TypeId) (sz : Nat) (hb : base ≤ w.heap.size) : Row (w.alloc (.cells #[] e)) base e sz (.slice (some ⟨w.heap.size, 0, none⟩) 0 0) 0 [] :=
  ⟨by simp, .inr ⟨w.heap.size, 0, 0, #[], rfl, hb, Blk.new w e _, Nat.le_refl _, by simp [maxLen], by simp, by simp⟩⟩
theorem cloneOf_row {w w1 w' : World} {E : TypeId} {sz n : Nat} {xs : List Value} {v : Value} (h1 : Below w.heap.size w w1) (hr : Row w' w.heap.size E sz v n xs) (hb : Below w.heap.size w1 w') : CloneOf w E sz n xs (.returned v) w' := by
  obtain ⟨A, c, rfl⟩ := hr.val
  exact ⟨A, c, rfl, hr.reads, fun _ => hr, h1.trans hb⟩

theorem Try.info9 : (Try.prog.info? 9).map (fun i => (i.zero, i.size, i.bytes)) = some (some (.string ⟨#[]⟩), 1, 16) := by kernel_rfl
theorem Try.info93 : (Try.prog.info? 93).map (fun i => (i.zero, i.size, i.bytes)) = some (some (.agg #[.string ⟨#[]⟩, .string ⟨#[]⟩, .string ⟨#[]⟩, .bool false, .bool false]), 5, 56) := by kernel_rfl
theorem Try.info108 : (Try.prog.info? 108).map (fun i => (i.zero, i.size, i.bytes)) = some (some (.agg #[.string ⟨#[]⟩, .string ⟨#[]⟩, .string ⟨#[]⟩, I 0, I 0, I 0, I 0, I 0, I 0]), 9, 96) := by kernel_rfl
theorem Try.info110 : (Try.prog.info? 110).map (fun i => (i.zero, i.size, i.bytes)) = some (some (.agg #[.string ⟨#[]⟩, .string ⟨#[]⟩, I 0, I 0, I 0]), 5, 56) := by kernel_rfl
theorem Try.info112 : (Try.prog.info? 112).map (fun i => (i.zero, i.size, i.bytes)) = some (some (.agg #[.string ⟨#[]⟩, .string ⟨#[]⟩, I 0]), 3, 40) := by kernel_rfl
theorem Try.info115 : (Try.prog.info? 115).map (fun i => (i.zero, i.size, i.bytes)) = some (some (.agg #[.string ⟨#[]⟩, .string ⟨#[]⟩, I 0, I 0, I 0]), 5, 56) := by kernel_rfl

set_option maxRecDepth 100000 in
set_option maxHeartbeats 1000000 in
theorem clone67 (A : Option Addr) (n c : Nat) (xs : List Value) (w : World) (hr : Reads w w.heap.size 1 A n xs) (h1 : ∀ u ∈ xs, u.oneCell' = true) (hn : n ≤ 1000000) :
    Calls Try.prog 67 #[.slice A n c] w (CloneOf w 3 1 n xs) := by
  have HR := Lib.hid hr
  have H1 := Lib.hid h1
  clear h1
  have q1 : ∀ (w : World) (a : Option Addr) (n c n' c' : Nat), (binOp .eql 28 (.slice a n c) (.slice none n' c')).run Try.prog w = .ok (.bool a.isNone) w := fun w a n c n' c' => Lib.run_eql_slice_nil w _ _ a n c n' c' Try.underlying28
  rcases A with _ | ⟨b, off, st⟩
  · obtain rfl : n = 0 := by
      rcases Nat.eq_zero_or_pos n with h | h
      · exact h
      · obtain ⟨b, off, h, _⟩ := hr.2 h
        cases h
    have hx : xs = [] := List.eq_nil_of_length_eq_zero (by have := hr.1; omega)
    subst hx
    clear hr
    go_enter Try.func67, Try.ntmps67
    go_wp2
    go_ret
    exact ⟨none, 0, rfl, Reads.nil, by omega, Below.refl _ _⟩
  · clear hr
    obtain ⟨i0, hi0, hz0, hz1, hz2⟩ := info_parts Try.info3
    have HI := Lib.hid hi0
    have HZ0 := Lib.hid hz0
    have HZ1 := Lib.hid hz1
    have HZ2 := Lib.hid hz2
    clear hi0 hz0 hz1 hz2
    go_enter Try.func67, Try.ntmps67
    go_wp2_with (at_builtin; refine wpList_append_row rfl _ _ 28 rfl w.heap.size 3 i0 _ 1 8 Try.underlying28 HI.out HZ0.out HZ1.out HZ2.out rfl (by decide) _ 0 [] rfl (Row.empty w _ 3 1 (Nat.le_refl _)) w.heap.size (some ⟨b, off, st⟩) n c xs rfl (HR.out.below ((Below.refl _ _).alloc (Nat.le_refl _) _)) H1.out ?c1 ?c2 ?c3 ?_)
    case c1 => unfold maxLen; omega
    case c2 => omega
    case c3 => simp
    intro v' w' hr' hb'
    have HF := Lib.hid (cloneOf_row ((Below.refl _ w).alloc (Nat.le_refl _) _) hr' hb')
    clear hr' hb'
    go_wp2
    go_ret
    exact HF.out

set_option maxRecDepth 100000 in
set_option maxHeartbeats 1000000 in
theorem clone73 (A : Option Addr) (n c : Nat) (xs : List Value) (w : World) (hr : Reads w w.heap.size 1 A n xs) (h1 : ∀ u ∈ xs, u.oneCell' = true) (hn : n ≤ 1000000) :
    Calls Try.prog 73 #[.slice A n c] w (CloneOf w 9 1 n xs) := by
  have HR := Lib.hid hr
  have H1 := Lib.hid h1
  clear h1
  have q1 : ∀ (w : World) (a : Option Addr) (n c n' c' : Nat), (binOp .eql 40 (.slice a n c) (.slice none n' c')).run Try.prog w = .ok (.bool a.isNone) w := fun w a n c n' c' => Lib.run_eql_slice_nil w _ _ a n c n' c' Try.underlying40
  rcases A with _ | ⟨b, off, st⟩
  · obtain rfl : n = 0 := by
      rcases Nat.eq_zero_or_pos n with h | h
      · exact h
      · obtain ⟨b, off, h, _⟩ := hr.2 h
        cases h
    have hx : xs = [] := List.eq_nil_of_length_eq_zero (by have := hr.1; omega)
    subst hx
    clear hr
    go_enter Try.func73, Try.ntmps73
    go_wp2
    go_ret
    exact ⟨none, 0, rfl, Reads.nil, by omega, Below.refl _ _⟩
  · clear hr
    obtain ⟨i0, hi0, hz0, hz1, hz2⟩ := info_parts Try.info9
    have HI := Lib.hid hi0
    have HZ0 := Lib.hid hz0
    have HZ1 := Lib.hid hz1
    have HZ2 := Lib.hid hz2
    clear hi0 hz0 hz1 hz2
    go_enter Try.func73, Try.ntmps73
    go_wp2_with (at_builtin; refine wpList_append_row rfl _ _ 40 rfl w.heap.size 9 i0 _ 1 16 Try.underlying40 HI.out HZ0.out HZ1.out HZ2.out rfl (by decide) _ 0 [] rfl (Row.empty w _ 9 1 (Nat.le_refl _)) w.heap.size (some ⟨b, off, st⟩) n c xs rfl (HR.out.below ((Below.refl _ _).alloc (Nat.le_refl _) _)) H1.out ?c1 ?c2 ?c3 ?_)
    case c1 => unfold maxLen; omega
    case c2 => omega
    case c3 => simp
    intro v' w' hr' hb'
    have HF := Lib.hid (cloneOf_row ((Below.refl _ w).alloc (Nat.le_refl _) _) hr' hb')
    clear hr' hb'
    go_wp2
    go_ret
    exact HF.out

set_option maxRecDepth 100000 in
set_option maxHeartbeats 1000000 in
theorem clone74 (A : Option Addr) (n c : Nat) (xs : List Value) (w : World) (hr : Reads w w.heap.size 5 A n xs) (h1 : ∀ u ∈ xs, u.oneCell' = true) (hn : n ≤ 1000000) :
    Calls Try.prog 74 #[.slice A n c] w (CloneOf w 93 5 n xs) := by
  have HR := Lib.hid hr
  have H1 := Lib.hid h1
  clear h1
  have q1 : ∀ (w : World) (a : Option Addr) (n c n' c' : Nat), (binOp .eql 41 (.slice a n c) (.slice none n' c')).run Try.prog w = .ok (.bool a.isNone) w := fun w a n c n' c' => Lib.run_eql_slice_nil w _ _ a n c n' c' Try.underlying41
  rcases A with _ | ⟨b, off, st⟩
  · obtain rfl : n = 0 := by
      rcases Nat.eq_zero_or_pos n with h | h
      · exact h
      · obtain ⟨b, off, h, _⟩ := hr.2 h
        cases h
    have hx : xs = [] := List.eq_nil_of_length_eq_zero (by have := hr.1; omega)
    subst hx
    clear hr
    go_enter Try.func74, Try.ntmps74
    go_wp2
    go_ret
    exact ⟨none, 0, rfl, Reads.nil, by omega, Below.refl _ _⟩
  · clear hr
    obtain ⟨i0, hi0, hz0, hz1, hz2⟩ := info_parts Try.info93
    have HI := Lib.hid hi0
    have HZ0 := Lib.hid hz0
    have HZ1 := Lib.hid hz1
    have HZ2 := Lib.hid hz2
    clear hi0 hz0 hz1 hz2
    go_enter Try.func74, Try.ntmps74
    go_wp2_with (at_builtin; refine wpList_append_row rfl _ _ 41 rfl w.heap.size 93 i0 _ 5 56 Try.underlying41 HI.out HZ0.out HZ1.out HZ2.out rfl (by decide) _ 0 [] rfl (Row.empty w _ 93 5 (Nat.le_refl _)) w.heap.size (some ⟨b, off, st⟩) n c xs rfl (HR.out.below ((Below.refl _ _).alloc (Nat.le_refl _) _)) H1.out ?c1 ?c2 ?c3 ?_)
    case c1 => unfold maxLen; omega
    case c2 => omega
    case c3 => simp
    intro v' w' hr' hb'
    have HF := Lib.hid (cloneOf_row ((Below.refl _ w).alloc (Nat.le_refl _) _) hr' hb')
    clear hr' hb'
    go_wp2
    go_ret
    exact HF.out

set_option maxRecDepth 100000 in
set_option maxHeartbeats 1000000 in
theorem clone75 (A : Option Addr) (n c : Nat) (xs : List Value) (w : World) (hr : Reads w w.heap.size 9 A n xs) (h1 : ∀ u ∈ xs, u.oneCell' = true) (hn : n ≤ 1000000) :
    Calls Try.prog 75 #[.slice A n c] w (CloneOf w 108 9 n xs) := by
  have HR := Lib.hid hr
  have H1 := Lib.hid h1
  clear h1
  have q1 : ∀ (w : World) (a : Option Addr) (n c n' c' : Nat), (binOp .eql 42 (.slice a n c) (.slice none n' c')).run Try.prog w = .ok (.bool a.isNone) w := fun w a n c n' c' => Lib.run_eql_slice_nil w _ _ a n c n' c' Try.underlying42
  rcases A with _ | ⟨b, off, st⟩
  · obtain rfl : n = 0 := by
      rcases Nat.eq_zero_or_pos n with h | h
      · exact h
      · obtain ⟨b, off, h, _⟩ := hr.2 h
        cases h
    have hx : xs = [] := List.eq_nil_of_length_eq_zero (by have := hr.1; omega)
    subst hx
    clear hr
    go_enter Try.func75, Try.ntmps75
    go_wp2
    go_ret
    exact ⟨none, 0, rfl, Reads.nil, by omega, Below.refl _ _⟩
  · clear hr
    obtain ⟨i0, hi0, hz0, hz1, hz2⟩ := info_parts Try.info108
    have HI := Lib.hid hi0
    have HZ0 := Lib.hid hz0
    have HZ1 := Lib.hid hz1
    have HZ2 := Lib.hid hz2
    clear hi0 hz0 hz1 hz2
    go_enter Try.func75, Try.ntmps75
    go_wp2_with (at_builtin; refine wpList_append_row rfl _ _ 42 rfl w.heap.size 108 i0 _ 9 96 Try.underlying42 HI.out HZ0.out HZ1.out HZ2.out rfl (by decide) _ 0 [] rfl (Row.empty w _ 108 9 (Nat.le_refl _)) w.heap.size (some ⟨b, off, st⟩) n c xs rfl (HR.out.below ((Below.refl _ _).alloc (Nat.le_refl _) _)) H1.out ?c1 ?c2 ?c3 ?_)
    case c1 => unfold maxLen; omega
    case c2 => omega
    case c3 => simp
    intro v' w' hr' hb'
    have HF := Lib.hid (cloneOf_row ((Below.refl _ w).alloc (Nat.le_refl _) _) hr' hb')
    clear hr' hb'
    go_wp2
    go_ret
    exact HF.out

set_option maxRecDepth 100000 in
set_option maxHeartbeats 1000000 in
theorem clone76 (A : Option Addr) (n c : Nat) (xs : List Value) (w : World) (hr : Reads w w.heap.size 5 A n xs) (h1 : ∀ u ∈ xs, u.oneCell' = true) (hn : n ≤ 1000000) :
    Calls Try.prog 76 #[.slice A n c] w (CloneOf w 110 5 n xs) := by
  have HR := Lib.hid hr
  have H1 := Lib.hid h1
  clear h1
  have q1 : ∀ (w : World) (a : Option Addr) (n c n' c' : Nat), (binOp .eql 43 (.slice a n c) (.slice none n' c')).run Try.prog w = .ok (.bool a.isNone) w := fun w a n c n' c' => Lib.run_eql_slice_nil w _ _ a n c n' c' Try.underlying43
  rcases A with _ | ⟨b, off, st⟩
  · obtain rfl : n = 0 := by
      rcases Nat.eq_zero_or_pos n with h | h
      · exact h
      · obtain ⟨b, off, h, _⟩ := hr.2 h
        cases h
    have hx : xs = [] := List.eq_nil_of_length_eq_zero (by have := hr.1; omega)
    subst hx
    clear hr
    go_enter Try.func76, Try.ntmps76
    go_wp2
    go_ret
    exact ⟨none, 0, rfl, Reads.nil, by omega, Below.refl _ _⟩
  · clear hr
    obtain ⟨i0, hi0, hz0, hz1, hz2⟩ := info_parts Try.info110
    have HI := Lib.hid hi0
    have HZ0 := Lib.hid hz0
    have HZ1 := Lib.hid hz1
    have HZ2 := Lib.hid hz2
    clear hi0 hz0 hz1 hz2
    go_enter Try.func76, Try.ntmps76
    go_wp2_with (at_builtin; refine wpList_append_row rfl _ _ 43 rfl w.heap.size 110 i0 _ 5 56 Try.underlying43 HI.out HZ0.out HZ1.out HZ2.out rfl (by decide) _ 0 [] rfl (Row.empty w _ 110 5 (Nat.le_refl _)) w.heap.size (some ⟨b, off, st⟩) n c xs rfl (HR.out.below ((Below.refl _ _).alloc (Nat.le_refl _) _)) H1.out ?c1 ?c2 ?c3 ?_)
    case c1 => unfold maxLen; omega
    case c2 => omega
    case c3 => simp
    intro v' w' hr' hb'
    have HF := Lib.hid (cloneOf_row ((Below.refl _ w).alloc (Nat.le_refl _) _) hr' hb')
    clear hr' hb'
    go_wp2
    go_ret
    exact HF.out

set_option maxRecDepth 100000 in
set_option maxHeartbeats 1000000 in
theorem clone77 (A : Option Addr) (n c : Nat) (xs : List Value) (w : World) (hr : Reads w w.heap.size 3 A n xs) (h1 : ∀ u ∈ xs, u.oneCell' = true) (hn : n ≤ 1000000) :
    Calls Try.prog 77 #[.slice A n c] w (CloneOf w 112 3 n xs) := by
  have HR := Lib.hid hr
  have H1 := Lib.hid h1
  clear h1
  have q1 : ∀ (w : World) (a : Option Addr) (n c n' c' : Nat), (binOp .eql 44 (.slice a n c) (.slice none n' c')).run Try.prog w = .ok (.bool a.isNone) w := fun w a n c n' c' => Lib.run_eql_slice_nil w _ _ a n c n' c' Try.underlying44
  rcases A with _ | ⟨b, off, st⟩
  · obtain rfl : n = 0 := by
      rcases Nat.eq_zero_or_pos n with h | h
      · exact h
      · obtain ⟨b, off, h, _⟩ := hr.2 h
        cases h
    have hx : xs = [] := List.eq_nil_of_length_eq_zero (by have := hr.1; omega)
    subst hx
    clear hr
    go_enter Try.func77, Try.ntmps77
    go_wp2
    go_ret
    exact ⟨none, 0, rfl, Reads.nil, by omega, Below.refl _ _⟩
  · clear hr
    obtain ⟨i0, hi0, hz0, hz1, hz2⟩ := info_parts Try.info112
    have HI := Lib.hid hi0
    have HZ0 := Lib.hid hz0
    have HZ1 := Lib.hid hz1
    have HZ2 := Lib.hid hz2
    clear hi0 hz0 hz1 hz2
    go_enter Try.func77, Try.ntmps77
    go_wp2_with (at_builtin; refine wpList_append_row rfl _ _ 44 rfl w.heap.size 112 i0 _ 3 40 Try.underlying44 HI.out HZ0.out HZ1.out HZ2.out rfl (by decide) _ 0 [] rfl (Row.empty w _ 112 3 (Nat.le_refl _)) w.heap.size (some ⟨b, off, st⟩) n c xs rfl (HR.out.below ((Below.refl _ _).alloc (Nat.le_refl _) _)) H1.out ?c1 ?c2 ?c3 ?_)
    case c1 => unfold maxLen; omega
    case c2 => omega
    case c3 => simp
    intro v' w' hr' hb'
    have HF := Lib.hid (cloneOf_row ((Below.refl _ w).alloc (Nat.le_refl _) _) hr' hb')
    clear hr' hb'
    go_wp2
    go_ret
    exact HF.out

set_option maxRecDepth 100000 in
set_option maxHeartbeats 1000000 in
theorem clone78 (A : Option Addr) (n c : Nat) (xs : List Value) (w : World) (hr : Reads w w.heap.size 5 A n xs) (h1 : ∀ u ∈ xs, u.oneCell' = true) (hn : n ≤ 1000000) :
    Calls Try.prog 78 #[.slice A n c] w (CloneOf w 115 5 n xs) := by
  have HR := Lib.hid hr
  have H1 := Lib.hid h1
  clear h1
  have q1 : ∀ (w : World) (a : Option Addr) (n c n' c' : Nat), (binOp .eql 45 (.slice a n c) (.slice none n' c')).run Try.prog w = .ok (.bool a.isNone) w := fun w a n c n' c' => Lib.run_eql_slice_nil w _ _ a n c n' c' Try.underlying45
  rcases A with _ | ⟨b, off, st⟩
  · obtain rfl : n = 0 := by
      rcases Nat.eq_zero_or_pos n with h | h
      · exact h
      · obtain ⟨b, off, h, _⟩ := hr.2 h
        cases h
    have hx : xs = [] := List.eq_nil_of_length_eq_zero (by have := hr.1; omega)
    subst hx
    clear hr
    go_enter Try.func78, Try.ntmps78
    go_wp2
    go_ret
    exact ⟨none, 0, rfl, Reads.nil, by omega, Below.refl _ _⟩
  · clear hr
    obtain ⟨i0, hi0, hz0, hz1, hz2⟩ := info_parts Try.info115
    have HI := Lib.hid hi0
    have HZ0 := Lib.hid hz0
    have HZ1 := Lib.hid hz1
    have HZ2 := Lib.hid hz2
    clear hi0 hz0 hz1 hz2
    go_enter Try.func78, Try.ntmps78
    go_wp2_with (at_builtin; refine wpList_append_row rfl _ _ 45 rfl w.heap.size 115 i0 _ 5 56 Try.underlying45 HI.out HZ0.out HZ1.out HZ2.out rfl (by decide) _ 0 [] rfl (Row.empty w _ 115 5 (Nat.le_refl _)) w.heap.size (some ⟨b, off, st⟩) n c xs rfl (HR.out.below ((Below.refl _ _).alloc (Nat.le_refl _) _)) H1.out ?c1 ?c2 ?c3 ?_)
    case c1 => unfold maxLen; omega
    case c2 => omega
    case c3 => simp
    intro v' w' hr' hb'
    have HF := Lib.hid (cloneOf_row ((Below.refl _ w).alloc (Nat.le_refl _) _) hr' hb')
    clear hr' hb'
    go_wp2
    go_ret
    exact HF.out

end Go.Proofs.Ytphiiflcpeploaa
