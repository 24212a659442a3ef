/- slices.Clone at the types of a network's parts. -/
import Derived.Test.YtglbelmljdgaoaaDoorCheck
import Derived.Test.YtglbelmljdgaoaaDoorRepeat
namespace Go.Proofs.YtglbelmljdgaoaaDoor
open Go.RowKit

/-- a copy of a slice: it reads as the slice did, in memory of its own -/
def CloneOf (w : World) (E : TypeId) (sz n : Nat) (xs : List Value) (e : Ending) (w' : World) : Prop :=
  ∃ A c, e = .returned (.slice A n c) ∧ Reads w' w'.heap.size sz A n xs ∧ (0 < n → Row w' w.heap.size E sz (.slice A n c) n xs) ∧ Below w.heap.size w w'
theorem Row.empty (w : World) (base : Nat) (e : TypeId) (sz : Nat) (hb : base ≤ w.heap.size) : Row (w.alloc (.cells #[] e)) base e sz (.slice (some ⟨w.heap.size, 0, none⟩) 0 0) 0 [] :=
  ⟨by simp, .inr ⟨w.heap.size, 0, 0, #[], rfl, hb, Blk.new w e _, Nat.le_refl _, by simp [maxLen], by simp, by simp⟩⟩
theorem cloneOf_row {w w1 w' : World} {E : TypeId} {sz n : Nat} {xs : List Value} {v : Value} (h1 : Below w.heap.size w w1) (hr : Row w' w.heap.size E sz v n xs) (hb : Below w.heap.size w1 w') : CloneOf w E sz n xs (.returned v) w' := by
  obtain ⟨A, c, rfl⟩ := hr.val
  exact ⟨A, c, rfl, hr.reads, fun _ => hr, h1.trans hb⟩

theorem Tryd.info9 : (Tryd.prog.info? 9).map (fun i => (i.zero, i.size, i.bytes)) = some (some (.string ⟨#[]⟩), 1, 16) := by kernel_rfl
theorem Tryd.info40 : (Tryd.prog.info? 40).map (fun i => (i.zero, i.size, i.bytes)) = some (some (.agg #[.string ⟨#[]⟩, .string ⟨#[]⟩, .string ⟨#[]⟩, .bool false, .bool false]), 5, 56) := by kernel_rfl
theorem Tryd.info90 : (Tryd.prog.info? 90).map (fun i => (i.zero, i.size, i.bytes)) = some (some (.agg #[.string ⟨#[]⟩, .string ⟨#[]⟩, .string ⟨#[]⟩, I 0, I 0, I 0, I 0, I 0, I 0]), 9, 96) := by kernel_rfl
theorem Tryd.info92 : (Tryd.prog.info? 92).map (fun i => (i.zero, i.size, i.bytes)) = some (some (.agg #[.string ⟨#[]⟩, .string ⟨#[]⟩, I 0, I 0, I 0]), 5, 56) := by kernel_rfl
theorem Tryd.info79 : (Tryd.prog.info? 79).map (fun i => (i.zero, i.size, i.bytes)) = some (some (.agg #[.string ⟨#[]⟩, .string ⟨#[]⟩, I 0]), 3, 40) := by kernel_rfl
theorem Tryd.info96 : (Tryd.prog.info? 96).map (fun i => (i.zero, i.size, i.bytes)) = some (some (.agg #[.string ⟨#[]⟩, .string ⟨#[]⟩, I 0, I 0, I 0]), 5, 56) := by kernel_rfl

set_option maxRecDepth 100000 in
set_option maxHeartbeats 1000000 in
theorem clone67 (A : Option Addr) (n c : Nat) (xs : List Value) (w : World) (hr : Reads w w.heap.size 1 A n xs) (h1 : ∀ u ∈ xs, u.oneCell' = true) (hn : n ≤ 1000000) :
    Calls Tryd.prog 24 #[.slice A n c] w (CloneOf w 3 1 n xs) := by
  have HR := Lib.hid hr
  have H1 := Lib.hid h1
  clear h1
  have q1 : ∀ (w : World) (a : Option Addr) (n c n' c' : Nat), (binOp .eql 30 (.slice a n c) (.slice none n' c')).run Tryd.prog w = .ok (.bool a.isNone) w := fun w a n c n' c' => Lib.run_eql_slice_nil w _ _ a n c n' c' Tryd.underlying30
  rcases A with _ | ⟨b, off, st⟩
  · obtain rfl : n = 0 := by
      rcases Nat.eq_zero_or_pos n with h | h
      · exact h
      · obtain ⟨b, off, h, _⟩ := hr.2 h
        cases h
    have hx : xs = [] := List.eq_nil_of_length_eq_zero (by have := hr.1; omega)
    subst hx
    clear hr
    go_enter Tryd.func24, Tryd.ntmps24
    go_wp2
    go_ret
    exact ⟨none, 0, rfl, Reads.nil, by omega, Below.refl _ _⟩
  · clear hr
    obtain ⟨i0, hi0, hz0, hz1, hz2⟩ := info_parts Tryd.info3
    have HI := Lib.hid hi0
    have HZ0 := Lib.hid hz0
    have HZ1 := Lib.hid hz1
    have HZ2 := Lib.hid hz2
    clear hi0 hz0 hz1 hz2
    go_enter Tryd.func24, Tryd.ntmps24
    go_wp2_with (at_builtin; refine wpList_append_row rfl _ _ 30 rfl w.heap.size 3 i0 _ 1 8 Tryd.underlying30 HI.out HZ0.out HZ1.out HZ2.out rfl (by decide) _ 0 [] rfl (Row.empty w _ 3 1 (Nat.le_refl _)) w.heap.size (some ⟨b, off, st⟩) n c xs rfl (HR.out.below ((Below.refl _ _).alloc (Nat.le_refl _) _)) H1.out ?c1 ?c2 ?c3 ?_)
    case c1 => unfold maxLen; omega
    case c2 => omega
    case c3 => simp
    intro v' w' hr' hb'
    have HF := Lib.hid (cloneOf_row ((Below.refl _ w).alloc (Nat.le_refl _) _) hr' hb')
    clear hr' hb'
    go_wp2
    go_ret
    exact HF.out

set_option maxRecDepth 100000 in
set_option maxHeartbeats 1000000 in
theorem clone73 (A : Option Addr) (n c : Nat) (xs : List Value) (w : World) (hr : Reads w w.heap.size 1 A n xs) (h1 : ∀ u ∈ xs, u.oneCell' = true) (hn : n ≤ 1000000) :
    Calls Tryd.prog 41 #[.slice A n c] w (CloneOf w 9 1 n xs) := by
  have HR := Lib.hid hr
  have H1 := Lib.hid h1
  clear h1
  have q1 : ∀ (w : World) (a : Option Addr) (n c n' c' : Nat), (binOp .eql 22 (.slice a n c) (.slice none n' c')).run Tryd.prog w = .ok (.bool a.isNone) w := fun w a n c n' c' => Lib.run_eql_slice_nil w _ _ a n c n' c' Tryd.underlying22
  rcases A with _ | ⟨b, off, st⟩
  · obtain rfl : n = 0 := by
      rcases Nat.eq_zero_or_pos n with h | h
      · exact h
      · obtain ⟨b, off, h, _⟩ := hr.2 h
        cases h
    have hx : xs = [] := List.eq_nil_of_length_eq_zero (by have := hr.1; omega)
    subst hx
    clear hr
    go_enter Tryd.func41, Tryd.ntmps41
    go_wp2
    go_ret
    exact ⟨none, 0, rfl, Reads.nil, by omega, Below.refl _ _⟩
  · clear hr
    obtain ⟨i0, hi0, hz0, hz1, hz2⟩ := info_parts Tryd.info9
    have HI := Lib.hid hi0
    have HZ0 := Lib.hid hz0
    have HZ1 := Lib.hid hz1
    have HZ2 := Lib.hid hz2
    clear hi0 hz0 hz1 hz2
    go_enter Tryd.func41, Tryd.ntmps41
    go_wp2_with (at_builtin; refine wpList_append_row rfl _ _ 22 rfl w.heap.size 9 i0 _ 1 16 Tryd.underlying22 HI.out HZ0.out HZ1.out HZ2.out rfl (by decide) _ 0 [] rfl (Row.empty w _ 9 1 (Nat.le_refl _)) w.heap.size (some ⟨b, off, st⟩) n c xs rfl (HR.out.below ((Below.refl _ _).alloc (Nat.le_refl _) _)) H1.out ?c1 ?c2 ?c3 ?_)
    case c1 => unfold maxLen; omega
    case c2 => omega
    case c3 => simp
    intro v' w' hr' hb'
    have HF := Lib.hid (cloneOf_row ((Below.refl _ w).alloc (Nat.le_refl _) _) hr' hb')
    clear hr' hb'
    go_wp2
    go_ret
    exact HF.out

set_option maxRecDepth 100000 in
set_option maxHeartbeats 1000000 in
theorem clone74 (A : Option Addr) (n c : Nat) (xs : List Value) (w : World) (hr : Reads w w.heap.size 5 A n xs) (h1 : ∀ u ∈ xs, u.oneCell' = true) (hn : n ≤ 1000000) :
    Calls Tryd.prog 42 #[.slice A n c] w (CloneOf w 40 5 n xs) := by
  have HR := Lib.hid hr
  have H1 := Lib.hid h1
  clear h1
  have q1 : ∀ (w : World) (a : Option Addr) (n c n' c' : Nat), (binOp .eql 23 (.slice a n c) (.slice none n' c')).run Tryd.prog w = .ok (.bool a.isNone) w := fun w a n c n' c' => Lib.run_eql_slice_nil w _ _ a n c n' c' Tryd.underlying23
  rcases A with _ | ⟨b, off, st⟩
  · obtain rfl : n = 0 := by
      rcases Nat.eq_zero_or_pos n with h | h
      · exact h
      · obtain ⟨b, off, h, _⟩ := hr.2 h
        cases h
    have hx : xs = [] := List.eq_nil_of_length_eq_zero (by have := hr.1; omega)
    subst hx
    clear hr
    go_enter Tryd.func42, Tryd.ntmps42
    go_wp2
    go_ret
    exact ⟨none, 0, rfl, Reads.nil, by omega, Below.refl _ _⟩
  · clear hr
    obtain ⟨i0, hi0, hz0, hz1, hz2⟩ := info_parts Tryd.info40
    have HI := Lib.hid hi0
    have HZ0 := Lib.hid hz0
    have HZ1 := Lib.hid hz1
    have HZ2 := Lib.hid hz2
    clear hi0 hz0 hz1 hz2
    go_enter Tryd.func42, Tryd.ntmps42
    go_wp2_with (at_builtin; refine wpList_append_row rfl _ _ 23 rfl w.heap.size 40 i0 _ 5 56 Tryd.underlying23 HI.out HZ0.out HZ1.out HZ2.out rfl (by decide) _ 0 [] rfl (Row.empty w _ 40 5 (Nat.le_refl _)) w.heap.size (some ⟨b, off, st⟩) n c xs rfl (HR.out.below ((Below.refl _ _).alloc (Nat.le_refl _) _)) H1.out ?c1 ?c2 ?c3 ?_)
    case c1 => unfold maxLen; omega
    case c2 => omega
    case c3 => simp
    intro v' w' hr' hb'
    have HF := Lib.hid (cloneOf_row ((Below.refl _ w).alloc (Nat.le_refl _) _) hr' hb')
    clear hr' hb'
    go_wp2
    go_ret
    exact HF.out

set_option maxRecDepth 100000 in
set_option maxHeartbeats 1000000 in
theorem clone75 (A : Option Addr) (n c : Nat) (xs : List Value) (w : World) (hr : Reads w w.heap.size 9 A n xs) (h1 : ∀ u ∈ xs, u.oneCell' = true) (hn : n ≤ 1000000) :
    Calls Tryd.prog 43 #[.slice A n c] w (CloneOf w 90 9 n xs) := by
  have HR := Lib.hid hr
  have H1 := Lib.hid h1
  clear h1
  have q1 : ∀ (w : World) (a : Option Addr) (n c n' c' : Nat), (binOp .eql 24 (.slice a n c) (.slice none n' c')).run Tryd.prog w = .ok (.bool a.isNone) w := fun w a n c n' c' => Lib.run_eql_slice_nil w _ _ a n c n' c' Tryd.underlying24
  rcases A with _ | ⟨b, off, st⟩
  · obtain rfl : n = 0 := by
      rcases Nat.eq_zero_or_pos n with h | h
      · exact h
      · obtain ⟨b, off, h, _⟩ := hr.2 h
        cases h
    have hx : xs = [] := List.eq_nil_of_length_eq_zero (by have := hr.1; omega)
    subst hx
    clear hr
    go_enter Tryd.func43, Tryd.ntmps43
    go_wp2
    go_ret
    exact ⟨none, 0, rfl, Reads.nil, by omega, Below.refl _ _⟩
  · clear hr
    obtain ⟨i0, hi0, hz0, hz1, hz2⟩ := info_parts Tryd.info90
    have HI := Lib.hid hi0
    have HZ0 := Lib.hid hz0
    have HZ1 := Lib.hid hz1
    have HZ2 := Lib.hid hz2
    clear hi0 hz0 hz1 hz2
    go_enter Tryd.func43, Tryd.ntmps43
    go_wp2_with (at_builtin; refine wpList_append_row rfl _ _ 24 rfl w.heap.size 90 i0 _ 9 96 Tryd.underlying24 HI.out HZ0.out HZ1.out HZ2.out rfl (by decide) _ 0 [] rfl (Row.empty w _ 90 9 (Nat.le_refl _)) w.heap.size (some ⟨b, off, st⟩) n c xs rfl (HR.out.below ((Below.refl _ _).alloc (Nat.le_refl _) _)) H1.out ?c1 ?c2 ?c3 ?_)
    case c1 => unfold maxLen; omega
    case c2 => omega
    case c3 => simp
    intro v' w' hr' hb'
    have HF := Lib.hid (cloneOf_row ((Below.refl _ w).alloc (Nat.le_refl _) _) hr' hb')
    clear hr' hb'
    go_wp2
    go_ret
    exact HF.out

set_option maxRecDepth 100000 in
set_option maxHeartbeats 1000000 in
theorem clone76 (A : Option Addr) (n c : Nat) (xs : List Value) (w : World) (hr : Reads w w.heap.size 5 A n xs) (h1 : ∀ u ∈ xs, u.oneCell' = true) (hn : n ≤ 1000000) :
    Calls Tryd.prog 44 #[.slice A n c] w (CloneOf w 92 5 n xs) := by
  have HR := Lib.hid hr
  have H1 := Lib.hid h1
  clear h1
  have q1 : ∀ (w : World) (a : Option Addr) (n c n' c' : Nat), (binOp .eql 25 (.slice a n c) (.slice none n' c')).run Tryd.prog w = .ok (.bool a.isNone) w := fun w a n c n' c' => Lib.run_eql_slice_nil w _ _ a n c n' c' Tryd.underlying25
  rcases A with _ | ⟨b, off, st⟩
  · obtain rfl : n = 0 := by
      rcases Nat.eq_zero_or_pos n with h | h
      · exact h
      · obtain ⟨b, off, h, _⟩ := hr.2 h
        cases h
    have hx : xs = [] := List.eq_nil_of_length_eq_zero (by have := hr.1; omega)
    subst hx
    clear hr
    go_enter Tryd.func44, Tryd.ntmps44
    go_wp2
    go_ret
    exact ⟨none, 0, rfl, Reads.nil, by omega, Below.refl _ _⟩
  · clear hr
    obtain ⟨i0, hi0, hz0, hz1, hz2⟩ := info_parts Tryd.info92
    have HI := Lib.hid hi0
    have HZ0 := Lib.hid hz0
    have HZ1 := Lib.hid hz1
    have HZ2 := Lib.hid hz2
    clear hi0 hz0 hz1 hz2
    go_enter Tryd.func44, Tryd.ntmps44
    go_wp2_with (at_builtin; refine wpList_append_row rfl _ _ 25 rfl w.heap.size 92 i0 _ 5 56 Tryd.underlying25 HI.out HZ0.out HZ1.out HZ2.out rfl (by decide) _ 0 [] rfl (Row.empty w _ 92 5 (Nat.le_refl _)) w.heap.size (some ⟨b, off, st⟩) n c xs rfl (HR.out.below ((Below.refl _ _).alloc (Nat.le_refl _) _)) H1.out ?c1 ?c2 ?c3 ?_)
    case c1 => unfold maxLen; omega
    case c2 => omega
    case c3 => simp
    intro v' w' hr' hb'
    have HF := Lib.hid (cloneOf_row ((Below.refl _ w).alloc (Nat.le_refl _) _) hr' hb')
    clear hr' hb'
    go_wp2
    go_ret
    exact HF.out

set_option maxRecDepth 100000 in
set_option maxHeartbeats 1000000 in
theorem clone77 (A : Option Addr) (n c : Nat) (xs : List Value) (w : World) (hr : Reads w w.heap.size 3 A n xs) (h1 : ∀ u ∈ xs, u.oneCell' = true) (hn : n ≤ 1000000) :
    Calls Tryd.prog 45 #[.slice A n c] w (CloneOf w 79 3 n xs) := by
  have HR := Lib.hid hr
  have H1 := Lib.hid h1
  clear h1
  have q1 : ∀ (w : World) (a : Option Addr) (n c n' c' : Nat), (binOp .eql 26 (.slice a n c) (.slice none n' c')).run Tryd.prog w = .ok (.bool a.isNone) w := fun w a n c n' c' => Lib.run_eql_slice_nil w _ _ a n c n' c' Tryd.underlying26
  rcases A with _ | ⟨b, off, st⟩
  · obtain rfl : n = 0 := by
      rcases Nat.eq_zero_or_pos n with h | h
      · exact h
      · obtain ⟨b, off, h, _⟩ := hr.2 h
        cases h
    have hx : xs = [] := List.eq_nil_of_length_eq_zero (by have := hr.1; omega)
    subst hx
    clear hr
    go_enter Tryd.func45, Tryd.ntmps45
    go_wp2
    go_ret
    exact ⟨none, 0, rfl, Reads.nil, by omega, Below.refl _ _⟩
  · clear hr
    obtain ⟨i0, hi0, hz0, hz1, hz2⟩ := info_parts Tryd.info79
    have HI := Lib.hid hi0
    have HZ0 := Lib.hid hz0
    have HZ1 := Lib.hid hz1
    have HZ2 := Lib.hid hz2
    clear hi0 hz0 hz1 hz2
    go_enter Tryd.func45, Tryd.ntmps45
    go_wp2_with (at_builtin; refine wpList_append_row rfl _ _ 26 rfl w.heap.size 79 i0 _ 3 40 Tryd.underlying26 HI.out HZ0.out HZ1.out HZ2.out rfl (by decide) _ 0 [] rfl (Row.empty w _ 79 3 (Nat.le_refl _)) w.heap.size (some ⟨b, off, st⟩) n c xs rfl (HR.out.below ((Below.refl _ _).alloc (Nat.le_refl _) _)) H1.out ?c1 ?c2 ?c3 ?_)
    case c1 => unfold maxLen; omega
    case c2 => omega
    case c3 => simp
    intro v' w' hr' hb'
    have HF := Lib.hid (cloneOf_row ((Below.refl _ w).alloc (Nat.le_refl _) _) hr' hb')
    clear hr' hb'
    go_wp2
    go_ret
    exact HF.out

set_option maxRecDepth 100000 in
set_option maxHeartbeats 1000000 in
theorem clone78 (A : Option Addr) (n c : Nat) (xs : List Value) (w : World) (hr : Reads w w.heap.size 5 A n xs) (h1 : ∀ u ∈ xs, u.oneCell' = true) (hn : n ≤ 1000000) :
    Calls Tryd.prog 46 #[.slice A n c] w (CloneOf w 96 5 n xs) := by
  have HR := Lib.hid hr
  have H1 := Lib.hid h1
  clear h1
  have q1 : ∀ (w : World) (a : Option Addr) (n c n' c' : Nat), (binOp .eql 27 (.slice a n c) (.slice none n' c')).run Tryd.prog w = .ok (.bool a.isNone) w := fun w a n c n' c' => Lib.run_eql_slice_nil w _ _ a n c n' c' Tryd.underlying27
  rcases A with _ | ⟨b, off, st⟩
  · obtain rfl : n = 0 := by
      rcases Nat.eq_zero_or_pos n with h | h
      · exact h
      · obtain ⟨b, off, h, _⟩ := hr.2 h
        cases h
    have hx : xs = [] := List.eq_nil_of_length_eq_zero (by have := hr.1; omega)
    subst hx
    clear hr
    go_enter Tryd.func46, Tryd.ntmps46
    go_wp2
    go_ret
    exact ⟨none, 0, rfl, Reads.nil, by omega, Below.refl _ _⟩
  · clear hr
    obtain ⟨i0, hi0, hz0, hz1, hz2⟩ := info_parts Tryd.info96
    have HI := Lib.hid hi0
    have HZ0 := Lib.hid hz0
    have HZ1 := Lib.hid hz1
    have HZ2 := Lib.hid hz2
    clear hi0 hz0 hz1 hz2
    go_enter Tryd.func46, Tryd.ntmps46
    go_wp2_with (at_builtin; refine wpList_append_row rfl _ _ 27 rfl w.heap.size 96 i0 _ 5 56 Tryd.underlying27 HI.out HZ0.out HZ1.out HZ2.out rfl (by decide) _ 0 [] rfl (Row.empty w _ 96 5 (Nat.le_refl _)) w.heap.size (some ⟨b, off, st⟩) n c xs rfl (HR.out.below ((Below.refl _ _).alloc (Nat.le_refl _) _)) H1.out ?c1 ?c2 ?c3 ?_)
    case c1 => unfold maxLen; omega
    case c2 => omega
    case c3 => simp
    intro v' w' hr' hb'
    have HF := Lib.hid (cloneOf_row ((Below.refl _ w).alloc (Nat.le_refl _) _) hr' hb')
    clear hr' hb'
    go_wp2
    go_ret
    exact HF.out

end Go.Proofs.YtglbelmljdgaoaaDoor
