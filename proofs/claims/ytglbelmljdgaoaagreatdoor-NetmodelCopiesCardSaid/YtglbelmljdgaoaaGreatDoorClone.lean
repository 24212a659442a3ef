/- slices.Clone at the types of a network's parts. -/
import Derived.Test.YtglbelmljdgaoaaGreatDoorCheck
import Derived.Test.YtglbelmljdgaoaaGreatDoorRepeat
namespace Go.Proofs.YtglbelmljdgaoaaGreatDoor
open Go.RowKit

/-- a copy of a slice: it reads as the slice did, in memory of its own -/
def CloneOf (w : World) (E : TypeId) (sz n : Nat) (xs : List Value) (e : Ending) (w' : World) : Prop :=
  ∃ A c, e = .returned (.slice A n c) ∧ Reads w' w'.heap.size sz A n xs ∧ (0 < n → Row w' w.heap.size E sz (.slice A n c) n xs) ∧ Below w.heap.size w w'
theorem Row.empty (w : World) (base : Nat) (e : TypeId) (sz : Nat) (hb : base ≤ w.heap.size) : Row (w.alloc (.cells #[] e)) base e sz (.slice (some ⟨w.heap.size, 0, none⟩) 0 0) 0 [] :=
  ⟨by simp, .inr ⟨w.heap.size, 0, 0, #[], rfl, hb, Blk.new w e _, Nat.le_refl _, by simp [maxLen], by simp, by simp⟩⟩
theorem cloneOf_row {w w1 w' : World} {E : TypeId} {sz n : Nat} {xs : List Value} {v : Value} (h1 : Below w.heap.size w w1) (hr : Row w' w.heap.size E sz v n xs) (hb : Below w.heap.size w1 w') : CloneOf w E sz n xs (.returned v) w' := by
  obtain ⟨A, c, rfl⟩ := hr.val
  exact ⟨A, c, rfl, hr.reads, fun _ => hr, h1.trans hb⟩

theorem Tryz.info9 : (Tryz.prog.info? 9).map (fun i => (i.zero, i.size, i.bytes)) = some (some (.string ⟨#[]⟩), 1, 16) := by kernel_rfl
theorem Tryz.info39 : (Tryz.prog.info? 39).map (fun i => (i.zero, i.size, i.bytes)) = some (some (.agg #[.string ⟨#[]⟩, .string ⟨#[]⟩, .string ⟨#[]⟩, .bool false, .bool false]), 5, 56) := by kernel_rfl
theorem Tryz.info48 : (Tryz.prog.info? 48).map (fun i => (i.zero, i.size, i.bytes)) = some (some (.agg #[.string ⟨#[]⟩, .string ⟨#[]⟩, .string ⟨#[]⟩, I 0, I 0, I 0, I 0, I 0, I 0]), 9, 96) := by kernel_rfl
theorem Tryz.info64 : (Tryz.prog.info? 64).map (fun i => (i.zero, i.size, i.bytes)) = some (some (.agg #[.string ⟨#[]⟩, .string ⟨#[]⟩, I 0, I 0, I 0]), 5, 56) := by kernel_rfl
theorem Tryz.info59 : (Tryz.prog.info? 59).map (fun i => (i.zero, i.size, i.bytes)) = some (some (.agg #[.string ⟨#[]⟩, .string ⟨#[]⟩, I 0]), 3, 40) := by kernel_rfl
theorem Tryz.info68 : (Tryz.prog.info? 68).map (fun i => (i.zero, i.size, i.bytes)) = some (some (.agg #[.string ⟨#[]⟩, .string ⟨#[]⟩, I 0, I 0, I 0]), 5, 56) := by kernel_rfl

set_option maxRecDepth 100000 in
set_option maxHeartbeats 1000000 in
theorem clone73 (A : Option Addr) (n c : Nat) (xs : List Value) (w : World) (hr : Reads w w.heap.size 1 A n xs) (h1 : ∀ u ∈ xs, u.oneCell' = true) (hn : n * 16 ≤ 140737488355328) :
    Calls Tryz.prog 33 #[.slice A n c] w (CloneOf w 9 1 n xs) := by
  have HR := Lib.hid hr
  have H1 := Lib.hid h1
  clear h1
  have q1 : ∀ (w : World) (a : Option Addr) (n c n' c' : Nat), (binOp .eql 22 (.slice a n c) (.slice none n' c')).run Tryz.prog w = .ok (.bool a.isNone) w := fun w a n c n' c' => Lib.run_eql_slice_nil w _ _ a n c n' c' Tryz.underlying22
  rcases A with _ | ⟨b, off, st⟩
  · obtain rfl : n = 0 := by
      rcases Nat.eq_zero_or_pos n with h | h
      · exact h
      · obtain ⟨b, off, h, _⟩ := hr.2 h
        cases h
    have hx : xs = [] := List.eq_nil_of_length_eq_zero (by have := hr.1; omega)
    subst hx
    clear hr
    go_enter Tryz.func33, Tryz.ntmps33
    go_wp2
    go_ret
    exact ⟨none, 0, rfl, Reads.nil, by omega, Below.refl _ _⟩
  · clear hr
    obtain ⟨i0, hi0, hz0, hz1, hz2⟩ := info_parts Tryz.info9
    have HI := Lib.hid hi0
    have HZ0 := Lib.hid hz0
    have HZ1 := Lib.hid hz1
    have HZ2 := Lib.hid hz2
    clear hi0 hz0 hz1 hz2
    go_enter Tryz.func33, Tryz.ntmps33
    go_wp2_with (at_builtin; refine wpList_append_row rfl _ _ 22 rfl w.heap.size 9 i0 _ 1 16 Tryz.underlying22 HI.out HZ0.out HZ1.out HZ2.out rfl (by decide) _ 0 [] rfl (Row.empty w _ 9 1 (Nat.le_refl _)) w.heap.size (some ⟨b, off, st⟩) n c xs rfl (HR.out.below ((Below.refl _ _).alloc (Nat.le_refl _) _)) H1.out ?c1 ?c2 ?c3 ?_)
    case c1 => unfold maxLen; omega
    case c2 => omega
    case c3 => simp
    intro v' w' hr' hb'
    have HF := Lib.hid (cloneOf_row ((Below.refl _ w).alloc (Nat.le_refl _) _) hr' hb')
    clear hr' hb'
    go_wp2
    go_ret
    exact HF.out

set_option maxRecDepth 100000 in
set_option maxHeartbeats 1000000 in
theorem clone74 (A : Option Addr) (n c : Nat) (xs : List Value) (w : World) (hr : Reads w w.heap.size 5 A n xs) (h1 : ∀ u ∈ xs, u.oneCell' = true) (hn : n * 56 ≤ 140737488355328) :
    Calls Tryz.prog 34 #[.slice A n c] w (CloneOf w 39 5 n xs) := by
  have HR := Lib.hid hr
  have H1 := Lib.hid h1
  clear h1
  have q1 : ∀ (w : World) (a : Option Addr) (n c n' c' : Nat), (binOp .eql 23 (.slice a n c) (.slice none n' c')).run Tryz.prog w = .ok (.bool a.isNone) w := fun w a n c n' c' => Lib.run_eql_slice_nil w _ _ a n c n' c' Tryz.underlying23
  rcases A with _ | ⟨b, off, st⟩
  · obtain rfl : n = 0 := by
      rcases Nat.eq_zero_or_pos n with h | h
      · exact h
      · obtain ⟨b, off, h, _⟩ := hr.2 h
        cases h
    have hx : xs = [] := List.eq_nil_of_length_eq_zero (by have := hr.1; omega)
    subst hx
    clear hr
    go_enter Tryz.func34, Tryz.ntmps34
    go_wp2
    go_ret
    exact ⟨none, 0, rfl, Reads.nil, by omega, Below.refl _ _⟩
  · clear hr
    obtain ⟨i0, hi0, hz0, hz1, hz2⟩ := info_parts Tryz.info39
    have HI := Lib.hid hi0
    have HZ0 := Lib.hid hz0
    have HZ1 := Lib.hid hz1
    have HZ2 := Lib.hid hz2
    clear hi0 hz0 hz1 hz2
    go_enter Tryz.func34, Tryz.ntmps34
    go_wp2_with (at_builtin; refine wpList_append_row rfl _ _ 23 rfl w.heap.size 39 i0 _ 5 56 Tryz.underlying23 HI.out HZ0.out HZ1.out HZ2.out rfl (by decide) _ 0 [] rfl (Row.empty w _ 39 5 (Nat.le_refl _)) w.heap.size (some ⟨b, off, st⟩) n c xs rfl (HR.out.below ((Below.refl _ _).alloc (Nat.le_refl _) _)) H1.out ?c1 ?c2 ?c3 ?_)
    case c1 => unfold maxLen; omega
    case c2 => omega
    case c3 => simp
    intro v' w' hr' hb'
    have HF := Lib.hid (cloneOf_row ((Below.refl _ w).alloc (Nat.le_refl _) _) hr' hb')
    clear hr' hb'
    go_wp2
    go_ret
    exact HF.out

set_option maxRecDepth 100000 in
set_option maxHeartbeats 1000000 in
theorem clone75 (A : Option Addr) (n c : Nat) (xs : List Value) (w : World) (hr : Reads w w.heap.size 9 A n xs) (h1 : ∀ u ∈ xs, u.oneCell' = true) (hn : n * 96 ≤ 140737488355328) :
    Calls Tryz.prog 35 #[.slice A n c] w (CloneOf w 48 9 n xs) := by
  have HR := Lib.hid hr
  have H1 := Lib.hid h1
  clear h1
  have q1 : ∀ (w : World) (a : Option Addr) (n c n' c' : Nat), (binOp .eql 24 (.slice a n c) (.slice none n' c')).run Tryz.prog w = .ok (.bool a.isNone) w := fun w a n c n' c' => Lib.run_eql_slice_nil w _ _ a n c n' c' Tryz.underlying24
  rcases A with _ | ⟨b, off, st⟩
  · obtain rfl : n = 0 := by
      rcases Nat.eq_zero_or_pos n with h | h
      · exact h
      · obtain ⟨b, off, h, _⟩ := hr.2 h
        cases h
    have hx : xs = [] := List.eq_nil_of_length_eq_zero (by have := hr.1; omega)
    subst hx
    clear hr
    go_enter Tryz.func35, Tryz.ntmps35
    go_wp2
    go_ret
    exact ⟨none, 0, rfl, Reads.nil, by omega, Below.refl _ _⟩
  · clear hr
    obtain ⟨i0, hi0, hz0, hz1, hz2⟩ := info_parts Tryz.info48
    have HI := Lib.hid hi0
    have HZ0 := Lib.hid hz0
    have HZ1 := Lib.hid hz1
    have HZ2 := Lib.hid hz2
    clear hi0 hz0 hz1 hz2
    go_enter Tryz.func35, Tryz.ntmps35
    go_wp2_with (at_builtin; refine wpList_append_row rfl _ _ 24 rfl w.heap.size 48 i0 _ 9 96 Tryz.underlying24 HI.out HZ0.out HZ1.out HZ2.out rfl (by decide) _ 0 [] rfl (Row.empty w _ 48 9 (Nat.le_refl _)) w.heap.size (some ⟨b, off, st⟩) n c xs rfl (HR.out.below ((Below.refl _ _).alloc (Nat.le_refl _) _)) H1.out ?c1 ?c2 ?c3 ?_)
    case c1 => unfold maxLen; omega
    case c2 => omega
    case c3 => simp
    intro v' w' hr' hb'
    have HF := Lib.hid (cloneOf_row ((Below.refl _ w).alloc (Nat.le_refl _) _) hr' hb')
    clear hr' hb'
    go_wp2
    go_ret
    exact HF.out

set_option maxRecDepth 100000 in
set_option maxHeartbeats 1000000 in
theorem clone76 (A : Option Addr) (n c : Nat) (xs : List Value) (w : World) (hr : Reads w w.heap.size 5 A n xs) (h1 : ∀ u ∈ xs, u.oneCell' = true) (hn : n * 56 ≤ 140737488355328) :
    Calls Tryz.prog 36 #[.slice A n c] w (CloneOf w 64 5 n xs) := by
  have HR := Lib.hid hr
  have H1 := Lib.hid h1
  clear h1
  have q1 : ∀ (w : World) (a : Option Addr) (n c n' c' : Nat), (binOp .eql 25 (.slice a n c) (.slice none n' c')).run Tryz.prog w = .ok (.bool a.isNone) w := fun w a n c n' c' => Lib.run_eql_slice_nil w _ _ a n c n' c' Tryz.underlying25
  rcases A with _ | ⟨b, off, st⟩
  · obtain rfl : n = 0 := by
      rcases Nat.eq_zero_or_pos n with h | h
      · exact h
      · obtain ⟨b, off, h, _⟩ := hr.2 h
        cases h
    have hx : xs = [] := List.eq_nil_of_length_eq_zero (by have := hr.1; omega)
    subst hx
    clear hr
    go_enter Tryz.func36, Tryz.ntmps36
    go_wp2
    go_ret
    exact ⟨none, 0, rfl, Reads.nil, by omega, Below.refl _ _⟩
  · clear hr
    obtain ⟨i0, hi0, hz0, hz1, hz2⟩ := info_parts Tryz.info64
    have HI := Lib.hid hi0
    have HZ0 := Lib.hid hz0
    have HZ1 := Lib.hid hz1
    have HZ2 := Lib.hid hz2
    clear hi0 hz0 hz1 hz2
    go_enter Tryz.func36, Tryz.ntmps36
    go_wp2_with (at_builtin; refine wpList_append_row rfl _ _ 25 rfl w.heap.size 64 i0 _ 5 56 Tryz.underlying25 HI.out HZ0.out HZ1.out HZ2.out rfl (by decide) _ 0 [] rfl (Row.empty w _ 64 5 (Nat.le_refl _)) w.heap.size (some ⟨b, off, st⟩) n c xs rfl (HR.out.below ((Below.refl _ _).alloc (Nat.le_refl _) _)) H1.out ?c1 ?c2 ?c3 ?_)
    case c1 => unfold maxLen; omega
    case c2 => omega
    case c3 => simp
    intro v' w' hr' hb'
    have HF := Lib.hid (cloneOf_row ((Below.refl _ w).alloc (Nat.le_refl _) _) hr' hb')
    clear hr' hb'
    go_wp2
    go_ret
    exact HF.out

set_option maxRecDepth 100000 in
set_option maxHeartbeats 1000000 in
theorem clone77 (A : Option Addr) (n c : Nat) (xs : List Value) (w : World) (hr : Reads w w.heap.size 3 A n xs) (h1 : ∀ u ∈ xs, u.oneCell' = true) (hn : n * 40 ≤ 140737488355328) :
    Calls Tryz.prog 37 #[.slice A n c] w (CloneOf w 59 3 n xs) := by
  have HR := Lib.hid hr
  have H1 := Lib.hid h1
  clear h1
  have q1 : ∀ (w : World) (a : Option Addr) (n c n' c' : Nat), (binOp .eql 26 (.slice a n c) (.slice none n' c')).run Tryz.prog w = .ok (.bool a.isNone) w := fun w a n c n' c' => Lib.run_eql_slice_nil w _ _ a n c n' c' Tryz.underlying26
  rcases A with _ | ⟨b, off, st⟩
  · obtain rfl : n = 0 := by
      rcases Nat.eq_zero_or_pos n with h | h
      · exact h
      · obtain ⟨b, off, h, _⟩ := hr.2 h
        cases h
    have hx : xs = [] := List.eq_nil_of_length_eq_zero (by have := hr.1; omega)
    subst hx
    clear hr
    go_enter Tryz.func37, Tryz.ntmps37
    go_wp2
    go_ret
    exact ⟨none, 0, rfl, Reads.nil, by omega, Below.refl _ _⟩
  · clear hr
    obtain ⟨i0, hi0, hz0, hz1, hz2⟩ := info_parts Tryz.info59
    have HI := Lib.hid hi0
    have HZ0 := Lib.hid hz0
    have HZ1 := Lib.hid hz1
    have HZ2 := Lib.hid hz2
    clear hi0 hz0 hz1 hz2
    go_enter Tryz.func37, Tryz.ntmps37
    go_wp2_with (at_builtin; refine wpList_append_row rfl _ _ 26 rfl w.heap.size 59 i0 _ 3 40 Tryz.underlying26 HI.out HZ0.out HZ1.out HZ2.out rfl (by decide) _ 0 [] rfl (Row.empty w _ 59 3 (Nat.le_refl _)) w.heap.size (some ⟨b, off, st⟩) n c xs rfl (HR.out.below ((Below.refl _ _).alloc (Nat.le_refl _) _)) H1.out ?c1 ?c2 ?c3 ?_)
    case c1 => unfold maxLen; omega
    case c2 => omega
    case c3 => simp
    intro v' w' hr' hb'
    have HF := Lib.hid (cloneOf_row ((Below.refl _ w).alloc (Nat.le_refl _) _) hr' hb')
    clear hr' hb'
    go_wp2
    go_ret
    exact HF.out

set_option maxRecDepth 100000 in
set_option maxHeartbeats 1000000 in
theorem clone78 (A : Option Addr) (n c : Nat) (xs : List Value) (w : World) (hr : Reads w w.heap.size 5 A n xs) (h1 : ∀ u ∈ xs, u.oneCell' = true) (hn : n * 56 ≤ 140737488355328) :
    Calls Tryz.prog 38 #[.slice A n c] w (CloneOf w 68 5 n xs) := by
  have HR := Lib.hid hr
  have H1 := Lib.hid h1
  clear h1
  have q1 : ∀ (w : World) (a : Option Addr) (n c n' c' : Nat), (binOp .eql 27 (.slice a n c) (.slice none n' c')).run Tryz.prog w = .ok (.bool a.isNone) w := fun w a n c n' c' => Lib.run_eql_slice_nil w _ _ a n c n' c' Tryz.underlying27
  rcases A with _ | ⟨b, off, st⟩
  · obtain rfl : n = 0 := by
      rcases Nat.eq_zero_or_pos n with h | h
      · exact h
      · obtain ⟨b, off, h, _⟩ := hr.2 h
        cases h
    have hx : xs = [] := List.eq_nil_of_length_eq_zero (by have := hr.1; omega)
    subst hx
    clear hr
    go_enter Tryz.func38, Tryz.ntmps38
    go_wp2
    go_ret
    exact ⟨none, 0, rfl, Reads.nil, by omega, Below.refl _ _⟩
  · clear hr
    obtain ⟨i0, hi0, hz0, hz1, hz2⟩ := info_parts Tryz.info68
    have HI := Lib.hid hi0
    have HZ0 := Lib.hid hz0
    have HZ1 := Lib.hid hz1
    have HZ2 := Lib.hid hz2
    clear hi0 hz0 hz1 hz2
    go_enter Tryz.func38, Tryz.ntmps38
    go_wp2_with (at_builtin; refine wpList_append_row rfl _ _ 27 rfl w.heap.size 68 i0 _ 5 56 Tryz.underlying27 HI.out HZ0.out HZ1.out HZ2.out rfl (by decide) _ 0 [] rfl (Row.empty w _ 68 5 (Nat.le_refl _)) w.heap.size (some ⟨b, off, st⟩) n c xs rfl (HR.out.below ((Below.refl _ _).alloc (Nat.le_refl _) _)) H1.out ?c1 ?c2 ?c3 ?_)
    case c1 => unfold maxLen; omega
    case c2 => omega
    case c3 => simp
    intro v' w' hr' hb'
    have HF := Lib.hid (cloneOf_row ((Below.refl _ w).alloc (Nat.le_refl _) _) hr' hb')
    clear hr' hb'
    go_wp2
    go_ret
    exact HF.out

end Go.Proofs.YtglbelmljdgaoaaGreatDoor
