/- The keep's four and matrixFact. What the walks of the matrix laws share. -/
import Derived.Test.YtgecdcjfncfmcaaGreatDoorJVA
import Derived.Test.YtgecdcjfncfmcaaGreatDoorJW
import Derived.Test.YtgecdcjfncfmcaaGreatDoorJX
namespace Go.Proofs.YtgecdcjfncfmcaaGreatDoor
open Go.RowKit

theorem sv2 (w : World) (t : TypeId) (a b : ByteArray) : SV (w.alloc (.cells #[.string a, .string b] t)) (some ⟨w.heap.size, 0, none⟩) 2 [a, b] := reads2 w t a b
theorem ss_of {w : World} {A : Option Addr} {n c : Nat} {l : List ByteArray} (h : SV w A n l) : SS w (.slice A n c) l := by
  have hl := h.len
  subst hl
  exact ⟨A, c, rfl, h⟩
theorem mat22 (w : World) (a b c d : ByteArray) : SMat (((w.alloc (.cells #[.string a, .string b] strT)).alloc (.cells #[.string c, .string d] strT)).alloc (.cells #[.slice (some ⟨w.heap.size, 0, none⟩) 2 2, .slice (some ⟨w.heap.size + 1, 0, none⟩) 2 2] vecT)) (some ⟨w.heap.size + 1 + 1, 0, none⟩) 2 [[a, b], [c, d]] ∧
    Below w.heap.size w (((w.alloc (.cells #[.string a, .string b] strT)).alloc (.cells #[.string c, .string d] strT)).alloc (.cells #[.slice (some ⟨w.heap.size, 0, none⟩) 2 2, .slice (some ⟨w.heap.size + 1, 0, none⟩) 2 2] vecT)) := by
  have h1 := sv2 w strT a b
  have b1 := below_new (w.alloc (.cells #[.string a, .string b] strT)) (.cells #[.string c, .string d] strT)
  have h2 := sv2 (w.alloc (.cells #[.string a, .string b] strT)) strT c d
  have b2 := below_new ((w.alloc (.cells #[.string a, .string b] strT)).alloc (.cells #[.string c, .string d] strT)) (.cells #[.slice (some ⟨w.heap.size, 0, none⟩) 2 2, .slice (some ⟨w.heap.size + 1, 0, none⟩) 2 2] vecT)
  have k1 := (h1.below b1).below b2
  have k2 := h2.below b2
  have hr := reads_lits ((w.alloc (.cells #[.string a, .string b] strT)).alloc (.cells #[.string c, .string d] strT)) vecT [.slice (some ⟨w.heap.size, 0, none⟩) 2 2, .slice (some ⟨w.heap.size + 1, 0, none⟩) 2 2]
  rw [World.size_alloc, World.size_alloc w] at hr
  rw [World.size_alloc w] at k2
  refine ⟨⟨[.slice (some ⟨w.heap.size, 0, none⟩) 2 2, .slice (some ⟨w.heap.size + 1, 0, none⟩) 2 2], ?_, rfl, fun i u l hu hl => ?_⟩, (((Below.refl _ _).alloc (Nat.le_refl _) _).alloc (by simp) _).alloc (by simp; omega) _⟩
  · rw [World.size_alloc, World.size_alloc, World.size_alloc]
    exact hr
  · match i with
    | 0 =>
      simp at hu hl
      subst hu hl
      exact ss_of k1
    | 1 =>
      simp at hu hl
      subst hu hl
      exact ss_of k2
    | i + 2 => simp at hl
def fourS : List (List ByteArray) := [[⟨#[49]⟩, ⟨#[50]⟩], [⟨#[51]⟩, ⟨#[52]⟩]]
theorem sh2_of {m : List (List ByteArray)} (h : (m.all fun l => l.all fun s => decide (s.size ≤ 9223372036854775807)) = true) : Sh2 m := fun l hl s hs => by
  rw [List.all_eq_true] at h
  have h1 := h l hl
  rw [List.all_eq_true] at h1
  exact of_decide_eq_true (h1 s hs)
theorem sh1_of {l : List ByteArray} (h : (l.all fun s => decide (s.size ≤ 9223372036854775807)) = true) : Sh1 l := fun s hs => by
  rw [List.all_eq_true] at h
  exact of_decide_eq_true (h s hs)
def RetM0 (w : World) (m : List (List ByteArray)) (e : Ending) (w' : World) : Prop := ∃ A c, e = .returned (.slice A 2 c) ∧ SMat w' A 2 m ∧ Below w.heap.size w w'
/-- a result that is a known matrix -/
theorem RetMT.lit {w : World} {r : MT × Int} {m : List (List ByteArray)} {e : Ending} {w' : World} (h : RetMT w r e w') (hr : r = (tx2 m, 0)) : ∃ A n c, e = .returned (.tuple #[.slice A n c, I 0]) ∧ SMat w' A n m ∧ m.length = n ∧ Below w.heap.size w w' := by
  obtain ⟨A, n, c, m', rfl, h1, h2, h3, hb⟩ := h
  rw [hr] at h2 ⊢
  obtain rfl := tx2_inj h2
  exact ⟨A, n, c, rfl, h1, by obtain ⟨_, _, h, _⟩ := h1; exact h, hb⟩
theorem RetVT.lit {w : World} {r : List (List UInt8) × Int} {l : List ByteArray} {e : Ending} {w' : World} (h : RetVT w r e w') (hr : r = (tx1 l, 0)) : ∃ A n c, e = .returned (.tuple #[.slice A n c, I 0]) ∧ SV w' A n l ∧ l.length = n ∧ Below w.heap.size w w' := by
  obtain ⟨A, n, c, m', rfl, h1, h2, h3, hb⟩ := h
  rw [hr] at h2 ⊢
  obtain rfl := tx1_inj h2
  exact ⟨A, n, c, rfl, h1, h1.len, hb⟩
end Go.Proofs.YtgecdcjfncfmcaaGreatDoor
namespace Go.Proofs.YtgecdcjfncfmcaaGreatDoor
open Go.RowKit

abbrev matT : TypeId := 57
theorem sms_of {w : World} {vs : List Value} {ms : List (List (List ByteArray))} (hl : ms.length = vs.length) (h : ∀ (i : Nat) (u : Value) (m : List (List ByteArray)), vs[i]? = some u → ms[i]? = some m → ∃ A n c, u = .slice A n c ∧ SMat w A n m) :
    SMs (w.alloc (.cells vs.toArray matT)) (some ⟨w.heap.size, 0, none⟩) vs.length ms ∧ Below w.heap.size w (w.alloc (.cells vs.toArray matT)) := by
  have hb := below_new w (.cells vs.toArray matT)
  refine ⟨⟨vs, ?_, hl, fun i u m h1 h2 => ?_⟩, hb⟩
  · have := reads_lits w matT vs
    rw [World.size_alloc]
    exact this
  · obtain ⟨A, n, c, rfl, hm⟩ := h i u m h1 h2
    have hn : m.length = n := by obtain ⟨_, _, h, _⟩ := hm; exact h
    subst hn
    exact ⟨A, c, rfl, hm.below hb⟩
theorem sms1 {w : World} {A : Option Addr} {n c : Nat} {m : List (List ByteArray)} (h : SMat w A n m) : SMs (w.alloc (.cells #[.slice A n c] matT)) (some ⟨w.heap.size, 0, none⟩) 1 [m] ∧ Below w.heap.size w (w.alloc (.cells #[.slice A n c] matT)) :=
  sms_of (vs := [.slice A n c]) rfl fun i u m' h1 h2 => by
    match i with
    | 0 => simp at h1 h2; subst h1 h2; exact ⟨A, n, c, rfl, h⟩
    | i + 1 => simp at h1
theorem sms2 {w : World} {A B : Option Addr} {n c k d : Nat} {m l : List (List ByteArray)} (h : SMat w A n m) (g : SMat w B k l) : SMs (w.alloc (.cells #[.slice A n c, .slice B k d] matT)) (some ⟨w.heap.size, 0, none⟩) 2 [m, l] ∧ Below w.heap.size w (w.alloc (.cells #[.slice A n c, .slice B k d] matT)) :=
  sms_of (vs := [.slice A n c, .slice B k d]) rfl fun i u m' h1 h2 => by
    match i with
    | 0 => simp at h1 h2; subst h1 h2; exact ⟨A, n, c, rfl, h⟩
    | 1 => simp at h1 h2; subst h1 h2; exact ⟨B, k, d, rfl, g⟩
    | i + 2 => simp at h1
/-- strings of texts -/
def unT (t : MT) : List (List ByteArray) := t.map mkS
theorem tx_un (t : MT) : tx2 (unT t) = t := by
  unfold tx2 unT
  rw [List.map_map]
  conv => rhs; rw [← List.map_id t]
  exact List.map_congr_left fun l _ => tx_mk l
theorem RetMT.known {w : World} {r : MT × Int} {m : List (List ByteArray)} {e : Ending} {w' : World} (h : RetMT w r e w') (hr : r = (tx2 m, 0)) : ∃ A n c, e = .returned (.tuple #[.slice A n c, I 0]) ∧ SMat w' A n m ∧ m.length = n ∧ Sh2 m ∧ Below w.heap.size w w' := by
  obtain ⟨A, n, c, m', rfl, h1, h2, h3, hb⟩ := h
  rw [hr] at h2 ⊢
  obtain rfl := tx2_inj h2
  exact ⟨A, n, c, rfl, h1, by obtain ⟨_, _, h, _⟩ := h1; exact h, h3, hb⟩
/-- all rows are short -/
def Nar (m : List (List ByteArray)) : Prop := m.length ≤ 1000000 ∧ ∀ l ∈ m, l.length ≤ 1000000
theorem nar_chk {m : List (List ByteArray)} (h : chkM (tx2 m) = 0) : Nar m := by
  have v := chkM_ok h
  refine ⟨by have := v.hn; simp [tx2] at this; omega, fun l hl => (val2_of v l hl).2⟩
theorem lg_any {N : Nat} {ms : List (List (List ByteArray))} (h : ms.any (lgM N) = false) {m : List (List ByteArray)} (hm : m ∈ ms) : smallB N (tx2 m) = true := by
  rw [smallB_lg]
  cases e : lgM N m with
  | false => rfl
  | true => rw [List.any_eq_true.2 ⟨m, hm, e⟩] at h; cases h
end Go.Proofs.YtgecdcjfncfmcaaGreatDoor
