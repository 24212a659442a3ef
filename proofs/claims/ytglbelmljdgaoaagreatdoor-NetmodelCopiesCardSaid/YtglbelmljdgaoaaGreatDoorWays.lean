/- GraphWays: its walk answers true. -/
import Derived.Test.YtglbelmljdgaoaaGreatDoorFact
import Derived.Test.YtglbelmljdgaoaaGreatDoorConn
namespace Go.Proofs.YtglbelmljdgaoaaGreatDoor
open Go.RowKit

theorem back_full {n : Nat} {l : List (Int × Int)} {es far : List Int} {tq : Int} (hv : Valid n l) (hes : Within l es) (h : FarInv n l es tq far []) : ∀ (d : Nat) (a : Int), 0 ≤ a → a < n → at_ far a = d → (back l es far tq (d + 1) a).length = d
  | 0, a, a0, a1, hd => by
    by_cases e : a = tq
    · rw [back, if_pos e]; rfl
    · obtain ⟨k, hf, p1, p2, _, _⟩ := find_some h ⟨a0, a1, by omega⟩ e
      omega
  | d + 1, a, a0, a1, hd => by
    by_cases e : a = tq
    · subst e; have := h.start; omega
    · obtain ⟨k, hf, p1, p2, hi, hk⟩ := find_some h ⟨a0, a1, by omega⟩ e
      obtain ⟨k0, k1⟩ := hes k hk
      obtain ⟨t0, t1⟩ := nxt_ok hv k0 k1 hi
      rw [back, if_neg e, hf]
      simp only [List.length_cons]
      rw [back_full hv hes h d _ t0 t1 (by omega)]

theorem path_yes {n : Nat} {l : List (Int × Int)} {es : List Int} {a tq : Int} (hv : Valid n l) (hes : Within l es) (ha : 0 ≤ a ∧ a < n) (hto : 0 ≤ tq ∧ tq < n) (h : 0 ≤ at_ (farL n l es tq) a) :
    (pathL n l es a tq).2 = true ∧ (pathL n l es a tq).1.length = (at_ (farL n l es tq) a).toNat := by
  have hn : ¬ (farL n l es tq).getD a.toNat 0 < 0 := by unfold at_ at h; omega
  rw [pathL, if_neg hn]
  refine ⟨rfl, ?_⟩
  exact back_full hv hes (far_inv hv hes hto) (at_ (farL n l es tq) a).toNat a ha.1 ha.2 (by omega)
theorem path_no {n : Nat} {l : List (Int × Int)} {es : List Int} {a tq : Int} (h : at_ (farL n l es tq) a < 0) : pathL n l es a tq = ([], false) := by
  unfold at_ at h
  rw [pathL, if_pos h]

theorem mem_all {m : Nat} {k : Int} : k ∈ allL m ↔ 0 ≤ k ∧ k < m := by
  simp only [allL, List.mem_map, List.mem_range]
  constructor
  · rintro ⟨i, hi, rfl⟩; exact ⟨Int.natCast_nonneg i, by simpa using hi⟩
  · rintro ⟨h0, h1⟩; exact ⟨k.toNat, by omega, by simp; omega⟩

/-- both ways in one: the error of both, the lengths, and what the components say -/
theorem ways_plain (n : Int) (l : List (Int × Int)) (a b : Int) : (pathE n l a b).2 = (pathE n l b a).2 ∧ (pathE n l a b).1.length = (pathE n l b a).1.length ∧
    ((pathE n l a b).2 = 0 ∨ (pathE n l a b).2 = 8 → gchk n l = 0 ∧ 0 ≤ a ∧ a < n ∧ 0 ≤ b ∧ b < n ∧
      ((parts n.toNat l (-1)).getD a.toNat 0 == (parts n.toNat l (-1)).getD b.toNat 0) = ((pathE n l a b).2 == 0)) := by
  by_cases h0 : gchk n l = 0
  · by_cases hr : a < 0 ∨ n ≤ a ∨ b < 0 ∨ n ≤ b
    · have e1 : pathE n l a b = ([], 4) := by rw [pathE, if_pos h0, if_pos hr]
      have e2 : pathE n l b a = ([], 4) := by rw [pathE, if_pos h0, if_pos (by omega)]
      rw [e1, e2]
      exact ⟨rfl, rfl, fun h => by simp at h⟩
    · obtain ⟨hn0, hn, hl, hv⟩ := gchk_ok h0
      obtain ⟨m, rfl⟩ := Int.eq_ofNat_of_zero_le hn0
      simp only [Int.toNat_natCast] at hv ⊢
      have ha : 0 ≤ a ∧ a < m := by omega
      have hb : 0 ≤ b ∧ b < m := by omega
      have hw := all_within l
      have hcn : Conn l (· ∈ allL l.length) a b ↔ at_ (parts m l (-1)) a = at_ (parts m l (-1)) b := by
        rw [parts_conn hv ha hb]
        constructor
        · exact fun h => h.mono fun k hk => by have := mem_all.1 hk; exact ⟨this.1, this.2, by omega⟩
        · exact fun h => h.mono fun k hk => mem_all.2 ⟨hk.1, hk.2.1⟩
      have hfc := far_conn hv hw hb ha
      have hd : ((parts m l (-1)).getD a.toNat 0 == (parts m l (-1)).getD b.toNat 0) = decide (at_ (parts m l (-1)) a = at_ (parts m l (-1)) b) := by
        unfold at_; rw [Bool.eq_iff_iff]; simp
      by_cases hf : 0 ≤ at_ (farL m l (allL l.length) b) a
      · have hs := far_symm hv hw ha hb hf
        have p1 := path_yes hv hw ha hb hf
        have p2 := path_yes hv hw hb ha (by omega : 0 ≤ at_ (farL m l (allL l.length) a) b)
        have e1 : pathE (m : Int) l a b = ((pathL m l (allL l.length) a b).1, 0) := by rw [pathE, if_pos h0, if_neg hr, Int.toNat_natCast, if_pos p1.1]
        have e2 : pathE (m : Int) l b a = ((pathL m l (allL l.length) b a).1, 0) := by rw [pathE, if_pos h0, if_neg (by omega), Int.toNat_natCast, if_pos p2.1]
        rw [e1, e2]
        refine ⟨rfl, by rw [p1.2, p2.2, hs], fun _ => ⟨h0, ha.1, ha.2, hb.1, hb.2, ?_⟩⟩
        rw [hd, decide_eq_true (hcn.1 (hfc.1 hf))]; rfl
      · have hf2 : at_ (farL m l (allL l.length) a) b < 0 := by
          rcases Int.lt_or_le (at_ (farL m l (allL l.length) a) b) 0 with h | h
          · exact h
          · have := far_symm hv hw hb ha h; omega
        have q1 := path_no (n := m) (l := l) (es := allL l.length) (a := a) (tq := b) (by omega)
        have q2 := path_no hf2
        have e1 : pathE (m : Int) l a b = ([], 8) := by rw [pathE, if_pos h0, if_neg hr, Int.toNat_natCast, q1]; rfl
        have e2 : pathE (m : Int) l b a = ([], 8) := by rw [pathE, if_pos h0, if_neg (by omega), Int.toNat_natCast, q2]; rfl
        rw [e1, e2]
        refine ⟨rfl, rfl, fun _ => ⟨h0, ha.1, ha.2, hb.1, hb.2, ?_⟩⟩
        rw [hd, decide_eq_false (fun e => hf (hfc.2 (hcn.2 e)))]; rfl
  · have e1 : pathE n l a b = ([], gchk n l) := by rw [pathE, if_neg h0]
    have e2 : pathE n l b a = ([], gchk n l) := by rw [pathE, if_neg h0]
    rw [e1, e2]
    refine ⟨rfl, rfl, fun h => ?_⟩
    exfalso
    unfold gchk at h h0
    split at h
    · simp at h
    · split at h <;> simp_all

end Go.Proofs.YtglbelmljdgaoaaGreatDoor
