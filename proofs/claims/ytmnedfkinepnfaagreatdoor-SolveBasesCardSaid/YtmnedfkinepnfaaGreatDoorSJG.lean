/- Matrices of texts that are built in place; slices.IsSorted, Contains, Equal at ints; solveFact. -/
import Derived.Test.YtmnedfkinepnfaaGreatDoorSJF
import Derived.Deep.QuietTactic
import Derived.BigQuiet
namespace Go.Proofs.YtmnedfkinepnfaaGreatDoor
open Go.RowKit

theorem map_at {xs : List Int} {i : Nat} (h : i < xs.length) : (xs.map I)[i]? = some (I (xs.getD i 0)) := by simp [h]
theorem less_any (x y : Int) (w : World) : Calls Tryz.prog 106 #[I x, I y] w fun e w' => e = .returned (.bool (decide (x < y))) ∧ w' = w := Tryz.cmp_Less_int2 x y w

set_option maxRecDepth 100000 in
set_option maxHeartbeats 400000 in
theorem sorted_ok (xs : List Int) (n : Nat) (A : Option Addr) (c : Nat) (w : World) (B : Nat) (hx : Reads w B 1 A n (xs.map I)) (hn : n ≤ 1000000) (hs : ∀ i, 0 < i → i < n → xs.getD (i - 1) 0 ≤ xs.getD i 0) :
    Calls Tryz.prog 41 #[.slice A n c] w fun e w' => e = .returned (.bool true) ∧ ∃ q, w.drewN q = w' := by
  have hl : xs.length = n := by have := hx.1; simpa using this
  have HS := Lib.hid hs
  have HL := Lib.hid hl
  clear hs hl
  go_enter Tryz.func41, Tryz.ntmps41
  go_wp2
  go_loopg [3] (n - 0) (fun r v wr => ∃ (k : Nat) (q : Nat), r = k ∧ v = I ((k : Int) - 1) ∧ k ≤ n ∧ w.drewN q = wr)
  case atStart => exact ⟨n, 0, rfl, rfl, by omega, rfl⟩
  case round =>
    obtain ⟨k, q, rfl, rfl, hk, rfl⟩ := hrel
    by_cases hlt : 1 < gk
    · obtain ⟨b, off, rfl, _, hc⟩ := hx.2 (by omega)
      have h1 := hc (gk - 1) _ (map_at (by have := HL.out; omega))
      have h2 := hc (gk - 2) _ (map_at (by have := HL.out; omega))
      have hle := HS.out (gk - 1) (by omega) (by omega)
      rw [show gk - 1 - 1 = gk - 2 by omega] at hle
      obtain ⟨p1, hp1⟩ : ∃ p, xs.getD (gk - 1) 0 = p := ⟨_, rfl⟩
      obtain ⟨p2, hp2⟩ : ∃ p, xs.getD (gk - 2) 0 = p := ⟨_, rfl⟩
      rw [hp1] at h1 hle
      rw [hp2] at h2 hle
      clear hp1 hp2 hc
      obtain ⟨k, rfl⟩ : ∃ k, gk = k + 2 := ⟨gk - 2, by omega⟩
      simp only [Nat.add_sub_cancel, show k + 2 - 1 = k + 1 by omega] at h1 h2
      have e1 : ((k + 2 : Nat) : Int) - 1 = (k + 1 : Nat) := by omega
      have e2 : ((k + 1 : Nat) : Int) - 1 = k := by omega
      rw [e1]
      have hd : decide (p1 < p2) = false := by simp; omega
      have b1 : (0 : Int) ≤ ((k + 1 : Nat) : Int) := by omega
      have b2 : ((k + 1 : Nat) : Int) < n := by omega
      have b3 : (0 : Int) ≤ (k : Int) := by omega
      have b4 : (k : Int) < n := by omega
      have b5 : (0 : Int) < ((k + 1 : Nat) : Int) := by omega
      clear e1
      have HX := Lib.hid (show ∀ q2, ∃ q3, w.drewN q3 = (w.drewN q).drewN q2 from fun q2 => ⟨q + q2, by rw [World.drewN_drewN]⟩)
      have g1 : (w.drewN q).cell? ⟨b, off + (k + 1), none⟩ = some (I p1) := h1
      have g2 : (w.drewN q).cell? ⟨b, off + k, none⟩ = some (I p2) := h2
      obtain ⟨wx, hwx⟩ : ∃ wx, w.drewN q = wx := ⟨_, rfl⟩
      rw [hwx] at g1 g2 HX ⊢
      clear hwx h1 h2
      go_wp2
      go_quiet ((go_at_call 106; exact Calls.quiet_of_same (less_any _ _ _)))
      go_wp2
      obtain ⟨q3, hq3⟩ := HX.out nq
      go_roundg (k + 1)
      case measure => omega
      case rel => exact ⟨k + 1, q3, rfl, by go_num, by omega, hq3⟩
    · go_wp2
      go_ret
      exact ⟨rfl, q, rfl⟩
theorem svN (w : World) (t : TypeId) (l : List ByteArray) : SV (w.alloc (.cells (l.map Sv).toArray t)) (some ⟨w.heap.size, 0, none⟩) l.length l := by
  have := reads_lits w t (l.map Sv)
  unfold SV
  rw [World.size_alloc]
  rw [List.length_map] at this
  exact this
/-- a row of ints that is read -/
theorem ints_cells {w : World} {B : Nat} {A : Option Addr} {l : List Nat} (h : Reads w B 1 A l.length (ints l)) (hl : 0 < l.length) : ∃ b off, A = some ⟨b, off, none⟩ ∧ ∀ j, j < (l.map fun p : Nat => (p : Int)).length → w.cell? ⟨b, off + j, none⟩ = some (.int .i64 ((l.map fun p : Nat => (p : Int)).getD j 0)) := by
  obtain ⟨b, off, rfl, _, hc⟩ := h.2 hl
  refine ⟨b, off, rfl, fun j hj => ?_⟩
  rw [List.length_map] at hj
  refine hc j _ ?_
  unfold ints
  rw [List.getElem?_map, List.getElem?_eq_getElem hj, List.getD_eq_getElem?_getD, List.getElem?_map, List.getElem?_eq_getElem hj]
  rfl
/-- a row of ints that is read, in the present world -/
def RdN (w : World) (A : Option Addr) (n : Nat) (l : List Nat) : Prop := Reads w w.heap.size 1 A n (ints l)
theorem RdN.below {w w' : World} {A : Option Addr} {n : Nat} {l : List Nat} (h : RdN w A n l) (hb : Below w.heap.size w w') : RdN w' A n l := (Reads.below h hb).more hb.size
theorem contains_cast (l : List Nat) (x : Nat) : (l.map fun p : Nat => (p : Int)).contains (x : Int) = l.contains x := by
  rw [Bool.eq_iff_iff, List.contains_iff_mem, List.contains_iff_mem, List.mem_map]
  constructor
  · rintro ⟨y, hy, e⟩
    have : y = x := by omega
    rw [← this]; exact hy
  · exact fun h => ⟨x, h, rfl⟩
theorem contI_any (l : List Nat) (n : Nat) (x : Nat) (A : Option Addr) (c : Nat) (w : World) (hr : Reads w w.heap.size 1 A n (ints l)) (hn : l.length = n) (hb : n ≤ 1000000) :
    Calls Tryz.prog 40 #[.slice A n c, I x] w fun e w' => e = .returned (.bool (l.contains x)) ∧ w' = w := by
  subst hn
  rcases Nat.eq_zero_or_pos l.length with h0 | h0
  · have e : l = [] := List.eq_nil_of_length_eq_zero h0
    subst e
    exact Tryz.slices_Contains_int_empty A c x w
  · obtain ⟨b, off, rfl, hc⟩ := ints_cells hr h0
    have h := Tryz.slices_Contains_int b off l.length c (l.map fun p : Nat => (p : Int)) x w (by rw [List.length_map]; exact Nat.le_refl _) (by omega) hc
    refine h.mono fun e w' ⟨h1, h2⟩ => ⟨?_, h2⟩
    rw [h1, List.take_of_length_le (by rw [List.length_map]; exact Nat.le_refl _), contains_cast]
theorem sortI_any (l : List Nat) (n : Nat) (A : Option Addr) (c : Nat) (w : World) (hr : Reads w w.heap.size 1 A n (ints l)) (hn : l.length = n) (hb : n ≤ 1000000) (hs : ∀ t u, t < u → u < l.length → l.getD t 0 < l.getD u 0) :
    Calls Tryz.prog 41 #[.slice A n c] w fun e w' => e = .returned (.bool true) ∧ ∃ q, w.drewN q = w' := by
  refine sorted_ok (l.map fun p : Nat => (p : Int)) n A c w w.heap.size ?_ hb fun i h0 hi => ?_
  · unfold ints at hr
    rw [List.map_map]
    exact hr
  · have h1 := hs (i - 1) i (by omega) (by omega)
    have e : ∀ j, j < l.length → (l.map fun p : Nat => (p : Int)).getD j 0 = (l.getD j 0 : Int) := fun j hj => by
      rw [List.getD_eq_getElem?_getD, List.getElem?_map, List.getElem?_eq_getElem hj, List.getD_eq_getElem?_getD, List.getElem?_eq_getElem hj]; rfl
    rw [e _ (by omega), e _ (by omega)]
    omega
theorem small_h5 {m : List (List ByteArray)} {n : Nat} (hs : smallB 5 (tx2 m) = true) (hn : m.length = n) : squareT (tx2 m) = 0 → n ≤ 5 ∧ ∀ r ∈ valsM (tx2 m), ∀ x ∈ r, FitR 14 x := fun h => by
  refine ⟨?_, fun r hr x hx => (small_fit hs (square_ok h).2.2 r hr x hx).mono (by omega)⟩
  have := (small_len hs).1
  rw [tx2, List.length_map] at this
  omega
theorem matL1 (w : World) (a00 : ByteArray) : SMat ((w.alloc (.cells #[.string a00] strT)).alloc (.cells #[.slice (some ⟨w.heap.size, 0, none⟩) 1 1] vecT)) (some ⟨w.heap.size + 1, 0, none⟩) 1 [[a00]] ∧ Below w.heap.size w ((w.alloc (.cells #[.string a00] strT)).alloc (.cells #[.slice (some ⟨w.heap.size, 0, none⟩) 1 1] vecT)) := by
  have h0 : SV (w.alloc (.cells #[.string a00] strT)) (some ⟨w.heap.size, 0, none⟩) 1 [a00] := by
    have h := svN w strT [a00]
    exact h
  replace h0 : SV ((w.alloc (.cells #[.string a00] strT)).alloc (.cells #[.slice (some ⟨w.heap.size, 0, none⟩) 1 1] vecT)) (some ⟨w.heap.size, 0, none⟩) 1 [a00] := h0.below (below_new _ _)
  have hr := reads_lits (w.alloc (.cells #[.string a00] strT)) vecT [.slice (some ⟨w.heap.size, 0, none⟩) 1 1]
  simp only [World.size_alloc] at hr
  refine ⟨⟨[.slice (some ⟨w.heap.size, 0, none⟩) 1 1], ?_, rfl, fun i u l hu hl => ?_⟩, ((Below.refl _ _).alloc (Nat.le_refl _) _).alloc (by simp; try omega) _⟩
  · simp only [World.size_alloc]
    exact hr
  · match i with
    | 0 =>
      simp at hu hl
      subst hu hl
      exact ss_of h0
    | i + 1 => simp at hl
theorem matL2 (w : World) (a00 a01 : ByteArray) : SMat ((w.alloc (.cells #[.string a00, .string a01] strT)).alloc (.cells #[.slice (some ⟨w.heap.size, 0, none⟩) 2 2] vecT)) (some ⟨w.heap.size + 1, 0, none⟩) 1 [[a00, a01]] ∧ Below w.heap.size w ((w.alloc (.cells #[.string a00, .string a01] strT)).alloc (.cells #[.slice (some ⟨w.heap.size, 0, none⟩) 2 2] vecT)) := by
  have h0 : SV (w.alloc (.cells #[.string a00, .string a01] strT)) (some ⟨w.heap.size, 0, none⟩) 2 [a00, a01] := by
    have h := svN w strT [a00, a01]
    exact h
  replace h0 : SV ((w.alloc (.cells #[.string a00, .string a01] strT)).alloc (.cells #[.slice (some ⟨w.heap.size, 0, none⟩) 2 2] vecT)) (some ⟨w.heap.size, 0, none⟩) 2 [a00, a01] := h0.below (below_new _ _)
  have hr := reads_lits (w.alloc (.cells #[.string a00, .string a01] strT)) vecT [.slice (some ⟨w.heap.size, 0, none⟩) 2 2]
  simp only [World.size_alloc] at hr
  refine ⟨⟨[.slice (some ⟨w.heap.size, 0, none⟩) 2 2], ?_, rfl, fun i u l hu hl => ?_⟩, ((Below.refl _ _).alloc (Nat.le_refl _) _).alloc (by simp; try omega) _⟩
  · simp only [World.size_alloc]
    exact hr
  · match i with
    | 0 =>
      simp at hu hl
      subst hu hl
      exact ss_of h0
    | i + 1 => simp at hl
theorem matL222 (w : World) (a00 a01 a10 a11 a20 a21 : ByteArray) : SMat ((((w.alloc (.cells #[.string a00, .string a01] strT)).alloc (.cells #[.string a10, .string a11] strT)).alloc (.cells #[.string a20, .string a21] strT)).alloc (.cells #[.slice (some ⟨w.heap.size, 0, none⟩) 2 2, .slice (some ⟨w.heap.size + 1, 0, none⟩) 2 2, .slice (some ⟨w.heap.size + 1 + 1, 0, none⟩) 2 2] vecT)) (some ⟨w.heap.size + 1 + 1 + 1, 0, none⟩) 3 [[a00, a01], [a10, a11], [a20, a21]] ∧ Below w.heap.size w ((((w.alloc (.cells #[.string a00, .string a01] strT)).alloc (.cells #[.string a10, .string a11] strT)).alloc (.cells #[.string a20, .string a21] strT)).alloc (.cells #[.slice (some ⟨w.heap.size, 0, none⟩) 2 2, .slice (some ⟨w.heap.size + 1, 0, none⟩) 2 2, .slice (some ⟨w.heap.size + 1 + 1, 0, none⟩) 2 2] vecT)) := by
  have h0 : SV (w.alloc (.cells #[.string a00, .string a01] strT)) (some ⟨w.heap.size, 0, none⟩) 2 [a00, a01] := by
    have h := svN w strT [a00, a01]
    exact h
  replace h0 : SV ((w.alloc (.cells #[.string a00, .string a01] strT)).alloc (.cells #[.string a10, .string a11] strT)) (some ⟨w.heap.size, 0, none⟩) 2 [a00, a01] := h0.below (below_new _ _)
  replace h0 : SV (((w.alloc (.cells #[.string a00, .string a01] strT)).alloc (.cells #[.string a10, .string a11] strT)).alloc (.cells #[.string a20, .string a21] strT)) (some ⟨w.heap.size, 0, none⟩) 2 [a00, a01] := h0.below (below_new _ _)
  replace h0 : SV ((((w.alloc (.cells #[.string a00, .string a01] strT)).alloc (.cells #[.string a10, .string a11] strT)).alloc (.cells #[.string a20, .string a21] strT)).alloc (.cells #[.slice (some ⟨w.heap.size, 0, none⟩) 2 2, .slice (some ⟨w.heap.size + 1, 0, none⟩) 2 2, .slice (some ⟨w.heap.size + 1 + 1, 0, none⟩) 2 2] vecT)) (some ⟨w.heap.size, 0, none⟩) 2 [a00, a01] := h0.below (below_new _ _)
  have h1 : SV ((w.alloc (.cells #[.string a00, .string a01] strT)).alloc (.cells #[.string a10, .string a11] strT)) (some ⟨w.heap.size + 1, 0, none⟩) 2 [a10, a11] := by
    have h := svN (w.alloc (.cells #[.string a00, .string a01] strT)) strT [a10, a11]
    simp only [World.size_alloc] at h
    exact h
  replace h1 : SV (((w.alloc (.cells #[.string a00, .string a01] strT)).alloc (.cells #[.string a10, .string a11] strT)).alloc (.cells #[.string a20, .string a21] strT)) (some ⟨w.heap.size + 1, 0, none⟩) 2 [a10, a11] := h1.below (below_new _ _)
  replace h1 : SV ((((w.alloc (.cells #[.string a00, .string a01] strT)).alloc (.cells #[.string a10, .string a11] strT)).alloc (.cells #[.string a20, .string a21] strT)).alloc (.cells #[.slice (some ⟨w.heap.size, 0, none⟩) 2 2, .slice (some ⟨w.heap.size + 1, 0, none⟩) 2 2, .slice (some ⟨w.heap.size + 1 + 1, 0, none⟩) 2 2] vecT)) (some ⟨w.heap.size + 1, 0, none⟩) 2 [a10, a11] := h1.below (below_new _ _)
  have h2 : SV (((w.alloc (.cells #[.string a00, .string a01] strT)).alloc (.cells #[.string a10, .string a11] strT)).alloc (.cells #[.string a20, .string a21] strT)) (some ⟨w.heap.size + 1 + 1, 0, none⟩) 2 [a20, a21] := by
    have h := svN ((w.alloc (.cells #[.string a00, .string a01] strT)).alloc (.cells #[.string a10, .string a11] strT)) strT [a20, a21]
    simp only [World.size_alloc] at h
    exact h
  replace h2 : SV ((((w.alloc (.cells #[.string a00, .string a01] strT)).alloc (.cells #[.string a10, .string a11] strT)).alloc (.cells #[.string a20, .string a21] strT)).alloc (.cells #[.slice (some ⟨w.heap.size, 0, none⟩) 2 2, .slice (some ⟨w.heap.size + 1, 0, none⟩) 2 2, .slice (some ⟨w.heap.size + 1 + 1, 0, none⟩) 2 2] vecT)) (some ⟨w.heap.size + 1 + 1, 0, none⟩) 2 [a20, a21] := h2.below (below_new _ _)
  have hr := reads_lits (((w.alloc (.cells #[.string a00, .string a01] strT)).alloc (.cells #[.string a10, .string a11] strT)).alloc (.cells #[.string a20, .string a21] strT)) vecT [.slice (some ⟨w.heap.size, 0, none⟩) 2 2, .slice (some ⟨w.heap.size + 1, 0, none⟩) 2 2, .slice (some ⟨w.heap.size + 1 + 1, 0, none⟩) 2 2]
  simp only [World.size_alloc] at hr
  refine ⟨⟨[.slice (some ⟨w.heap.size, 0, none⟩) 2 2, .slice (some ⟨w.heap.size + 1, 0, none⟩) 2 2, .slice (some ⟨w.heap.size + 1 + 1, 0, none⟩) 2 2], ?_, rfl, fun i u l hu hl => ?_⟩, ((((Below.refl _ _).alloc (Nat.le_refl _) _).alloc (by simp; try omega) _).alloc (by simp; try omega) _).alloc (by simp; try omega) _⟩
  · simp only [World.size_alloc]
    exact hr
  · match i with
    | 0 =>
      simp at hu hl
      subst hu hl
      exact ss_of h0
    | 1 =>
      simp at hu hl
      subst hu hl
      exact ss_of h1
    | 2 =>
      simp at hu hl
      subst hu hl
      exact ss_of h2
    | i + 3 => simp at hl
def sfA : List (List ByteArray) := [[⟨#[49]⟩, ⟨#[49]⟩], [⟨#[49]⟩, ⟨#[45, 49]⟩]]
def sfI : List (List ByteArray) := [[⟨#[50]⟩]]
def sfJ : List (List ByteArray) := [[⟨#[49, 47, 50]⟩]]
def sfK : List (List ByteArray) := [[⟨#[49]⟩, ⟨#[50]⟩]]
def sfN : List (List ByteArray) := [[⟨#[45, 50]⟩, ⟨#[49]⟩]]
def sfB : List (List ByteArray) := [[⟨#[49]⟩, ⟨#[48]⟩], [⟨#[50]⟩, ⟨#[48]⟩], [⟨#[48]⟩, ⟨#[49]⟩]]
def sfC : List (List ByteArray) := [[⟨#[49]⟩, ⟨#[49]⟩]]
theorem sf_rank : rankT (tx2 fourS) = (2, 0) := by decide +kernel
theorem sf_solve : solveT (tx2 sfA) (tx1 [⟨#[51]⟩, ⟨#[49]⟩]) = (tx1 [⟨#[50]⟩, ⟨#[49]⟩], 0) := by decide +kernel
theorem sf_inv : invT (tx2 sfI) = (tx2 sfJ, 0) := by decide +kernel
theorem sf_det : detT (tx2 fourS) = ([45, 50], 0) := by decide +kernel
theorem sf_ker : kerT (tx2 sfK) = (tx2 sfN, 0) := by decide +kernel
theorem sf_bas : basT (tx2 sfB) = ([0, 2], 0) := by decide +kernel
theorem sf_none : solveT (tx2 sfC) (tx1 [⟨#[49]⟩]) = ([], 10) := by decide +kernel
theorem RetVT.err {w : World} {r : List (List UInt8) × Int} {k : Int} {e : Ending} {w' : World} (h : RetVT w r e w') (hr : r = ([], k)) : ∃ A c, e = .returned (.tuple #[.slice A 0 c, I k]) ∧ Below w.heap.size w w' := by
  obtain ⟨A, n, c, m, rfl, h1, h2, h3, hb⟩ := h
  rw [hr] at h2 ⊢
  have hm : m = [] := by
    have := congrArg List.length h2
    rw [tx1, List.length_map] at this
    exact List.eq_nil_of_length_eq_zero this
  have hn := h1.len
  rw [hm] at hn
  obtain rfl : n = 0 := hn.symm
  exact ⟨A, c, rfl, hb⟩
set_option maxRecDepth 100000 in
set_option maxHeartbeats 8000000 in
theorem solveFact_any (w : World) (htab : Tab w) : Calls Tryz.prog 36 #[] w fun e w' => e = .returned (.bool true) ∧ Below w.heap.size w w' := by
  have HTB := Lib.hid htab
  clear htab
  have HB := Lib.hid (Below.refl w.heap.size w)
  go_enter Tryz.func36, Tryz.ntmps36
  have HC := Lib.hid (four_any w)
  go_wp2_with fail
  refine HC.out.mono ?_
  rintro e w1 ⟨A1, c1, rfl, hf, hb⟩
  clear HC
  have hbs := HB.out.size
  replace HB := Lib.hid (HB.out.trans (hb.mono hbs))
  clear hbs
  have HF1 := Lib.hid hf
  clear hb hf
  have HC := Lib.hid (srank_any fourS 2 A1 c1 w1 HF1.out (sh2_of (by decide)) (tab_below HTB.out HB.out))
  go_wp2_with fail
  refine HC.out.mono ?_
  rintro e w2 ⟨rfl, hb⟩
  clear HC
  rw [sf_rank]
  have hbs := HB.out.size
  replace HB := Lib.hid (HB.out.trans (hb.mono hbs))
  clear hbs
  replace HF1 := Lib.hid (HF1.out.below hb)
  clear hb
  clear HF1
  obtain ⟨hq, hb⟩ := mat22 w2 ⟨#[49]⟩ ⟨#[49]⟩ ⟨#[49]⟩ ⟨#[45, 49]⟩
  have hbs := HB.out.size
  replace HB := Lib.hid (HB.out.trans (hb.mono hbs))
  clear hbs
  clear hb
  have hv := svN (((w2.alloc (.cells #[.string ⟨#[49]⟩, .string ⟨#[49]⟩] strT)).alloc (.cells #[.string ⟨#[49]⟩, .string ⟨#[45, 49]⟩] strT)).alloc (.cells #[.slice (some ⟨w2.heap.size, 0, none⟩) 2 2, .slice (some ⟨w2.heap.size + 1, 0, none⟩) 2 2] vecT)) strT [⟨#[51]⟩, ⟨#[49]⟩]
  have hb := below_new (((w2.alloc (.cells #[.string ⟨#[49]⟩, .string ⟨#[49]⟩] strT)).alloc (.cells #[.string ⟨#[49]⟩, .string ⟨#[45, 49]⟩] strT)).alloc (.cells #[.slice (some ⟨w2.heap.size, 0, none⟩) 2 2, .slice (some ⟨w2.heap.size + 1, 0, none⟩) 2 2] vecT)) (.cells ([⟨#[51]⟩, ⟨#[49]⟩].map Sv).toArray strT)
  replace hq := hq.below hb
  have hbs := HB.out.size
  replace HB := Lib.hid (HB.out.trans (hb.mono hbs))
  clear hbs
  clear hb
  simp only [World.size_alloc, List.map_cons, List.map_nil] at hv hq
  unfold strT vecT at *
  have HC := Lib.hid (ssolve_any sfA 2 (some ⟨w2.heap.size + 1 + 1, 0, none⟩) 2 [⟨#[51]⟩, ⟨#[49]⟩] 2 _ 2 _ hq (sh2_of (by decide)) hv (sh1_of (by decide)) (tab_below HTB.out HB.out))
  go_wp2_with fail
  refine HC.out.mono ?_
  rintro e w3 h
  clear HC
  obtain ⟨Ax, nx, cx, rfl, hx, hxn, hb⟩ := h.lit sf_solve
  clear h hq hv
  have hbs := HB.out.size
  replace HB := Lib.hid (HB.out.trans (hb.mono hbs))
  clear hbs
  clear hb
  have Hx := Lib.hid hx
  have hx2 : nx = 2 := hxn.symm
  subst hx2
  clear hx hxn
  obtain ⟨hq, hb⟩ := matL1 w3 ⟨#[50]⟩
  have hbs := HB.out.size
  replace HB := Lib.hid (HB.out.trans (hb.mono hbs))
  clear hbs
  replace Hx := Lib.hid (Hx.out.below hb)
  have Hq := Lib.hid hq
  clear hq hb
  unfold strT vecT at *
  have HC := Lib.hid (sinverse_any sfI 1 _ 1 _ Hq.out (sh2_of (by decide)) (tab_below HTB.out HB.out))
  go_wp2_with fail
  refine HC.out.mono ?_
  rintro e w4 h
  clear HC
  obtain ⟨Av, nv, cv, rfl, hm, hn, hb⟩ := h.lit sf_inv
  clear h
  have hbs := HB.out.size
  replace HB := Lib.hid (HB.out.trans (hb.mono hbs))
  clear hbs
  replace Hx := Lib.hid (Hx.out.below hb)
  replace Hq := Lib.hid (Hq.out.below hb)
  have Hv := Lib.hid hm
  have hv2 : nv = 1 := hn.symm
  subst hv2
  clear hb hm hn
  clear Hq
  have HC := Lib.hid (four_any w4)
  go_wp2_with fail
  refine HC.out.mono ?_
  rintro e w5 ⟨A2, c2, rfl, hf, hb⟩
  clear HC
  have hbs := HB.out.size
  replace HB := Lib.hid (HB.out.trans (hb.mono hbs))
  clear hbs
  replace Hx := Lib.hid (Hx.out.below hb)
  replace Hv := Lib.hid (Hv.out.below hb)
  have HF2 := Lib.hid hf
  clear hb hf
  have HC := Lib.hid (sdet_any fourS 2 A2 c2 w5 HF2.out (sh2_of (by decide)) (tab_below HTB.out HB.out) (small_h5 (by decide +kernel) rfl))
  go_wp2_with fail
  refine HC.out.mono ?_
  rintro e w6 ⟨rfl, hb⟩
  clear HC
  rw [sf_det]
  have hbs := HB.out.size
  replace HB := Lib.hid (HB.out.trans (hb.mono hbs))
  clear hbs
  replace Hx := Lib.hid (Hx.out.below hb)
  replace Hv := Lib.hid (Hv.out.below hb)
  replace HF2 := Lib.hid (HF2.out.below hb)
  clear hb
  clear HF2
  obtain ⟨hq, hb⟩ := matL2 w6 ⟨#[49]⟩ ⟨#[50]⟩
  have hbs := HB.out.size
  replace HB := Lib.hid (HB.out.trans (hb.mono hbs))
  clear hbs
  replace Hx := Lib.hid (Hx.out.below hb)
  replace Hv := Lib.hid (Hv.out.below hb)
  have Hq := Lib.hid hq
  clear hq hb
  unfold strT vecT at *
  have HC := Lib.hid (skernel_any sfK 1 _ 1 _ Hq.out (sh2_of (by decide)) (tab_below HTB.out HB.out))
  go_wp2_with fail
  refine HC.out.mono ?_
  rintro e w7 h
  clear HC
  obtain ⟨Ak, nk, ck, rfl, hm, hn, hb⟩ := h.lit sf_ker
  clear h
  have hbs := HB.out.size
  replace HB := Lib.hid (HB.out.trans (hb.mono hbs))
  clear hbs
  replace Hx := Lib.hid (Hx.out.below hb)
  replace Hv := Lib.hid (Hv.out.below hb)
  replace Hq := Lib.hid (Hq.out.below hb)
  have Hk := Lib.hid hm
  have hk2 : nk = 1 := hn.symm
  subst hk2
  clear hb hm hn
  clear Hq
  obtain ⟨hq, hb⟩ := matL222 w7 ⟨#[49]⟩ ⟨#[48]⟩ ⟨#[50]⟩ ⟨#[48]⟩ ⟨#[48]⟩ ⟨#[49]⟩
  have hbs := HB.out.size
  replace HB := Lib.hid (HB.out.trans (hb.mono hbs))
  clear hbs
  replace Hx := Lib.hid (Hx.out.below hb)
  replace Hv := Lib.hid (Hv.out.below hb)
  replace Hk := Lib.hid (Hk.out.below hb)
  have Hq := Lib.hid hq
  clear hq hb
  unfold strT vecT at *
  have HC := Lib.hid (sbasis_any sfB 3 _ 3 _ Hq.out (sh2_of (by decide)) (tab_below HTB.out HB.out))
  go_wp2_with fail
  refine HC.out.mono ?_
  rintro e w8 ⟨vb, rfl, hbv, hb⟩
  clear HC
  rw [sf_bas] at hbv ⊢
  obtain ⟨Ab, cb, rfl⟩ := hbv.val
  have hbr := hbv.row.reads
  change Reads _ _ 1 Ab 2 (ints [0, 2]) at hbr
  have hbs := HB.out.size
  replace HB := Lib.hid (HB.out.trans (hb.mono hbs))
  clear hbs
  replace Hx := Lib.hid (Hx.out.below hb)
  replace Hv := Lib.hid (Hv.out.below hb)
  replace Hk := Lib.hid (Hk.out.below hb)
  replace Hq := Lib.hid (Hq.out.below hb)
  clear Hq
  have Hb := Lib.hid (show RdN _ Ab 2 [0, 2] from hbr)
  clear hb hbv hbr
  rw [show (ints ([0, 2], (0 : Int)).1).length = 2 from rfl]
  obtain ⟨hq, hb⟩ := matL2 w8 ⟨#[49]⟩ ⟨#[49]⟩
  have hbs := HB.out.size
  replace HB := Lib.hid (HB.out.trans (hb.mono hbs))
  clear hbs
  replace Hx := Lib.hid (Hx.out.below hb)
  replace Hv := Lib.hid (Hv.out.below hb)
  replace Hk := Lib.hid (Hk.out.below hb)
  replace Hb := Lib.hid (Hb.out.below hb)
  clear hb
  have hv := svN ((w8.alloc (.cells #[.string ⟨#[49]⟩, .string ⟨#[49]⟩] strT)).alloc (.cells #[.slice (some ⟨w8.heap.size, 0, none⟩) 2 2] vecT)) strT [⟨#[49]⟩]
  have hb := below_new ((w8.alloc (.cells #[.string ⟨#[49]⟩, .string ⟨#[49]⟩] strT)).alloc (.cells #[.slice (some ⟨w8.heap.size, 0, none⟩) 2 2] vecT)) (.cells ([⟨#[49]⟩].map Sv).toArray strT)
  replace hq := hq.below hb
  have hbs := HB.out.size
  replace HB := Lib.hid (HB.out.trans (hb.mono hbs))
  clear hbs
  replace Hx := Lib.hid (Hx.out.below hb)
  replace Hv := Lib.hid (Hv.out.below hb)
  replace Hk := Lib.hid (Hk.out.below hb)
  replace Hb := Lib.hid (Hb.out.below hb)
  clear hb
  simp only [World.size_alloc, List.map_cons, List.map_nil] at hv hq
  unfold strT vecT at *
  have HC := Lib.hid (ssolve_any sfC 1 (some ⟨w8.heap.size + 1, 0, none⟩) 1 [⟨#[49]⟩] 1 _ 1 _ hq (sh2_of (by decide)) hv (sh1_of (by decide)) (tab_below HTB.out HB.out))
  go_wp2_with fail
  refine HC.out.mono ?_
  rintro e w9 h
  clear HC
  obtain ⟨Ay, cy, rfl, hb⟩ := h.err sf_none
  clear h hq hv
  have hbs := HB.out.size
  replace HB := Lib.hid (HB.out.trans (hb.mono hbs))
  clear hbs
  replace Hx := Lib.hid (Hx.out.below hb)
  replace Hv := Lib.hid (Hv.out.below hb)
  replace Hk := Lib.hid (Hk.out.below hb)
  replace Hb := Lib.hid (Hb.out.below hb)
  clear hb
  have HX := Lib.hid (fine_any [0, 0, 0, 0, 0, 0] 6 (some ⟨w9.heap.size, 0, none⟩) 6 (w9.alloc (.cells #[I 0, I 0, I 0, I 0, I 0, I 0] 25)) _ (reads_lits w9 _ [I 0, I 0, I 0, I 0, I 0, I 0]) (by omega))
  rw [show fineB [0, 0, 0, 0, 0, 0] = true from rfl] at HX
  have hb := below_new w9 (.cells #[I 0, I 0, I 0, I 0, I 0, I 0] 25)
  have hbs := HB.out.size
  replace HB := Lib.hid (HB.out.trans (hb.mono hbs))
  clear hbs
  replace Hx := Lib.hid (Hx.out.below hb)
  replace Hv := Lib.hid (Hv.out.below hb)
  replace Hk := Lib.hid (Hk.out.below hb)
  replace Hb := Lib.hid (Hb.out.below hb)
  clear hb
  go_wp2_with fail
  refine HX.out.mono ?_
  rintro e w90 ⟨rfl, rfl⟩
  clear HX
  generalize w9.alloc (.cells #[I 0, I 0, I 0, I 0, I 0, I 0] 25) = w91 at *
  have hv := svN w91 strT [⟨#[50]⟩, ⟨#[49]⟩]
  have hb := below_new w91 (.cells ([⟨#[50]⟩, ⟨#[49]⟩].map Sv).toArray strT)
  have hbs := HB.out.size
  replace HB := Lib.hid (HB.out.trans (hb.mono hbs))
  clear hbs
  replace Hx := Lib.hid (Hx.out.below hb)
  replace Hv := Lib.hid (Hv.out.below hb)
  replace Hk := Lib.hid (Hk.out.below hb)
  replace Hb := Lib.hid (Hb.out.below hb)
  clear hb
  simp only [List.map_cons, List.map_nil] at hv
  unfold strT at *
  have HC := Lib.hid (equalV_any [⟨#[50]⟩, ⟨#[49]⟩] [⟨#[50]⟩, ⟨#[49]⟩] 2 2 Ax _ cx 2 _ Hx.out hv (by decide))
  go_wp2_with fail
  refine HC.out.mono ?_
  rintro e w10 ⟨rfl, hb⟩
  clear HC
  simp only [decide_true]
  have hbs := HB.out.size
  replace HB := Lib.hid (HB.out.trans (hb.mono hbs))
  clear hbs
  replace Hx := Lib.hid (Hx.out.below hb)
  replace Hv := Lib.hid (Hv.out.below hb)
  replace Hk := Lib.hid (Hk.out.below hb)
  replace Hb := Lib.hid (Hb.out.below hb)
  clear hb hv
  clear Hx
  obtain ⟨hq, hb⟩ := matL1 w10 ⟨#[49, 47, 50]⟩
  have hbs := HB.out.size
  replace HB := Lib.hid (HB.out.trans (hb.mono hbs))
  clear hbs
  replace Hv := Lib.hid (Hv.out.below hb)
  replace Hk := Lib.hid (Hk.out.below hb)
  replace Hb := Lib.hid (Hb.out.below hb)
  have Hq := Lib.hid hq
  clear hq hb
  unfold strT vecT at *
  have HC := Lib.hid (same_any sfJ sfJ 1 1 Av _ cv 1 _ Hv.out Hq.out (by decide) (by decide))
  go_wp2_with fail
  refine HC.out.mono ?_
  rintro e w11 ⟨rfl, hb⟩
  clear HC
  simp only [decide_true]
  have hbs := HB.out.size
  replace HB := Lib.hid (HB.out.trans (hb.mono hbs))
  clear hbs
  replace Hv := Lib.hid (Hv.out.below hb)
  replace Hk := Lib.hid (Hk.out.below hb)
  replace Hb := Lib.hid (Hb.out.below hb)
  replace Hq := Lib.hid (Hq.out.below hb)
  clear hb
  clear Hq Hv
  obtain ⟨hq, hb⟩ := matL2 w11 ⟨#[45, 50]⟩ ⟨#[49]⟩
  have hbs := HB.out.size
  replace HB := Lib.hid (HB.out.trans (hb.mono hbs))
  clear hbs
  replace Hk := Lib.hid (Hk.out.below hb)
  replace Hb := Lib.hid (Hb.out.below hb)
  have Hq := Lib.hid hq
  clear hq hb
  unfold strT vecT at *
  have HC := Lib.hid (same_any sfN sfN 1 1 Ak _ ck 1 _ Hk.out Hq.out (by decide) (by decide))
  go_wp2_with fail
  refine HC.out.mono ?_
  rintro e w12 ⟨rfl, hb⟩
  clear HC
  simp only [decide_true]
  have hbs := HB.out.size
  replace HB := Lib.hid (HB.out.trans (hb.mono hbs))
  clear hbs
  replace Hk := Lib.hid (Hk.out.below hb)
  replace Hb := Lib.hid (Hb.out.below hb)
  replace Hq := Lib.hid (Hq.out.below hb)
  clear hb
  clear Hq Hk
  have hi := reads_lits w12 intT [I 0, I 2]
  have hb := below_new w12 (.cells #[I 0, I 2] intT)
  have hbs := HB.out.size
  replace HB := Lib.hid (HB.out.trans (hb.mono hbs))
  clear hbs
  replace Hb := Lib.hid (Hb.out.below hb)
  clear hb
  obtain ⟨b1, o1, rfl, hc1⟩ := ints_cells (l := [0, 2]) Hb.out (by decide)
  obtain ⟨b2, o2, e2, hc2⟩ := ints_cells (l := [0, 2]) (show Reads _ _ 1 (some ⟨w12.heap.size, 0, none⟩) 2 (ints [0, 2]) from hi) (by decide)
  injection e2 with e2
  injection e2 with e3 e4
  subst e3 e4
  unfold intT at *
  have HC := Lib.hid (Tryz.slices_Equal_int b1 o1 2 cb _ 0 2 2 [0, 2] [0, 2] _ (by decide) (by decide) (by decide) (by decide) hc1 hc2)
  clear hi hc1 hc2
  go_wp2_with fail
  refine HC.out.mono ?_
  rintro e w99 ⟨rfl, q, rfl⟩
  clear HC
  have HBF := Lib.hid (below_drewN HB.out q)
  go_wp2
  go_ret
  exact ⟨rfl, HBF.out⟩
end Go.Proofs.YtmnedfkinepnfaaGreatDoor
