/- Is a list of strings among lists of strings? (the closure of StationIsolates, slices.IndexFunc, slices.ContainsFunc) -/
import Derived.Test.YtphiiflcpeploaaSFact
namespace Go.Proofs.Ytphiiflcpeploaa
open Go.RowKit

theorem equalS_any (xs ys : List ByteArray) (n m : Nat) (A B : Option Addr) (c d : Nat) (w : World) (K L : Nat) (hx : Reads w K 1 A n (xs.map S)) (hy : Reads w L 1 B m (ys.map S)) (hn : n ≤ 1000000) (hm : m ≤ 1000000) :
    Calls Try.prog 30 #[.slice A n c, .slice B m d] w fun e w' => e = .returned (.bool (decide (xs = ys))) ∧ ∃ q, w' = w.drewN q := by
  have hxl : xs.length = n := by have := hx.1; simpa using this
  have hyl : ys.length = m := by have := hy.1; simpa using this
  subst hxl hyl
  by_cases hl : xs.length = ys.length
  · by_cases h0 : xs.length = 0
    · have e1 : xs = [] := List.eq_nil_of_length_eq_zero h0
      have e2 : ys = [] := List.eq_nil_of_length_eq_zero (by omega)
      subst e1 e2
      exact (Try.slices_Equal_string_empty A B c 0 d w (by omega)).mono fun e w' ⟨h1, h2⟩ => ⟨by rw [h1]; simp, 0, by rw [h2]; rfl⟩
    · obtain ⟨b1, o1, rfl, _, hc1⟩ := hx.2 (by omega)
      obtain ⟨b2, o2, rfl, _, hc2⟩ := hy.2 (by omega)
      refine (Try.slices_Equal_string b1 o1 xs.length c b2 o2 ys.length d xs ys w (Nat.le_refl _) (Nat.le_refl _) (by omega) (by omega) (fun j hj => hc1 j _ (by simp [hj])) (fun j hj => hc2 j _ (by simp [hj]))).mono fun e w' ⟨h1, h2⟩ => ⟨?_, h2⟩
      rw [h1, List.take_of_length_le (Nat.le_refl _), List.take_of_length_le (Nat.le_refl _)]
  · exact (Try.slices_Equal_string_lens A B xs.length c ys.length d w hl).mono fun e w' ⟨h1, h2⟩ => ⟨by rw [h1]; congr 2; symm; simp; intro h; exact hl (by rw [h]), 0, by rw [h2]; rfl⟩

set_option maxRecDepth 100000 in
set_option maxHeartbeats 400000 in
theorem cl29 (ys : List ByteArray) (x : ByteArray) (A : Option Addr) (c g m : Nat) (w : World) (_hm : ys.length = m) (hr : Reads w w.heap.size 1 A m (ys.map S)) (hc : w.cell? ⟨g, 0, none⟩ = some (.string x)) (hl : m ≤ 1000000) :
    Calls Try.prog 29 #[.slice A m c, .pointer (some ⟨g, 0, none⟩)] w fun e w' => e = .returned (.bool (decide (ys = [x]))) ∧ Below w.heap.size w w' := by
  have HR := Lib.hid hr
  have HE := Lib.hid (equalS_any ys [x] m 1 A (some ⟨w.heap.size, 0, none⟩) c 1 (w.alloc (.cells #[.string x] 9)) _ _ (hr.below ((Below.refl _ w).alloc (Nat.le_refl _) _)) (reads_one w 9 (.string x)) hl (by omega))
  have hlt := World.block_lt_of_cell? w _ hc
  clear hr
  go_enter Try.func29, Try.ntmps29
  go_wp2_with fail
  refine HE.out.mono ?_
  rintro e w1 ⟨rfl, q, rfl⟩
  clear HE
  go_wp2
  go_ret
  exact ⟨rfl, below_drewN ((Below.refl _ w).alloc (Nat.le_refl _) _) q⟩

def lsIdx (x : ByteArray) : List (List ByteArray) → Nat → Int
  | [], _ => -1
  | a :: l, i => if a = [x] then (i : Int) else lsIdx x l (i + 1)
theorem lsIdx_pos {x : ByteArray} : ∀ (l : List (List ByteArray)) (i : Nat), [x] ∈ l → 0 ≤ lsIdx x l i
  | [], _, h => by simp at h
  | a :: l, i, h => by
    rw [lsIdx]
    split
    · omega
    · rename_i ha
      rcases List.mem_cons.1 h with h | h
      · exact absurd h.symm ha
      · exact lsIdx_pos l (i + 1) h

set_option maxRecDepth 100000 in
set_option maxHeartbeats 400000 in
theorem idx29 (l : List (List ByteArray)) (vs : List Value) (x : ByteArray) (v : Value) (base g : Nat) (w : World) (hs : Strs2 w base v vs l) (hc : w.cell? ⟨g, 0, none⟩ = some (.string x)) (hn : l.length ≤ 1000) (hy : ∀ ys ∈ l, ys.length ≤ 1000) :
    Calls Try.prog 57 #[v, .func (.func 29) #[] #[.pointer (some ⟨g, 0, none⟩)]] w fun e w' => e = .returned (I (lsIdx x l 0)) ∧ Below w.heap.size w w' := by
  have HS := Lib.hid hs
  have HC := Lib.hid hc
  have HY := Lib.hid hy
  obtain ⟨A, c, rfl⟩ := hs.outer.val
  clear hs hc hy
  go_enter Try.func57, Try.ntmps57
  go_wp2
  go_loopg [8] (l.length - 0) (fun r u wr => ∃ j : Nat, r = l.length - j ∧ u = I j ∧ j ≤ l.length ∧ Below w.heap.size w wr ∧ Hid (lsIdx x (l.drop j) j = lsIdx x l 0))
  case atStart => exact ⟨0, rfl, rfl, by omega, Below.refl _ _, rfl⟩
  case round =>
    obtain ⟨j, rfl, rfl, hj, hb, HF⟩ := hrel
    obtain ⟨wa, rfl⟩ : ∃ wa : World, wa = wr := ⟨_, rfl⟩
    by_cases hlt : j < l.length
    · have hsa := HS.out.call hb
      have hvl := hsa.len
      obtain ⟨og, ooff, ocap, ocur, hov, _⟩ := hsa.outer.form (by omega)
      injection hov with hov1 _ hov2
      subst hov1 hov2
      obtain ⟨u, hu⟩ : ∃ u, vs[j]? = some u := ⟨_, List.getElem?_eq_getElem (by omega)⟩
      have hoc := hsa.outer.cell_at hu
      have hin := hsa.inner j u l[j] hu (List.getElem?_eq_getElem hlt)
      obtain ⟨UA, uc, rfl⟩ := hin.val
      have hyl := HY.out l[j] (List.getElem_mem hlt)
      have HF2 := Lib.hid (show (if l[j] = [x] then (j : Int) else lsIdx x (l.drop (j + 1)) (j + 1)) = lsIdx x l 0 by
        have := HF.out
        rw [List.drop_eq_getElem_cons hlt, lsIdx] at this
        exact this)
      have hcg : wa.cell? ⟨g, 0, none⟩ = some (.string x) := (hb.cell (p := ⟨g, 0, none⟩) (World.block_lt_of_cell? w _ HC.out)).trans HC.out
      have HCALL := Lib.hid (cl29 l[j] x UA uc g _ wa rfl hin.reads hcg (by omega))
      have HB := Lib.hid hb
      have hol := World.block_lt_of_cell? wa _ hoc
      obtain ⟨ys, hys⟩ : ∃ ys, l[j] = ys := ⟨_, rfl⟩
      rw [hys] at hoc HF2 HCALL
      clear hys hb hcg hin hsa hu hvl HF hyl
      by_cases h : ys = [x]
      · have HX := Lib.hid (show lsIdx x l 0 = j by rw [← HF2.out, if_pos h])
        have hd : decide (ys = [x]) = true := by simp [h]
        rw [hd] at HCALL
        clear h hd HF2
        go_wp2_with (go_at_call 29; refine HCALL.out.mono ?_; rintro e w2 ⟨rfl, hb2⟩; have HB2 := Lib.hid hb2; clear hb2)
        go_ret
        exact ⟨ret_int HX.out.symm, HB.out.trans (HB2.out.mono HB.out.size)⟩
      · have HX := Lib.hid (show lsIdx x (l.drop (j + 1)) (j + 1) = lsIdx x l 0 by rw [← HF2.out, if_neg h])
        have hd : decide (ys = [x]) = false := by simp [h]
        rw [hd] at HCALL
        clear h hd HF2
        go_wp2_with (go_at_call 29; refine HCALL.out.mono ?_; rintro e w2 ⟨rfl, hb2⟩; have HB2 := Lib.hid hb2; clear hb2)
        go_roundg (l.length - (j + 1))
        case measure => omega
        case rel => exact ⟨j + 1, rfl, by go_num, by omega, HB.out.trans (HB2.out.mono HB.out.size), HX⟩
    · obtain rfl : j = l.length := by omega
      have HX := Lib.hid (show lsIdx x l 0 = -1 by rw [← HF.out, List.drop_of_length_le (Nat.le_refl _), lsIdx])
      have HB := Lib.hid hb
      clear hb
      go_wp2
      go_ret
      exact ⟨ret_int HX.out.symm, HB.out⟩

set_option maxRecDepth 100000 in
set_option maxHeartbeats 400000 in
theorem has29 (l : List (List ByteArray)) (vs : List Value) (x : ByteArray) (v : Value) (base g : Nat) (w : World) (hs : Strs2 w base v vs l) (hc : w.cell? ⟨g, 0, none⟩ = some (.string x)) (hn : l.length ≤ 1000) (hy : ∀ ys ∈ l, ys.length ≤ 1000) (hm : [x] ∈ l) :
    Calls Try.prog 28 #[v, .func (.func 29) #[] #[.pointer (some ⟨g, 0, none⟩)]] w fun e w' => e = .returned (.bool true) ∧ Below w.heap.size w w' := by
  have H := Lib.hid (idx29 l vs x v base g w hs hc hn hy)
  have hp := lsIdx_pos l 0 hm
  generalize lsIdx x l 0 = r at *
  clear hs hc hy hm
  go_enter Try.func28, Try.ntmps28
  go_wp2_with fail
  refine H.out.mono ?_
  rintro e w1 ⟨rfl, hb⟩
  have HB := Lib.hid hb
  have ht : decide (0 ≤ r) = true := by simpa using hp
  clear hb H
  go_wp2
  go_ret
  exact ⟨by first | rfl | simp [hp], HB.out⟩
end Go.Proofs.Ytphiiflcpeploaa
