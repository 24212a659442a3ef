/- graph.tree, graph.Tree, graph.Bridges, graph.Components. -/
import Derived.Test.YtglbelmljdgaoaaDoorParts
import Derived.Test.YtglbelmljdgaoaaDoorGraphA
import Derived.Deep.QuietTactic
import Derived.BigQuiet
namespace Go.Proofs.YtglbelmljdgaoaaDoor
open Go.RowKit

theorem parts_call (n : Nat) (l : List (Int × Int)) (nl : Nat) (A : Option Addr) (c : Nat) (wo : Int) (w : World) (hnl : l.length = nl) (hr : Reads w w.heap.size 2 A nl (cells2 l)) (hv : Valid n l) (hn : n ≤ 24) (hl : l.length ≤ 64) :
    Calls Tryd.prog 61 #[I n, .slice A nl c, I wo] w (RetInts w (parts n l wo)) := by
  subst hnl; exact parts_any n l A c wo w hr hv hn hl

theorem Valid.take {n : Nat} {l : List (Int × Int)} (h : Valid n l) (k : Nat) : Valid n (l.take k) := fun x hx => h x (List.mem_of_mem_take hx)

theorem getD_at {α : Type} {l : List α} {k : Nat} {d : α} (h : k < l.length) : l.getD k d = l[k] := by simp [h]

structure SelInv (w : World) (p : Nat → Bool) (len k : Nat) (v : Value) (wr : World) : Prop where
  hk : k ≤ len
  row : Row wr w.heap.size 3 1 v (sel p k).length ((sel p k).map I)
  below : Below w.heap.size w wr
theorem SelInv.no {w : World} {p : Nat → Bool} {len k : Nat} {v : Value} {wr w2 : World} (h : SelInv w p len k v wr) (hp : p k = false) (hk : k < len) (hb : Below wr.heap.size wr w2) : SelInv w p len (k + 1) v w2 :=
  ⟨hk, by rw [sel_succ_no hp]; exact h.row.call hb, h.below.trans (hb.mono h.below.size)⟩
theorem SelInv.yes {w : World} {p : Nat → Bool} {len k : Nat} {v v2 : Value} {wr w2 : World} (h : SelInv w p len k v wr) (hp : p k = true) (hk : k < len) (hb : Below w.heap.size wr w2)
    (hrow : Row w2 w.heap.size 3 1 v2 ((sel p k).length + 1) ((sel p k).map I ++ [I k])) : SelInv w p len (k + 1) v2 w2 :=
  ⟨hk, by rw [sel_succ_yes hp]; simpa using hrow, h.below.trans hb⟩

/-- what is known behind the call of parts in a round: the edge's block and the numbers -/
theorem after_parts {wr w1 : World} {n : Nat} {p : Value} {xs : List Int} {y1 y2 : Int} (hlen : xs.length = n) (hrow : Row w1 (wr.alloc (Obj.cells #[I y1, I y2] 105)).heap.size 3 1 p xs.length (xs.map I))
    (hb : Below (wr.alloc (Obj.cells #[I y1, I y2] 105)).heap.size (wr.alloc (Obj.cells #[I y1, I y2] 105)) w1) (h1 : 0 ≤ y1) (h2 : y1 < n) (h3 : 0 ≤ y2) (h4 : y2 < n) :
    ∃ b2 off2 cap2, p = .slice (some ⟨b2, off2, none⟩) n cap2 ∧ w1.cell? ⟨wr.heap.size, 0, none⟩ = some (I y1) ∧ w1.cell? ⟨wr.heap.size, 1, none⟩ = some (I y2) ∧
      w1.cell? ⟨b2, off2 + y1.toNat, none⟩ = some (I (xs.getD y1.toNat 0)) ∧ w1.cell? ⟨b2, off2 + y2.toNat, none⟩ = some (I (xs.getD y2.toNat 0)) ∧ Below wr.heap.size wr w1 := by
  subst hlen
  obtain ⟨b2, off2, cap2, rfl, _, _, hc⟩ := hrow.ints (by omega)
  have hn := Blk.new wr 105 #[I y1, I y2]
  have hn1 := hn.below hb (by simp)
  exact ⟨b2, off2, cap2, rfl, by rw [hn1.cell]; rfl, by rw [hn1.cell]; rfl, hc _ (by omega), hc _ (by omega), ((Below.refl _ wr).alloc (Nat.le_refl _) _).trans (hb.mono (by simp))⟩

/-- a call that returns a new slice of ints and an error -/
def RetIntsE (w : World) (r : List Int × Int) (e : Ending) (w' : World) : Prop := ∃ v, e = .returned (.tuple #[v, I r.2]) ∧ Row w' w.heap.size 3 1 v r.1.length (r.1.map I) ∧ Below w.heap.size w w'

theorem gchk_ok {n : Int} {l : List (Int × Int)} (h : gchk n l = 0) : 0 ≤ n ∧ n ≤ 24 ∧ l.length ≤ 64 ∧ Valid n.toNat l := by
  unfold gchk at h
  split at h
  · cases h
  · split at h
    · rename_i h1 h2
      refine ⟨by omega, by omega, by omega, fun x hx => ?_⟩
      have := of_decide_eq_true (List.all_eq_true.1 h2 x hx)
      omega
    · cases h

/-- the arguments that a law or a chapter's function gets: an int and a slice of edges -/
structure GArgs (w : World) (n : Int) (l : List (Int × Int)) (A : Option Addr) (c : Nat) : Prop where
  reads : Reads w w.heap.size 2 A l.length (cells2 l)
  len : l.length ≤ 9223372036854775807
  lo : -9223372036854775808 ≤ n
  hi : n ≤ 9223372036854775807
  cap : l.length ≤ c
theorem GArgs.below {w w' : World} {n : Int} {l : List (Int × Int)} {A : Option Addr} {c : Nat} (h : GArgs w n l A c) (hb : Below w.heap.size w w') : GArgs w' n l A c :=
  ⟨(h.reads.below hb).more hb.size, h.len, h.lo, h.hi, h.cap⟩
theorem check_call {w : World} {n : Int} {l : List (Int × Int)} {A : Option Addr} {c : Nat} (h : GArgs w n l A c) :
    Calls Tryd.prog 60 #[I n, .slice A l.length c] w fun e w' => e = .returned (I (gchk n l)) ∧ Below w.heap.size w w' := check_any n l A c w h.reads h.len h.lo h.hi

set_option maxRecDepth 100000 in
set_option maxHeartbeats 1000000 in
theorem components_any (n : Int) (l : List (Int × Int)) (A : Option Addr) (c : Nat) (w : World) (hG : GArgs w n l A c) :
    Calls Tryd.prog 48 #[I n, .slice A l.length c] w (RetIntsE w (guardE n l [] (parts n.toNat l (-1)))) := by
  by_cases h0 : gchk n l = 0
  · have H0 := Lib.hid h0
    obtain ⟨k1, k2, k3, k4⟩ := gchk_ok h0
    have t0 : (gchk n l != 0) = false := by simp [h0]
    clear h0
    obtain ⟨k, rfl⟩ := Int.eq_ofNat_of_zero_le k1
    go_enter Tryd.func48, Tryd.ntmps48
    go_wp2_with (first | (go_at_call 60; refine (check_call hG).mono ?_; rintro e w1 ⟨rfl, hb1⟩) | (go_at_call 61; refine (parts_any k l _ _ _ _ (hG.below hb1).reads k4 (by omega) k3).mono ?_; rintro e w2 ⟨v, rfl, hrow, hb2⟩))
    go_ret2
    rw [guardE, if_pos H0.out]
    exact ⟨v, rfl, hrow.less hb1.size, hb1.trans (hb2.mono hb1.size)⟩
  · have H0 := Lib.hid h0
    have t0 : (gchk n l != 0) = true := by simp [h0]
    clear h0
    go_enter Tryd.func48, Tryd.ntmps48
    go_wp2_with (first | (go_at_call 60; refine (check_call hG).mono ?_; rintro e w1 ⟨rfl, hb1⟩))
    go_ret2
    rw [guardE, if_neg H0.out]
    exact ⟨_, rfl, Row.nil _ _ _ _, hb1⟩

end Go.Proofs.YtglbelmljdgaoaaDoor
