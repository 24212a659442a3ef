/- graph.tree, graph.Tree, graph.Bridges, graph.Components. -/
import Derived.Test.YtphiiflcpeploaaParts
import Derived.Test.YtphiiflcpeploaaGraphA
import Derived.Deep.QuietTactic
import Derived.BigQuiet
namespace Go.Proofs.Ytphiiflcpeploaa
open Go.RowKit

theorem parts_call (n : Nat) (l : List (Int × Int)) (nl : Nat) (A : Option Addr) (c : Nat) (wo : Int) (w : World) (hnl : l.length = nl) (hr : Reads w w.heap.size 2 A nl (cells2 l)) (hv : Valid n l) (hn : n ≤ 24) (hl : l.length ≤ 64) :
    Calls Try.prog 38 #[I n, .slice A nl c, I wo] w (RetInts w (parts n l wo)) := by
  subst hnl; exact parts_any n l A c wo w hr hv hn hl

theorem Valid.take {n : Nat} {l : List (Int × Int)} (h : Valid n l) (k : Nat) : Valid n (l.take k) := fun x hx => h x (List.mem_of_mem_take hx)

theorem getD_at {α : Type} {l : List α} {k : Nat} {d : α} (h : k < l.length) : l.getD k d = l[k] := by simp [h]

structure SelInv (w : World) (p : Nat → Bool) (len k : Nat) (v : Value) (wr : World) : Prop where
  hk : k ≤ len
  row : Row wr w.heap.size 3 1 v (sel p k).length ((sel p k).map I)
  below : Below w.heap.size w wr
theorem SelInv.no {w : World} {p : Nat → Bool} {len k : Nat} {v : Value} {wr w2 : World} (h : SelInv w p len k v wr) (hp : p k = false) (hk : k < len) (hb : Below wr.heap.size wr w2) : SelInv w p len (k + 1) v w2 :=
  ⟨hk, by rw [sel_succ_no hp]; exact h.row.call hb, h.below.trans (hb.mono h.below.size)⟩
theorem SelInv.yes {w : World} {p : Nat → Bool} {len k : Nat} {v v2 : Value} {wr w2 : World} (h : SelInv w p len k v wr) (hp : p k = true) (hk : k < len) (hb : Below w.heap.size wr w2)
    (hrow : Row w2 w.heap.size 3 1 v2 ((sel p k).length + 1) ((sel p k).map I ++ [I k])) : SelInv w p len (k + 1) v2 w2 :=
  ⟨hk, by rw [sel_succ_yes hp]; simpa using hrow, h.below.trans hb⟩

/-- what is known behind the call of parts in a round: the edge's block and the numbers -/
theorem after_parts {wr w1 : World} {n : Nat} {p : Value} {xs : List Int} {y1 y2 : Int} (hlen : xs.length = n) (hrow : Row w1 (wr.alloc (Obj.cells #[I y1, I y2] 32)).heap.size 3 1 p xs.length (xs.map I))
    (hb : Below (wr.alloc (Obj.cells #[I y1, I y2] 32)).heap.size (wr.alloc (Obj.cells #[I y1, I y2] 32)) w1) (h1 : 0 ≤ y1) (h2 : y1 < n) (h3 : 0 ≤ y2) (h4 : y2 < n) :
    ∃ b2 off2 cap2, p = .slice (some ⟨b2, off2, none⟩) n cap2 ∧ w1.cell? ⟨wr.heap.size, 0, none⟩ = some (I y1) ∧ w1.cell? ⟨wr.heap.size, 1, none⟩ = some (I y2) ∧
      w1.cell? ⟨b2, off2 + y1.toNat, none⟩ = some (I (xs.getD y1.toNat 0)) ∧ w1.cell? ⟨b2, off2 + y2.toNat, none⟩ = some (I (xs.getD y2.toNat 0)) ∧ Below wr.heap.size wr w1 := by
  subst hlen
  obtain ⟨b2, off2, cap2, rfl, _, _, hc⟩ := hrow.ints (by omega)
  have hn := Blk.new wr 32 #[I y1, I y2]
  have hn1 := hn.below hb (by simp)
  exact ⟨b2, off2, cap2, rfl, by rw [hn1.cell]; rfl, by rw [hn1.cell]; rfl, hc _ (by omega), hc _ (by omega), ((Below.refl _ wr).alloc (Nat.le_refl _) _).trans (hb.mono (by simp))⟩

set_option maxRecDepth 100000 in
set_option maxHeartbeats 1000000 in
theorem tree_any (n : Nat) (l : List (Int × Int)) (A : Option Addr) (c : Nat) (w : World) (hr : Reads w w.heap.size 2 A l.length (cells2 l)) (hv : Valid n l) (hn : n ≤ 24) (hl : l.length ≤ 64) (hcap : l.length ≤ c) :
    Calls Try.prog 35 #[I n, .slice A l.length c] w (RetInts w (treeL n l)) := by
  have HV := Lib.hid hv
  have HR := Lib.hid hr
  clear hv hr
  go_enter Try.func35, Try.ntmps35
  go_wp2
  go_loopg [5, 11] (l.length - 0) (fun r v5 v11 wr => ∃ k : Nat, r = l.length - k ∧ v11 = I k ∧ SelInv w (trB n l) l.length k v5 wr)
  case atStart => exact ⟨0, rfl, rfl, by omega, by simpa [sel] using Row.nil _ _ _ _, Below.refl _ _⟩
  case round =>
    obtain ⟨k, rfl, rfl, hS⟩ := hrel
    have hk := hS.hk
    by_cases hlt : k < l.length
    · obtain ⟨b, off, rfl, hbl, hx0, hx1⟩ := reads2_at (HR.out.below hS.below) hlt
      have hval := HV.out l[k] (List.getElem_mem hlt)
      obtain ⟨y1, hy1⟩ : ∃ y, l[k].1 = y := ⟨_, rfl⟩
      obtain ⟨y2, hy2⟩ : ∃ y, l[k].2 = y := ⟨_, rfl⟩
      rw [hy1] at hx0 hval
      rw [hy2] at hx1 hval
      obtain ⟨hva, hvb, hvc, hvd⟩ := hval
      have HY := Lib.hid (And.intro hy1 hy2)
      clear hy1 hy2
      have hkc : (k : Int) ≤ c := by omega
      have HRK := Lib.hid (show Reads wr wr.heap.size 2 (some ⟨b, off, none⟩) k (cells2 (l.take k)) by
        have h1 := ((HR.out.below hS.below).take (k := k) (by omega))
        rw [cells2_take] at h1
        exact h1.more hS.below.size)
      have HP := Lib.hid (show trB n l k = ((parts n (l.take k) (-1)).getD y1.toNat 0 != (parts n (l.take k) (-1)).getD y2.toNat 0) by
        rw [trB, apartB, getD_at hlt, HY.out.1, HY.out.2])
      go_wp2_with (go_at_call 38; refine (parts_call n (l.take k) k _ _ _ _ (by simp; omega) ?_ (HV.out.take k) hn (by simp; omega)).mono ?_; exact (HRK.out.below ((Below.refl _ _).alloc (Nat.le_refl _) _)).more (by simp); rintro e w1 ⟨p, rfl, hprow, hpb⟩)
      obtain ⟨b2, off2, cap2, rfl, e0, e1, e2, e3, hb1⟩ := after_parts (parts_len _ _ _) hprow hpb hva hvb hvc hvd
      clear hprow hpb hx0 hx1
      obtain ⟨q1, hq1⟩ : ∃ q1, (parts n (l.take k) (-1)).getD y1.toNat 0 = q1 := ⟨_, rfl⟩
      obtain ⟨q2, hq2⟩ : ∃ q2, (parts n (l.take k) (-1)).getD y2.toNat 0 = q2 := ⟨_, rfl⟩
      rw [hq1] at HP e2
      rw [hq2] at HP e3
      clear hq1 hq2 HRK
      cases ht : (q1 != q2)
      · rw [ht] at HP
        go_quiet (fail)
        go_wp2
        go_roundg (l.length - (k + 1))
        case measure => omega
        case rel => exact ⟨k + 1, rfl, by go_num, hS.no HP.out hlt (below_drewN hb1 _)⟩
      · rw [ht] at HP
        have hsl := sel_len (trB n l) k
        have hs64 : (sel (trB n l) k).length ≤ 1000000 := by omega
        clear hsl
        have hws : w.heap.size ≤ w1.heap.size := Nat.le_trans hS.below.size hb1.size
        go_quiet (fail)
        go_wp2_with (at_builtin; refine wpList_app28 rfl _ _ rfl w.heap.size u5 (sel (trB n l) k) k w1.heap.size (by rfl) (by rfl) (by rfl) (hS.row.call (below_drewN hb1 _)) hs64 hws ?_; intro v2 w2 hrow2 hb2)
        go_roundg (l.length - (k + 1))
        case measure => omega
        case rel => exact ⟨k + 1, rfl, by go_num, hS.yes HP.out hlt (((below_drewN hb1 _).mono hS.below.size).trans (((Below.refl _ (World.drewN w1 _)).alloc hws _).trans hb2)) hrow2⟩
    · obtain rfl : k = l.length := by omega
      go_wp2
      go_ret
      exact ⟨_, rfl, hS.row, hS.below⟩

/-- a call that returns a new slice of ints and an error -/
def RetIntsE (w : World) (r : List Int × Int) (e : Ending) (w' : World) : Prop := ∃ v, e = .returned (.tuple #[v, I r.2]) ∧ Row w' w.heap.size 3 1 v r.1.length (r.1.map I) ∧ Below w.heap.size w w'

theorem chk_ok {n : Int} {l : List (Int × Int)} (h : chk n l = 0) : 0 ≤ n ∧ n ≤ 24 ∧ l.length ≤ 64 ∧ Valid n.toNat l := by
  unfold chk at h
  split at h
  · cases h
  · split at h
    · rename_i h1 h2
      refine ⟨by omega, by omega, by omega, fun x hx => ?_⟩
      have := of_decide_eq_true (List.all_eq_true.1 h2 x hx)
      omega
    · cases h

/-- the arguments that a law or a chapter's function gets: an int and a slice of edges -/
structure GArgs (w : World) (n : Int) (l : List (Int × Int)) (A : Option Addr) (c : Nat) : Prop where
  reads : Reads w w.heap.size 2 A l.length (cells2 l)
  len : l.length ≤ 9223372036854775807
  lo : -9223372036854775808 ≤ n
  hi : n ≤ 9223372036854775807
  cap : l.length ≤ c
theorem GArgs.below {w w' : World} {n : Int} {l : List (Int × Int)} {A : Option Addr} {c : Nat} (h : GArgs w n l A c) (hb : Below w.heap.size w w') : GArgs w' n l A c :=
  ⟨(h.reads.below hb).more hb.size, h.len, h.lo, h.hi, h.cap⟩
theorem check_call {w : World} {n : Int} {l : List (Int × Int)} {A : Option Addr} {c : Nat} (h : GArgs w n l A c) :
    Calls Try.prog 34 #[I n, .slice A l.length c] w fun e w' => e = .returned (I (chk n l)) ∧ Below w.heap.size w w' := check_any n l A c w h.reads h.len h.lo h.hi

set_option maxRecDepth 100000 in
set_option maxHeartbeats 1000000 in
theorem components_any (n : Int) (l : List (Int × Int)) (A : Option Addr) (c : Nat) (w : World) (hG : GArgs w n l A c) :
    Calls Try.prog 18 #[I n, .slice A l.length c] w (RetIntsE w (guardE n l [] (parts n.toNat l (-1)))) := by
  by_cases h0 : chk n l = 0
  · have H0 := Lib.hid h0
    obtain ⟨k1, k2, k3, k4⟩ := chk_ok h0
    have t0 : (chk n l != 0) = false := by simp [h0]
    clear h0
    obtain ⟨k, rfl⟩ := Int.eq_ofNat_of_zero_le k1
    go_enter Try.func18, Try.ntmps18
    go_wp2_with (first | (go_at_call 34; refine (check_call hG).mono ?_; rintro e w1 ⟨rfl, hb1⟩) | (go_at_call 38; refine (parts_any k l _ _ _ _ (hG.below hb1).reads k4 (by omega) k3).mono ?_; rintro e w2 ⟨v, rfl, hrow, hb2⟩))
    go_ret2
    rw [guardE, if_pos H0.out]
    exact ⟨v, rfl, hrow.less hb1.size, hb1.trans (hb2.mono hb1.size)⟩
  · have H0 := Lib.hid h0
    have t0 : (chk n l != 0) = true := by simp [h0]
    clear h0
    go_enter Try.func18, Try.ntmps18
    go_wp2_with (first | (go_at_call 34; refine (check_call hG).mono ?_; rintro e w1 ⟨rfl, hb1⟩))
    go_ret2
    rw [guardE, if_neg H0.out]
    exact ⟨_, rfl, Row.nil _ _ _ _, hb1⟩

set_option maxRecDepth 100000 in
set_option maxHeartbeats 1000000 in
theorem tree_E (n : Int) (l : List (Int × Int)) (A : Option Addr) (c : Nat) (w : World) (hG : GArgs w n l A c) :
    Calls Try.prog 12 #[I n, .slice A l.length c] w (RetIntsE w (guardE n l [] (treeL n.toNat l))) := by
  by_cases h0 : chk n l = 0
  · have H0 := Lib.hid h0
    obtain ⟨k1, k2, k3, k4⟩ := chk_ok h0
    have t0 : (chk n l != 0) = false := by simp [h0]
    clear h0
    obtain ⟨k, rfl⟩ := Int.eq_ofNat_of_zero_le k1
    go_enter Try.func12, Try.ntmps12
    go_wp2_with (first | (go_at_call 34; refine (check_call hG).mono ?_; rintro e w1 ⟨rfl, hb1⟩) | (go_at_call 35; refine (tree_any k l _ _ _ (hG.below hb1).reads k4 (by omega) k3 hG.cap).mono ?_; rintro e w2 ⟨v, rfl, hrow, hb2⟩))
    go_ret2
    rw [guardE, if_pos H0.out]
    exact ⟨v, rfl, hrow.less hb1.size, hb1.trans (hb2.mono hb1.size)⟩
  · have H0 := Lib.hid h0
    have t0 : (chk n l != 0) = true := by simp [h0]
    clear h0
    go_enter Try.func12, Try.ntmps12
    go_wp2_with (first | (go_at_call 34; refine (check_call hG).mono ?_; rintro e w1 ⟨rfl, hb1⟩))
    go_ret2
    rw [guardE, if_neg H0.out]
    exact ⟨_, rfl, Row.nil _ _ _ _, hb1⟩

set_option maxRecDepth 100000 in
set_option maxHeartbeats 1000000 in
theorem bridges_any (n : Int) (l : List (Int × Int)) (A : Option Addr) (c : Nat) (w : World) (hG : GArgs w n l A c) :
    Calls Try.prog 14 #[I n, .slice A l.length c] w (RetIntsE w (guardE n l [] (bridgesL n.toNat l))) := by
  by_cases h0 : chk n l = 0
  · have H0 := Lib.hid h0
    obtain ⟨hn0, hn, hl, hv⟩ := chk_ok h0
    have t0 : (chk n l != 0) = false := by simp [h0]
    clear h0
    obtain ⟨n, rfl⟩ := Int.eq_ofNat_of_zero_le hn0
    simp only [Int.toNat_natCast] at hv ⊢
    have hn : n ≤ 24 := by omega
    have HV := Lib.hid hv
    clear hv
    go_enter Try.func14, Try.ntmps14
    go_wp2_with (first | (go_at_call 34; refine (check_call hG).mono ?_; rintro e wc ⟨rfl, hbc⟩))
    have HR := Lib.hid (hG.reads.below hbc)
    go_loopg [7, 19] (l.length - 0) (fun r v5 v11 wr => ∃ k : Nat, r = l.length - k ∧ v11 = I k ∧ SelInv w (brB n l) l.length k v5 wr)
    case atStart => exact ⟨0, rfl, rfl, by omega, by simpa [sel] using Row.nil _ _ _ _, hbc⟩
    case round =>
      obtain ⟨k, rfl, rfl, hS⟩ := hrel
      have hk := hS.hk
      by_cases hlt : k < l.length
      · obtain ⟨b, off, rfl, hbl, hx0, hx1⟩ := reads2_at (hG.reads.below hS.below) hlt
        have hval := HV.out l[k] (List.getElem_mem hlt)
        obtain ⟨y1, hy1⟩ : ∃ y, l[k].1 = y := ⟨_, rfl⟩
        obtain ⟨y2, hy2⟩ : ∃ y, l[k].2 = y := ⟨_, rfl⟩
        rw [hy1] at hx0 hval
        rw [hy2] at hx1 hval
        obtain ⟨hva, hvb, hvc, hvd⟩ := hval
        have HY := Lib.hid (And.intro hy1 hy2)
        clear hy1 hy2
        have HRK := Lib.hid ((hG.below hS.below).reads)
        have HP := Lib.hid (show brB n l k = ((parts n l k).getD y1.toNat 0 != (parts n l k).getD y2.toNat 0) by
          rw [brB, apartB, getD_at hlt, HY.out.1, HY.out.2])
        go_wp2_with (go_at_call 38; refine (parts_call n l l.length _ _ _ _ rfl ?_ HV.out hn hl).mono ?_; exact (HRK.out.below ((Below.refl _ _).alloc (Nat.le_refl _) _)).more (by simp); rintro e w1 ⟨p, rfl, hprow, hpb⟩)
        obtain ⟨b2, off2, cap2, rfl, e0, e1, e2, e3, hb1⟩ := after_parts (parts_len _ _ _) hprow hpb hva hvb hvc hvd
        clear hprow hpb hx0 hx1
        obtain ⟨q1, hq1⟩ : ∃ q1, (parts n l k).getD y1.toNat 0 = q1 := ⟨_, rfl⟩
        obtain ⟨q2, hq2⟩ : ∃ q2, (parts n l k).getD y2.toNat 0 = q2 := ⟨_, rfl⟩
        rw [hq1] at HP e2
        rw [hq2] at HP e3
        clear hq1 hq2 HRK
        cases ht : (q1 != q2)
        · rw [ht] at HP
          go_quiet (fail)
          go_wp2
          go_roundg (l.length - (k + 1))
          case measure => omega
          case rel => exact ⟨k + 1, rfl, by go_num, hS.no HP.out hlt (below_drewN hb1 _)⟩
        · rw [ht] at HP
          have hsl := sel_len (brB n l) k
          have hs64 : (sel (brB n l) k).length ≤ 1000000 := by omega
          clear hsl
          have hws : w.heap.size ≤ w1.heap.size := Nat.le_trans hS.below.size hb1.size
          go_quiet (fail)
          go_wp2_with (at_builtin; refine wpList_app28 rfl _ _ rfl w.heap.size u7 (sel (brB n l) k) k w1.heap.size (by rfl) (by rfl) (by rfl) (hS.row.call (below_drewN hb1 _)) hs64 hws ?_; intro v2 w2 hrow2 hb2)
          go_roundg (l.length - (k + 1))
          case measure => omega
          case rel => exact ⟨k + 1, rfl, by go_num, hS.yes HP.out hlt (((below_drewN hb1 _).mono hS.below.size).trans (((Below.refl _ (World.drewN w1 _)).alloc hws _).trans hb2)) hrow2⟩
      · obtain rfl : k = l.length := by omega
        go_wp2
        go_ret2
        rw [guardE, if_pos H0.out]
        exact ⟨_, rfl, hS.row, hS.below⟩
  · have H0 := Lib.hid h0
    have t0 : (chk n l != 0) = true := by simp [h0]
    clear h0
    go_enter Try.func14, Try.ntmps14
    go_wp2_with (first | (go_at_call 34; refine (check_call hG).mono ?_; rintro e w1 ⟨rfl, hb1⟩))
    go_ret2
    rw [guardE, if_neg H0.out]
    exact ⟨_, rfl, Row.nil _ _ _ _, hb1⟩
end Go.Proofs.Ytphiiflcpeploaa
