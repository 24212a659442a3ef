/- graph.Check -/
import Derived.Test.YtglbelmljdgaoaaDoorMem
import Derived.Test.YtglbelmljdgaoaaDoorGraphPlain
import Derived.Test.YtglbelmljdgaoaaDoorProg
namespace Go.Proofs.YtglbelmljdgaoaaDoor
open Go.RowKit

set_option maxHeartbeats 400000 in
theorem check_any (n : Int) (l : List (Int × Int)) (A : Option Addr) (c : Nat) (w : World) (hr : Reads w w.heap.size 2 A l.length (cells2 l)) (hl : l.length ≤ 9223372036854775807) (hn1 : -9223372036854775808 ≤ n) (hn2 : n ≤ 9223372036854775807) :
    Calls Tryd.prog 60 #[I n, .slice A l.length c] w fun e w' => e = .returned (I (gchk n l)) ∧ Below w.heap.size w w' := by
  by_cases h1 : n < 0
  · go_enter Tryd.func60, Tryd.ntmps60
    go_wp2
    go_ret
    exact ⟨ret_int (show (2 : Int) = gchk n l by rw [gchk, if_pos (by omega)]), Below.refl _ _⟩
  · by_cases h2 : 24 < n
    · go_enter Tryd.func60, Tryd.ntmps60
      go_wp2
      go_ret
      exact ⟨ret_int (show (2 : Int) = gchk n l by rw [gchk, if_pos (by omega)]), Below.refl _ _⟩
    · by_cases h3 : 64 < l.length
      · go_enter Tryd.func60, Tryd.ntmps60
        go_wp2
        go_ret
        exact ⟨ret_int (show (2 : Int) = gchk n l by rw [gchk, if_pos (by omega)]), Below.refl _ _⟩
      · go_enter Tryd.func60, Tryd.ntmps60
        go_wp2
        go_loopw [20] (fun i wr => ∃ k : Nat, k ≤ l.length ∧ i = I k ∧ (l.take k).all (okEdge n) = true ∧ Below w.heap.size w wr) (fun i _ => l.length - (intOf i).toNat)
        case atStart => exact ⟨0, Nat.zero_le _, rfl, rfl, Below.refl _ _⟩
        case round =>
          obtain ⟨k, hk, rfl, hal, hb⟩ := hrel
          by_cases hlt : k < l.length
          · obtain ⟨b, off, rfl, hbl, hc0, hc1⟩ := reads2_at (hr.below hb) hlt
            have HA := Lib.hid hal
            clear hal hr
            by_cases hok : okEdge n l[k] = true
            · have hok' := of_decide_eq_true hok
              obtain ⟨o1, o2, o3, o4⟩ := hok'
              have HO := Lib.hid hok
              clear hok
              go_wp2
              go_roundw
              case rel => exact ⟨k + 1, by omega, by go_num, by rw [List.take_succ_eq_append_getElem hlt, List.all_append, HA.out]; simp [HO.out], hb.alloc hb.size _⟩
              case measure => simp [intOf]; omega
            · have hch : gchk n l = 4 := by
                rw [gchk, if_neg (by omega), if_neg]
                intro hh
                exact hok (List.all_eq_true.1 hh _ (List.getElem_mem hlt))
              have hok' := of_decide_eq_false (Bool.eq_false_iff.2 hok)
              have HC := Lib.hid hch
              have HO := Lib.hid hok'
              clear hok hch hok'
              go_wp2
              all_goals first
                | (go_ret; exact ⟨ret_int HC.out.symm, hb.alloc hb.size _⟩)
                | (exfalso; apply HO.out; omega)
          · have hch : gchk n l = 0 := by
              rw [gchk, if_neg (by omega), if_pos]
              rw [List.take_of_length_le (by omega)] at hal
              exact hal
            have HC := Lib.hid hch
            clear hch hal
            go_wp2
            go_ret
            exact ⟨ret_int HC.out.symm, hb⟩
end Go.Proofs.YtglbelmljdgaoaaDoor
