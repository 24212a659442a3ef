/- Package nat: Gcd, and what all operations share. -/
import Derived.Test.YtpbdlmjfjkfphaaGreatDoorTwo
import Derived.Test.YtpbdlmjfjkfphaaGreatDoorGcd
namespace Go.Proofs.YtpbdlmjfjkfphaaGreatDoor
open Go.RowKit

theorem Num.fits {l : List UInt8} (h : Num l) : Fits 210 (num l : Int) := by
  have := num_fits h.digs h.len l.length
  rwa [List.take_length] at this
theorem RetTx.bad {w w' : World} {a b : List UInt8} {r : List UInt8 × Int} {c : Int} (hc : natTwo a b = c) (h0 : c ≠ 0) (hb : Below w.heap.size w w') : RetTx w (natOp a b r) (.returned (.tuple #[.string ⟨#[]⟩, I c])) w' := by
  refine ⟨?_, hb⟩
  rw [natOp, if_neg (by rw [hc]; exact h0), hc]
theorem RetTx.good {w w1 w' : World} {a b : List UInt8} {r : List UInt8 × Int} {e : Ending} (hc : natTwo a b = 0) (hb : Below w.heap.size w w1) (h : RetTx w1 r e w') : RetTx w (natOp a b r) e w' := by
  rw [natOp, if_pos hc]
  exact ⟨h.1, hb.trans (h.2.mono hb.size)⟩
theorem two_alloc {w w1 : World} (hb : Below w.heap.size w w1) (o1 o2 : Obj) : Below w.heap.size w ((w1.alloc o1).alloc o2) := (hb.alloc hb.size _).alloc (by have := hb.size; simp; omega) _
theorem Big.alloc2 {w : World} {v : Value} {z : Int} (h : Big w v z) (o1 o2 : Obj) : Big ((w.alloc o1).alloc o2) v z := (h.alloc o1).alloc o2
theorem Var.two {w : World} {x0 x1 y0 y1 : Value} : Var ((w.alloc (.cells #[x0, x1] bigT)).alloc (.cells #[y0, y1] bigT)) w.heap.size x0 x1 ∧ Var ((w.alloc (.cells #[x0, x1] bigT)).alloc (.cells #[y0, y1] bigT)) (w.heap.size + 1) y0 y1 :=
  ⟨((Blk.new w bigT #[x0, x1]).alloc _).var, by have := (Blk.new (w.alloc (.cells #[x0, x1] bigT)) bigT #[y0, y1]).var; rwa [World.size_alloc w] at this⟩
theorem sub_nat {x y : Nat} (h : y ≤ x) : (x : Int) - (y : Int) = ((x - y : Nat) : Int) := by omega
set_option maxRecDepth 100000 in
set_option maxHeartbeats 1000000 in
theorem natGcd_any (s t : ByteArray) (w : World) (hs : s.size ≤ 9223372036854775807) (ht : t.size ≤ 9223372036854775807) (htab : Tab w) :
    Calls Tryz.prog 42 #[.string s, .string t] w (RetTx w (natGcd (SL s) (SL t))) := by
  have HW := Lib.hid (two_any s t w hs ht)
  have HTB := Lib.hid htab
  clear htab
  go_enter Tryz.func42, Tryz.ntmps42
  go_wp2_with fail
  refine HW.out.mono ?_
  rintro e w1 ⟨u, v, x, y, rfl, hu, hv, hxy, hb⟩
  obtain ⟨Au, lu, cu, rfl⟩ := hu.form
  obtain ⟨Av, lv, cv, rfl⟩ := hv.form
  clear HW
  by_cases h0 : natTwo (SL s) (SL t) = 0
  · obtain ⟨rfl, rfl⟩ := hxy h0
    obtain ⟨ns, nt⟩ := (natTwo_ok _ _).1 h0
    have HB := Lib.hid (two_alloc hb (.cells #[.bool (decide ((num (SL s) : Int) < 0)), .slice Au lu cu] bigT) (.cells #[.bool (decide ((num (SL t) : Int) < 0)), .slice Av lv cv] bigT))
    have hu2 := hu.alloc2 (.cells #[.bool (decide ((num (SL s) : Int) < 0)), .slice Au lu cu] bigT) (.cells #[.bool (decide ((num (SL t) : Int) < 0)), .slice Av lv cv] bigT)
    have hv2 := hv.alloc2 (.cells #[.bool (decide ((num (SL s) : Int) < 0)), .slice Au lu cu] bigT) (.cells #[.bool (decide ((num (SL t) : Int) < 0)), .slice Av lv cv] bigT)
    have HA := Lib.hid (gcd_any _ _ (num (SL s) : Int) (num (SL t) : Int) _ hu2 hv2 (N := 210) (by omega) ns.fits nt.fits)
    have HT := Lib.hid h0
    rw [h0]
    clear hu hv hxy hb h0 hu2 hv2
    generalize decide ((num (SL s) : Int) < 0) = bs at *
    generalize decide ((num (SL t) : Int) < 0) = bt at *
    unfold bigT at *
    go_wp2_with fail
    refine HA.out.mono ?_
    rintro e w2 ⟨v2, rfl, hv3, hb2⟩
    have HB2 := Lib.hid (HB.out.trans (hb2.mono HB.out.size))
    clear HA HB hb2
    have HX := Lib.hid (natText_any v2 (Nat.gcd (num (SL s)) (num (SL t))) w2 (by skip; exact hv3) (tab_below HTB.out HB2.out))
    clear hv3
    go_wp2_with fail
    refine HX.out.mono ?_
    rintro e w9 ⟨rfl, hb9⟩
    have HQ := Lib.hid (RetTx.good (a := SL s) (b := SL t) (r := natTx (Nat.gcd (num (SL s)) (num (SL t)))) HT.out HB2.out ⟨rfl, hb9⟩)
    change Hid (RetTx w (natGcd (SL s) (SL t)) _ _) at HQ
    clear HX hb9 HB2
    go_wp2
    go_ret2
    exact HQ.out
  · have HQ := Lib.hid (RetTx.bad (r := natTx (Nat.gcd (num (SL s)) (num (SL t)))) rfl h0 (two_alloc hb (.cells #[.bool (decide (x < 0)), .slice Au lu cu] bigT) (.cells #[.bool (decide (y < 0)), .slice Av lv cv] bigT)))
    change Hid (RetTx w (natGcd (SL s) (SL t)) _ _) at HQ
    clear hu hv hb hxy
    have tc : (natTwo (SL s) (SL t) != 0) = true := bne_iff_ne.2 h0
    generalize natTwo (SL s) (SL t) = c at *
    unfold bigT at *
    go_wp2
    go_ret2
    exact HQ.out
end Go.Proofs.YtpbdlmjfjkfphaaGreatDoor
