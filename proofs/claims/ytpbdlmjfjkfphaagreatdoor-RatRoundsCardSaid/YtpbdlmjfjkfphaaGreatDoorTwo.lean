/- nat.two and nat.text. -/
import Derived.Test.YtpbdlmjfjkfphaaGreatDoorChk
import Derived.LoopN
namespace Go.Proofs.YtpbdlmjfjkfphaaGreatDoor
open Go.RowKit

theorem hasPrefix_dig {l : List UInt8} (h : Digs l) : Lib.hasPrefix l [45] = false := by
  cases l with
  | nil => rfl
  | cons c l =>
    have := h c List.mem_cons_self
    have hc : c ≠ 45 := fun e => by rw [e] at this; exact absurd this.1 (by decide)
    simp [Lib.hasPrefix, List.isPrefixOf, beq_eq_false_iff_ne.2 (Ne.symm hc)]
theorem trimPrefix_dig {l : List UInt8} (h : Digs l) : Lib.trimPrefix l [45] = l := by
  unfold Lib.trimPrefix
  rw [hasPrefix_dig h]
  rfl
theorem read_num (s : ByteArray) (w : World) (h : Num (SL s)) : Calls Tryz.prog 44 #[.string s] w (RetBig w (num (SL s) : Int)) :=
  read_any false (SL s) h.digs h.len s w (hasPrefix_dig h.digs) (trimPrefix_dig h.digs)
theorem index_two0 (s t : ByteArray) (w : World) : (Instr.index 100 (.agg #[.string s, .string t]) (.int .i64 0)).run Tryz.prog w = .ok (.string s) w := by kernel_rfl
theorem index_two1 (s t : ByteArray) (w : World) : (Instr.index 100 (.agg #[.string s, .string t]) (.int .i64 1)).run Tryz.prog w = .ok (.string t) w := by kernel_rfl
def TwoR (w : World) (s t : ByteArray) (e : Ending) (w' : World) : Prop := ∃ u v x y, e = .returned (.tuple #[u, v, I (natTwo (SL s) (SL t))]) ∧ Big w' u x ∧ Big w' v y ∧
  (natTwo (SL s) (SL t) = 0 → x = (num (SL s) : Int) ∧ y = (num (SL t) : Int)) ∧ Below w.heap.size w w'
theorem TwoR.bad {w w' : World} {s t : ByteArray} {c : Int} (hc : natTwo (SL s) (SL t) = c) (h0 : c ≠ 0) (hb : Below w.heap.size w w') : TwoR w s t (.returned (.tuple #[.agg #[.bool false, .slice none 0 0], .agg #[.bool false, .slice none 0 0], I c])) w' :=
  ⟨_, _, 0, 0, by rw [hc], big_zero _, big_zero _, fun k => absurd (hc.symm.trans k) h0, hb⟩
theorem TwoR.good {w w' : World} {s t : ByteArray} {u v : Value} (hc : natTwo (SL s) (SL t) = 0) (hu : Big w' u (num (SL s) : Int)) (hv : Big w' v (num (SL t) : Int)) (hb : Below w.heap.size w w') : TwoR w s t (.returned (.tuple #[u, v, I 0])) w' :=
  ⟨_, _, _, _, by rw [hc], hu, hv, fun _ => ⟨rfl, rfl⟩, hb⟩
set_option maxRecDepth 100000 in
set_option maxHeartbeats 1000000 in
theorem two_any (s t : ByteArray) (w : World) (hs : s.size ≤ 9223372036854775807) (ht : t.size ≤ 9223372036854775807) : Calls Tryz.prog 61 #[.string s, .string t] w (TwoR w s t) := by
  have hb1 : Below w.heap.size w ((w.alloc (.cells #[.bool false, .slice none 0 0] bigT)).alloc (.cells #[.bool false, .slice none 0 0] bigT)) := ((Below.refl _ _).alloc (Nat.le_refl _) _).alloc (by simp) _
  have V0 := Lib.hid ((Blk.new w bigT #[.bool false, .slice none 0 0]).alloc (.cells #[.bool false, .slice none 0 0] bigT)).var
  have V1 := (Blk.new (w.alloc (.cells #[.bool false, .slice none 0 0] bigT)) bigT #[.bool false, .slice none 0 0]).var
  rw [World.size_alloc w] at V1
  have V1 := Lib.hid V1
  have HB := Lib.hid hb1
  clear hb1
  have ix0 := index_two0 s t
  have ix1 := index_two1 s t
  unfold bigT at *
  go_enter Tryz.func61, Tryz.ntmps61
  go_wp2
  generalize hW0 : (w.alloc (Obj.cells #[Value.bool false, Value.slice none 0 0] 45)).alloc (Obj.cells #[Value.bool false, Value.slice none 0 0] 45) = W0 at *
  clear hW0
  refine wp_loop_rounds 3 ?_
  rw [rounds_succ]
  go_wp2_with (go_at_call 41; refine (chk_any s _ hs).mono ?_)
  rintro e w1 ⟨rfl, hb⟩
  have HB1 := Lib.hid (HB.out.trans (hb.mono HB.out.size))
  have V01 := Lib.hid (V0.out.below hb)
  have V11 := Lib.hid (V1.out.below hb)
  clear hb V0 V1 HB
  by_cases h0 : chk (SL s) = 0
  · rw [h0]
    go_wp2
    rw [rounds_succ]
    go_wp2_with (go_at_call 41; refine (chk_any t _ ht).mono ?_)
    rintro e w2 ⟨rfl, hb⟩
    have HB2 := Lib.hid (HB1.out.trans (hb.mono HB1.out.size))
    have V02 := Lib.hid (V01.out.below hb)
    have V12 := Lib.hid (V11.out.below hb)
    clear hb V01 V11 HB1
    by_cases h1 : chk (SL t) = 0
    · have HT := Lib.hid (show natTwo (SL s) (SL t) = 0 by rw [natTwo, if_pos h0, h1])
      have ns := (chk_ok _).1 h0
      have nt := (chk_ok _).1 h1
      rw [h1]
      go_wp2
      rw [rounds_succ]
      go_wp2_with (go_at_call 44; refine (read_num s _ ns).mono ?_)
      rintro e w3 ⟨vs, rfl, hvs, hb⟩
      have HB3 := Lib.hid (HB2.out.trans (hb.mono HB2.out.size))
      have V03 := Lib.hid (V02.out.below hb)
      have V13 := Lib.hid (V12.out.below hb)
      have HS := Lib.hid hvs
      obtain ⟨As, ls, cs, rfl⟩ := hvs.form
      clear hb V02 V12 HB2 hvs
      go_wp2_with (go_at_call 44; refine (read_num t _ nt).mono ?_)
      rintro e w4 ⟨vt, rfl, hvt, hb⟩
      have HB4 := Lib.hid (HB3.out.trans (hb.mono HB3.out.size))
      have V04 := Lib.hid (V03.out.below hb)
      have V14 := Lib.hid (V13.out.below hb)
      have HS4 := Lib.hid (HS.out.ext hb)
      have HT4 := Lib.hid hvt
      obtain ⟨At, lt, ct, rfl⟩ := hvt.form
      clear hb V03 V13 HB3 hvt HS
      have c0 := V04.out.c0
      have c1 := V04.out.c1
      have c2 := V04.out.f0
      have c3 := V04.out.f1
      have d0 := V14.out.c0
      have d1 := V14.out.c1
      have d2 := V14.out.f0
      have d3 := V14.out.f1
      generalize decide ((num (SL s) : Int) < 0) = bs at *
      generalize decide ((num (SL t) : Int) < 0) = bt at *
      have V05 := V04.out.set (.bool bs) (.slice As ls cs)
      have HQ := Lib.hid (TwoR.good HT.out ((HS4.out.setVar V04.out (.bool bs) (.slice As ls cs)).setVar (V14.out.far (g' := w.heap.size) (by omega) (.bool bs) (.slice As ls cs)) (.bool bt) (.slice At lt ct)) ((HT4.out.setVar V04.out (.bool bs) (.slice As ls cs)).setVar (V14.out.far (g' := w.heap.size) (by omega) (.bool bs) (.slice As ls cs)) (.bool bt) (.slice At lt ct)) (((HB4.out.setCell (p := ⟨w.heap.size, 0, none⟩) (Nat.le_refl _) (.bool bs)).setCell (p := ⟨w.heap.size, 1, none⟩) (Nat.le_refl _) (.slice As ls cs) |>.setCell (p := ⟨w.heap.size + 1, 0, none⟩) (Nat.le_succ _) (.bool bt)).setCell (p := ⟨w.heap.size + 1, 1, none⟩) (Nat.le_succ _) (.slice At lt ct)))
      have Z0 := Lib.hid (V05.far (g' := w.heap.size + 1) (by omega) (.bool bt) (.slice At lt ct))
      have Z1 := Lib.hid ((V14.out.far (g' := w.heap.size) (by omega) (.bool bs) (.slice As ls cs)).set (.bool bt) (.slice At lt ct))
      clear V05
      go_wp2
      have z0 := Z0.out.c0
      have z1 := Z0.out.c1
      have y0 := Z1.out.c0
      have y1 := Z1.out.c1
      generalize ((((w4.setCell ⟨w.heap.size, 0, none⟩ (.bool bs)).setCell ⟨w.heap.size, 1, none⟩ (.slice As ls cs)).setCell ⟨w.heap.size + 1, 0, none⟩ (.bool bt)).setCell ⟨w.heap.size + 1, 1, none⟩ (.slice At lt ct)) = W at *
      exact bodyPost_ret (v := .tuple #[.agg #[(.bool bs), (.slice As ls cs)], .agg #[(.bool bt), (.slice At lt ct)], I 0]) (by simp [results, Tryz.results61, go_sem, z0, z1, y0, y1]) rfl HQ.out
    · have HT := Lib.hid (show natTwo (SL s) (SL t) = chk (SL t) by rw [natTwo, if_pos h0])
      generalize chk (SL t) = c at *
      have c0 := V02.out.c0
      have c1 := V02.out.c1
      have c2 := V02.out.f0
      have c3 := V02.out.f1
      have d0 := V12.out.c0
      have d1 := V12.out.c1
      have d2 := V12.out.f0
      have d3 := V12.out.f1
      have tc : (c != 0) = true := bne_iff_ne.2 h1
      have HQ := Lib.hid (TwoR.bad HT.out h1 (((HB2.out.setCell (p := ⟨w.heap.size, 0, none⟩) (Nat.le_refl _) (.bool false)).setCell (p := ⟨w.heap.size, 1, none⟩) (Nat.le_refl _) (.slice none 0 0) |>.setCell (p := ⟨w.heap.size + 1, 0, none⟩) (Nat.le_succ _) (.bool false)).setCell (p := ⟨w.heap.size + 1, 1, none⟩) (Nat.le_succ _) (.slice none 0 0)))
      have Z0 := Lib.hid ((V02.out.set (.bool false) (.slice none 0 0)).far (g' := w.heap.size + 1) (by omega) (.bool false) (.slice none 0 0))
      have Z1 := Lib.hid ((V12.out.far (g' := w.heap.size) (by omega) (.bool false) (.slice none 0 0)).set (.bool false) (.slice none 0 0))
      go_wp2
      have z0 := Z0.out.c0
      have z1 := Z0.out.c1
      have y0 := Z1.out.c0
      have y1 := Z1.out.c1
      generalize ((((w2.setCell ⟨w.heap.size, 0, none⟩ (.bool false)).setCell ⟨w.heap.size, 1, none⟩ (.slice none 0 0)).setCell ⟨w.heap.size + 1, 0, none⟩ (.bool false)).setCell ⟨w.heap.size + 1, 1, none⟩ (.slice none 0 0)) = W at *
      exact bodyPost_ret (v := .tuple #[.agg #[(.bool false), (.slice none 0 0)], .agg #[(.bool false), (.slice none 0 0)], I c]) (by simp [results, Tryz.results61, go_sem, z0, z1, y0, y1]) rfl HQ.out
  · have HT := Lib.hid (show natTwo (SL s) (SL t) = chk (SL s) by rw [natTwo, if_neg h0])
    generalize chk (SL s) = c at *
    have c0 := V01.out.c0
    have c1 := V01.out.c1
    have c2 := V01.out.f0
    have c3 := V01.out.f1
    have d0 := V11.out.c0
    have d1 := V11.out.c1
    have d2 := V11.out.f0
    have d3 := V11.out.f1
    have tc : (c != 0) = true := bne_iff_ne.2 h0
    have HQ := Lib.hid (TwoR.bad HT.out h0 (((HB1.out.setCell (p := ⟨w.heap.size, 0, none⟩) (Nat.le_refl _) (.bool false)).setCell (p := ⟨w.heap.size, 1, none⟩) (Nat.le_refl _) (.slice none 0 0) |>.setCell (p := ⟨w.heap.size + 1, 0, none⟩) (Nat.le_succ _) (.bool false)).setCell (p := ⟨w.heap.size + 1, 1, none⟩) (Nat.le_succ _) (.slice none 0 0)))
    have Z0 := Lib.hid ((V01.out.set (.bool false) (.slice none 0 0)).far (g' := w.heap.size + 1) (by omega) (.bool false) (.slice none 0 0))
    have Z1 := Lib.hid ((V11.out.far (g' := w.heap.size) (by omega) (.bool false) (.slice none 0 0)).set (.bool false) (.slice none 0 0))
    go_wp2
    have z0 := Z0.out.c0
    have z1 := Z0.out.c1
    have y0 := Z1.out.c0
    have y1 := Z1.out.c1
    generalize ((((w1.setCell ⟨w.heap.size, 0, none⟩ (.bool false)).setCell ⟨w.heap.size, 1, none⟩ (.slice none 0 0)).setCell ⟨w.heap.size + 1, 0, none⟩ (.bool false)).setCell ⟨w.heap.size + 1, 1, none⟩ (.slice none 0 0)) = W at *
    exact bodyPost_ret (v := .tuple #[.agg #[(.bool false), (.slice none 0 0)], .agg #[(.bool false), (.slice none 0 0)], I c]) (by simp [results, Tryz.results61, go_sem, z0, z1, y0, y1]) rfl HQ.out
def RetTx (w : World) (r : List UInt8 × Int) (e : Ending) (w' : World) : Prop := e = .returned (.tuple #[.string ⟨r.1.toArray⟩, I r.2]) ∧ Below w.heap.size w w'
theorem short_nat (n : Nat) : short (n : Int) = fitN n := by simp [short, fitN]
theorem tx_yes {n : Nat} {s : ByteArray} (h : short (n : Int) = true) (hs : s = ⟨(Lib.itoa (n : Int)).toArray⟩) : Ending.returned (.tuple #[.string s, I 0]) = .returned (.tuple #[.string ⟨(natTx n).1.toArray⟩, I (natTx n).2]) := by
  rw [hs, natTx_ok (by rw [← short_nat]; exact h), itoa_nat]
theorem tx_no {n : Nat} (h : short (n : Int) = false) : Ending.returned (.tuple #[.string ⟨#[]⟩, I 2]) = .returned (.tuple #[.string ⟨(natTx n).1.toArray⟩, I (natTx n).2]) := by
  rw [natTx, if_neg (by rw [← short_nat, h]; simp)]
set_option maxRecDepth 100000 in
set_option maxHeartbeats 1000000 in
theorem natText_any (v : Value) (n : Nat) (w : World) (hx : Big w v (n : Int)) (htab : Tab w) : Calls Tryz.prog 62 #[v] w (RetTx w (natTx n)) := by
  obtain ⟨A, l, c, rfl⟩ := hx.form
  have hb1 : Below w.heap.size w (w.alloc (.cells #[.bool (decide ((n : Int) < 0)), .slice A l c] bigT)) := (Below.refl _ _).alloc (Nat.le_refl _) _
  have HT := Lib.hid (text_any _ (n : Int) _ (hx.ext hb1) (tab_below htab hb1))
  have HB := Lib.hid hb1
  clear hb1 hx htab
  generalize decide ((n : Int) < 0) = b at *
  unfold bigT at *
  go_enter Tryz.func62, Tryz.ntmps62
  go_wp2_with fail
  refine HT.out.mono ?_
  rintro e w1 ⟨s, rfl, hs, hb⟩
  have HB1 := Lib.hid (HB.out.trans (hb.mono HB.out.size))
  clear HB HT hb
  by_cases h : short (n : Int) = true
  · have HQ := Lib.hid (tx_yes h (hs h))
    clear hs
    rw [h]
    go_wp2
    go_ret2
    exact ⟨HQ.out, HB1.out⟩
  · have h := Bool.eq_false_iff.2 h
    have HQ := Lib.hid (tx_no h)
    clear hs
    rw [h]
    go_wp2
    go_ret2
    exact ⟨HQ.out, HB1.out⟩
end Go.Proofs.YtpbdlmjfjkfphaaGreatDoor
