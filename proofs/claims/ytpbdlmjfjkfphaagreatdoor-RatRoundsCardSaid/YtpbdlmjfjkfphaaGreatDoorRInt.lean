/- rat.Round, (large.Int).Small, rat.Integer, rat.Sum, rat.Least. -/
import Derived.Test.YtpbdlmjfjkfphaaGreatDoorRRound
namespace Go.Proofs.YtpbdlmjfjkfphaaGreatDoor
open Go.RowKit

set_option maxRecDepth 100000 in
set_option maxHeartbeats 2000000 in
theorem roundedRound_any (s : ByteArray) (w : World) (hs : s.size ≤ 9223372036854775807) (htab : Tab w) : Calls Tryz.prog 35 #[.string s, .func (.func 38) #[] #[]] w (RetTx w (ratInt (SL s) (roundQ (rval (SL s))))) := by
  have HA := Lib.hid (rchk_any s w hs htab)
  have HTB := Lib.hid htab
  clear htab
  go_enter Tryz.func35, Tryz.ntmps35
  go_wp2_with fail
  refine HA.out.mono ?_
  rintro e w1 ⟨rfl, hb⟩
  have HB1 := Lib.hid hb
  clear hb HA
  by_cases h0 : rchk (SL s) = 0
  · have HT := Lib.hid h0
    have HVA := Lib.hid (rchk_val _ h0)
    rw [h0]
    clear h0
    go_wp2_with fail
    refine (parse_any s w1 hs HVA.out).mono ?_
    rintro e w2 ⟨u, rfl, hu, hb2⟩
    have HB2 := Lib.hid (HB1.out.trans (hb2.mono HB1.out.size))
    have HU := Lib.hid hu
    clear hb2 HB1 hu
    go_wp2_with fail
    refine (rround_any u _ w2 HU.out (N := 210) (by omega) (val_fit HVA.out)).mono ?_
    rintro e w3 ⟨z, rfl, hz, hb3⟩
    have HB3 := Lib.hid (HB2.out.trans (hb3.mono HB2.out.size))
    have HZ := Lib.hid (whole_any z _ w3 hz (tab_below HTB.out HB3.out))
    clear hb3 HB2 hz HU
    go_wp2_with fail
    refine HZ.out.mono ?_
    rintro e w4 ⟨rfl, hb4⟩
    have HQ := Lib.hid (show RetTx w (ratInt (SL s) (roundQ (rval (SL s)))) (.returned (.tuple #[.string ⟨(ratTx ((roundQ (rval (SL s)) : Int) : Rat)).1.toArray⟩, I (ratTx ((roundQ (rval (SL s)) : Int) : Rat)).2])) w4 from ⟨by rw [ratInt, if_pos HT.out], HB3.out.trans (hb4.mono HB3.out.size)⟩)
    clear hb4 HB3 HZ
    go_wp2
    go_ret2
    exact HQ.out
  · have HQ := Lib.hid (show RetTx w (ratInt (SL s) (roundQ (rval (SL s)))) (.returned (.tuple #[.string ⟨#[]⟩, I (rchk (SL s))])) w1 from ⟨by rw [ratInt, if_neg h0], HB1.out⟩)
    have tc : (rchk (SL s) != 0) = true := bne_iff_ne.2 h0
    generalize rchk (SL s) = c at *
    clear h0
    go_wp2
    go_ret2
    exact HQ.out
set_option maxRecDepth 100000 in
theorem ratRound_any (s : ByteArray) (w : World) (hs : s.size ≤ 9223372036854775807) (htab : Tab w) : Calls Tryz.prog 18 #[.string s] w (RetTx w (ratInt (SL s) (roundQ (rval (SL s))))) := by
  have HO := Lib.hid (roundedRound_any s w hs htab)
  go_enter Tryz.func18, Tryz.ntmps18
  go_wp2_with fail
  refine HO.out.mono ?_
  rintro e w1 ⟨rfl, hb⟩
  have HQ := Lib.hid (show RetTx w (ratInt (SL s) (roundQ (rval (SL s)))) _ w1 from ⟨rfl, hb⟩)
  clear HO hb
  go_wp2
  go_ret2
  exact HQ.out
/-- what Small answers: exact below 2^32 -/
def SmallR (w : World) (z : Int) (e : Ending) (w' : World) : Prop := ∃ n b, e = .returned (.tuple #[I n, .bool b]) ∧ (z.natAbs < 4294967296 → n = z ∧ b = true) ∧ Below w.heap.size w w'
set_option maxRecDepth 100000 in
set_option maxHeartbeats 2000000 in
theorem small_any (v : Value) (z : Int) (w : World) (hx : Big w v z) : Calls Tryz.prog 45 #[v] w (SmallR w z) := by
  obtain ⟨A, ca, ws, rfl, hnn, hv⟩ := hx.nn
  have hb := (Below.refl w.heap.size w).alloc (Nat.le_refl _) (.cells #[.bool (decide (z < 0)), .slice A ws.length ca] bigT)
  have V := (Blk.new w bigT #[.bool (decide (z < 0)), .slice A ws.length ca]).var
  have HN := Lib.hid (hnn.ext hb)
  have HB := Lib.hid hb
  have v0 := V.c0
  have v1 := V.c1
  have hok := hnn.ok
  have hnm := hnn.nm
  clear V hb hnn hx
  by_cases h2 : 2 < ws.length
  · have h3 := nm_low hok hnm (ws.length - 1) (by omega)
    have h4 := P32_mono (i := 2) (j := ws.length - 1) (by omega)
    have h5 : P32 2 = 18446744073709551616 := by decide
    have HZ := Lib.hid (show ¬ z.natAbs < 4294967296 by omega)
    have t1 : decide (2 < ws.length) = true := decide_eq_true h2
    have t2 : decide (2 < (ws.length : Int)) = true := decide_eq_true (by omega)
    clear h3 h4 h5 hok hnm hv
    generalize decide (z < 0) = b at *
    unfold bigT at *
    go_enter Tryz.func45, Tryz.ntmps45
    go_wp2
    go_ret2
    exact ⟨_, _, rfl, fun k => absurd k HZ.out, HB.out⟩
  · have hl : ws.length = 0 ∨ ws.length = 1 ∨ ws.length = 2 := by omega
    rcases hl with h | h | h
    · obtain rfl := List.eq_nil_of_length_eq_zero h
      simp only [val] at hv
      have hz : z = 0 := by omega
      subst hz
      rw [show decide ((0 : Int) < 0) = false from rfl] at *
      simp only [List.length_nil] at *
      clear h h2 hok hnm hv HN
      unfold bigT at *
      go_enter Tryz.func45, Tryz.ntmps45
      go_wp2
      refine wp_loop_rounds 1 ?_
      rw [rounds_succ]
      go_wp2
      go_ret2
      exact ⟨_, _, rfl, fun _ => ⟨rfl, rfl⟩, HB.out⟩
    · match ws, h with
      | [x0], _ =>
        obtain ⟨b0, o0, rfl, -, hc0⟩ := HN.out.reads.word (k := 0) (by simp)
        have hx0 := hok x0 (by simp)
        simp only [List.getD_cons_zero, Nat.add_zero, List.length_cons, List.length_nil, Nat.zero_add] at *
        simp only [val] at hv
        have hor : bits .or .u64 0 x0 = x0 := by
          have := or_hi (m := 0) (x := x0) (by omega) hx0
          simpa using this
        have ew : IntKind.u64.wrap x0 = x0 := by rw [IntKind.wrap_u64]; omega
        clear h2 hok hnm HN
        by_cases hn : z < 0
        · rw [decide_eq_true hn] at *
          have hzx : z = -x0 := by omega
          have e2 : wrap64 (IntKind.u64.wrap (-x0)) = -x0 := by rw [IntKind.wrap_u64]; unfold wrap64; omega
          have t1 : decide (x0 ≤ 9223372036854775808) = true := decide_eq_true (by omega)
          have HZX := Lib.hid hzx
          clear hv hzx
          unfold bigT at *
          go_enter Tryz.func45, Tryz.ntmps45
          go_wp2
          refine wp_loop_rounds 2 ?_
          rw [rounds_succ]
          go_wp2
          rw [rounds_succ]
          go_wp2
          go_ret2
          exact ⟨_, _, rfl, fun _ => ⟨by rw [HZX.out]; exact e2, rfl⟩, HB.out⟩
        · rw [decide_eq_false hn] at *
          have hzx : z = x0 := by omega
          have e2 : wrap64 x0 = x0 := by unfold wrap64; omega
          have t1 : decide (x0 < 9223372036854775808) = true := decide_eq_true (by omega)
          have HZX := Lib.hid hzx
          clear hv hzx
          unfold bigT at *
          go_enter Tryz.func45, Tryz.ntmps45
          go_wp2
          refine wp_loop_rounds 2 ?_
          rw [rounds_succ]
          go_wp2
          rw [rounds_succ]
          go_wp2
          go_ret2
          exact ⟨_, _, rfl, fun _ => ⟨by rw [HZX.out], rfl⟩, HB.out⟩
    · match ws, h with
      | [x0, x1], _ =>
        obtain ⟨b0, o0, rfl, -, hc0⟩ := HN.out.reads.word (k := 0) (by simp)
        obtain ⟨b1, o1, e1, -, hc1⟩ := HN.out.reads.word (k := 1) (by simp)
        have e1 := Option.some.inj e1
        injection e1 with e2 e3
        subst e2 e3
        have hx0 := hok x0 (by simp)
        have hx1 := hok x1 (by simp)
        have h3 := nm_low hok hnm 1 rfl
        have h5 : P32 1 = 4294967296 := by decide
        have HZ := Lib.hid (show ¬ z.natAbs < 4294967296 by omega)
        simp only [List.getD_cons_zero, List.getD_cons_succ, Nat.add_zero, List.length_cons, List.length_nil, Nat.zero_add] at *
        have hor : bits .or .u64 0 x0 = x0 := by
          have := or_hi (m := 0) (x := x0) (by omega) hx0
          simpa using this
        clear h2 hok hnm HN h3 h5 hv
        generalize decide (z < 0) = b at *
        unfold bigT at *
        go_enter Tryz.func45, Tryz.ntmps45
        go_wp2
        refine wp_loop_rounds 3 ?_
        rw [rounds_succ]
        go_wp2
        rw [rounds_succ]
        go_wp2
        generalize bits BinOp.or IntKind.u64 x0 _ = mm at *
        rw [rounds_succ]
        obtain ⟨d1, hd1⟩ : ∃ d, decide (mm ≤ 9223372036854775808) = d := ⟨_, rfl⟩
        obtain ⟨d2, hd2⟩ : ∃ d, decide (mm < 9223372036854775808) = d := ⟨_, rfl⟩
        clear hx0 hx1 hor
        cases b <;> cases d1 <;> cases d2 <;> (go_wp2; go_ret2; exact ⟨_, _, rfl, fun k => absurd k HZ.out, HB.out⟩)
/-- what Integer answers -/
def IntegR (w : World) (a : List UInt8) (e : Ending) (w' : World) : Prop := ∃ n c, e = .returned (.tuple #[I n, I c]) ∧ (rchk a ≠ 0 → c = rchk a) ∧ (rchk a = 0 → (c = 3 ↔ cutI a = true) ∧ (cutI a = false → (rval a).num.natAbs < 4294967296 → n = (rval a).num ∧ c = 0)) ∧ Below w.heap.size w w'
theorem contains_cut (l : List UInt8) : decide (0 ≤ Lib.indexByte l 47) = cutI l := by
  have hge := Lib.indexByte_ge l 47
  by_cases h : 0 ≤ Lib.indexByte l 47
  · obtain ⟨k, hk⟩ := Int.eq_ofNat_of_zero_le h
    rw [decide_eq_true h, (cut_some l k hk).2.2.1]
  · rw [decide_eq_false h, (cut_none l (by omega)).2.2]
set_option maxRecDepth 100000 in
set_option maxHeartbeats 2000000 in
theorem ratInteger_any (s : ByteArray) (w : World) (hs : s.size ≤ 9223372036854775807) (htab : Tab w) : Calls Tryz.prog 20 #[.string s] w (IntegR w (SL s)) := by
  have HA := Lib.hid (rchk_any s w hs htab)
  clear htab
  have HCO := Lib.hid fun W => Tryz.strings_Contains_one s 47 W
  have ec : decide (0 ≤ Lib.indexByte s.data.toList 47) = cutI (SL s) := contains_cut (SL s)
  rw [ec] at HCO
  clear ec
  go_enter Tryz.func20, Tryz.ntmps20
  go_wp2_with fail
  refine HA.out.mono ?_
  rintro e w1 ⟨rfl, hb⟩
  have HB1 := Lib.hid hb
  clear hb HA
  by_cases h0 : rchk (SL s) = 0
  · have HT := Lib.hid h0
    have HV := Lib.hid (rchk_val _ h0)
    rw [h0]
    clear h0
    go_wp2_with fail
    refine (HCO.out _).mono ?_
    rintro e w2 ⟨rfl, rfl⟩
    by_cases hc : cutI (SL s) = true
    · have HQ := Lib.hid (show IntegR w (SL s) (.returned (.tuple #[I 0, I 3])) _ from ⟨0, 3, rfl, fun k => absurd HT.out k, fun _ => ⟨⟨fun _ => hc, fun _ => rfl⟩, fun k => (by rw [hc] at k; cases k)⟩, HB1.out⟩)
      rw [hc]
      clear hc HCO HB1
      go_wp2
      go_ret2
      exact HQ.out
    · have hc := Bool.eq_false_iff.2 hc
      rw [hc]
      have HC := Lib.hid hc
      clear HCO
      have hv := HV.out
      have hci : cutI (trimM (SL s)) = false := by rw [← cut_neg.2.2]; exact hc
      have hca := cut_not _ hc
      obtain ⟨hp, htr⟩ := read_part hv
      rw [hca] at hp htr
      have HR := Lib.hid fun W => read_any (negM (SL s)) (cutA (trimM (SL s))) hv.na.digs hv.na.len s W hp htr
      rw [← hv.num] at HR
      clear hc hca hp htr hci hv
      go_wp2_with fail
      refine (HR.out _).mono ?_
      rintro e w3 ⟨v, rfl, hv, hb⟩
      have HB3 := Lib.hid (HB1.out.trans (hb.mono HB1.out.size))
      have HS := Lib.hid (small_any v _ w3 hv)
      clear hv hb HB1
      go_wp2_with fail
      refine HS.out.mono ?_
      rintro e w4 ⟨n, b, rfl, hn, hb⟩
      have HB4 := Lib.hid (HB3.out.trans (hb.mono HB3.out.size))
      have HN := Lib.hid hn
      clear hn hb HB3 HS
      cases b
      · have HQ := Lib.hid (show IntegR w (SL s) (.returned (.tuple #[I 0, I 4])) w4 from ⟨0, 4, rfl, fun k => absurd HT.out k, fun _ => ⟨⟨fun k => (by cases k), fun k => (by rw [HC.out] at k; cases k)⟩, fun _ k => (by have := (HN.out k).2; cases this)⟩, HB4.out⟩)
        clear HN HB4
        go_wp2
        go_ret2
        exact HQ.out
      · have HQ := Lib.hid (show IntegR w (SL s) (.returned (.tuple #[I n, I 0])) w4 from ⟨n, 0, rfl, fun k => absurd HT.out k, fun _ => ⟨⟨fun k => (by cases k), fun k => (by rw [HC.out] at k; cases k)⟩, fun _ k => ⟨(HN.out k).1, rfl⟩⟩, HB4.out⟩)
        clear HN HB4
        go_wp2
        go_ret2
        exact HQ.out
  · have HQ := Lib.hid (show IntegR w (SL s) (.returned (.tuple #[I 0, I (rchk (SL s))])) w1 from ⟨0, _, rfl, fun _ => rfl, fun k => absurd k h0, HB1.out⟩)
    have tc : (rchk (SL s) != 0) = true := bne_iff_ne.2 h0
    generalize rchk (SL s) = c at *
    clear h0 HCO
    go_wp2
    go_ret2
    exact HQ.out
end Go.Proofs.YtpbdlmjfjkfphaaGreatDoor
