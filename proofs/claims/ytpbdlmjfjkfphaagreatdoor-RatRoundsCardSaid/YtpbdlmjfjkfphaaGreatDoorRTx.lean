/- (large.Rat).Text, rat.text, large.Parse. -/
import Derived.Test.YtpbdlmjfjkfphaaGreatDoorROps
import Derived.Test.YtpbdlmjfjkfphaaGreatDoorRChk
namespace Go.Proofs.YtpbdlmjfjkfphaaGreatDoor
open Go.RowKit

/-- what Text returns, and that it is short enough to be lengthened -/
def TextZ (w : World) (z : Int) (e : Ending) (w' : World) : Prop := ∃ s, e = .returned (.tuple #[.string s, .bool (short z)]) ∧ (short z = true → s = ⟨(Lib.itoa z).toArray⟩) ∧ s.size ≤ 4000 ∧ Below w.heap.size w w'
theorem itoa_size {z : Int} {k : Nat} (hk : k = 2100) (h : (z.natAbs : Int) < P32 210) : (⟨(Lib.itoa z).toArray⟩ : ByteArray).size ≤ 4000 := by
  have key : P32 210 ≤ ((10 ^ k : Nat) : Int) := by subst hk; decide +kernel
  have h1 : z.natAbs < 10 ^ k := by omega
  have h2 := (dec_len_lt z.natAbs k (by omega)).2 h1
  rw [size_mk, Lib.itoa]
  split
  · simp; omega
  · rw [show z.toNat = z.natAbs by omega]; omega
set_option maxRecDepth 100000 in
set_option maxHeartbeats 1000000 in
theorem textz_any (v : Value) (z : Int) (w : World) (hx : Big w v z) (htab : Tab w) : Calls Tryz.prog 77 #[v] w (TextZ w z) := by
  obtain ⟨A, ca, wz, rfl, hnz, hvz⟩ := hx.nn
  have HB := Lib.hid ((Below.refl w.heap.size w).alloc (Nat.le_refl _) (.cells #[.bool (decide (z < 0)), .slice A wz.length ca] bigT))
  by_cases h0 : wz.length = 0
  · have hz : z = 0 := by
      rw [List.eq_nil_of_length_eq_zero h0] at hvz
      simp [val] at hvz
      omega
    have hs : short z = true := by rw [hz]; decide +kernel
    have hi : (⟨#[48]⟩ : ByteArray) = ⟨(Lib.itoa z).toArray⟩ := by rw [hz]; decide +kernel
    have HS := Lib.hid hs
    have HII := Lib.hid hi
    have t0 : ((wz.length : Int) == 0) = true := beq_iff_eq.2 (by omega)
    clear hx hnz hvz htab h0 hz hs hi
    generalize decide (z < 0) = b at *
    unfold bigT at *
    go_enter Tryz.func77, Tryz.ntmps77
    go_wp2
    go_ret2
    exact ⟨_, ret_text_one _ _ HS.out, fun _ => HII.out, by decide, HB.out⟩
  · by_cases hl : wz.length ≤ 210
    · refine (text_mid z A ca wz w hnz hvz (by omega) hl htab).mono ?_
      rintro e w' ⟨rfl, hb⟩
      exact ⟨_, rfl, fun _ => rfl, itoa_size (k := 2100) rfl (Int.lt_of_lt_of_le (show (z.natAbs : Int) < P32 wz.length by rw [← hvz]; exact val_lt hnz.ok) (P32_mono hl)), hb⟩
    · have HS := Lib.hid (short_large hnz.ok hnz.nm hvz (by omega))
      have t0 : ((wz.length : Int) == 0) = false := beq_eq_false_iff_ne.2 (by omega)
      have t1 : decide (210 < (wz.length : Int)) = true := decide_eq_true (by omega)
      clear hx hnz hvz htab h0 hl
      generalize decide (z < 0) = b at *
      unfold bigT at *
      go_enter Tryz.func77, Tryz.ntmps77
      go_wp2
      go_ret2
      exact ⟨_, ret_text_none _ _ HS.out, fun h => (by rw [HS.out] at h; cases h), by decide, HB.out⟩
def TextQ (w : World) (q : Rat) (e : Ending) (w' : World) : Prop := ∃ s, e = .returned (.tuple #[.string s, .bool (fitQ q)]) ∧ (fitQ q = true → s = ⟨(qText q).toArray⟩) ∧ Below w.heap.size w w'
theorem short_num (q : Rat) : short q.num = fitN q.num.natAbs := rfl
theorem short_den (q : Rat) : short (q.den : Int) = fitN q.den := short_nat _
theorem cat_mk (a b : List UInt8) : ((⟨a.toArray⟩ : ByteArray) ++ ⟨#[47]⟩) ++ ⟨b.toArray⟩ = ⟨(a ++ 47 :: b).toArray⟩ := SL_inj (by
  rw [SL_mk]
  simp [SL])
theorem fitQ_no1 {q : Rat} (h : short q.num = false) : fitQ q = false := by rw [fitQ, ← short_num, h]; rfl
theorem fitQ_no2 {q : Rat} (h : short (q.den : Int) = false) : fitQ q = false := by rw [fitQ, ← short_den, h, Bool.and_false]
theorem fitQ_yes {q : Rat} (h : short q.num = true) (h2 : short (q.den : Int) = true) : fitQ q = true := by rw [fitQ, ← short_num, ← short_den, h, h2]; rfl
set_option maxRecDepth 100000 in
set_option maxHeartbeats 1000000 in
theorem rtext_any (v : Value) (q : Rat) (w : World) (hx : Rt w v q) (htab : Tab w) : Calls Tryz.prog 67 #[v] w (TextQ w q) := by
  obtain ⟨A, l, c, B, m, d, rfl, hn, hd⟩ := hx.form
  obtain ⟨hv, hb⟩ := boxes1 w (.bool (decide (q.num < 0))) (.slice A l c) (.bool false) (.slice B m d)
  have HT := Lib.hid (textz_any _ _ _ (hn.ext hb) (tab_below htab hb))
  have HB := Lib.hid hb
  have HD := Lib.hid (hd.ext hb)
  have HV := Lib.hid hv
  have HTB := Lib.hid htab
  have v0 := hv.c0
  have v1 := hv.c1
  clear hx hn hd hv hb htab
  generalize decide (q.num < 0) = nb at *
  unfold ratT at *
  go_enter Tryz.func67, Tryz.ntmps67
  go_wp2_with fail
  generalize w.alloc (Obj.cells #[Value.bool nb, Value.slice A l c, Value.bool false, Value.slice B m d] 47) = W0 at *
  refine HT.out.mono ?_
  rintro e w1 ⟨s, rfl, hs, zs, hb⟩
  have HB1 := Lib.hid (HB.out.trans (hb.mono HB.out.size))
  have HD1 := Lib.hid (HD.out.ext hb)
  have HV1 := HV.out.below hb
  have HS := Lib.hid hs
  clear HB HD HV HT hb hs v0 v1
  by_cases h1 : short q.num = true
  · rw [h1]
    have v2 := HV1.c2
    have v3 := HV1.c3
    have HT := Lib.hid (textz_any _ _ _ HD1.out (tab_below HTB.out HB1.out))
    clear HV1
    go_wp2_with fail
    refine HT.out.mono ?_
    rintro e w2 ⟨t, rfl, ht, zt, hb⟩
    have zs1 : (s ++ ⟨#[47]⟩).size ≤ 4001 := by rw [ByteArray.size_append]; exact Nat.add_le_add_right zs 1
    have HB2 := Lib.hid (HB1.out.trans (hb.mono HB1.out.size))
    clear hb HB1 HT
    have hlit := beq_lit t [49] [49] (by decide +kernel)
    by_cases h2 : short (q.den : Int) = true
    · have et := ht h2
      have es := HS.out h1
      have hf := fitQ_yes h1 h2
      have hst : SL t = Lib.decDigits q.den := by rw [et, SL_mk, itoa_nat]
      have h49 : (SL t = [49]) ↔ q.den = 1 := by
        rw [hst]
        exact ⟨one_dec, fun k => by rw [k]; decide +kernel⟩
      rw [h2]
      by_cases h3 : q.den = 1
      · rw [decide_eq_true (h49.2 h3)] at hlit
        have HQ := Lib.hid (show TextQ w q (.returned (.tuple #[.string s, .bool true])) w2 from ⟨s, by rw [hf], fun _ => by rw [es, qText, if_pos h3], HB2.out⟩)
        clear ht et es hf hst h49 HS h3
        go_wp2
        go_ret2
        exact HQ.out
      · rw [decide_eq_false (fun k => h3 (h49.1 k))] at hlit
        have HQ := Lib.hid (show TextQ w q (.returned (.tuple #[.string ((s ++ ⟨#[47]⟩) ++ t), .bool true])) w2 from ⟨_, by rw [hf], fun _ => by rw [es, et, itoa_nat, cat_mk, qText, if_neg h3], HB2.out⟩)
        clear ht et es hf hst h49 HS h3
        go_wp2
        go_ret2
        exact HQ.out
    · have h2 := Bool.eq_false_iff.2 h2
      have hf := fitQ_no2 h2
      rw [h2]
      have HQ := Lib.hid fun s => (show TextQ w q (.returned (.tuple #[.string s, .bool false])) w2 from ⟨s, by rw [hf], fun k => (by rw [hf] at k; cases k), HB2.out⟩)
      clear ht hf HS
      by_cases h3 : SL t = [49]
      · rw [decide_eq_true h3] at hlit
        clear h3
        go_wp2
        go_ret2
        exact HQ.out _
      · rw [decide_eq_false h3] at hlit
        clear h3
        go_wp2
        go_ret2
        exact HQ.out _
  · have h1 := Bool.eq_false_iff.2 h1
    have hf := fitQ_no1 h1
    rw [h1]
    have HQ := Lib.hid (show TextQ w q (.returned (.tuple #[.string ⟨#[]⟩, .bool false])) w1 from ⟨_, by rw [hf], fun k => (by rw [hf] at k; cases k), HB1.out⟩)
    clear hf HS HV1
    go_wp2
    go_ret2
    exact HQ.out
set_option maxRecDepth 100000 in
set_option maxHeartbeats 1000000 in
theorem ratText_any (v : Value) (q : Rat) (w : World) (hx : Rt w v q) (htab : Tab w) : Calls Tryz.prog 46 #[v] w (RetTx w (ratTx q)) := by
  obtain ⟨A, l, c, B, m, d, rfl, -, -⟩ := hx.form
  obtain ⟨-, hb⟩ := boxes1 w (.bool (decide (q.num < 0))) (.slice A l c) (.bool false) (.slice B m d)
  have HT := Lib.hid (rtext_any _ _ _ (hx.ext hb) (tab_below htab hb))
  have HB := Lib.hid hb
  clear hx hb htab
  generalize decide (q.num < 0) = nb at *
  unfold ratT at *
  go_enter Tryz.func46, Tryz.ntmps46
  go_wp2_with fail
  refine HT.out.mono ?_
  rintro e w1 ⟨s, rfl, hs, hb⟩
  have HB1 := Lib.hid (HB.out.trans (hb.mono HB.out.size))
  clear HB HT hb
  by_cases h : fitQ q = true
  · have HQ := Lib.hid (show RetTx w (ratTx q) (.returned (.tuple #[.string s, I 0])) w1 from ⟨by rw [ratTx, if_pos h, hs h], HB1.out⟩)
    rw [h]
    clear hs
    go_wp2
    go_ret2
    exact HQ.out
  · have HQ := Lib.hid (show RetTx w (ratTx q) (.returned (.tuple #[.string ⟨#[]⟩, I 2])) w1 from ⟨by rw [ratTx, if_neg h], HB1.out⟩)
    have h := Bool.eq_false_iff.2 h
    rw [h]
    clear hs
    go_wp2
    go_ret2
    exact HQ.out
theorem cut_neg {l : List UInt8} : cutA l = (if negM l = true then 45 :: cutA (trimM l) else cutA (trimM l)) ∧ cutD l = cutD (trimM l) ∧ cutI l = cutI (trimM l) := by
  have h := neg_form l
  by_cases k : negM l = true
  · rw [if_pos k] at h ⊢
    have := cutA_cons (c := 45) (by decide) (trimM l)
    rw [← h] at this
    exact this
  · rw [if_neg k] at h ⊢
    rw [← h]
    exact ⟨rfl, rfl, rfl⟩
theorem read_l (l : List UInt8) (w : World) (h : Num l) : Calls Tryz.prog 44 #[.string ⟨l.toArray⟩] w (RetBig w (num l : Int)) := read_num ⟨l.toArray⟩ w h
theorem cut_s (s : ByteArray) (w : World) (h : s.size ≤ 9223372036854775807) : Calls Tryz.prog 40 #[.string s, .string ⟨#[47]⟩] w fun e w' => e = .returned (.tuple #[.string ⟨(cutA (SL s)).toArray⟩, .string ⟨(cutD (trimM (SL s))).toArray⟩, .bool (cutI (trimM (SL s)))]) ∧ ∃ n, w' = w.drewN n := by
  have := cut_any s w h
  unfold CutR at this
  rw [cut_neg.2.1, cut_neg.2.2] at this
  exact this
theorem read_part {l : List UInt8} (h : RVal l) : Lib.hasPrefix (cutA l) [45] = negM l ∧ Lib.trimPrefix (cutA l) [45] = cutA (trimM l) := by
  rw [cut_neg.1]
  by_cases k : negM l = true
  · rw [if_pos k, k]
    exact neg_cons _
  · rw [if_neg k, Bool.eq_false_iff.2 k]
    exact ⟨hasPrefix_dig h.na.digs, trimPrefix_dig h.na.digs⟩
set_option maxRecDepth 100000 in
set_option maxHeartbeats 2000000 in
theorem parse_any (s : ByteArray) (w : World) (hs : s.size ≤ 9223372036854775807) (h : RVal (SL s)) : Calls Tryz.prog 31 #[.string s] w (RetRt w (rval (SL s))) := by
  obtain ⟨hv, hb⟩ := boxes1 w (.bool false) (.slice none 0 0) (.bool false) (.slice none 0 0)
  obtain ⟨hp, htr⟩ := read_part h
  have HRA := Lib.hid fun W => read_any (negM (SL s)) (cutA (trimM (SL s))) h.na.digs h.na.len ⟨(cutA (SL s)).toArray⟩ W hp htr
  rw [← h.num] at HRA
  have HRD := Lib.hid fun (k : cutI (trimM (SL s)) = true) W => read_l (cutD (trimM (SL s))) W (h.nd k)
  have HV := Lib.hid hv
  have HB := Lib.hid hb
  have HDEN := Lib.hid h.den
  have HC := Lib.hid fun W => cut_s s W hs
  clear hv hb hp htr h
  obtain ⟨q, hq⟩ : ∃ q, rval (SL s) = q := ⟨_, rfl⟩
  rw [hq] at HRA HDEN ⊢
  clear hq
  unfold ratT at *
  go_enter Tryz.func31, Tryz.ntmps31
  go_wp2_with fail
  generalize w.alloc (Obj.cells #[Value.bool false, Value.slice none 0 0, Value.bool false, Value.slice none 0 0] 47) = W0 at *
  refine (HC.out _).mono ?_
  rintro e w' ⟨rfl, n, rfl⟩
  have HV0 := Lib.hid (show Vr (W0.drewN n) w.heap.size (.bool false) (.slice none 0 0) (.bool false) (.slice none 0 0) from ⟨HV.out.c0, HV.out.c1, HV.out.c2, HV.out.c3, HV.out.f0, HV.out.f1, HV.out.f2, HV.out.f3⟩)
  have HB0 := Lib.hid (show Below w.heap.size w (W0.drewN n) from ⟨HB.out.os, HB.out.tape, HB.out.output, HB.out.size, HB.out.block⟩)
  clear HV HB HC
  generalize W0.drewN n = W1 at *
  by_cases hi : cutI (trimM (SL s)) = true
  · rw [hi]
    rw [if_pos hi] at HDEN
    have HRD2 := Lib.hid (HRD.out hi)
    clear HRD
    go_wp2_with (go_at_call 44; refine (HRA.out _).mono ?_)
    rintro e w2 ⟨v2, rfl, hv, hb⟩
    obtain ⟨nb, A, l, c, rfl⟩ := hv.ofWords
    have HV2 := Lib.hid (HV0.out.below hb)
    have HB2 := Lib.hid (HB0.out.trans (hb.mono HB0.out.size))
    have BN2 := Lib.hid hv
    clear hv hb HV0 HB0
    go_wp2_with (go_at_call 44; refine (HRD2.out _).mono ?_)
    rintro e w3 ⟨v3, rfl, hv, hb⟩
    rw [← HDEN.out] at hv
    obtain ⟨db, B, m, d, rfl⟩ := hv.ofWords
    have HV3 := Lib.hid (HV2.out.below hb)
    have HB3 := Lib.hid (HB2.out.trans (hb.mono HB2.out.size))
    have HR := Lib.hid (ret_rat_set HB3.out (Nat.le_refl _) HV3.out (Rt.mk (BN2.out.ext hb) hv))
    have HZ := Lib.hid (HV3.out.set (.bool nb) (.slice A l c) (.bool db) (.slice B m d))
    clear hv hb HV2 HB2 BN2
    unfold set4 at HR HZ
    have r0 := HV3.out.c0
    have r1 := HV3.out.c1
    have r2 := HV3.out.c2
    have r3 := HV3.out.c3
    have q0 := HV3.out.f0
    have q1 := HV3.out.f1
    have q2 := HV3.out.f2
    have q3 := HV3.out.f3
    go_wp2
    have z0 := HZ.out.c0
    have z1 := HZ.out.c1
    have z2 := HZ.out.c2
    have z3 := HZ.out.c3
    generalize ((((w3.setCell ⟨w.heap.size, 0, none⟩ (.bool nb)).setCell ⟨w.heap.size, 1, none⟩ (.slice A l c)).setCell ⟨w.heap.size, 2, none⟩ (.bool db)).setCell ⟨w.heap.size, 3, none⟩ (.slice B m d)) = W at *
    exact bodyPost_ret (v := .agg #[.bool nb, .slice A l c, .bool db, .slice B m d]) (by simp [results, Tryz.results31, go_sem, z0, z1, z2, z3]) rfl HR.out
  · rw [if_neg hi] at HDEN
    have hi := Bool.eq_false_iff.2 hi
    rw [hi]
    clear HRD
    go_wp2_with (go_at_call 44; refine (HRA.out _).mono ?_)
    rintro e w2 ⟨v2, rfl, hv, hb⟩
    obtain ⟨nb, A, l, c, rfl⟩ := hv.ofWords
    have HV2 := Lib.hid (HV0.out.below hb)
    have HB2 := Lib.hid (HB0.out.trans (hb.mono HB0.out.size))
    have BN2 := Lib.hid hv
    clear hv hb HV0 HB0
    go_wp2_with (go_at_call 52; refine (of_any 1 _ (by omega) (by omega)).mono ?_)
    rintro e w3 ⟨v3, rfl, hv, hb⟩
    rw [← HDEN.out] at hv
    obtain ⟨db, B, m, d, rfl⟩ := hv.ofWords
    have HV3 := Lib.hid (HV2.out.below hb)
    have HB3 := Lib.hid (HB2.out.trans (hb.mono HB2.out.size))
    have HR := Lib.hid (ret_rat_set HB3.out (Nat.le_refl _) HV3.out (Rt.mk (BN2.out.ext hb) hv))
    have HZ := Lib.hid (HV3.out.set (.bool nb) (.slice A l c) (.bool db) (.slice B m d))
    clear hv hb HV2 HB2 BN2
    unfold set4 at HR HZ
    have r0 := HV3.out.c0
    have r1 := HV3.out.c1
    have r2 := HV3.out.c2
    have r3 := HV3.out.c3
    have q0 := HV3.out.f0
    have q1 := HV3.out.f1
    have q2 := HV3.out.f2
    have q3 := HV3.out.f3
    go_wp2
    have z0 := HZ.out.c0
    have z1 := HZ.out.c1
    have z2 := HZ.out.c2
    have z3 := HZ.out.c3
    generalize ((((w3.setCell ⟨w.heap.size, 0, none⟩ (.bool nb)).setCell ⟨w.heap.size, 1, none⟩ (.slice A l c)).setCell ⟨w.heap.size, 2, none⟩ (.bool db)).setCell ⟨w.heap.size, 3, none⟩ (.slice B m d)) = W at *
    exact bodyPost_ret (v := .agg #[.bool nb, .slice A l c, .bool db, .slice B m d]) (by simp [results, Tryz.results31, go_sem, z0, z1, z2, z3]) rfl HR.out
end Go.Proofs.YtpbdlmjfjkfphaaGreatDoor
