/- The keep's four and matrixFact. What the walks of the matrix laws share. -/
import Derived.Test.YtmnedfkinepnfaaGreatDoorJV
import Derived.Test.YtmnedfkinepnfaaGreatDoorJW
import Derived.Test.YtmnedfkinepnfaaGreatDoorJX
namespace Go.Proofs.YtmnedfkinepnfaaGreatDoor
open Go.RowKit

theorem sv2 (w : World) (t : TypeId) (a b : ByteArray) : SV (w.alloc (.cells #[.string a, .string b] t)) (some ⟨w.heap.size, 0, none⟩) 2 [a, b] := reads2 w t a b
theorem ss_of {w : World} {A : Option Addr} {n c : Nat} {l : List ByteArray} (h : SV w A n l) : SS w (.slice A n c) l := by
  have hl := h.len
  subst hl
  exact ⟨A, c, rfl, h⟩
theorem mat22 (w : World) (a b c d : ByteArray) : SMat (((w.alloc (.cells #[.string a, .string b] strT)).alloc (.cells #[.string c, .string d] strT)).alloc (.cells #[.slice (some ⟨w.heap.size, 0, none⟩) 2 2, .slice (some ⟨w.heap.size + 1, 0, none⟩) 2 2] vecT)) (some ⟨w.heap.size + 1 + 1, 0, none⟩) 2 [[a, b], [c, d]] ∧
    Below w.heap.size w (((w.alloc (.cells #[.string a, .string b] strT)).alloc (.cells #[.string c, .string d] strT)).alloc (.cells #[.slice (some ⟨w.heap.size, 0, none⟩) 2 2, .slice (some ⟨w.heap.size + 1, 0, none⟩) 2 2] vecT)) := by
  have h1 := sv2 w strT a b
  have b1 := below_new (w.alloc (.cells #[.string a, .string b] strT)) (.cells #[.string c, .string d] strT)
  have h2 := sv2 (w.alloc (.cells #[.string a, .string b] strT)) strT c d
  have b2 := below_new ((w.alloc (.cells #[.string a, .string b] strT)).alloc (.cells #[.string c, .string d] strT)) (.cells #[.slice (some ⟨w.heap.size, 0, none⟩) 2 2, .slice (some ⟨w.heap.size + 1, 0, none⟩) 2 2] vecT)
  have k1 := (h1.below b1).below b2
  have k2 := h2.below b2
  have hr := reads_lits ((w.alloc (.cells #[.string a, .string b] strT)).alloc (.cells #[.string c, .string d] strT)) vecT [.slice (some ⟨w.heap.size, 0, none⟩) 2 2, .slice (some ⟨w.heap.size + 1, 0, none⟩) 2 2]
  rw [World.size_alloc, World.size_alloc w] at hr
  rw [World.size_alloc w] at k2
  refine ⟨⟨[.slice (some ⟨w.heap.size, 0, none⟩) 2 2, .slice (some ⟨w.heap.size + 1, 0, none⟩) 2 2], ?_, rfl, fun i u l hu hl => ?_⟩, (((Below.refl _ _).alloc (Nat.le_refl _) _).alloc (by simp) _).alloc (by simp; omega) _⟩
  · rw [World.size_alloc, World.size_alloc, World.size_alloc]
    exact hr
  · match i with
    | 0 =>
      simp at hu hl
      subst hu hl
      exact ss_of k1
    | 1 =>
      simp at hu hl
      subst hu hl
      exact ss_of k2
    | i + 2 => simp at hl
theorem mat10 (w : World) (a : ByteArray) : SMat (((w.alloc (.cells #[.string a] strT)).alloc (.cells #[] strT)).alloc (.cells #[.slice (some ⟨w.heap.size, 0, none⟩) 1 1, .slice (some ⟨w.heap.size + 1, 0, none⟩) 0 0] vecT)) (some ⟨w.heap.size + 1 + 1, 0, none⟩) 2 [[a], []] ∧
    Below w.heap.size w (((w.alloc (.cells #[.string a] strT)).alloc (.cells #[] strT)).alloc (.cells #[.slice (some ⟨w.heap.size, 0, none⟩) 1 1, .slice (some ⟨w.heap.size + 1, 0, none⟩) 0 0] vecT)) := by
  have h1 : SV (w.alloc (.cells #[.string a] strT)) (some ⟨w.heap.size, 0, none⟩) 1 [a] := by
    have := reads_lits w strT ([a].map Sv)
    unfold SV
    rw [World.size_alloc]
    exact this
  have b1 := below_new (w.alloc (.cells #[.string a] strT)) (.cells #[] strT)
  have b2 := below_new ((w.alloc (.cells #[.string a] strT)).alloc (.cells #[] strT)) (.cells #[.slice (some ⟨w.heap.size, 0, none⟩) 1 1, .slice (some ⟨w.heap.size + 1, 0, none⟩) 0 0] vecT)
  have k1 := (h1.below b1).below b2
  have hr := reads_lits ((w.alloc (.cells #[.string a] strT)).alloc (.cells #[] strT)) vecT [.slice (some ⟨w.heap.size, 0, none⟩) 1 1, .slice (some ⟨w.heap.size + 1, 0, none⟩) 0 0]
  rw [World.size_alloc, World.size_alloc w] at hr
  refine ⟨⟨[.slice (some ⟨w.heap.size, 0, none⟩) 1 1, .slice (some ⟨w.heap.size + 1, 0, none⟩) 0 0], ?_, rfl, fun i u l hu hl => ?_⟩, (((Below.refl _ _).alloc (Nat.le_refl _) _).alloc (by simp) _).alloc (by simp; omega) _⟩
  · rw [World.size_alloc, World.size_alloc, World.size_alloc]
    exact hr
  · match i with
    | 0 =>
      simp at hu hl
      subst hu hl
      exact ss_of k1
    | 1 =>
      simp at hu hl
      subst hu hl
      exact ⟨_, _, rfl, Reads.nil⟩
    | i + 2 => simp at hl
theorem sv1 (w : World) (t : TypeId) (a : ByteArray) : SV (w.alloc (.cells #[.string a] t)) (some ⟨w.heap.size, 0, none⟩) 1 [a] := by
  have := reads_lits w t ([a].map Sv)
  unfold SV
  rw [World.size_alloc]
  exact this
def fourS : List (List ByteArray) := [[⟨#[49]⟩, ⟨#[50]⟩], [⟨#[51]⟩, ⟨#[52]⟩]]
def mulS : List (List ByteArray) := [[⟨#[55]⟩, ⟨#[49, 48]⟩], [⟨#[49, 53]⟩, ⟨#[50, 50]⟩]]
def trS : List (List ByteArray) := [[⟨#[49]⟩, ⟨#[51]⟩], [⟨#[50]⟩, ⟨#[52]⟩]]
def sumS : List (List ByteArray) := [[⟨#[50]⟩, ⟨#[52]⟩], [⟨#[54]⟩, ⟨#[56]⟩]]
def idnS : List (List ByteArray) := [[⟨#[49]⟩, ⟨#[48]⟩], [⟨#[48]⟩, ⟨#[49]⟩]]
theorem mf_dot : dotM (tx1 [⟨#[49]⟩, ⟨#[50]⟩]) (tx1 [⟨#[51]⟩, ⟨#[52]⟩]) = ([49, 49], 0) := by decide +kernel
theorem mf_apply : applyM (tx2 fourS) (tx1 [⟨#[49]⟩, ⟨#[49]⟩]) = (tx1 [⟨#[51]⟩, ⟨#[55]⟩], 0) := by decide +kernel
theorem mf_mul : mulM (tx2 fourS) (tx2 fourS) = (tx2 mulS, 0) := by decide +kernel
theorem mf_tr : trM (tx2 fourS) = (tx2 trS, 0) := by decide +kernel
theorem mf_id : idT 2 = tx2 idnS := by decide +kernel
theorem mf_add : addM (tx2 fourS) (tx2 fourS) = (tx2 sumS, 0) := by decide +kernel
theorem mf_sc : scM (tx2 fourS) (SL ⟨#[50]⟩) = (tx2 sumS, 0) := by decide +kernel
theorem sh2_of {m : List (List ByteArray)} (h : (m.all fun l => l.all fun s => decide (s.size ≤ 9223372036854775807)) = true) : Sh2 m := fun l hl s hs => by
  rw [List.all_eq_true] at h
  have h1 := h l hl
  rw [List.all_eq_true] at h1
  exact of_decide_eq_true (h1 s hs)
theorem sh1_of {l : List ByteArray} (h : (l.all fun s => decide (s.size ≤ 9223372036854775807)) = true) : Sh1 l := fun s hs => by
  rw [List.all_eq_true] at h
  exact of_decide_eq_true (h s hs)
def RetM0 (w : World) (m : List (List ByteArray)) (e : Ending) (w' : World) : Prop := ∃ A c, e = .returned (.slice A 2 c) ∧ SMat w' A 2 m ∧ Below w.heap.size w w'
set_option maxRecDepth 100000 in
theorem four_any (w : World) : Calls Tryz.prog 82 #[] w (RetM0 w fourS) := by
  obtain ⟨h1, h2⟩ := mat22 w ⟨#[49]⟩ ⟨#[50]⟩ ⟨#[51]⟩ ⟨#[52]⟩
  have H1 := Lib.hid h1
  have H2 := Lib.hid h2
  clear h1 h2
  unfold strT vecT at *
  go_enter Tryz.func82, Tryz.ntmps82
  go_wp2
  go_ret
  exact ⟨_, _, rfl, H1.out, H2.out⟩
/-- a result that is a known matrix -/
theorem RetMT.lit {w : World} {r : MT × Int} {m : List (List ByteArray)} {e : Ending} {w' : World} (h : RetMT w r e w') (hr : r = (tx2 m, 0)) : ∃ A n c, e = .returned (.tuple #[.slice A n c, I 0]) ∧ SMat w' A n m ∧ m.length = n ∧ Below w.heap.size w w' := by
  obtain ⟨A, n, c, m', rfl, h1, h2, h3, hb⟩ := h
  rw [hr] at h2 ⊢
  obtain rfl := tx2_inj h2
  exact ⟨A, n, c, rfl, h1, by obtain ⟨_, _, h, _⟩ := h1; exact h, hb⟩
theorem RetVT.lit {w : World} {r : List (List UInt8) × Int} {l : List ByteArray} {e : Ending} {w' : World} (h : RetVT w r e w') (hr : r = (tx1 l, 0)) : ∃ A n c, e = .returned (.tuple #[.slice A n c, I 0]) ∧ SV w' A n l ∧ l.length = n ∧ Below w.heap.size w w' := by
  obtain ⟨A, n, c, m', rfl, h1, h2, h3, hb⟩ := h
  rw [hr] at h2 ⊢
  obtain rfl := tx1_inj h2
  exact ⟨A, n, c, rfl, h1, h1.len, hb⟩
set_option maxRecDepth 100000 in
set_option maxHeartbeats 8000000 in
theorem matrixFact_any (w : World) (htab : Tab w) : Calls Tryz.prog 27 #[] w fun e w' => e = .returned (.bool true) ∧ Below w.heap.size w w' := by
  have HTB := Lib.hid htab
  clear htab
  have HB := Lib.hid (Below.refl w.heap.size w)
  go_enter Tryz.func27, Tryz.ntmps27
  have hv0 := sv2 w strT ⟨#[49]⟩ ⟨#[50]⟩
  have hb0 := below_new w (.cells #[.string ⟨#[49]⟩, .string ⟨#[50]⟩] strT)
  have hbs := HB.out.size
  replace HB := Lib.hid (HB.out.trans (hb0.mono hbs))
  clear hbs
  have hv1 := sv2 (w.alloc (.cells #[.string ⟨#[49]⟩, .string ⟨#[50]⟩] strT)) strT ⟨#[51]⟩ ⟨#[52]⟩
  have hb1 := below_new (w.alloc (.cells #[.string ⟨#[49]⟩, .string ⟨#[50]⟩] strT)) (.cells #[.string ⟨#[51]⟩, .string ⟨#[52]⟩] strT)
  replace hv0 := hv0.below hb1
  have hbs := HB.out.size
  replace HB := Lib.hid (HB.out.trans (hb1.mono hbs))
  clear hbs
  simp only [World.size_alloc] at hv0 hv1
  clear hb0 hb1
  unfold strT at *
  have HC := Lib.hid (dotM_any [⟨#[49]⟩, ⟨#[50]⟩] 2 _ 2 [⟨#[51]⟩, ⟨#[52]⟩] 2 _ 2 _ hv0 (sh1_of (by decide)) hv1 (sh1_of (by decide)) (tab_below HTB.out HB.out))
  go_wp2_with fail
  refine HC.out.mono ?_
  rintro e w1 ⟨rfl, hb⟩
  clear HC
  rw [mf_dot]
  have hbs := HB.out.size
  replace HB := Lib.hid (HB.out.trans (hb.mono hbs))
  clear hbs
  clear hb hv0 hv1
  have HC := Lib.hid (four_any w1)
  go_wp2_with fail
  refine HC.out.mono ?_
  rintro e w2 ⟨A1, c1, rfl, hf, hb⟩
  clear HC
  have hbs := HB.out.size
  replace HB := Lib.hid (HB.out.trans (hb.mono hbs))
  clear hbs
  have HF1 := Lib.hid hf
  clear hb hf
  have hv0 := sv2 w2 strT ⟨#[49]⟩ ⟨#[49]⟩
  have hb0 := below_new w2 (.cells #[.string ⟨#[49]⟩, .string ⟨#[49]⟩] strT)
  have hbs := HB.out.size
  replace HB := Lib.hid (HB.out.trans (hb0.mono hbs))
  clear hbs
  replace HF1 := Lib.hid (HF1.out.below hb0)
  clear hb0
  unfold strT at *
  have HC := Lib.hid (applyM_any fourS 2 A1 c1 [⟨#[49]⟩, ⟨#[49]⟩] 2 _ 2 _ HF1.out (sh2_of (by decide)) hv0 (sh1_of (by decide)) (tab_below HTB.out HB.out))
  go_wp2_with fail
  refine HC.out.mono ?_
  rintro e w3 h
  clear HC
  obtain ⟨Aa, na, ca, rfl, hm, hn, hb⟩ := h.lit mf_apply
  have hbs := HB.out.size
  replace HB := Lib.hid (HB.out.trans (hb.mono hbs))
  clear hbs
  replace HF1 := Lib.hid (HF1.out.below hb)
  have HA := Lib.hid hm
  have HAn := Lib.hid hn
  clear h hb hm hn hv0
  clear HF1
  have HC := Lib.hid (four_any w3)
  go_wp2_with fail
  refine HC.out.mono ?_
  rintro e w4 ⟨A2, c2, rfl, hf, hb⟩
  clear HC
  have hbs := HB.out.size
  replace HB := Lib.hid (HB.out.trans (hb.mono hbs))
  clear hbs
  replace HA := Lib.hid (HA.out.below hb)
  have HF2 := Lib.hid hf
  clear hb hf
  have HC := Lib.hid (four_any w4)
  go_wp2_with fail
  refine HC.out.mono ?_
  rintro e w5 ⟨A3, c3, rfl, hf, hb⟩
  clear HC
  have hbs := HB.out.size
  replace HB := Lib.hid (HB.out.trans (hb.mono hbs))
  clear hbs
  replace HA := Lib.hid (HA.out.below hb)
  replace HF2 := Lib.hid (HF2.out.below hb)
  have HF3 := Lib.hid hf
  clear hb hf
  have HC := Lib.hid (mulM_any fourS fourS 2 2 A2 A3 c2 c3 w5 HF2.out HF3.out (sh2_of (by decide)) (sh2_of (by decide)) (tab_below HTB.out HB.out))
  go_wp2_with fail
  refine HC.out.mono ?_
  rintro e w6 h
  clear HC
  obtain ⟨Am, nm, cm, rfl, hm, hn, hb⟩ := h.lit mf_mul
  have hbs := HB.out.size
  replace HB := Lib.hid (HB.out.trans (hb.mono hbs))
  clear hbs
  replace HA := Lib.hid (HA.out.below hb)
  replace HF2 := Lib.hid (HF2.out.below hb)
  replace HF3 := Lib.hid (HF3.out.below hb)
  have Hm := Lib.hid hm
  have Hmn := Lib.hid hn
  clear h hb hm hn
  clear HF2 HF3
  have HC := Lib.hid (four_any w6)
  go_wp2_with fail
  refine HC.out.mono ?_
  rintro e w7 ⟨A4, c4, rfl, hf, hb⟩
  clear HC
  have hbs := HB.out.size
  replace HB := Lib.hid (HB.out.trans (hb.mono hbs))
  clear hbs
  replace HA := Lib.hid (HA.out.below hb)
  replace Hm := Lib.hid (Hm.out.below hb)
  have HF4 := Lib.hid hf
  clear hb hf
  have HC := Lib.hid (transpose_any fourS 2 A4 c4 w7 HF4.out (sh2_of (by decide)) (tab_below HTB.out HB.out))
  go_wp2_with fail
  refine HC.out.mono ?_
  rintro e w8 h
  clear HC
  obtain ⟨At, nt, ct, rfl, hm, hn, hb⟩ := h.lit mf_tr
  have hbs := HB.out.size
  replace HB := Lib.hid (HB.out.trans (hb.mono hbs))
  clear hbs
  replace HA := Lib.hid (HA.out.below hb)
  replace Hm := Lib.hid (Hm.out.below hb)
  replace HF4 := Lib.hid (HF4.out.below hb)
  have Ht := Lib.hid hm
  have Htn := Lib.hid hn
  clear h hb hm hn
  clear HF4
  have HC := Lib.hid (identity_any 2 w8 (by decide))
  go_wp2_with fail
  refine HC.out.mono ?_
  rintro e w9 h
  clear HC
  obtain ⟨Ai, ni, ci, rfl, hm, hn, hb⟩ := h.lit (by rw [mf_id])
  have hbs := HB.out.size
  replace HB := Lib.hid (HB.out.trans (hb.mono hbs))
  clear hbs
  replace HA := Lib.hid (HA.out.below hb)
  replace Hm := Lib.hid (Hm.out.below hb)
  replace Ht := Lib.hid (Ht.out.below hb)
  have Hi := Lib.hid hm
  have Hin := Lib.hid hn
  clear h hb hm hn
  have HC := Lib.hid (four_any w9)
  go_wp2_with fail
  refine HC.out.mono ?_
  rintro e w10 ⟨A5, c5, rfl, hf, hb⟩
  clear HC
  have hbs := HB.out.size
  replace HB := Lib.hid (HB.out.trans (hb.mono hbs))
  clear hbs
  replace HA := Lib.hid (HA.out.below hb)
  replace Hm := Lib.hid (Hm.out.below hb)
  replace Ht := Lib.hid (Ht.out.below hb)
  replace Hi := Lib.hid (Hi.out.below hb)
  have HF5 := Lib.hid hf
  clear hb hf
  have HC := Lib.hid (four_any w10)
  go_wp2_with fail
  refine HC.out.mono ?_
  rintro e w11 ⟨A6, c6, rfl, hf, hb⟩
  clear HC
  have hbs := HB.out.size
  replace HB := Lib.hid (HB.out.trans (hb.mono hbs))
  clear hbs
  replace HA := Lib.hid (HA.out.below hb)
  replace Hm := Lib.hid (Hm.out.below hb)
  replace Ht := Lib.hid (Ht.out.below hb)
  replace Hi := Lib.hid (Hi.out.below hb)
  replace HF5 := Lib.hid (HF5.out.below hb)
  have HF6 := Lib.hid hf
  clear hb hf
  have HC := Lib.hid (addM_any fourS 2 A5 c5 fourS 2 A6 c6 w11 HF5.out (sh2_of (by decide)) HF6.out (sh2_of (by decide)) (tab_below HTB.out HB.out))
  go_wp2_with fail
  refine HC.out.mono ?_
  rintro e w12 h
  clear HC
  obtain ⟨As, ns, cs, rfl, hm, hn, hb⟩ := h.lit mf_add
  have hbs := HB.out.size
  replace HB := Lib.hid (HB.out.trans (hb.mono hbs))
  clear hbs
  replace HA := Lib.hid (HA.out.below hb)
  replace Hm := Lib.hid (Hm.out.below hb)
  replace Ht := Lib.hid (Ht.out.below hb)
  replace Hi := Lib.hid (Hi.out.below hb)
  replace HF5 := Lib.hid (HF5.out.below hb)
  replace HF6 := Lib.hid (HF6.out.below hb)
  have Hs := Lib.hid hm
  have Hsn := Lib.hid hn
  clear h hb hm hn
  clear HF5 HF6
  have HC := Lib.hid (four_any w12)
  go_wp2_with fail
  refine HC.out.mono ?_
  rintro e w13 ⟨A7, c7, rfl, hf, hb⟩
  clear HC
  have hbs := HB.out.size
  replace HB := Lib.hid (HB.out.trans (hb.mono hbs))
  clear hbs
  replace HA := Lib.hid (HA.out.below hb)
  replace Hm := Lib.hid (Hm.out.below hb)
  replace Ht := Lib.hid (Ht.out.below hb)
  replace Hi := Lib.hid (Hi.out.below hb)
  replace Hs := Lib.hid (Hs.out.below hb)
  have HF7 := Lib.hid hf
  clear hb hf
  have HC := Lib.hid (scM_any fourS 2 A7 c7 ⟨#[50]⟩ w13 HF7.out (sh2_of (by decide)) (by decide) (tab_below HTB.out HB.out))
  go_wp2_with fail
  refine HC.out.mono ?_
  rintro e w14 h
  clear HC
  obtain ⟨Ac, nc, cc, rfl, hm, hn, hb⟩ := h.lit mf_sc
  have hbs := HB.out.size
  replace HB := Lib.hid (HB.out.trans (hb.mono hbs))
  clear hbs
  replace HA := Lib.hid (HA.out.below hb)
  replace Hm := Lib.hid (Hm.out.below hb)
  replace Ht := Lib.hid (Ht.out.below hb)
  replace Hi := Lib.hid (Hi.out.below hb)
  replace Hs := Lib.hid (Hs.out.below hb)
  replace HF7 := Lib.hid (HF7.out.below hb)
  have Hc := Lib.hid hm
  have Hcn := Lib.hid hn
  clear h hb hm hn
  clear HF7
  have HX := Lib.hid (fine_any [0, 0, 0, 0, 0, 0, 0] 7 (some ⟨w14.heap.size, 0, none⟩) 7 (w14.alloc (.cells #[I 0, I 0, I 0, I 0, I 0, I 0, I 0] 25)) _ (reads_lits w14 _ [I 0, I 0, I 0, I 0, I 0, I 0, I 0]) (by omega))
  rw [show fineB [0, 0, 0, 0, 0, 0, 0] = true from rfl] at HX
  have hb := below_new w14 (.cells #[I 0, I 0, I 0, I 0, I 0, I 0, I 0] 25)
  have hbs := HB.out.size
  replace HB := Lib.hid (HB.out.trans (hb.mono hbs))
  clear hbs
  replace HA := Lib.hid (HA.out.below hb)
  replace Hm := Lib.hid (Hm.out.below hb)
  replace Ht := Lib.hid (Ht.out.below hb)
  replace Hi := Lib.hid (Hi.out.below hb)
  replace Hs := Lib.hid (Hs.out.below hb)
  replace Hc := Lib.hid (Hc.out.below hb)
  clear hb
  have ha2 : na = 2 := HAn.out.symm
  subst ha2
  have hm2 : nm = 2 := Hmn.out.symm
  subst hm2
  have ht2 : nt = 2 := Htn.out.symm
  subst ht2
  have hi2 : ni = 2 := Hin.out.symm
  subst hi2
  have hs2 : ns = 2 := Hsn.out.symm
  subst hs2
  have hc2 : nc = 2 := Hcn.out.symm
  subst hc2
  go_wp2_with fail
  refine HX.out.mono ?_
  rintro e w90 ⟨rfl, rfl⟩
  clear HX
  generalize w14.alloc (.cells #[I 0, I 0, I 0, I 0, I 0, I 0, I 0] 25) = w91 at *
  have hv0 := sv2 w91 strT ⟨#[51]⟩ ⟨#[55]⟩
  have hb0 := below_new w91 (.cells #[.string ⟨#[51]⟩, .string ⟨#[55]⟩] strT)
  have hbs := HB.out.size
  replace HB := Lib.hid (HB.out.trans (hb0.mono hbs))
  clear hbs
  replace HA := Lib.hid (HA.out.below hb0)
  replace Hm := Lib.hid (Hm.out.below hb0)
  replace Ht := Lib.hid (Ht.out.below hb0)
  replace Hi := Lib.hid (Hi.out.below hb0)
  replace Hs := Lib.hid (Hs.out.below hb0)
  replace Hc := Lib.hid (Hc.out.below hb0)
  clear hb0
  unfold strT at *
  have HC := Lib.hid (equalV_any [⟨#[51]⟩, ⟨#[55]⟩] [⟨#[51]⟩, ⟨#[55]⟩] 2 2 Aa _ ca 2 _ HA.out hv0 (by decide))
  go_wp2_with fail
  refine HC.out.mono ?_
  rintro e w15 ⟨rfl, hb⟩
  clear HC
  simp only [decide_true]
  have hbs := HB.out.size
  replace HB := Lib.hid (HB.out.trans (hb.mono hbs))
  clear hbs
  replace HA := Lib.hid (HA.out.below hb)
  replace Hm := Lib.hid (Hm.out.below hb)
  replace Ht := Lib.hid (Ht.out.below hb)
  replace Hi := Lib.hid (Hi.out.below hb)
  replace Hs := Lib.hid (Hs.out.below hb)
  replace Hc := Lib.hid (Hc.out.below hb)
  clear hb hv0
  clear HA
  obtain ⟨hq, hb⟩ := mat22 w15 ⟨#[55]⟩ ⟨#[49, 48]⟩ ⟨#[49, 53]⟩ ⟨#[50, 50]⟩
  have hbs := HB.out.size
  replace HB := Lib.hid (HB.out.trans (hb.mono hbs))
  clear hbs
  replace Hm := Lib.hid (Hm.out.below hb)
  replace Ht := Lib.hid (Ht.out.below hb)
  replace Hi := Lib.hid (Hi.out.below hb)
  replace Hs := Lib.hid (Hs.out.below hb)
  replace Hc := Lib.hid (Hc.out.below hb)
  clear hb
  unfold strT vecT at *
  have HC := Lib.hid (same_any mulS mulS 2 2 Am _ cm 2 _ Hm.out hq (by decide) (by decide))
  go_wp2_with fail
  refine HC.out.mono ?_
  rintro e w16 ⟨rfl, hb⟩
  clear HC
  simp only [decide_true]
  have hbs := HB.out.size
  replace HB := Lib.hid (HB.out.trans (hb.mono hbs))
  clear hbs
  replace Hm := Lib.hid (Hm.out.below hb)
  replace Ht := Lib.hid (Ht.out.below hb)
  replace Hi := Lib.hid (Hi.out.below hb)
  replace Hs := Lib.hid (Hs.out.below hb)
  replace Hc := Lib.hid (Hc.out.below hb)
  clear hb hq
  clear Hm
  obtain ⟨hq, hb⟩ := mat22 w16 ⟨#[49]⟩ ⟨#[51]⟩ ⟨#[50]⟩ ⟨#[52]⟩
  have hbs := HB.out.size
  replace HB := Lib.hid (HB.out.trans (hb.mono hbs))
  clear hbs
  replace Ht := Lib.hid (Ht.out.below hb)
  replace Hi := Lib.hid (Hi.out.below hb)
  replace Hs := Lib.hid (Hs.out.below hb)
  replace Hc := Lib.hid (Hc.out.below hb)
  clear hb
  unfold strT vecT at *
  have HC := Lib.hid (same_any trS trS 2 2 At _ ct 2 _ Ht.out hq (by decide) (by decide))
  go_wp2_with fail
  refine HC.out.mono ?_
  rintro e w17 ⟨rfl, hb⟩
  clear HC
  simp only [decide_true]
  have hbs := HB.out.size
  replace HB := Lib.hid (HB.out.trans (hb.mono hbs))
  clear hbs
  replace Ht := Lib.hid (Ht.out.below hb)
  replace Hi := Lib.hid (Hi.out.below hb)
  replace Hs := Lib.hid (Hs.out.below hb)
  replace Hc := Lib.hid (Hc.out.below hb)
  clear hb hq
  clear Ht
  obtain ⟨hq, hb⟩ := mat22 w17 ⟨#[49]⟩ ⟨#[48]⟩ ⟨#[48]⟩ ⟨#[49]⟩
  have hbs := HB.out.size
  replace HB := Lib.hid (HB.out.trans (hb.mono hbs))
  clear hbs
  replace Hi := Lib.hid (Hi.out.below hb)
  replace Hs := Lib.hid (Hs.out.below hb)
  replace Hc := Lib.hid (Hc.out.below hb)
  clear hb
  unfold strT vecT at *
  have HC := Lib.hid (same_any idnS idnS 2 2 Ai _ ci 2 _ Hi.out hq (by decide) (by decide))
  go_wp2_with fail
  refine HC.out.mono ?_
  rintro e w18 ⟨rfl, hb⟩
  clear HC
  simp only [decide_true]
  have hbs := HB.out.size
  replace HB := Lib.hid (HB.out.trans (hb.mono hbs))
  clear hbs
  replace Hi := Lib.hid (Hi.out.below hb)
  replace Hs := Lib.hid (Hs.out.below hb)
  replace Hc := Lib.hid (Hc.out.below hb)
  clear hb hq
  clear Hi
  have HC := Lib.hid (same_any sumS sumS 2 2 As Ac cs cc _ Hs.out Hc.out (by decide) (by decide))
  go_wp2_with fail
  refine HC.out.mono ?_
  rintro e w19 ⟨rfl, hb⟩
  clear HC
  simp only [decide_true]
  have hbs := HB.out.size
  replace HB := Lib.hid (HB.out.trans (hb.mono hbs))
  clear hbs
  replace Hs := Lib.hid (Hs.out.below hb)
  replace Hc := Lib.hid (Hc.out.below hb)
  clear hb
  clear Hc
  have HC := Lib.hid (four_any w19)
  go_wp2_with fail
  refine HC.out.mono ?_
  rintro e w20 ⟨A8, c8, rfl, hf, hb⟩
  clear HC
  have hbs := HB.out.size
  replace HB := Lib.hid (HB.out.trans (hb.mono hbs))
  clear hbs
  replace Hs := Lib.hid (Hs.out.below hb)
  have HF8 := Lib.hid hf
  clear hb hf
  have HC := Lib.hid (same_any sumS fourS 2 2 As A8 cs c8 _ Hs.out HF8.out (by decide) (by decide))
  go_wp2_with fail
  refine HC.out.mono ?_
  rintro e w21 ⟨rfl, hb⟩
  clear HC
  rw [show decide (sumS = fourS) = false from by decide +kernel]
  have hbs := HB.out.size
  replace HB := Lib.hid (HB.out.trans (hb.mono hbs))
  clear hbs
  replace Hs := Lib.hid (Hs.out.below hb)
  replace HF8 := Lib.hid (HF8.out.below hb)
  clear hb
  clear Hs HF8
  obtain ⟨hq, hb⟩ := mat10 w21 ⟨#[49]⟩
  have hbs := HB.out.size
  replace HB := Lib.hid (HB.out.trans (hb.mono hbs))
  clear hbs
  clear hb
  unfold strT vecT at *
  have HC := Lib.hid (chkM_any [[⟨#[49]⟩], []] 2 _ 2 _ hq (sh2_of (by decide)) (tab_below HTB.out HB.out))
  go_wp2_with fail
  refine HC.out.mono ?_
  rintro e w22 ⟨rfl, hb⟩
  clear HC
  rw [show chkM (tx2 [[⟨#[49]⟩], []]) = 3 from by decide +kernel]
  have hbs := HB.out.size
  replace HB := Lib.hid (HB.out.trans (hb.mono hbs))
  clear hbs
  clear hb hq
  have hq := sv1 w22 22 ⟨#[]⟩
  have hb := below_new w22 (.cells #[.string ⟨#[]⟩] 22)
  have hbs := HB.out.size
  replace HB := Lib.hid (HB.out.trans (hb.mono hbs))
  clear hbs
  clear hb
  have HC := Lib.hid (chkV_any [⟨#[]⟩] 1 _ 1 _ hq (sh1_of (by decide)) (tab_below HTB.out HB.out))
  go_wp2_with fail
  refine HC.out.mono ?_
  rintro e w23 ⟨rfl, hb⟩
  clear HC
  rw [show chkV (tx1 [⟨#[]⟩]) = 5 from by decide +kernel]
  have hbs := HB.out.size
  replace HB := Lib.hid (HB.out.trans (hb.mono hbs))
  clear hbs
  clear hb hq
  go_wp2
  go_ret
  exact ⟨rfl, HB.out⟩
end Go.Proofs.YtmnedfkinepnfaaGreatDoor
namespace Go.Proofs.YtmnedfkinepnfaaGreatDoor
open Go.RowKit

abbrev matT : TypeId := 46
theorem sms_of {w : World} {vs : List Value} {ms : List (List (List ByteArray))} (hl : ms.length = vs.length) (h : ∀ (i : Nat) (u : Value) (m : List (List ByteArray)), vs[i]? = some u → ms[i]? = some m → ∃ A n c, u = .slice A n c ∧ SMat w A n m) :
    SMs (w.alloc (.cells vs.toArray matT)) (some ⟨w.heap.size, 0, none⟩) vs.length ms ∧ Below w.heap.size w (w.alloc (.cells vs.toArray matT)) := by
  have hb := below_new w (.cells vs.toArray matT)
  refine ⟨⟨vs, ?_, hl, fun i u m h1 h2 => ?_⟩, hb⟩
  · have := reads_lits w matT vs
    rw [World.size_alloc]
    exact this
  · obtain ⟨A, n, c, rfl, hm⟩ := h i u m h1 h2
    have hn : m.length = n := by obtain ⟨_, _, h, _⟩ := hm; exact h
    subst hn
    exact ⟨A, c, rfl, hm.below hb⟩
theorem sms1 {w : World} {A : Option Addr} {n c : Nat} {m : List (List ByteArray)} (h : SMat w A n m) : SMs (w.alloc (.cells #[.slice A n c] matT)) (some ⟨w.heap.size, 0, none⟩) 1 [m] ∧ Below w.heap.size w (w.alloc (.cells #[.slice A n c] matT)) :=
  sms_of (vs := [.slice A n c]) rfl fun i u m' h1 h2 => by
    match i with
    | 0 => simp at h1 h2; subst h1 h2; exact ⟨A, n, c, rfl, h⟩
    | i + 1 => simp at h1
theorem sms2 {w : World} {A B : Option Addr} {n c k d : Nat} {m l : List (List ByteArray)} (h : SMat w A n m) (g : SMat w B k l) : SMs (w.alloc (.cells #[.slice A n c, .slice B k d] matT)) (some ⟨w.heap.size, 0, none⟩) 2 [m, l] ∧ Below w.heap.size w (w.alloc (.cells #[.slice A n c, .slice B k d] matT)) :=
  sms_of (vs := [.slice A n c, .slice B k d]) rfl fun i u m' h1 h2 => by
    match i with
    | 0 => simp at h1 h2; subst h1 h2; exact ⟨A, n, c, rfl, h⟩
    | 1 => simp at h1 h2; subst h1 h2; exact ⟨B, k, d, rfl, g⟩
    | i + 2 => simp at h1
theorem sms3 {w : World} {A B C : Option Addr} {n c k d j e : Nat} {m l p : List (List ByteArray)} (h : SMat w A n m) (g : SMat w B k l) (f : SMat w C j p) : SMs (w.alloc (.cells #[.slice A n c, .slice B k d, .slice C j e] matT)) (some ⟨w.heap.size, 0, none⟩) 3 [m, l, p] ∧ Below w.heap.size w (w.alloc (.cells #[.slice A n c, .slice B k d, .slice C j e] matT)) :=
  sms_of (vs := [.slice A n c, .slice B k d, .slice C j e]) rfl fun i u m' h1 h2 => by
    match i with
    | 0 => simp at h1 h2; subst h1 h2; exact ⟨A, n, c, rfl, h⟩
    | 1 => simp at h1 h2; subst h1 h2; exact ⟨B, k, d, rfl, g⟩
    | 2 => simp at h1 h2; subst h1 h2; exact ⟨C, j, e, rfl, f⟩
    | i + 3 => simp at h1
/-- strings of texts -/
def unT (t : MT) : List (List ByteArray) := t.map mkS
theorem tx_un (t : MT) : tx2 (unT t) = t := by
  unfold tx2 unT
  rw [List.map_map]
  conv => rhs; rw [← List.map_id t]
  exact List.map_congr_left fun l _ => tx_mk l
theorem RetMT.known {w : World} {r : MT × Int} {m : List (List ByteArray)} {e : Ending} {w' : World} (h : RetMT w r e w') (hr : r = (tx2 m, 0)) : ∃ A n c, e = .returned (.tuple #[.slice A n c, I 0]) ∧ SMat w' A n m ∧ m.length = n ∧ Sh2 m ∧ Below w.heap.size w w' := by
  obtain ⟨A, n, c, m', rfl, h1, h2, h3, hb⟩ := h
  rw [hr] at h2 ⊢
  obtain rfl := tx2_inj h2
  exact ⟨A, n, c, rfl, h1, by obtain ⟨_, _, h, _⟩ := h1; exact h, h3, hb⟩
/-- all rows are short -/
def Nar (m : List (List ByteArray)) : Prop := m.length ≤ 1000000 ∧ ∀ l ∈ m, l.length ≤ 1000000
theorem nar_chk {m : List (List ByteArray)} (h : chkM (tx2 m) = 0) : Nar m := by
  have v := chkM_ok h
  refine ⟨by have := v.hn; simp [tx2] at this; omega, fun l hl => (val2_of v l hl).2⟩
theorem nar_txM {m : List (List Rat)} {r : MT} (hn : m.length ≤ 1000) (hr : ∀ l ∈ m, l.length ≤ 1000) (h : txM m = (r, 0)) : Nar (unT r) := by
  unfold txM at h
  split at h
  · have h := congrArg Prod.fst h
    simp only at h
    subst h
    refine ⟨by simp [unT]; omega, fun l hl => ?_⟩
    unfold unT at hl
    obtain ⟨x, hx, rfl⟩ := List.mem_map.1 hl
    obtain ⟨y, hy, rfl⟩ := List.mem_map.1 hx
    have := hr y hy
    simp [mkS]; omega
  · cases (congrArg Prod.snd h : (2 : Int) = 0)
theorem nar_mul {a b r : MT} (h : mulM a b = (r, 0)) : Nar (unT r) := by
  obtain ⟨h1, h2, h3, h4, h5⟩ := mulM_ok (a := a) (b := b) (by rw [h])
  have va := chkM_ok h1
  have vb := chkM_ok h2
  have e : txM (mulQ (valsM a) (valsM b) (wd b)) = (r, 0) := by
    rw [mulM_fit h1 h2 h3 h4] at h
    rw [txM_fit h4]; exact h
  refine nar_txM ?_ (fun l hl => ?_) e
  · have := va.hn; simp [mulQ, valsM]; omega
  · obtain ⟨s, _, rfl⟩ := List.mem_map.1 hl
    have : wd b ≤ 40 := by
      rcases vb.hk with h | h
      · exact h
      · rw [wd_nil h]; omega
    simp [trQ]; omega
theorem nar_tr {a r : MT} (h : trM a = (r, 0)) : Nar (unT r) := by
  unfold trM at h
  split at h
  · rename_i h0; exact absurd (congrArg Prod.snd h) h0
  · rename_i h0
    have va := chkM_ok (Decidable.not_not.1 h0)
    refine nar_txM ?_ (fun l hl => ?_) h
    · have : wd a ≤ 40 := by
        rcases va.hk with h | h
        · exact h
        · rw [wd_nil h]; omega
      simp [trQ]; omega
    · obtain ⟨s, _, rfl⟩ := List.mem_map.1 hl
      have := va.hn
      simp [valsM]; omega
theorem lg_any {N : Nat} {ms : List (List (List ByteArray))} (h : ms.any (lgM N) = false) {m : List (List ByteArray)} (hm : m ∈ ms) : smallB N (tx2 m) = true := by
  rw [smallB_lg]
  cases e : lgM N m with
  | false => rfl
  | true => rw [List.any_eq_true.2 ⟨m, hm, e⟩] at h; cases h
theorem fine3 (a b c : Int) : fineB [a, b, c] = decide (a = 0 ∧ b = 0 ∧ c = 0) := by
  by_cases h : a = 0 ∧ b = 0 ∧ c = 0
  · rw [decide_eq_true h]; obtain ⟨rfl, rfl, rfl⟩ := h; rfl
  · rw [decide_eq_false h]
    cases e : fineB [a, b, c] with
    | false => rfl
    | true => exact absurd ⟨(fineB_iff _).1 e a (by simp), (fineB_iff _).1 e b (by simp), (fineB_iff _).1 e c (by simp)⟩ h
end Go.Proofs.YtmnedfkinepnfaaGreatDoor
