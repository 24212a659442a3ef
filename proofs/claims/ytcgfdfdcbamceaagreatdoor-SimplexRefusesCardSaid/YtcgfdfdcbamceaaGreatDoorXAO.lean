/- (large.Int).Text: the parts of nine digits. (large.Int).Text. large.Read: the number of a row of digits. -/
import Derived.Test.YtcgfdfdcbamceaaGreatDoorXAH
import Derived.Test.YtcgfdfdcbamceaaGreatDoorXAN
import Derived.Lib.ParseIntB
import Derived.Lib.AtoiErrMem
namespace Go.Proofs.YtcgfdfdcbamceaaGreatDoor
open Go.RowKit
theorem p9_pos : ∀ n : Nat, (0 : Int) < 1000000000 ^ n
 | 0 => by decide
 | n + 1 => by rw [Int.pow_succ]; exact Int.mul_pos (p9_pos n) (by decide)
theorem part_len {n : Nat} (h : (1000000000 : Int) ^ n < P32 210) : n ≤ 231 := by
 rcases Nat.lt_or_ge 231 n with h1 | h1
 ·have h2 : (1000000000 : Int) ^ 232 ≤ 1000000000 ^ n := by
   obtain ⟨k, rfl⟩ := Nat.le.dest (show 232 ≤ n by omega)
   rw [Int.pow_add]
   have hp : (1 : Int) ≤ 1000000000 ^ k := by have := p9_pos k; omega
   have h3 : (0 : Int) ≤ 1000000000 ^ 232 := by decide
   have := Int.mul_le_mul_of_nonneg_left hp h3
   omega
  have h4 : P32 210 ≤ (1000000000 : Int) ^ 232 := by decide
  omega
 ·exact h1
structure T1 (w : World) (z : Int) (A : Option Addr) (n c : Nat) (ps ws : List Int) (pv : Value) (Aw : Option Addr) (cw : Nat) (wr : World) : Prop where
 row : Row wr (w.heap.size + 1) 139 1 pv ps.length (ps.map U)
 va : Var wr w.heap.size (.bool (decide (z < 0))) (.slice A n c)
 nn : Nn wr Aw cw ws
 len : ws.length ≤ 210
 okb : OkB ps
 sum : valB ps + 1000000000 ^ ps.length * val ws = (z.natAbs : Int)
 top : val ws = 0 → ∃ hne : ps ≠ [], ps.getLast hne ≠ 0
 below : Below w.heap.size w wr
 plen : ps.length ≤ 232
theorem T1.part {w : World} {z : Int} {A : Option Addr} {n c : Nat} {ps ws : List Int} {pv : Value} {Aw : Option Addr} {cw : Nat} {wr : World} (h : T1 w z A n c ps ws pv Aw cw wr) (hz : (z.natAbs : Int) < P32 210) (h1 : 1 ≤ val ws) : ps.length ≤ 231 := by
 refine part_len ?_
 have h2 := valB_nonneg h.okb
 have h3 := h.sum
 have hp : (0 : Int) ≤ 1000000000 ^ ps.length := Int.le_of_lt (p9_pos _)
 have := Int.mul_le_mul_of_nonneg_left h1 hp
 omega
theorem Row.own_lt {w : World} {base : Nat} {e : TypeId} {sz : Nat} {v : Value} {n : Nat} {xs : List Value} (h : Row w base e sz v n xs) : ∀ k, v.ownBlock = some k → base ≤ k ∧ k < w.heap.size := by
 intro k hk
 rcases h.2 with ⟨rfl, _⟩ | ⟨g, off, cap, cur, rfl, hb, hh, _⟩
 ·simp [Value.ownBlock] at hk
 ·simp [Value.ownBlock] at hk
  subst hk
  exact ⟨hb, hh.lt⟩
theorem Var.grown {w w' : World} {g : Nat} {x0 x1 : Value} (h : Var w g x0 x1) {row : Option Nat} (hg : w.grownBy w' row) (hne : row ≠ some g) : Var w' g x0 x1 := by
 have hb : w'.heap[g]? = w.heap[g]? := hg.block g h.lt (fun e => hne e.symm)
 refine ⟨?_, ?_, ?_, ?_⟩
 ·rw [← h.c0]; simp [World.cell?, hb]
 ·rw [← h.c1]; simp [World.cell?, hb]
 ·rw [← h.f0]; simp [World.frozen?, hb]
 ·rw [← h.f1]; simp [World.frozen?, hb]
def RetText (w : World) (z : Int) (e : Ending) (w' : World) : Prop := e = .returned (.tuple #[.string ⟨(Lib.itoa z).toArray⟩, .bool (decide ((Lib.decDigits z.natAbs).length ≤ 2000))]) ∧ Below w.heap.size w w'
theorem pad_list : ∀ n : Fin 10, ((⟨#[48, 48, 48, 48, 48, 48, 48, 48, 48]⟩ : ByteArray).extract n.val 9).data.toList = List.replicate (9 - n.val) 48 := by decide +kernel
theorem pad_cells {n : Nat} (h : n ≤ 9) : Lib.strCells ((⟨#[48, 48, 48, 48, 48, 48, 48, 48, 48]⟩ : ByteArray).extract n 9) = Lib.byteCells (List.replicate (9 - n) 48) ∧ ((⟨#[48, 48, 48, 48, 48, 48, 48, 48, 48]⟩ : ByteArray).extract n 9).size = 9 - n := by
 have h1 := pad_list ⟨n, by omega⟩
 simp only at h1
 refine ⟨by rw [Lib.strCells_eq, h1], ?_⟩
 have e : (⟨#[48, 48, 48, 48, 48, 48, 48, 48, 48]⟩ : ByteArray).size = 9 := rfl
 simp [e]
theorem txt_len : ∀ (l : List Int), OkB l → (txt l).length ≤ 9 * l.length
 | [], _ => by simp [txt]
 | [x], h => by
  have h1 := h x List.mem_cons_self
  have := dec_len_le 9 x.toNat (by omega) (by omega)
  simp [txt]; omega
 | x :: y :: r, h => by
  have h1 := h x List.mem_cons_self
  have h2 := dec_len_le 9 x.toNat (by omega) (by omega)
  have h3 := txt_len (y :: r) fun z hz => h z (List.mem_cons_of_mem _ hz)
  simp only [txt, List.length_append, List.length_replicate, List.length_cons] at *
  omega
theorem OkB.drop {l : List Int} (h : OkB l) (k : Nat) : OkB (l.drop k) := fun x hx => h x (List.mem_of_mem_drop hx)
structure T2 (wa : World) (ps : List Int) (r : Nat) (wr : World) : Prop where
 bld : Lib.IsBuilder 146 5 wa.heap.size wa.heap.size (Lib.byteCells (txt (ps.drop r))) wr
 below : Below wa.heap.size wa wr
theorem bld_below {T e : TypeId} {B b : Nat} {bs : List Value} {w w' : World} (h : Lib.IsBuilder T e B b bs w) (hb : Below w.heap.size w w') : Lib.IsBuilder T e B b bs w' := by
 have key : ∀ p, Lib.BuilderAt T e B b p bs w → Lib.BuilderAt T e B b p bs w' := by
  rintro p ⟨h1, v, h2, h3, h4⟩
  have hl : b < w.heap.size := (Array.getElem?_eq_some_iff.1 h2).1
  refine ⟨h1, v, (hb.block b hl).trans h2, ⟨h3.1, h3.2.imp id ?_⟩, h4⟩
  rintro ⟨g, cap, cur, a1, a2, a3, a4⟩
  exact ⟨g, cap, cur, a1, a2, (hb.block g (Array.getElem?_eq_some_iff.1 a3).1).trans a3, a4⟩
 exact h.imp (key _) (key _)
theorem ret_text_pos {z : Int} {L : List UInt8} (hL : Lib.decDigits z.natAbs = L) (hz : decide (z < 0) = false) : Ending.returned (.tuple #[.string ⟨L.toArray⟩, .bool (decide ((L.length : Int) ≤ 2000))]) = .returned (.tuple #[.string ⟨(Lib.itoa z).toArray⟩, .bool (decide ((Lib.decDigits z.natAbs).length ≤ 2000))]) := by
 have h0 : ¬ z < 0 := of_decide_eq_false hz
 have e : Lib.itoa z = L := by rw [Lib.itoa, if_neg h0, ← hL]; congr 1; omega
 have e2 : decide ((L.length : Int) ≤ 2000) = decide (L.length ≤ 2000) := by congr 1; simp; omega
 rw [e, hL, e2]
theorem ret_text_neg {z : Int} {L : List UInt8} (hL : Lib.decDigits z.natAbs = L) (hz : decide (z < 0) = true) : Ending.returned (.tuple #[.string ((⟨#[45]⟩ : ByteArray) ++ ⟨L.toArray⟩), .bool (decide ((L.length : Int) ≤ 2000))]) = .returned (.tuple #[.string ⟨(Lib.itoa z).toArray⟩, .bool (decide ((Lib.decDigits z.natAbs).length ≤ 2000))]) := by
 have h0 : z < 0 := of_decide_eq_true hz
 have e : Lib.itoa z = 45 :: L := by rw [Lib.itoa, if_pos h0, ← hL]
 have e2 : decide ((L.length : Int) ≤ 2000) = decide (L.length ≤ 2000) := by congr 1; simp; omega
 have e3 : (⟨#[45]⟩ : ByteArray) ++ ⟨L.toArray⟩ = ⟨(45 :: L).toArray⟩ := by
  apply ByteArray.ext
  simp
 rw [e, hL, e2, e3]
theorem field_words (b : Bool) (A : Option Addr) (n c : Nat) (w : World) : (Instr.field 69 (.agg #[.bool b, .slice A n c]) 1).run Tryz.prog w = .ok (.slice A n c) w := by kernel_rfl
set_option maxRecDepth 100000 in
set_option maxHeartbeats 4000000 in
theorem text_mid (z : Int) (A : Option Addr) (ca : Nat) (wz : List Int) (w : World) (hnz : Nn w A ca wz) (hvz : val wz = (z.natAbs : Int)) (h0 : 1 ≤ wz.length) (hl : wz.length ≤ 210) (htab : Tab w) :
  Calls Tryz.prog 67 #[.agg #[.bool (decide (z < 0)), .slice A wz.length ca]] w (RetText w z) := by
 have hzb : (z.natAbs : Int) < P32 210 := by
  have h1 := val_lt hnz.ok
  have h2 := P32_mono hl
  omega
 have hb1 : Below w.heap.size w (w.alloc (.cells #[.bool (decide (z < 0)), .slice A wz.length ca] bigT)) := (Below.refl _ _).alloc (Nat.le_refl _) _
 have hv1 : val wz ≠ 0 := by
  intro e
  have := (nm_zero hnz.ok hnz.nm).2 e
  rw [this] at h0
  simp at h0
 have HT : Hid (T1 w z A wz.length ca [] wz (.slice none 0 0) A ca (w.alloc (.cells #[.bool (decide (z < 0)), .slice A wz.length ca] bigT))) := Lib.hid
  ⟨Row.nil _ _ _ _, (Blk.new w bigT #[.bool (decide (z < 0)), .slice A wz.length ca]).var, hnz.ext hb1, hl, OkB.nil, by simp [valB]; omega, fun e => absurd e hv1, hb1, by simp⟩
 have t0 : ((wz.length : Int) == 0) = false := beq_eq_false_iff_ne.2 (by omega)
 have t1 : decide (210 < (wz.length : Int)) = false := decide_eq_false (by omega)
 have HPART := Lib.hid fun (ps ws : List Int) (pv : Value) (Aw : Option Addr) (cw : Nat) (wr : World) (h : T1 w z A wz.length ca ps ws pv Aw cw wr) (h1 : 1 ≤ val ws) => h.part hzb h1
 obtain ⟨i0, hi0, hz0, hz1, hz2⟩ := info_parts info_u32
 have HI := Lib.hid hi0
 have HZ0 := Lib.hid hz0
 have HZ1 := Lib.hid hz1
 have HZ2 := Lib.hid hz2
 have HTAB := Lib.hid htab
 clear hi0 hz0 hz1 hz2 hv1 hzb hvz hnz hb1 htab
 generalize hbe : decide (z < 0) = b at *
 have HBE := Lib.hid hbe
 clear hbe
 unfold bigT at *
 go_enter Tryz.func67, Tryz.ntmps67
 go_wp2_with fail
 go_loopg [4, 5] (val wz).toNat (fun r pv sv wr => ∃ ps ws Aw cw, r = (val ws).toNat ∧ sv = .slice Aw (ws : List Int).length cw ∧ T1 w z A wz.length ca ps ws pv Aw cw wr)
 case atStart => exact ⟨_, _, _, _, rfl, rfl, HT.out⟩
 case round =>
  clear HT
  obtain ⟨ps, ws, Aw, cw, rfl, rfl, hT⟩ := hrel
  obtain ⟨wa, rfl⟩ : ∃ wa : World, wa = wr := ⟨_, rfl⟩
  have hlen := hT.len
  by_cases hw : 1 ≤ ws.length
  ·have hv0 := val_nonneg hT.nn.ok
   have hv1 : 1 ≤ val ws := by
    have h1 := (nm_zero hT.nn.ok hT.nn.nm)
    have h2 : ws ≠ [] := by intro e; rw [e] at hw; simp at hw
    have h3 := mt h1.2 h2
    omega
   have hpl := HPART.out _ _ _ _ _ _ hT hv1
   have HS := Lib.hid (shortDiv_any ws Aw cw 1000000000 wa hT.nn.reads hT.nn.ok (by omega) (by omega) (by omega))
   have HT := Lib.hid hT
   have hwa : w.heap.size < wa.heap.size := hT.va.lt
   have hw0 : 0 < ws.length := hw
   clear hT
   go_wp2_with fail
   refine HS.out.mono ?_
   rintro e w1 ⟨q, o, rfl, hq, oo, vo, lo, hb1⟩
   obtain ⟨A1, c1, rfl, hc1, hm1⟩ := hq.caps
   have HLO := Lib.hid lo
   clear lo
   have hm0 := Int.emod_nonneg (val ws) (show (1000000000 : Int) ≠ 0 by omega)
   have hm2 := Int.emod_lt_of_pos (val ws) (show (0 : Int) < 1000000000 by omega)
   have hsp := Int.emod_add_mul_ediv (val ws) 1000000000
   rw [← vo] at hsp
   have hz1 : wa.heap.size ≤ w1.heap.size := hb1.size
   have HQ := Lib.hid hq
   have HB1 := Lib.hid hb1
   generalize val ws % 1000000000 = m at *
   have HSP := Lib.hid hsp
   have HR := Lib.hid ((HT.out.row.call hb1).alloc (.cells #[U m] 139))
   have HOWN := Lib.hid HT.out.row.own_lt
   have H1 : Hid (∀ u ∈ [U m], u.oneCell' = true) := Lib.hid (by intro u hu; simp at hu; subst hu; rfl)
   clear HS hq hb1 hsp vo
   go_wp2_with (at_builtin; refine wpList_append_rowG rfl _ _ 67 rfl (w.heap.size + 1) 139 i0 _ 1 4 Tryz.underlying67 HI.out HZ0.out HZ1.out HZ2.out rfl (by decide) _ ps.length (ps.map U) rfl HR.out (w1.heap.size + 1) (some ⟨w1.heap.size, 0, none⟩) 1 1 [U m] rfl (reads_one w1 _ _) H1.out ?c1 ?c2 ?c3 ?_)
   case c1 => unfold maxLen; omega
   case c2 => omega
   case c3 => simp; omega
   intro v' w2 hr' hg
   have hz2 := hg.size
   have hq2 := (HQ.out.alloc (.cells #[U m] 139)).keep (w' := w2) (fun g h1 h2 => hg.block g h2 (fun e => by have := (HOWN.out g e.symm).2; omega))
   have hva2 := ((HT.out.va.below HB1.out).alloc (.cells #[U m] 139)).grown hg (fun e => by have := (HOWN.out _ e).1; omega)
   have hbl2 : Below w.heap.size w w2 := by
    have hb3 := (HT.out.below.trans (HB1.out.mono HT.out.below.size)).alloc (o := .cells #[U m] 139) (by omega)
    exact hb3.grown hg (by simp; omega) (fun k hk => by have := (HOWN.out k hk).1; omega)
   have HNM := Lib.hid (norm_any false o A1 c1 w2 hq2.reads hc1 hm1 oo)
   have HVA2 := Lib.hid hva2
   have HBL2 := Lib.hid hbl2
   have HR2 := Lib.hid hr'
   clear hr' hg hq2 hva2 hbl2 HQ HR HB1 H1
   go_wp2_with fail
   refine HNM.out.mono ?_
   rintro e w3 ⟨v3, rfl, hv3, hb3⟩
   obtain ⟨A3, c3, r3, rfl, hn3, hv3'⟩ := hv3.nn
   have ho0 := val_nonneg oo
   have hv3e : val r3 = val o := by rw [hv3', sgn_abs false ho0]
   have e4 : sgn false (val o) = val o := rfl
   rw [e4, decide_eq_false (show ¬ val o < 0 by omega)]
   have hfld := field_words false A3 r3.length c3
   have hspl := HSP.out
   have hmeas : val r3 < val ws := by omega
   have hmeas0 : 0 ≤ val r3 := by omega
   have HF : Hid (T1 w z A wz.length ca (ps ++ [m]) r3 v' A3 c3 w3) := Lib.hid (by
    refine ⟨?_, HVA2.out.below hb3, hn3, ?_, HT.out.okb.snoc ⟨hm0, hm2⟩, ?_, ?_, HBL2.out.trans (hb3.mono HBL2.out.size), by simp; omega⟩
    ·have := HR2.out.call hb3
     simpa using this
    ·have h1 := val_lt HT.out.nn.ok
     have := nm_len hn3.ok hn3.nm (k := ws.length) (by omega)
     omega
    ·rw [valB_snoc, List.length_append, List.length_singleton, Int.pow_succ, hv3e, Int.mul_assoc, Int.add_assoc, ← Int.mul_add, hspl]
     exact HT.out.sum
    ·intro e
     refine ⟨by simp, ?_⟩
     have hlm : (ps ++ [m]).getLast (by simp) = m := by simp
     rw [hlm]; omega)
   clear hv3 hn3 hv3' HNM HVA2 HBL2 HR2 e4 HSP hspl
   go_wp2
   go_roundg (val r3).toNat
   case measure => omega
   case rel => exact ⟨_, _, _, _, rfl, rfl, HF.out⟩
  ·have hnil : ws = [] := List.eq_nil_of_length_eq_zero (by omega)
   subst hnil
   obtain ⟨hne, hlast⟩ := hT.top rfl
   have hsum := hT.sum
   simp only [val, Int.mul_zero, Int.add_zero] at hsum
   have htx := txt_eq hT.okb hne hlast
   rw [hsum, Int.toNat_natCast] at htx
   have hpos : 0 < ps.length := List.length_pos_iff.2 hne
   have HTX := Lib.hid htx
   have HOB := Lib.hid hT.okb
   have HF0 := Lib.hid (Lib.fresh_isBuilder 146 5 wa)
   have HTB := Lib.hid (tab_below HTAB.out hT.below)
   have HT := Lib.hid hT
   obtain ⟨PA, pc, hpv, hpc, hpm⟩ := hT.row.caps
   subst hpv
   have HRD := Lib.hid hT.row.reads
   have hplen := hT.plen
   clear hT hsum htx hlast hne
   have HT2 : Hid (T2 wa ps ps.length (wa.alloc (.cells #[.pointer none, .slice none 0 0] 146))) := Lib.hid ⟨by rw [List.drop_of_length_le (Nat.le_refl _)]; exact HF0.out, (Below.refl _ _).alloc (Nat.le_refl _) _⟩
   go_wp2_with fail
   go_loopg [9] ps.length (fun r iv wr => iv = I ((r : Int) - 1) ∧ r ≤ ps.length ∧ T2 wa ps r wr)
   case atStart => exact ⟨rfl, Nat.le_refl _, HT2.out⟩
   case round =>
    clear HT2 HF0
    obtain ⟨rfl, hr, hT2⟩ := hrel
    rcases gk with _ | k
    ·have e0 : (((0 : Nat) : Int) - 1) = -1 := by omega
     rw [e0]
     clear e0
     have hbl := hT2.bld
     rw [List.drop_zero, HTX.out] at hbl
     have HS := Lib.hid (Tryz.Builder_String_any wa.heap.size wa.heap.size _ wr hbl hT2.below.size)
     have hva := HT.out.va.below hT2.below
     have HVA := Lib.hid hva
     have HBL := Lib.hid (HT.out.below.trans (hT2.below.mono HT.out.below.size))
     have HB2 := Lib.hid hT2.below
     have hwa : w.heap.size < wa.heap.size := HT.out.va.lt
     generalize hL : Lib.decDigits z.natAbs = L at *
     have hLlen : L.length ≤ 2100 := by
      have h1 := txt_len ps HOB.out
      rw [HTX.out] at h1
      omega
     have HL := Lib.hid hL
     have a0 := hva.c0
     rw [HBE.out] at a0
     clear hbl hva hT2 hL
     go_wp2_with fail
     refine HS.out.mono ?_
     rintro e w1 ⟨rfl, hb1⟩
     have a1 : w1.cell? ⟨w.heap.size, 0, none⟩ = some (.bool b) := (hb1.cell (p := ⟨w.heap.size, 0, none⟩) hwa).trans a0
     have hl1 : w.heap.size < w1.heap.size := by have := hb1.size; have := HB2.out.size; omega
     have HB3 := Lib.hid (HT.out.below.trans ((HB2.out.trans hb1).mono HT.out.below.size))
     clear hb1 HS a0 HBL HB2 HVA
     cases b
     ·go_wp2
      go_ret2
      exact ⟨ret_text_pos HL.out HBE.out, HB3.out⟩
     ·go_wp2
      go_ret2
      exact ⟨ret_text_neg HL.out HBE.out, HB3.out⟩
    ·have e0 : (((k + 1 : Nat) : Int) - 1) = k := by omega
     rw [e0]
     clear e0
     obtain ⟨bp, offp, hPA, hbp, hcp⟩ := (HRD.out.below hT2.below).word (k := k) (by omega)
     subst hPA
     have hpb := HOB.out.at_ k
     obtain ⟨u, hu⟩ := Int.eq_ofNat_of_zero_le hpb.1
     rw [hu] at hcp hpb
     have hu9 : u < 1000000000 := by omega
     have hul : (Lib.decDigits u).length ≤ 9 := dec_len_le 9 u (by omega) (by omega)
     have hbw : bp < wr.heap.size := by have := hT2.below.size; omega
     have HFM := Lib.hid (fmt_any u (by omega) wr (tab_below HTB.out hT2.below))
     have HT2 := Lib.hid hT2
     have HU := Lib.hid hu
     have hk1 : (0 : Int) ≤ (k : Int) := by omega
     have hk2 : (k : Int) < (ps.length : Int) := by omega
     have hk3 : k < ps.length := by omega
     clear hT2 hu hpb
     by_cases hlast : k + 1 < ps.length
     ·have tl : decide ((k : Int) < (ps.length : Int) - 1) = true := decide_eq_true (by omega)
      go_wp2_with fail
      refine HFM.out.mono ?_
      rintro e w1 ⟨rfl, hb1⟩
      have hB1 := bld_below HT2.out.bld hb1
      have hln := txt_len _ (HOB.out.drop (k + 1))
      rw [List.length_drop] at hln
      have hW1 := writeString_any wa.heap.size wa.heap.size _ ((⟨#[48, 48, 48, 48, 48, 48, 48, 48, 48]⟩ : ByteArray).extract (Lib.decDigits u).length 9) w1 hB1 (by rw [Lib.byteCells_length, (pad_cells hul).2]; omega) (by have := HT2.out.below.size; have := hb1.size; omega)
      rw [(pad_cells hul).1, ← Lib.byteCells_append] at hW1
      have HW1 := Lib.hid hW1
      have HB1 := Lib.hid (HT2.out.below.trans (hb1.mono HT2.out.below.size))
      clear hB1 hW1 hb1
      go_wp2_with fail
      refine HW1.out.mono ?_
      rintro e w2 ⟨rfl, hB2, hb2⟩
      have hW2 := writeString_any wa.heap.size wa.heap.size _ ⟨(Lib.decDigits u).toArray⟩ w2 (.inr hB2) (by rw [Lib.byteCells_length, List.length_append, List.length_replicate]; simp [ByteArray.size]; omega) (by have := HB1.out.size; have := hb2.size; omega)
      rw [Lib.strCells_toArray, ← Lib.byteCells_append] at hW2
      have HW2 := Lib.hid hW2
      have HB2 := Lib.hid (HB1.out.trans hb2)
      clear hB2 hW2 hb2 HW1
      go_wp2_with fail
      refine HW2.out.mono ?_
      rintro e w3 ⟨rfl, hB3, hb3⟩
      have HF : Hid (T2 wa ps k w3) := Lib.hid ⟨by rw [txt_drop hlast, HU.out, Int.toNat_natCast, ← List.append_assoc]; exact .inr hB3, HB2.out.trans hb3⟩
      clear hB3 hb3 HW2
      go_wp2
      go_roundg k
      case measure => omega
      case rel => exact ⟨by go_num, by omega, HF.out⟩
     ·have tl : decide ((k : Int) < (ps.length : Int) - 1) = false := decide_eq_false (by omega)
      go_wp2_with fail
      refine HFM.out.mono ?_
      rintro e w1 ⟨rfl, hb1⟩
      have hB1 := bld_below HT2.out.bld hb1
      rw [List.drop_of_length_le (show ps.length ≤ k + 1 by omega)] at hB1
      have hW2 := writeString_any wa.heap.size wa.heap.size _ ⟨(Lib.decDigits u).toArray⟩ w1 hB1 (by simp [txt, Lib.byteCells, ByteArray.size]; omega) (by have := HT2.out.below.size; have := hb1.size; omega)
      rw [Lib.strCells_toArray, ← Lib.byteCells_append] at hW2
      have HW2 := Lib.hid hW2
      have HB2 := Lib.hid (HT2.out.below.trans (hb1.mono HT2.out.below.size))
      clear hB1 hW2 hb1
      go_wp2_with fail
      refine HW2.out.mono ?_
      rintro e w3 ⟨rfl, hB3, hb3⟩
      have HF : Hid (T2 wa ps k w3) := Lib.hid ⟨by rw [txt_last (show k + 1 = ps.length by omega), HU.out, Int.toNat_natCast]; exact .inr hB3, HB2.out.trans hb3⟩
      clear hB3 hb3 HW2
      go_wp2
      go_roundg k
      case measure => omega
      case rel => exact ⟨by go_num, by omega, HF.out⟩
def short (z : Int) : Bool := decide ((Lib.decDigits z.natAbs).length ≤ 2000)
def TextR (w : World) (z : Int) (e : Ending) (w' : World) : Prop := ∃ s, e = .returned (.tuple #[.string s, .bool (short z)]) ∧ (short z = true → s = ⟨(Lib.itoa z).toArray⟩) ∧ Below w.heap.size w w'
theorem short_large {z : Int} {wz : List Int} (hn : Ok wz) (hm : Nm wz) (hv : val wz = (z.natAbs : Int)) (hl : 210 < wz.length) : short z = false := by
 unfold short
 rw [decide_eq_false_iff_not, dec_len_lt _ _ (by omega)]
 intro h
 have h1 := nm_low hn hm (wz.length - 1) (by omega)
 have h2 := P32_mono (i := 210) (j := wz.length - 1) (by omega)
 have h3 : (10 ^ 2000 : Int) ≤ P32 210 := by decide +kernel
 have h4 : ((z.natAbs : Nat) : Int) < ((10 ^ 2000 : Nat) : Int) := Int.ofNat_lt.2 h
 have h5 : ((10 ^ 2000 : Nat) : Int) = (10 ^ 2000 : Int) := by decide +kernel
 rw [h5] at h4
 exact absurd (Int.lt_of_lt_of_le h4 h3) (by omega)
theorem ret_text_one (L : Bool) (s : ByteArray) (h : L = true) : Ending.returned (.tuple #[.string s, .bool true]) = .returned (.tuple #[.string s, .bool L]) := by rw [h]
theorem ret_text_none (L : Bool) (s : ByteArray) (h : L = false) : Ending.returned (.tuple #[.string s, .bool false]) = .returned (.tuple #[.string s, .bool L]) := by rw [h]
set_option maxRecDepth 100000 in
set_option maxHeartbeats 1000000 in
theorem text_any (v : Value) (z : Int) (w : World) (hx : Big w v z) (htab : Tab w) : Calls Tryz.prog 67 #[v] w (TextR w z) := by
 obtain ⟨A, ca, wz, rfl, hnz, hvz⟩ := hx.nn
 have HB := Lib.hid ((Below.refl w.heap.size w).alloc (Nat.le_refl _) (.cells #[.bool (decide (z < 0)), .slice A wz.length ca] bigT))
 by_cases h0 : wz.length = 0
 ·have hz : z = 0 := by
   rw [List.eq_nil_of_length_eq_zero h0] at hvz
   simp [val] at hvz
   omega
  have hs : short z = true := by rw [hz]; decide +kernel
  have hi : (⟨#[48]⟩ : ByteArray) = ⟨(Lib.itoa z).toArray⟩ := by rw [hz]; decide +kernel
  have HS := Lib.hid hs
  have HII := Lib.hid hi
  have t0 : ((wz.length : Int) == 0) = true := beq_iff_eq.2 (by omega)
  clear hx hnz hvz htab h0 hz hs hi
  generalize decide (z < 0) = b at *
  unfold bigT at *
  go_enter Tryz.func67, Tryz.ntmps67
  go_wp2
  go_ret2
  exact ⟨_, ret_text_one _ _ HS.out, fun _ => HII.out, HB.out⟩
 ·by_cases hl : wz.length ≤ 210
  ·refine (text_mid z A ca wz w hnz hvz (by omega) hl htab).mono ?_
   rintro e w' ⟨rfl, hb⟩
   exact ⟨_, rfl, fun _ => rfl, hb⟩
  ·have HS := Lib.hid (short_large hnz.ok hnz.nm hvz (by omega))
   have t0 : ((wz.length : Int) == 0) = false := beq_eq_false_iff_ne.2 (by omega)
   have t1 : decide (210 < (wz.length : Int)) = true := decide_eq_true (by omega)
   clear hx hnz hvz htab h0 hl
   generalize decide (z < 0) = b at *
   unfold bigT at *
   go_enter Tryz.func67, Tryz.ntmps67
   go_wp2
   go_ret2
   exact ⟨_, ret_text_none _ _ HS.out, fun h => (by rw [HS.out] at h; cases h), HB.out⟩
def Digs (l : List UInt8) : Prop := ∀ c ∈ l, 48 ≤ c.toNat ∧ c.toNat ≤ 57
def numA (a : Nat) (l : List UInt8) : Nat := l.foldl (fun a c => a * 10 + (c.toNat - 48)) a
def num (l : List UInt8) : Nat := numA 0 l
theorem numA_eq : ∀ (l : List UInt8) (a : Nat), numA a l = a * 10 ^ l.length + numA 0 l
 | [], a => by simp [numA]
 | c :: l, a => by
  have h1 := numA_eq l (a * 10 + (c.toNat - 48))
  have h2 := numA_eq l (0 * 10 + (c.toNat - 48))
  simp only [numA, List.foldl_cons, List.length_cons] at *
  rw [h1, h2, Nat.pow_succ]
  grind
theorem num_append (l m : List UInt8) : num (l ++ m) = num l * 10 ^ m.length + num m := by
 unfold num
 have : numA 0 (l ++ m) = numA (numA 0 l) m := by simp [numA]
 rw [this, numA_eq]
theorem num_lt : ∀ (l : List UInt8), Digs l → num l < 10 ^ l.length
 | [], _ => by simp [num, numA]
 | c :: l, h => by
  have h1 := num_lt l fun x hx => h x (List.mem_cons_of_mem _ hx)
  have h2 := h c List.mem_cons_self
  have h3 := num_append [c] l
  have h4 : num [c] = c.toNat - 48 := by simp [num, numA]
  rw [List.singleton_append, h4] at h3
  rw [h3, List.length_cons, Nat.pow_succ]
  have h5 : (c.toNat - 48) * 10 ^ l.length ≤ 9 * 10 ^ l.length := Nat.mul_le_mul_right _ (by omega)
  omega
theorem parse_okM : ∀ (l : List UInt8) (a : Nat), Digs l → (a + 1) * 10 ^ l.length ≤ 1000000000 → Lib.parseUintM 4294967295 a l = .ok (numA a l)
 | [], a, _, _ => by simp [Lib.parseUintM, numA]
 | c :: l, a, h, hb => by
  have h2 := h c List.mem_cons_self
  have hp : 1 ≤ 10 ^ l.length := Nat.pow_pos (by decide)
  rw [List.length_cons, Nat.pow_succ] at hb
  have hb2 : (a + 1) * 10 * 10 ^ l.length ≤ 1000000000 := by rw [Nat.mul_assoc, Nat.mul_comm 10]; exact hb
  have hb3 : (a + 1) * 10 * 1 ≤ (a + 1) * 10 * 10 ^ l.length := Nat.mul_le_mul_left _ hp
  have hb4 : (a * 10 + (c.toNat - 48) + 1) * 10 ^ l.length ≤ (a + 1) * 10 * 10 ^ l.length := Nat.mul_le_mul_right _ (by omega)
  rw [Lib.parseUintM, if_pos h2, if_neg (by omega), if_neg (by omega), parse_okM l _ (fun x hx => h x (List.mem_cons_of_mem _ hx)) (by omega)]
  simp [numA]
theorem parse_ok (l : List UInt8) (hd : Digs l) (h0 : l ≠ []) (h9 : l.length ≤ 9) : Lib.parseUintB 32 l = .ok (num l) := by
 have hp : 10 ^ l.length ≤ 10 ^ 9 := Nat.pow_le_pow_right (by decide) h9
 rw [Lib.parseUintB, if_neg h0]
 exact parse_okM l 0 hd (by omega)
theorem Digs.take {l : List UInt8} (h : Digs l) (k : Nat) : Digs (l.take k) := fun c hc => h c (List.mem_of_mem_take hc)
theorem Digs.drop {l : List UInt8} (h : Digs l) (k : Nat) : Digs (l.drop k) := fun c hc => h c (List.mem_of_mem_drop hc)
theorem num_chunk {ds : List UInt8} {k n : Nat} (hk : k + n ≤ ds.length) (h : k = 0 ∨ n = 9) : num (ds.take (k + n)) = num (ds.take k) * 1000000000 + num ((ds.drop k).take n) := by
 rw [List.take_add, num_append]
 have e : ((ds.drop k).take n).length = n := by rw [List.length_take, List.length_drop]; omega
 rcases h with h | h
 ·subst h
  simp [num, numA]
 ·rw [e, h]
theorem pow_fits {n M : Nat} (hM : M = 2000) (h : n ≤ M) : ((10 ^ n : Nat) : Int) ≤ P32 210 := by
 have key : ((10 ^ M : Nat) : Int) ≤ P32 210 := by subst hM; decide +kernel
 have h1 : 10 ^ n ≤ 10 ^ M := Nat.pow_le_pow_right (by decide) h
 exact Int.le_trans (Int.ofNat_le.2 h1) key
theorem num_fits {ds : List UInt8} (hd : Digs ds) (hl : ds.length ≤ 2000) (k : Nat) : Fits 210 (num (ds.take k) : Int) := by
 have h1 := num_lt _ (hd.take k)
 have h3 := pow_fits rfl (show (ds.take k).length ≤ 2000 by rw [List.length_take]; omega)
 unfold Fits
 rw [Int.natAbs_natCast]
 exact Int.lt_of_lt_of_le (Int.ofNat_lt.2 h1) h3
structure RdI (w : World) (ds : List UInt8) (k : Nat) (t : ByteArray) (Aa : Option Addr) (na ca : Nat) (wr : World) : Prop where
 ht : t.data.toList = ds.drop k
 hk : k ≤ ds.length
 hm : k = 0 ∨ (ds.length - k) % 9 = 0
 va : Var wr (w.heap.size + 1) (.bool false) (.slice Aa na ca)
 vr : Var wr w.heap.size (.bool false) (.slice none 0 0)
 ba : Big wr (.agg #[.bool false, .slice Aa na ca]) (num (ds.take k) : Int)
 below : Below w.heap.size w wr
theorem big_zero (w : World) : Big w (.agg #[.bool false, .slice none 0 0]) 0 := ⟨none, 0, [], by simp, Reads.nil, ⟨Nat.le_refl _, Nat.zero_le _⟩, Ok.nil, by simp [Nm], rfl⟩
theorem Var.set0 {w : World} {g : Nat} {x0 x1 : Value} (h : Var w g x0 x1) (u : Value) : Var (w.setCell ⟨g, 0, none⟩ u) g u x1 := by
 refine ⟨World.cell?_setCell_same _ _ _ h.c0, ?_, by simpa using h.f0, by simpa using h.f1⟩
 rw [World.cell?_setCell_other _ _ _ _ (by simp)]; exact h.c1
theorem Var.far0 {w : World} {g g' : Nat} {x0 x1 : Value} (h : Var w g x0 x1) (hne : g' ≠ g) (u : Value) : Var (w.setCell ⟨g', 0, none⟩ u) g x0 x1 := by
 refine ⟨?_, ?_, by simpa using h.f0, by simpa using h.f1⟩
 ·rw [World.cell?_setCell_far _ _ _ _ (by simpa using hne)]; exact h.c0
 ·rw [World.cell?_setCell_far _ _ _ _ (by simpa using hne)]; exact h.c1
theorem Big.signed {w : World} {A : Option Addr} {n c : Nat} {x : Nat} (h : Big w (.agg #[.bool false, .slice A n c]) (x : Int)) (m : Bool) : Big w (.agg #[.bool (m && decide (0 < n)), .slice A n c]) (sgn m (x : Int)) := by
 obtain ⟨A', c', ws, e, hr, hc, ho, hn, hv⟩ := h
 injection e with e
 have e1 := congrArg (fun a : Array Value => a[1]?) e
 simp at e1
 obtain ⟨rfl, rfl, rfl⟩ := e1
 have hs := Big.sign ho hn hv
 refine ⟨A, c, ws, ?_, hr, hc, ho, hn, by rw [sgn_abs m (by omega), hv]; omega⟩
 congr 3
 cases m
 ·simp [sgn]
 ·simp only [Bool.true_and, sgn, if_true]
  have h2 : decide (0 < ws.length) = decide (-(x : Int) < 0) := decide_eq_decide.2 ⟨fun h => by omega, fun h => by omega⟩
  rw [h2]
set_option maxRecDepth 100000 in
set_option maxHeartbeats 4000000 in
theorem read_any (m : Bool) (ds : List UInt8) (hd : Digs ds) (hl : ds.length ≤ 2000) (s : ByteArray) (w : World) (hp : Lib.hasPrefix s.data.toList [45] = m) (htr : Lib.trimPrefix s.data.toList [45] = ds) :
  Calls Tryz.prog 79 #[.string s] w (RetBig w (sgn m (num ds : Int))) := by
 have HP := Lib.hid fun W => Tryz.strings_HasPrefix s ⟨#[45]⟩ W
 have HTR := Lib.hid fun W => Tryz.strings_TrimPrefix s ⟨#[45]⟩ W
 have e45 : (⟨#[45]⟩ : ByteArray).data.toList = [45] := rfl
 rw [e45, hp] at HP
 rw [e45, htr] at HTR
 clear e45 hp htr
 have hb1 : Below w.heap.size w ((w.alloc (.cells #[.bool false, .slice none 0 0] bigT)).alloc (.cells #[.bool false, .slice none 0 0] bigT)) := ((Below.refl _ _).alloc (Nat.le_refl _) _).alloc (by simp) _
 have hR := (Blk.new w bigT #[.bool false, .slice none 0 0]).alloc (.cells #[.bool false, .slice none 0 0] bigT)
 have hA := Blk.new (w.alloc (.cells #[.bool false, .slice none 0 0] bigT)) bigT #[.bool false, .slice none 0 0]
 rw [World.size_alloc w] at hA
 have HI : Hid (RdI w ds 0 ⟨ds.toArray⟩ none 0 0 ((w.alloc (.cells #[.bool false, .slice none 0 0] bigT)).alloc (.cells #[.bool false, .slice none 0 0] bigT))) := Lib.hid ⟨by simp, Nat.zero_le _, .inl rfl, hA.var, hR.var, by simpa [num, numA] using big_zero _, hb1⟩
 clear hb1 hR hA
 unfold bigT at *
 go_enter Tryz.func79, Tryz.ntmps79
 go_wp2_with fail
 refine (HP.out _).mono ?_
 rintro e w' ⟨rfl, rfl⟩
 go_wp2_with fail
 refine (HTR.out _).mono ?_
 rintro e w' ⟨rfl, rfl⟩
 clear HP HTR
 go_wp2_with fail
 go_loopg [0] (ds.length - 0) (fun r sv wr => ∃ k t Aa na ca, r = ds.length - k ∧ sv = .string t ∧ RdI w ds k t Aa na ca wr)
 case atStart => exact ⟨0, _, _, _, _, rfl, rfl, HI.out⟩
 case round =>
  clear HI
  obtain ⟨k, t, Aa, na, ca, rfl, rfl, hI⟩ := hrel
  obtain ⟨wa, rfl⟩ : ∃ wa : World, wa = wr := ⟨_, rfl⟩
  have hk := hI.hk
  have hts : t.size = ds.length - k := by
   have h := congrArg List.length hI.ht
   rw [Array.length_toList, List.length_drop] at h
   exact h
  by_cases hlt : k < ds.length
  ·obtain ⟨n, hn⟩ : ∃ n, (t.size - 1) % 9 + 1 = n := ⟨_, rfl⟩
   have hn1 : 1 ≤ n := by omega
   have hn9 : n ≤ 9 := by omega
   have hnt : n ≤ t.size := by omega
   have hkn : k = 0 ∨ n = 9 := by
    rcases hI.hm with h | h
    ·exact .inl h
    ·right; omega
   have hm2 : (ds.length - (k + n)) % 9 = 0 := by omega
   have hce : (t.extract 0 n).data.toList = (ds.drop k).take n := by
    rw [← hI.ht]; simp
   have hte : (t.extract n t.size).data.toList = ds.drop (k + n) := by
    rw [← List.drop_drop, ← hI.ht, ByteArray.data_extract, Array.toList_extract, List.extract_eq_take_drop]
    exact List.take_of_length_le (by rw [List.length_drop, Array.length_toList]; exact Nat.le_refl _)
   have hdc := (hd.drop k).take n
   have hcl : ((ds.drop k).take n).length = n := by rw [List.length_take, List.length_drop]; omega
   have hpk := parse_ok _ hdc (by intro e; rw [e] at hcl; simp at hcl; omega) (by omega)
   have hlt9 := num_lt _ hdc
   rw [hcl] at hlt9
   have hlt10 : num ((ds.drop k).take n) < 1000000000 := Nat.lt_of_lt_of_le hlt9 (Nat.le_trans (Nat.pow_le_pow_right (by decide) hn9) (by decide))
   have hpk2 : Lib.parseUintB 32 (t.extract 0 n).data.toList = .ok (num ((ds.drop k).take n)) := by rw [hce]; exact hpk
   have HPU := Lib.hid (Tryz.strconv_ParseUint_10_at32_ok (t.extract 0 n) (by rw [ByteArray.size_extract]; omega) _ hpk2 wa)
   have HNC := Lib.hid (num_chunk (show k + n ≤ ds.length by omega) hkn)
   have he : ((t.size : Int) - 1) % 9 + 1 = (n : Int) := by omega
   have ht0 : 0 < t.size := by omega
   have HTE := Lib.hid hte
   have HI := Lib.hid hI
   obtain ⟨N, hN0, hN1, hF1⟩ : ∃ N, 211 ≤ N ∧ N ≤ 300 ∧ Fits N (num (ds.take k) : Int) := ⟨211, by omega, by omega, (num_fits hd hl k).mono (by omega)⟩
   have F1 := Lib.hid hF1
   clear hF1
   generalize num ((ds.drop k).take n) = d at *
   clear hpk hpk2 hlt9 hcl hdc hte hce hI hkn hn
   have htb : t.size ≤ 2000 := by omega
   have HTS := Lib.hid hts
   clear hts
   go_wp2_with fail
   refine HPU.out.mono ?_
   rintro e w1 ⟨rfl, hw1⟩
   have hb1 : Below wa.heap.size wa w1 := by
    rcases hw1 with rfl | rfl
    ·exact Below.refl _ _
    ·exact Lib.bytesWorld_below _ _ _
   have HI1 : Hid (RdI w ds k t Aa na ca w1) := Lib.hid ⟨HI.out.ht, HI.out.hk, HI.out.hm, HI.out.va.below hb1, HI.out.vr.below hb1, HI.out.ba.ext hb1, HI.out.below.trans (hb1.mono HI.out.below.size)⟩
   have hd0 : (0 : Int) ≤ (d : Int) := by omega
   have hd1 : (d : Int) < 1000000000 := by omega
   clear hw1 hb1 HPU HI
   have hwr : IntKind.i64.wrap (d : Int) = d := IntWalk.i64_in _ (by omega)
   go_upto_region 7 with (fail)
   refine wp_region_c (fun w' => w'.cell? ⟨w.heap.size + 1, 0, none⟩ = some (.bool false) ∧ w'.cell? ⟨w.heap.size + 1, 1, none⟩ = some (.slice Aa na ca)) 7 (by kernel_rfl) ?_
   refine wpAnyC_take (i := 0) (oi := _) (v := .agg #[.bool false, .slice Aa na ca]) rfl (by kernel_rfl) (by kernel_rfl) (by kernel_rfl) (by kernel_rfl) (by kernel_rfl) (by kernel_rfl) (fun _ _ _ h => h) (Or.inl ⟨by rfl, ?_⟩) ⟨HI1.out.va.drew.c0, HI1.out.va.drew.c1⟩ ?_
   ·rintro w ⟨s0, s1⟩
    go_simp
   simp only [Act.put, List.setIfInBounds_toArray]
   refine wpAnyC_take (i := 3) (oi := _) (v := .int .u64 d) rfl (by kernel_rfl) (by kernel_rfl) (by kernel_rfl) (by kernel_rfl) (by kernel_rfl) (by kernel_rfl) (fun _ _ _ h => h) (Or.inl ⟨by rfl, ?_⟩) ⟨HI1.out.va.drew.c0, HI1.out.va.drew.c1⟩ ?_
   ·rintro w ⟨s0, s1⟩
    go_simp
   simp only [Act.put]
   refine wpAnyC_take (i := 4) (oi := _) (v := .int .i64 d) rfl (by kernel_rfl) (by kernel_rfl) (by kernel_rfl) (by kernel_rfl) (by kernel_rfl) (by kernel_rfl) (fun _ _ _ h => h) (Or.inl ⟨by rfl, ?_⟩) ⟨HI1.out.va.drew.c0, HI1.out.va.drew.c1⟩ ?_
   ·rintro w ⟨s0, s1⟩
    go_simp
   simp only [Act.put]
   refine on1 1 fun K hK => ?_
   go_simp
   go_at_call 80
   refine (of_any 1000000000 _ (by omega) (by omega)).mono ?_
   rintro e w2 ⟨v2, rfl, hv2, hb2⟩
   obtain ⟨A2, n2, c2, rfl⟩ := hv2.form
   rw [show decide ((1000000000 : Int) < 0) = false from rfl] at *
   have HB2 := Lib.hid (below_undrew hb2)
   have HV2 := Lib.hid hv2
   have HVA2 := Lib.hid (HI1.out.va.below HB2.out)
   refine hK.out _ _ (fun _ => ⟨HVA2.out.c0, HVA2.out.c1⟩) ?_
   clear hK K hv2 hb2
   try simp only [Act.put, putA, putZ, putC]
   refine on1 2 fun K hK => ?_
   go_simp
   go_at_call 76
   refine (mul_any _ _ (num (ds.take k) : Int) 1000000000 _ (HI1.out.ba.ext HB2.out) HV2.out (N := N) (by omega) F1.out (fits_one N (by omega) _ (by omega) (by omega))).mono ?_
   rintro e w3 ⟨v3, rfl, hv3, hb3⟩
   obtain ⟨A3, n3, c3, rfl⟩ := hv3.form
   have HB3 := Lib.hid (HB2.out.trans (hb3.mono HB2.out.size))
   have HV3 := Lib.hid hv3
   have HVA3 := Lib.hid (HI1.out.va.below HB3.out)
   refine hK.out _ _ (fun _ => ⟨HVA3.out.c0, HVA3.out.c1⟩) ?_
   clear hK K hv3 hb3
   try simp only [Act.put, putA, putZ, putC]
   refine on1 5 fun K hK => ?_
   go_simp
   go_at_call 80
   refine (of_any d _ (by omega) (by omega)).mono ?_
   rintro e w4 ⟨v4, rfl, hv4, hb4⟩
   obtain ⟨A4, n4, c4, rfl⟩ := hv4.form
   have HB4 := Lib.hid (HB3.out.trans (hb4.mono HB3.out.size))
   have HV34 := Lib.hid (HV3.out.ext hb4)
   have HV4 := Lib.hid hv4
   have HVA4 := Lib.hid (HI1.out.va.below HB4.out)
   refine hK.out _ _ (fun _ => ⟨HVA4.out.c0, HVA4.out.c1⟩) ?_
   clear hK K hv4 hb4
   try simp only [Act.put, putA, putZ, putC]
   refine on1 6 fun K hK => ?_
   go_simp
   go_at_call 77
   refine (add_any _ _ ((num (ds.take k) : Int) * 1000000000) d _ HV34.out HV4.out (N := N + N) (by omega) (F1.out.mul (fits_one N (by omega) _ (by omega) (by omega))) (fits_one _ (by omega) _ (by omega) (by omega))).mono ?_
   rintro e w5 ⟨v5, rfl, hv5, hb5⟩
   obtain ⟨A5, n5, c5, rfl⟩ := hv5.form
   have HB5 := Lib.hid (HB4.out.trans (hb5.mono HB4.out.size))
   have HV5 := Lib.hid hv5
   have HVA5 := Lib.hid (HI1.out.va.below HB5.out)
   refine hK.out _ _ (fun _ => ⟨HVA5.out.c0, HVA5.out.c1⟩) ?_
   clear hK K hv5 hb5
   try simp only [Act.put, putA, putZ, putC]
   have ev : (num (ds.take k) : Int) * 1000000000 + d = (num (ds.take (k + n)) : Int) := by rw [HNC.out]; simp
   rw [ev] at HV5
   have ed : decide ((num (ds.take k) : Int) * 1000000000 + d < 0) = false := decide_eq_false (by rw [ev]; omega)
   have ed2 : decide ((num (ds.take (k + n)) : Int) < 0) = false := decide_eq_false (by omega)
   rw [ed]
   try rw [ed] at HV5
   try rw [ed2] at HV5
   have r0 := HVA5.out.c0
   have r1 := HVA5.out.c1
   have r2 := HVA5.out.f0
   have r3 := HVA5.out.f1
   have HF : Hid (RdI w ds (k + n) (t.extract n t.size) A5 n5 c5 ((w5.setCell ⟨w.heap.size + 1, 0, none⟩ (.bool false)).setCell ⟨w.heap.size + 1, 1, none⟩ (.slice A5 n5 c5))) := Lib.hid
    ⟨HTE.out, by have := HTS.out; omega, .inr hm2, HVA5.out.set _ _, (HI1.out.vr.below HB5.out).far (by omega) _ _, HV5.out.setVar HVA5.out _ _, ((HI1.out.below.trans (HB5.out.mono HI1.out.below.size)).setCell (by simp only; omega) _).setCell (by simp only; omega) _⟩
   refine on1 7 fun K hK => ?_
   go_simp
   refine hK.out _ _ (fun h => absurd h (by decide)) ?_
   clear hK K r0 r1 r2 r3 ev ed ed2
   refine wpAnyC_done (by kernel_rfl) ?_ _
   go_wp2
   go_roundg (ds.length - (k + n))
   case measure => omega
   case rel => exact ⟨_, _, _, _, _, rfl, rfl, HF.out⟩
  ·obtain rfl : k = ds.length := by omega
   have htz : t.size = 0 := by omega
   have hB := hI.ba
   rw [List.take_of_length_le (Nat.le_refl _)] at hB
   have hBS := hB.signed m
   have hv1 := hI.va.set0 (.bool (m && decide (0 < na)))
   have hv2 := hI.vr.far0 (g' := w.heap.size + 1) (by omega) (.bool (m && decide (0 < na)))
   have hB1 := (hBS.set hI.va.c0 (noWord_bool _) (.bool (m && decide (0 < na)))).setVar hv2 (.bool (m && decide (0 < na))) (.slice Aa na ca)
   have hv3 := hv2.set (.bool (m && decide (0 < na))) (.slice Aa na ca)
   have hbl := ((hI.below.setCell (p := ⟨w.heap.size + 1, 0, none⟩) (by simp) (.bool (m && decide (0 < na)))).setCell (p := ⟨w.heap.size, 0, none⟩) (by simp) (.bool (m && decide (0 < na)))).setCell (p := ⟨w.heap.size, 1, none⟩) (by simp) (.slice Aa na ca)
   have a0 := hI.va.c0
   have a1 := hI.va.c1
   have a2 := hI.va.f0
   have a3 := hI.va.f1
   have b0 := hI.vr.c0
   have b1 := hI.vr.c1
   have b2 := hI.vr.f0
   have b3 := hI.vr.f1
   have HQ := Lib.hid (show RetBig w (sgn m (num ds : Int)) (.returned (.agg #[.bool (m && decide (0 < na)), .slice Aa na ca])) _ from ⟨_, rfl, hB1, hbl⟩)
   have HV := Lib.hid hv3
   clear hB hBS hv1 hv2 hB1 hv3 hbl hI hts
   cases m
   ·simp only [Bool.false_and] at HQ HV
    go_wp2
    have z0 := HV.out.c0
    have z1 := HV.out.c1
    generalize ((wa.setCell ⟨w.heap.size + 1, 0, none⟩ (.bool false)).setCell ⟨w.heap.size, 0, none⟩ (.bool false)).setCell ⟨w.heap.size, 1, none⟩ (.slice Aa na ca) = W at *
    exact bodyPost_ret (v := .agg #[.bool false, .slice Aa na ca]) (by simp [results, Tryz.results79, go_sem, z0, z1]) rfl HQ.out
   ·simp only [Bool.true_and] at HQ HV
    go_wp2
    have z0 := HV.out.c0
    have z1 := HV.out.c1
    generalize ((wa.setCell ⟨w.heap.size + 1, 0, none⟩ (.bool (decide (0 < na)))).setCell ⟨w.heap.size, 0, none⟩ (.bool (decide (0 < na)))).setCell ⟨w.heap.size, 1, none⟩ (.slice Aa na ca) = W at *
    exact bodyPost_ret (v := .agg #[.bool (decide (0 < na)), .slice Aa na ca]) (by simp [results, Tryz.results79, go_sem, z0, z1]) rfl HQ.out
end Go.Proofs.YtcgfdfdcbamceaaGreatDoor
