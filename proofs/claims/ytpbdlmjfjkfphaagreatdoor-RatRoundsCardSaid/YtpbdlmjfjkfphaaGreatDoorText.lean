/- (large.Int).Text: the parts of nine digits. -/
import Derived.Test.YtpbdlmjfjkfphaaGreatDoorFmt
import Derived.Test.YtpbdlmjfjkfphaaGreatDoorDec
import Derived.Test.YtpbdlmjfjkfphaaGreatDoorMem2
namespace Go.Proofs.YtpbdlmjfjkfphaaGreatDoor
open Go.RowKit

theorem p9_pos : ∀ n : Nat, (0 : Int) < 1000000000 ^ n
  | 0 => by decide
  | n + 1 => by rw [Int.pow_succ]; exact Int.mul_pos (p9_pos n) (by decide)
theorem part_len {n : Nat} (h : (1000000000 : Int) ^ n < P32 210) : n ≤ 231 := by
  rcases Nat.lt_or_ge 231 n with h1 | h1
  · have h2 : (1000000000 : Int) ^ 232 ≤ 1000000000 ^ n := by
      obtain ⟨k, rfl⟩ := Nat.le.dest (show 232 ≤ n by omega)
      rw [Int.pow_add]
      have hp : (1 : Int) ≤ 1000000000 ^ k := by have := p9_pos k; omega
      have h3 : (0 : Int) ≤ 1000000000 ^ 232 := by decide
      have := Int.mul_le_mul_of_nonneg_left hp h3
      omega
    have h4 : P32 210 ≤ (1000000000 : Int) ^ 232 := by decide
    omega
  · exact h1
structure T1 (w : World) (z : Int) (A : Option Addr) (n c : Nat) (ps ws : List Int) (pv : Value) (Aw : Option Addr) (cw : Nat) (wr : World) : Prop where
  row : Row wr (w.heap.size + 1) 78 1 pv ps.length (ps.map U)
  va : Var wr w.heap.size (.bool (decide (z < 0))) (.slice A n c)
  nn : Nn wr Aw cw ws
  len : ws.length ≤ 210
  okb : OkB ps
  sum : valB ps + 1000000000 ^ ps.length * val ws = (z.natAbs : Int)
  top : val ws = 0 → ∃ hne : ps ≠ [], ps.getLast hne ≠ 0
  below : Below w.heap.size w wr
  plen : ps.length ≤ 232
theorem T1.part {w : World} {z : Int} {A : Option Addr} {n c : Nat} {ps ws : List Int} {pv : Value} {Aw : Option Addr} {cw : Nat} {wr : World} (h : T1 w z A n c ps ws pv Aw cw wr) (hz : (z.natAbs : Int) < P32 210) (h1 : 1 ≤ val ws) : ps.length ≤ 231 := by
  refine part_len ?_
  have h2 := valB_nonneg h.okb
  have h3 := h.sum
  have hp : (0 : Int) ≤ 1000000000 ^ ps.length := Int.le_of_lt (p9_pos _)
  have := Int.mul_le_mul_of_nonneg_left h1 hp
  omega
theorem Row.own_lt {w : World} {base : Nat} {e : TypeId} {sz : Nat} {v : Value} {n : Nat} {xs : List Value} (h : Row w base e sz v n xs) : ∀ k, v.ownBlock = some k → base ≤ k ∧ k < w.heap.size := by
  intro k hk
  rcases h.2 with ⟨rfl, _⟩ | ⟨g, off, cap, cur, rfl, hb, hh, _⟩
  · simp [Value.ownBlock] at hk
  · simp [Value.ownBlock] at hk
    subst hk
    exact ⟨hb, hh.lt⟩
theorem Var.grown {w w' : World} {g : Nat} {x0 x1 : Value} (h : Var w g x0 x1) {row : Option Nat} (hg : w.grownBy w' row) (hne : row ≠ some g) : Var w' g x0 x1 := by
  have hb : w'.heap[g]? = w.heap[g]? := hg.block g h.lt (fun e => hne e.symm)
  refine ⟨?_, ?_, ?_, ?_⟩
  · rw [← h.c0]; simp [World.cell?, hb]
  · rw [← h.c1]; simp [World.cell?, hb]
  · rw [← h.f0]; simp [World.frozen?, hb]
  · rw [← h.f1]; simp [World.frozen?, hb]
def RetText (w : World) (z : Int) (e : Ending) (w' : World) : Prop := e = .returned (.tuple #[.string ⟨(Lib.itoa z).toArray⟩, .bool (decide ((Lib.decDigits z.natAbs).length ≤ 2000))]) ∧ Below w.heap.size w w'
theorem tab_below {w w' : World} (h : Tab w) (hb : Below w.heap.size w w') : Tab w' := by
  unfold Tab Lib.TabIs World.var? at *
  cases hg : Tryz.prog.globalNamed "internal/strconv.uint64pow10" with
  | none => simp [hg] at h
  | some g =>
    simp only [hg, Option.bind_some] at h ⊢
    have hlt : g < w.heap.size := by
      rcases Nat.lt_or_ge g w.heap.size with h' | h'
      · exact h'
      · rw [Array.getElem?_eq_none h'] at h; simp at h
    rw [hb.block g hlt]
    exact h
theorem pad_list : ∀ n : Fin 10, ((⟨#[48, 48, 48, 48, 48, 48, 48, 48, 48]⟩ : ByteArray).extract n.val 9).data.toList = List.replicate (9 - n.val) 48 := by decide +kernel
theorem pad_cells {n : Nat} (h : n ≤ 9) : Lib.strCells ((⟨#[48, 48, 48, 48, 48, 48, 48, 48, 48]⟩ : ByteArray).extract n 9) = Lib.byteCells (List.replicate (9 - n) 48) ∧ ((⟨#[48, 48, 48, 48, 48, 48, 48, 48, 48]⟩ : ByteArray).extract n 9).size = 9 - n := by
  have h1 := pad_list ⟨n, by omega⟩
  simp only at h1
  refine ⟨by rw [Lib.strCells_eq, h1], ?_⟩
  have e : (⟨#[48, 48, 48, 48, 48, 48, 48, 48, 48]⟩ : ByteArray).size = 9 := rfl
  simp [e]
theorem txt_len : ∀ (l : List Int), OkB l → (txt l).length ≤ 9 * l.length
  | [], _ => by simp [txt]
  | [x], h => by
    have h1 := h x List.mem_cons_self
    have := dec_len_le 9 x.toNat (by omega) (by omega)
    simp [txt]; omega
  | x :: y :: r, h => by
    have h1 := h x List.mem_cons_self
    have h2 := dec_len_le 9 x.toNat (by omega) (by omega)
    have h3 := txt_len (y :: r) fun z hz => h z (List.mem_cons_of_mem _ hz)
    simp only [txt, List.length_append, List.length_replicate, List.length_cons] at *
    omega
theorem OkB.drop {l : List Int} (h : OkB l) (k : Nat) : OkB (l.drop k) := fun x hx => h x (List.mem_of_mem_drop hx)
/-- the parts from number r on are written -/
structure T2 (wa : World) (ps : List Int) (r : Nat) (wr : World) : Prop where
  bld : Lib.IsBuilder 112 5 wa.heap.size wa.heap.size (Lib.byteCells (txt (ps.drop r))) wr
  below : Below wa.heap.size wa wr
theorem bld_below {T e : TypeId} {B b : Nat} {bs : List Value} {w w' : World} (h : Lib.IsBuilder T e B b bs w) (hb : Below w.heap.size w w') : Lib.IsBuilder T e B b bs w' := by
  have key : ∀ p, Lib.BuilderAt T e B b p bs w → Lib.BuilderAt T e B b p bs w' := by
    rintro p ⟨h1, v, h2, h3, h4⟩
    have hl : b < w.heap.size := (Array.getElem?_eq_some_iff.1 h2).1
    refine ⟨h1, v, (hb.block b hl).trans h2, ⟨h3.1, h3.2.imp id ?_⟩, h4⟩
    rintro ⟨g, cap, cur, a1, a2, a3, a4⟩
    exact ⟨g, cap, cur, a1, a2, (hb.block g (Array.getElem?_eq_some_iff.1 a3).1).trans a3, a4⟩
  exact h.imp (key _) (key _)
theorem ret_text_pos {z : Int} {L : List UInt8} (hL : Lib.decDigits z.natAbs = L) (hz : decide (z < 0) = false) : Ending.returned (.tuple #[.string ⟨L.toArray⟩, .bool (decide ((L.length : Int) ≤ 2000))]) = .returned (.tuple #[.string ⟨(Lib.itoa z).toArray⟩, .bool (decide ((Lib.decDigits z.natAbs).length ≤ 2000))]) := by
  have h0 : ¬ z < 0 := of_decide_eq_false hz
  have e : Lib.itoa z = L := by rw [Lib.itoa, if_neg h0, ← hL]; congr 1; omega
  have e2 : decide ((L.length : Int) ≤ 2000) = decide (L.length ≤ 2000) := by congr 1; simp; omega
  rw [e, hL, e2]
theorem ret_text_neg {z : Int} {L : List UInt8} (hL : Lib.decDigits z.natAbs = L) (hz : decide (z < 0) = true) : Ending.returned (.tuple #[.string ((⟨#[45]⟩ : ByteArray) ++ ⟨L.toArray⟩), .bool (decide ((L.length : Int) ≤ 2000))]) = .returned (.tuple #[.string ⟨(Lib.itoa z).toArray⟩, .bool (decide ((Lib.decDigits z.natAbs).length ≤ 2000))]) := by
  have h0 : z < 0 := of_decide_eq_true hz
  have e : Lib.itoa z = 45 :: L := by rw [Lib.itoa, if_pos h0, ← hL]
  have e2 : decide ((L.length : Int) ≤ 2000) = decide (L.length ≤ 2000) := by congr 1; simp; omega
  have e3 : (⟨#[45]⟩ : ByteArray) ++ ⟨L.toArray⟩ = ⟨(45 :: L).toArray⟩ := by
    apply ByteArray.ext
    simp
  rw [e, hL, e2, e3]
theorem field_words (b : Bool) (A : Option Addr) (n c : Nat) (w : World) : (Instr.field 45 (.agg #[.bool b, .slice A n c]) 1).run Tryz.prog w = .ok (.slice A n c) w := by kernel_rfl
set_option maxRecDepth 100000 in
set_option maxHeartbeats 4000000 in
theorem text_mid (z : Int) (A : Option Addr) (ca : Nat) (wz : List Int) (w : World) (hnz : Nn w A ca wz) (hvz : val wz = (z.natAbs : Int)) (h0 : 1 ≤ wz.length) (hl : wz.length ≤ 210) (htab : Tab w) :
    Calls Tryz.prog 77 #[.agg #[.bool (decide (z < 0)), .slice A wz.length ca]] w (RetText w z) := by
  have hzb : (z.natAbs : Int) < P32 210 := by
    have h1 := val_lt hnz.ok
    have h2 := P32_mono hl
    omega
  have hb1 : Below w.heap.size w (w.alloc (.cells #[.bool (decide (z < 0)), .slice A wz.length ca] bigT)) := (Below.refl _ _).alloc (Nat.le_refl _) _
  have hv1 : val wz ≠ 0 := by
    intro e
    have := (nm_zero hnz.ok hnz.nm).2 e
    rw [this] at h0
    simp at h0
  have HT : Hid (T1 w z A wz.length ca [] wz (.slice none 0 0) A ca (w.alloc (.cells #[.bool (decide (z < 0)), .slice A wz.length ca] bigT))) := Lib.hid
    ⟨Row.nil _ _ _ _, (Blk.new w bigT #[.bool (decide (z < 0)), .slice A wz.length ca]).var, hnz.ext hb1, hl, OkB.nil, by simp [valB]; omega, fun e => absurd e hv1, hb1, by simp⟩
  have t0 : ((wz.length : Int) == 0) = false := beq_eq_false_iff_ne.2 (by omega)
  have t1 : decide (210 < (wz.length : Int)) = false := decide_eq_false (by omega)
  have HPART := Lib.hid fun (ps ws : List Int) (pv : Value) (Aw : Option Addr) (cw : Nat) (wr : World) (h : T1 w z A wz.length ca ps ws pv Aw cw wr) (h1 : 1 ≤ val ws) => h.part hzb h1
  obtain ⟨i0, hi0, hz0, hz1, hz2⟩ := info_parts info_u32
  have HI := Lib.hid hi0
  have HZ0 := Lib.hid hz0
  have HZ1 := Lib.hid hz1
  have HZ2 := Lib.hid hz2
  have HTAB := Lib.hid htab
  clear hi0 hz0 hz1 hz2 hv1 hzb hvz hnz hb1 htab
  generalize hbe : decide (z < 0) = b at *
  have HBE := Lib.hid hbe
  clear hbe
  unfold bigT at *
  go_enter Tryz.func77, Tryz.ntmps77
  go_wp2_with fail
  go_loopg [4, 5] (val wz).toNat (fun r pv sv wr => ∃ ps ws Aw cw, r = (val ws).toNat ∧ sv = .slice Aw (ws : List Int).length cw ∧ T1 w z A wz.length ca ps ws pv Aw cw wr)
  case atStart => exact ⟨_, _, _, _, rfl, rfl, HT.out⟩
  case round =>
    clear HT
    obtain ⟨ps, ws, Aw, cw, rfl, rfl, hT⟩ := hrel
    obtain ⟨wa, rfl⟩ : ∃ wa : World, wa = wr := ⟨_, rfl⟩
    have hlen := hT.len
    by_cases hw : 1 ≤ ws.length
    · have hv0 := val_nonneg hT.nn.ok
      have hv1 : 1 ≤ val ws := by
        have h1 := (nm_zero hT.nn.ok hT.nn.nm)
        have h2 : ws ≠ [] := by intro e; rw [e] at hw; simp at hw
        have h3 := mt h1.2 h2
        omega
      have hpl := HPART.out _ _ _ _ _ _ hT hv1
      have HS := Lib.hid (shortDiv_any ws Aw cw 1000000000 wa hT.nn.reads hT.nn.ok (by omega) (by omega) (by omega))
      have HT := Lib.hid hT
      have hwa : w.heap.size < wa.heap.size := hT.va.lt
      have hw0 : 0 < ws.length := hw
      clear hT
      go_wp2_with fail
      refine HS.out.mono ?_
      rintro e w1 ⟨q, o, rfl, hq, oo, vo, lo, hb1⟩
      obtain ⟨A1, c1, rfl, hc1, hm1⟩ := hq.caps
      have HLO := Lib.hid lo
      clear lo
      have hm0 := Int.emod_nonneg (val ws) (show (1000000000 : Int) ≠ 0 by omega)
      have hm2 := Int.emod_lt_of_pos (val ws) (show (0 : Int) < 1000000000 by omega)
      have hsp := Int.emod_add_mul_ediv (val ws) 1000000000
      rw [← vo] at hsp
      have hz1 : wa.heap.size ≤ w1.heap.size := hb1.size
      have HQ := Lib.hid hq
      have HB1 := Lib.hid hb1
      generalize val ws % 1000000000 = m at *
      have HSP := Lib.hid hsp
      have HR := Lib.hid ((HT.out.row.call hb1).alloc (.cells #[U m] 78))
      have HOWN := Lib.hid HT.out.row.own_lt
      have H1 : Hid (∀ u ∈ [U m], u.oneCell' = true) := Lib.hid (by intro u hu; simp at hu; subst hu; rfl)
      clear HS hq hb1 hsp vo
      go_wp2_with (at_builtin; refine wpList_append_rowG rfl _ _ 43 rfl (w.heap.size + 1) 78 i0 _ 1 4 Tryz.underlying43 HI.out HZ0.out HZ1.out HZ2.out rfl (by decide) _ ps.length (ps.map U) rfl HR.out (w1.heap.size + 1) (some ⟨w1.heap.size, 0, none⟩) 1 1 [U m] rfl (reads_one w1 _ _) H1.out ?c1 ?c2 ?c3 ?_)
      case c1 => unfold maxLen; omega
      case c2 => omega
      case c3 => simp; omega
      intro v' w2 hr' hg
      have hz2 := hg.size
      have hq2 := (HQ.out.alloc (.cells #[U m] 78)).keep (w' := w2) (fun g h1 h2 => hg.block g h2 (fun e => by have := (HOWN.out g e.symm).2; omega))
      have hva2 := ((HT.out.va.below HB1.out).alloc (.cells #[U m] 78)).grown hg (fun e => by have := (HOWN.out _ e).1; omega)
      have hbl2 : Below w.heap.size w w2 := by
        have hb3 := (HT.out.below.trans (HB1.out.mono HT.out.below.size)).alloc (o := .cells #[U m] 78) (by omega)
        exact hb3.grown hg (by simp; omega) (fun k hk => by have := (HOWN.out k hk).1; omega)
      have HNM := Lib.hid (norm_any false o A1 c1 w2 hq2.reads hc1 hm1 oo)
      have HVA2 := Lib.hid hva2
      have HBL2 := Lib.hid hbl2
      have HR2 := Lib.hid hr'
      clear hr' hg hq2 hva2 hbl2 HQ HR HB1 H1
      go_wp2_with fail
      refine HNM.out.mono ?_
      rintro e w3 ⟨v3, rfl, hv3, hb3⟩
      obtain ⟨A3, c3, r3, rfl, hn3, hv3'⟩ := hv3.nn
      have ho0 := val_nonneg oo
      have hv3e : val r3 = val o := by rw [hv3', sgn_abs false ho0]
      have e4 : sgn false (val o) = val o := rfl
      rw [e4, decide_eq_false (show ¬ val o < 0 by omega)]
      have hfld := field_words false A3 r3.length c3
      have hspl := HSP.out
      have hmeas : val r3 < val ws := by omega
      have hmeas0 : 0 ≤ val r3 := by omega
      have HF : Hid (T1 w z A wz.length ca (ps ++ [m]) r3 v' A3 c3 w3) := Lib.hid (by
        refine ⟨?_, HVA2.out.below hb3, hn3, ?_, HT.out.okb.snoc ⟨hm0, hm2⟩, ?_, ?_, HBL2.out.trans (hb3.mono HBL2.out.size), by simp; omega⟩
        · have := HR2.out.call hb3
          simpa using this
        · have h1 := val_lt HT.out.nn.ok
          have := nm_len hn3.ok hn3.nm (k := ws.length) (by omega)
          omega
        · rw [valB_snoc, List.length_append, List.length_singleton, Int.pow_succ, hv3e, Int.mul_assoc, Int.add_assoc, ← Int.mul_add, hspl]
          exact HT.out.sum
        · intro e
          refine ⟨by simp, ?_⟩
          have hlm : (ps ++ [m]).getLast (by simp) = m := by simp
          rw [hlm]; omega)
      clear hv3 hn3 hv3' HNM HVA2 HBL2 HR2 e4 HSP hspl
      go_wp2
      go_roundg (val r3).toNat
      case measure => omega
      case rel => exact ⟨_, _, _, _, rfl, rfl, HF.out⟩
    · have hnil : ws = [] := List.eq_nil_of_length_eq_zero (by omega)
      subst hnil
      obtain ⟨hne, hlast⟩ := hT.top rfl
      have hsum := hT.sum
      simp only [val, Int.mul_zero, Int.add_zero] at hsum
      have htx := txt_eq hT.okb hne hlast
      rw [hsum, Int.toNat_natCast] at htx
      have hpos : 0 < ps.length := List.length_pos_iff.2 hne
      have HTX := Lib.hid htx
      have HOB := Lib.hid hT.okb
      have HF0 := Lib.hid (Lib.fresh_isBuilder 112 5 wa)
      have HTB := Lib.hid (tab_below HTAB.out hT.below)
      have HT := Lib.hid hT
      obtain ⟨PA, pc, hpv, hpc, hpm⟩ := hT.row.caps
      subst hpv
      have HRD := Lib.hid hT.row.reads
      have hplen := hT.plen
      clear hT hsum htx hlast hne
      have HT2 : Hid (T2 wa ps ps.length (wa.alloc (.cells #[.pointer none, .slice none 0 0] 112))) := Lib.hid ⟨by rw [List.drop_of_length_le (Nat.le_refl _)]; exact HF0.out, (Below.refl _ _).alloc (Nat.le_refl _) _⟩
      go_wp2_with fail
      go_loopg [9] ps.length (fun r iv wr => iv = I ((r : Int) - 1) ∧ r ≤ ps.length ∧ T2 wa ps r wr)
      case atStart => exact ⟨rfl, Nat.le_refl _, HT2.out⟩
      case round =>
        clear HT2 HF0
        obtain ⟨rfl, hr, hT2⟩ := hrel
        rcases gk with _ | k
        · have e0 : (((0 : Nat) : Int) - 1) = -1 := by omega
          rw [e0]
          clear e0
          have hbl := hT2.bld
          rw [List.drop_zero, HTX.out] at hbl
          have HS := Lib.hid (Tryz.Builder_String_any wa.heap.size wa.heap.size _ wr hbl hT2.below.size)
          have hva := HT.out.va.below hT2.below
          have HVA := Lib.hid hva
          have HBL := Lib.hid (HT.out.below.trans (hT2.below.mono HT.out.below.size))
          have HB2 := Lib.hid hT2.below
          have hwa : w.heap.size < wa.heap.size := HT.out.va.lt
          generalize hL : Lib.decDigits z.natAbs = L at *
          have hLlen : L.length ≤ 2100 := by
            have h1 := txt_len ps HOB.out
            rw [HTX.out] at h1
            omega
          have HL := Lib.hid hL
          have a0 := hva.c0
          rw [HBE.out] at a0
          clear hbl hva hT2 hL
          go_wp2_with fail
          refine HS.out.mono ?_
          rintro e w1 ⟨rfl, hb1⟩
          have a1 : w1.cell? ⟨w.heap.size, 0, none⟩ = some (.bool b) := (hb1.cell (p := ⟨w.heap.size, 0, none⟩) hwa).trans a0
          have hl1 : w.heap.size < w1.heap.size := by have := hb1.size; have := HB2.out.size; omega
          have HB3 := Lib.hid (HT.out.below.trans ((HB2.out.trans hb1).mono HT.out.below.size))
          clear hb1 HS a0 HBL HB2 HVA
          cases b
          · go_wp2
            go_ret2
            exact ⟨ret_text_pos HL.out HBE.out, HB3.out⟩
          · go_wp2
            go_ret2
            exact ⟨ret_text_neg HL.out HBE.out, HB3.out⟩
        · have e0 : (((k + 1 : Nat) : Int) - 1) = k := by omega
          rw [e0]
          clear e0
          obtain ⟨bp, offp, hPA, hbp, hcp⟩ := (HRD.out.below hT2.below).word (k := k) (by omega)
          subst hPA
          have hpb := HOB.out.at_ k
          obtain ⟨u, hu⟩ := Int.eq_ofNat_of_zero_le hpb.1
          rw [hu] at hcp hpb
          have hu9 : u < 1000000000 := by omega
          have hul : (Lib.decDigits u).length ≤ 9 := dec_len_le 9 u (by omega) (by omega)
          have hbw : bp < wr.heap.size := by have := hT2.below.size; omega
          have HFM := Lib.hid (fmt_any u (by omega) wr (tab_below HTB.out hT2.below))
          have HT2 := Lib.hid hT2
          have HU := Lib.hid hu
          have hk1 : (0 : Int) ≤ (k : Int) := by omega
          have hk2 : (k : Int) < (ps.length : Int) := by omega
          have hk3 : k < ps.length := by omega
          clear hT2 hu hpb
          by_cases hlast : k + 1 < ps.length
          · have tl : decide ((k : Int) < (ps.length : Int) - 1) = true := decide_eq_true (by omega)
            go_wp2_with fail
            refine HFM.out.mono ?_
            rintro e w1 ⟨rfl, hb1⟩
            have hB1 := bld_below HT2.out.bld hb1
            have hln := txt_len _ (HOB.out.drop (k + 1))
            rw [List.length_drop] at hln
            have hW1 := writeString_any wa.heap.size wa.heap.size _ ((⟨#[48, 48, 48, 48, 48, 48, 48, 48, 48]⟩ : ByteArray).extract (Lib.decDigits u).length 9) w1 hB1 (by rw [Lib.byteCells_length, (pad_cells hul).2]; omega) (by have := HT2.out.below.size; have := hb1.size; omega)
            rw [(pad_cells hul).1, ← Lib.byteCells_append] at hW1
            have HW1 := Lib.hid hW1
            have HB1 := Lib.hid (HT2.out.below.trans (hb1.mono HT2.out.below.size))
            clear hB1 hW1 hb1
            go_wp2_with fail
            refine HW1.out.mono ?_
            rintro e w2 ⟨rfl, hB2, hb2⟩
            have hW2 := writeString_any wa.heap.size wa.heap.size _ ⟨(Lib.decDigits u).toArray⟩ w2 (.inr hB2) (by rw [Lib.byteCells_length, List.length_append, List.length_replicate]; simp [ByteArray.size]; omega) (by have := HB1.out.size; have := hb2.size; omega)
            rw [Lib.strCells_toArray, ← Lib.byteCells_append] at hW2
            have HW2 := Lib.hid hW2
            have HB2 := Lib.hid (HB1.out.trans hb2)
            clear hB2 hW2 hb2 HW1
            go_wp2_with fail
            refine HW2.out.mono ?_
            rintro e w3 ⟨rfl, hB3, hb3⟩
            have HF : Hid (T2 wa ps k w3) := Lib.hid ⟨by rw [txt_drop hlast, HU.out, Int.toNat_natCast, ← List.append_assoc]; exact .inr hB3, HB2.out.trans hb3⟩
            clear hB3 hb3 HW2
            go_wp2
            go_roundg k
            case measure => omega
            case rel => exact ⟨by go_num, by omega, HF.out⟩
          · have tl : decide ((k : Int) < (ps.length : Int) - 1) = false := decide_eq_false (by omega)
            go_wp2_with fail
            refine HFM.out.mono ?_
            rintro e w1 ⟨rfl, hb1⟩
            have hB1 := bld_below HT2.out.bld hb1
            rw [List.drop_of_length_le (show ps.length ≤ k + 1 by omega)] at hB1
            have hW2 := writeString_any wa.heap.size wa.heap.size _ ⟨(Lib.decDigits u).toArray⟩ w1 hB1 (by simp [txt, Lib.byteCells, ByteArray.size]; omega) (by have := HT2.out.below.size; have := hb1.size; omega)
            rw [Lib.strCells_toArray, ← Lib.byteCells_append] at hW2
            have HW2 := Lib.hid hW2
            have HB2 := Lib.hid (HT2.out.below.trans (hb1.mono HT2.out.below.size))
            clear hB1 hW2 hb1
            go_wp2_with fail
            refine HW2.out.mono ?_
            rintro e w3 ⟨rfl, hB3, hb3⟩
            have HF : Hid (T2 wa ps k w3) := Lib.hid ⟨by rw [txt_last (show k + 1 = ps.length by omega), HU.out, Int.toNat_natCast]; exact .inr hB3, HB2.out.trans hb3⟩
            clear hB3 hb3 HW2
            go_wp2
            go_roundg k
            case measure => omega
            case rel => exact ⟨by go_num, by omega, HF.out⟩
end Go.Proofs.YtpbdlmjfjkfphaaGreatDoor
