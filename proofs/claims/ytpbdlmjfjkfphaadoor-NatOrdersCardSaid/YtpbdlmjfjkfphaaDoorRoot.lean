/- large.Root. -/
import Derived.Test.YtpbdlmjfjkfphaaDoorGcd
namespace Go.Proofs.YtpbdlmjfjkfphaaDoor
open Go.RowKit

theorem newton {x z q y : Int} (_hx : 0 < x) (hq : z < (q + 1) * x) (hy : x + q + 1 ≤ 2 * (y + 1)) (h0 : 0 ≤ x + q + 1) : z < (y + 1) * (y + 1) := by
  have h1 : (x + q + 1) * (x + q + 1) ≤ (2 * (y + 1)) * (2 * (y + 1)) := Int.mul_le_mul hy hy h0 (by omega)
  have h2 : 0 ≤ (x - (q + 1)) * (x - (q + 1)) := by
    rcases Int.le_total 0 (x - (q + 1)) with h | h
    · exact Int.mul_nonneg h h
    · exact Int.mul_nonneg_of_nonpos_of_nonpos h h
  have h3 : 4 * z < 4 * ((y + 1) * (y + 1)) := by grind
  omega
/-- a natural number's root, rounded down -/
def IsRoot (z s : Int) : Prop := 0 ≤ s ∧ s * s ≤ z ∧ z < (s + 1) * (s + 1)
def RetRoot (w : World) (z : Int) (e : Ending) (w' : World) : Prop := ∃ s, IsRoot z s ∧ RetBig w s e w'
structure RootI (w : World) (N gx : Nat) (z x : Int) (A : Option Addr) (n c : Nat) (Ax : Option Addr) (nx cx : Nat) (wr : World) : Prop where
  va : Var wr w.heap.size (.bool false) (.slice A n c)
  vr : Var wr (w.heap.size + 1) (.bool false) (.slice none 0 0)
  vx : Var wr gx (.bool false) (.slice Ax nx cx)
  ba : Big wr (.agg #[.bool false, .slice A n c]) z
  bx : Big wr (.agg #[.bool false, .slice Ax nx cx]) x
  pos : 0 < x
  lt : z < (x + 1) * (x + 1)
  fx : Fits N x
  below : Below w.heap.size w wr
  g0 : w.heap.size + 1 < gx
theorem RootI.ext {w : World} {N gx : Nat} {z x : Int} {A : Option Addr} {n c : Nat} {Ax : Option Addr} {nx cx : Nat} {wr w2 : World} (h : RootI w N gx z x A n c Ax nx cx wr) (hb : Below wr.heap.size wr w2) : RootI w N gx z x A n c Ax nx cx w2 :=
  ⟨h.va.below hb, h.vr.below hb, h.vx.below hb, h.ba.ext hb, h.bx.ext hb, h.pos, h.lt, h.fx, h.below.trans (hb.mono h.below.size), h.g0⟩
theorem fits_one (N : Nat) (h : 1 ≤ N) (k : Int) (h0 : -4294967296 < k) (h1 : k < 4294967296) : Fits N k := by
  refine Fits.mono (n := 1) ?_ h
  unfold Fits
  have e : P32 1 = 4294967296 := by decide
  omega
theorem Big.flag {w : World} {b : Bool} {A : Option Addr} {n c : Nat} {z : Int} (h : Big w (.agg #[.bool b, .slice A n c]) z) : b = decide (z < 0) := by
  obtain ⟨A', c', ws, e, _⟩ := h
  injection e with e
  have := congrArg (fun a : Array Value => a[0]?) e
  simpa using this
theorem val_top (k : Nat) : val (List.replicate k 0 ++ [1]) = P32 k := by rw [val_append, val_replicate]; simp [val]
set_option maxRecDepth 100000 in
set_option maxHeartbeats 4000000 in
theorem root_zero (u : Value) (w : World) (hx : Big w u 0) : Calls Tryd.prog 32 #[u] w (RetRoot w 0) := by
  obtain ⟨A, n, c, rfl⟩ := hx.form
  have hb1 : Below w.heap.size w ((w.alloc (.cells #[.bool false, .slice A n c] bigT)).alloc (.cells #[.bool false, .slice none 0 0] bigT)) := ((Below.refl _ _).alloc (Nat.le_refl _) _).alloc (by simp) _
  have hR := Blk.new (w.alloc (.cells #[.bool false, .slice A n c] bigT)) bigT #[.bool false, .slice none 0 0]
  rw [World.size_alloc w] at hR
  have HS := Lib.hid (sign_any _ _ _ (hx.ext hb1))
  have HB := Lib.hid hb1
  have HR := Lib.hid hR
  have e0 : decide ((0 : Int) < 0) = false := rfl
  rw [e0] at HS ⊢
  clear hb1 hR hx
  unfold bigT at *
  go_enter Tryd.func32, Tryd.ntmps32
  go_wp2_with fail
  refine HS.out.mono ?_
  rintro e w1 ⟨rfl, hb⟩
  have v1 := HR.out.var.below hb
  have a0 := v1.c0
  have a1 := v1.c1
  have a2 := v1.f0
  have a3 := v1.f1
  have HV := Lib.hid (v1.set (.bool false) (.slice none 0 0))
  have hBig : Big w1 (.agg #[.bool false, .slice none 0 0]) 0 := ⟨none, 0, [], by simp, Reads.nil, ⟨Nat.le_refl _, Nat.zero_le _⟩, Ok.nil, by simp [Nm], rfl⟩
  have HQ := Lib.hid (show RetRoot w 0 (.returned (.agg #[.bool false, .slice none 0 0])) ((w1.setCell ⟨w.heap.size + 1, 0, none⟩ (.bool false)).setCell ⟨w.heap.size + 1, 1, none⟩ (.slice none 0 0)) from ⟨0, ⟨by omega, by omega, by omega⟩, _, rfl, hBig.setVar v1 _ _, ((HB.out.trans (hb.mono HB.out.size)).setCell (by simp) _).setCell (by simp) _⟩)
  have hs0 : Int.sign 0 = 0 := rfl
  rw [hs0]
  clear v1 hb HB HR HS hBig
  go_wp2
  have z0 := HV.out.c0
  have z1 := HV.out.c1
  generalize (w1.setCell ⟨w.heap.size + 1, 0, none⟩ (.bool false)).setCell ⟨w.heap.size + 1, 1, none⟩ (.slice none 0 0) = W at *
  exact bodyPost_ret (v := .agg #[.bool false, .slice none 0 0]) (by simp [results, Tryd.results32, go_sem, z0, z1]) rfl HQ.out
theorem root_start {wz : List Int} (ok : Ok wz) : val wz < (P32 (wz.length / 2 + 1) + 1) * (P32 (wz.length / 2 + 1) + 1) := by
  have h1 := val_lt ok
  have h2 := P32_mono (i := wz.length) (j := (wz.length / 2 + 1) + (wz.length / 2 + 1)) (by omega)
  rw [P32_add] at h2
  have h3 := P32_pos (wz.length / 2 + 1)
  generalize P32 (wz.length / 2 + 1) = p at *
  have h4 : (p + 1) * (p + 1) = p * p + p + p + 1 := by grind
  omega
set_option maxRecDepth 100000 in
set_option maxHeartbeats 4000000 in
theorem root_pos (u : Value) (z : Int) (w : World) (hx : Big w u z) {N : Nat} (hN : N ≤ 400000) (fz : Fits N z) (hz : 0 < z) : Calls Tryd.prog 32 #[u] w (RetRoot w z) := by
  obtain ⟨A, ca, wz, rfl, hnz, hvz⟩ := hx.nn
  have ez : (z.natAbs : Int) = z := by omega
  rw [ez] at hvz
  have lz := fz.len hnz.ok hnz.nm (by rw [hvz, ez])
  have tb : decide (z < 0) = false := decide_eq_false (by omega)
  rw [tb] at hx ⊢
  have hb1 : Below w.heap.size w ((w.alloc (.cells #[.bool false, .slice A wz.length ca] bigT)).alloc (.cells #[.bool false, .slice none 0 0] bigT)) := ((Below.refl _ _).alloc (Nat.le_refl _) _).alloc (by simp) _
  have hA := (Blk.new w bigT #[.bool false, .slice A wz.length ca]).alloc (.cells #[.bool false, .slice none 0 0] bigT)
  have hR := Blk.new (w.alloc (.cells #[.bool false, .slice A wz.length ca] bigT)) bigT #[.bool false, .slice none 0 0]
  rw [World.size_alloc w] at hR
  have hS := sign_any _ _ _ (hx.ext hb1)
  rw [Int.sign_eq_one_of_pos hz] at hS
  have HS := Lib.hid hS
  have HB := Lib.hid hb1
  have HR := Lib.hid hR
  have HA := Lib.hid hA
  have HZ := Lib.hid (hx.ext hb1)
  have HST := Lib.hid (root_start hnz.ok)
  rw [hvz] at HST
  have FZ := Lib.hid fz
  have hmk := make_u32 (wz.length / 2 + 2) (by omega)
  have e1 : ((wz.length / 2 + 2 : Nat) : Int) = (wz.length : Int) / 2 + 2 := by omega
  rw [e1] at hmk
  clear e1 hb1 hR hA hx hS hvz ez tb hnz fz
  unfold bigT at *
  go_enter Tryd.func32, Tryd.ntmps32
  go_wp2_with fail
  refine HS.out.mono ?_
  rintro e w1 ⟨rfl, hb⟩
  have va := HA.out.var.below hb
  have vr := HR.out.var.below hb
  have HVA := Lib.hid va
  have HVR := Lib.hid vr
  have HB1 := Lib.hid (HB.out.trans (hb.mono HB.out.size))
  have HZ1 := Lib.hid (HZ.out.ext hb)
  have a0 := va.c0
  have a1 := va.c1
  have la := vr.lt
  have hcs : (Array.replicate (wz.length / 2 + 2) (U 0)).setIfInBounds (wz.length / 2 + 1) (U 1) = ((((List.replicate (wz.length / 2 + 2) (0 : Int)).set (wz.length / 2 + 1) 1)).map U).toArray := by
    apply Array.ext'
    simp [List.map_set]
  have hV : val ((List.replicate (wz.length / 2 + 2) 0).set (wz.length / 2 + 1) 1) = P32 (wz.length / 2 + 1) := by
    rw [val_set _ _ _ (by simp), val_replicate]
    have : (List.replicate (wz.length / 2 + 2) (0 : Int)).getD (wz.length / 2 + 1) 0 = 0 := by simp [List.getD_eq_getElem?_getD]
    rw [this]; omega
  have hl : ((List.replicate (wz.length / 2 + 2) (0 : Int)).set (wz.length / 2 + 1) 1).length = wz.length / 2 + 2 := by simp
  have hW : Wrd w1 w1.heap.size (wz.length / 2 + 2) ((List.replicate (wz.length / 2 + 2) (0 : Int)).set (wz.length / 2 + 1) 1) (w1.alloc (.cells ((Array.replicate (wz.length / 2 + 2) (U 0)).setIfInBounds (wz.length / 2 + 1) (U 1)) 64)) :=
    ⟨hl, (Ok.replicate _).set _ (by omega), by rw [hcs]; exact Blk.new w1 _ _, (Below.refl _ _).alloc (Nat.le_refl _) _⟩
  have hN1 := norm_any false _ (some ⟨w1.heap.size, 0, none⟩) (wz.length / 2 + 2) _ hW.reads (by rw [hl]; exact Nat.le_refl _) (by unfold maxLen; omega) hW.ok
  rw [hV, hl] at hN1
  have HN1 := Lib.hid hN1
  have HW := Lib.hid hW.below
  clear hb va vr hW hV hl hN1 HS HA HR HB HZ hcs
  go_wp2_with fail
  refine HN1.out.mono ?_
  rintro e w2 ⟨v2, rfl, hv2, hb2⟩
  have hP := P32_pos (wz.length / 2 + 1)
  have es : sgn false (P32 (wz.length / 2 + 1)) = P32 (wz.length / 2 + 1) := rfl
  rw [es] at hv2
  obtain ⟨A2, n2, c2, rfl⟩ := hv2.form
  have ed : decide (P32 (wz.length / 2 + 1) < 0) = false := decide_eq_false (by omega)
  rw [ed] at hv2 ⊢
  have hb12 := HW.out.trans (hb2.mono HW.out.size)
  have hb13 := hb12.alloc hb12.size (.cells #[.bool false, .slice A2 n2 c2] bigT)
  have hgx : w1.heap.size ≤ w2.heap.size := hb12.size
  have hI : RootI w (N + 2) w2.heap.size z (P32 (wz.length / 2 + 1)) A wz.length ca A2 n2 c2 (w2.alloc (.cells #[.bool false, .slice A2 n2 c2] bigT)) :=
    ⟨HVA.out.below hb13, HVR.out.below hb13, (Blk.new w2 bigT #[.bool false, .slice A2 n2 c2]).var, HZ1.out.ext hb13, hv2.alloc _, hP, HST.out, by
      unfold Fits
      rw [show ((P32 (wz.length / 2 + 1)).natAbs : Int) = P32 (wz.length / 2 + 1) by omega]
      have h1 := P32_mono (i := wz.length / 2 + 1 + 1) (j := N + 2) (by omega)
      rw [P32_succ] at h1
      omega, HB1.out.trans (hb13.mono HB1.out.size), by omega⟩
  have HI := Lib.hid hI
  have FZ2 := Lib.hid (show Fits (N + 2) z from FZ.out.mono (by omega))
  clear hv2 hb2 hb12 hb13 HN1 HW es ed hP hI HB1 HVA HVR HZ1 HST FZ a0 a1 hmk
  unfold bigT at *
  generalize P32 (wz.length / 2 + 1) = X0 at *
  go_wp2_with fail
  generalize w2.alloc (Obj.cells #[Value.bool false, Value.slice A2 n2 c2] 42) = W0 at *
  generalize w2.heap.size = gx at *
  go_loopg [5] X0.toNat (fun r _ wr => ∃ x Ax nx cx, r = x.toNat ∧ RootI w (N + 2) gx z x A wz.length ca Ax nx cx wr)
  case atStart => exact ⟨_, _, _, _, rfl, HI.out⟩
  case round =>
    clear HI
    obtain ⟨x, Ax, nx, cx, rfl, hI⟩ := hrel
    obtain ⟨wa, rfl⟩ : ∃ wa : World, wa = wr := ⟨_, rfl⟩
    have a0 := hI.va.c0
    have a1 := hI.va.c1
    have x0 := hI.vx.c0
    have x1 := hI.vx.c1
    have lx := hI.vx.lt
    have la := hI.va.lt
    have hg0 := hI.g0
    have hpos := hI.pos
    have HDM := Lib.hid (divmod_any _ _ z x wa hI.ba hI.bx (N := N + 2) (by omega) FZ2.out hI.fx hI.pos)
    have HI := Lib.hid hI
    clear hI
    go_wp2_with fail
    refine HDM.out.mono ?_
    rintro e w3 ⟨vq, vr, rfl, hq, hr, hb3⟩
    obtain ⟨A3, n3, c3, rfl⟩ := hq.form
    obtain ⟨A4, n4, c4, rfl⟩ := hr.form
    have hI3 := HI.out.ext hb3
    have p0 := hI3.vx.c0
    have p1 := hI3.vx.c1
    have l3 := hI3.vx.lt
    have hbA : Below w3.heap.size w3 ((w3.alloc (.cells #[.bool (decide (z / x < 0)), .slice A3 n3 c3] bigT)).alloc (.cells #[.bool (decide (z % x < 0)), .slice A4 n4 c4] bigT)) := ((Below.refl _ _).alloc (Nat.le_refl _) _).alloc (by simp) _
    have HI4 := Lib.hid (hI3.ext hbA)
    have HADD := Lib.hid (add_any _ _ x (z / x) _ (hI3.ext hbA).bx (hq.ext hbA) (N := N + 2) (by omega) (hI3.fx) (FZ2.out.div hpos))
    clear HDM hq hr hb3 hI3 hbA a0 a1 x0 x1
    unfold bigT at *
    go_wp2_with fail
    refine HADD.out.mono ?_
    rintro e w5 ⟨v5, rfl, h5, hb5⟩
    obtain ⟨A5, n5, c5, rfl⟩ := h5.form
    have HI5 := Lib.hid (HI4.out.ext hb5)
    have H5 := Lib.hid h5
    clear h5 hb5 HADD HI4 p0 p1
    go_wp2_with fail
    refine (of_any 2 _ (by omega) (by omega)).mono ?_
    rintro e w6 ⟨v6, rfl, h6, hb6⟩
    obtain ⟨A6, n6, c6, rfl⟩ := h6.form
    rw [show decide ((2 : Int) < 0) = false from rfl] at h6 ⊢
    have HI6 := Lib.hid (HI5.out.ext hb6)
    have hq0 : 0 ≤ z / x := Int.ediv_nonneg (by omega) (by omega)
    have hqf : Fits (N + 2) (z / x) := FZ2.out.div hpos
    have HDM := Lib.hid (divmod_any _ _ (x + z / x) 2 w6 (H5.out.ext hb6) h6 (N := N + 2 + 1) (by omega) (HI5.out.fx.add hqf) (fits_one _ (by omega) 2 (by omega) (by omega)) (by omega))
    have hfy : Fits (N + 2 + 1) ((x + z / x) / 2) := (HI5.out.fx.add hqf).div (by omega)
    have hy0 : 0 ≤ (x + z / x) / 2 := by omega
    have hy1 : x + z / x + 1 ≤ 2 * ((x + z / x) / 2 + 1) := by omega
    have hzq : z < (z / x + 1) * x := by
      have h1 := Int.emod_add_mul_ediv z x
      have h2 := Int.emod_lt_of_pos z hpos
      rw [Int.add_mul, Int.mul_comm]; omega
    have hzq2 : z / x * x ≤ z := by
      have h1 := Int.emod_add_mul_ediv z x
      have h2 := Int.emod_nonneg z (show x ≠ 0 by omega)
      rw [Int.mul_comm]; omega
    have HNW := Lib.hid (newton hpos hzq hy1 (by omega))
    have hyq : 2 * ((x + z / x) / 2) ≤ x + z / x := by omega
    generalize z / x = q at *
    have hyp : 0 < (x + q) / 2 := by
      have := HNW.out
      rcases (show (x + q) / 2 = 0 ∨ 0 < (x + q) / 2 by omega) with h | h
      · rw [h] at this; omega
      · exact h
    clear H5 HI5 h6 hb6 hqf hy1 hzq
    generalize hye : (x + q) / 2 = y at *
    have HYE := Lib.hid hye
    go_wp2_with fail
    refine HDM.out.mono ?_
    rintro e w7 ⟨vy, vr2, rfl, hy, hr2, hb7⟩
    clear hye
    obtain ⟨A7, n7, c7, rfl⟩ := hy.form
    obtain ⟨A8, n8, c8, rfl⟩ := hr2.form
    have ed : decide (y < 0) = false := decide_eq_false (by omega)
    rw [ed] at hy ⊢
    have hI7 := HI6.out.ext hb7
    have p0 := hI7.vx.c0
    have p1 := hI7.vx.c1
    have l7 := hI7.vx.lt
    generalize decide ((x + q) % 2 < 0) = b8 at *
    have hbA : Below w7.heap.size w7 ((w7.alloc (.cells #[.bool false, .slice A7 n7 c7] bigT)).alloc (.cells #[.bool b8, .slice A8 n8 c8] bigT)) := ((Below.refl _ _).alloc (Nat.le_refl _) _).alloc (by simp) _
    have hI8 := hI7.ext hbA
    have hV8 := (Blk.new w7 bigT #[.bool false, .slice A7 n7 c7]).var.alloc (.cells #[.bool b8, .slice A8 n8 c8] bigT)
    have hC := cmp_any _ _ y x _ (hy.ext hbA) hI8.bx (N := N + 2 + 1) (by omega) hfy (hI8.fx.mono (by omega))
    have HB8 := Lib.hid (hy.ext hbA)
    clear HDM hy hr2 hb7 hI7 hbA HI6
    have HI8 := Lib.hid hI8
    have HV8 := Lib.hid hV8
    clear hI8 hV8
    unfold bigT at *
    by_cases hlt : y < x
    · rw [Int.sign_eq_neg_one_of_neg (show y - x < 0 by omega)] at hC
      have HC := Lib.hid hC
      clear hC
      go_wp2_with fail
      refine HC.out.mono ?_
      rintro e w9 ⟨rfl, hb9⟩
      have vx := HI8.out.vx.below hb9
      have vy := HV8.out.below hb9
      have hI9 := HI8.out.ext hb9
      have r0 := vx.c0
      have r1 := vx.c1
      have r2 := vx.f0
      have r3 := vx.f1
      have s0 := vy.c0
      have s1 := vy.c1
      have HF : Hid (RootI w (N + 2) gx z y A wz.length ca A7 n7 c7 ((w9.setCell ⟨gx, 0, none⟩ (.bool false)).setCell ⟨gx, 1, none⟩ (.slice A7 n7 c7))) := Lib.hid
        ⟨hI9.va.far (by omega) _ _, hI9.vr.far (by omega) _ _, vx.set _ _, hI9.ba.setVar vx _ _, (HB8.out.ext hb9).setVar vx _ _, hyp, HNW.out, by have h := hI9.fx; unfold Fits at *; omega, (hI9.below.setCell (by simp only; omega) _).setCell (by simp only; omega) _, hI9.g0⟩
      clear vx vy hI9 HC hb9 HI8 HV8 HB8 HI p0 p1
      go_wp2
      go_roundg y.toNat
      case measure => omega
      case rel => exact ⟨_, _, _, _, rfl, HF.out⟩
    · obtain ⟨c, hc, hc0⟩ : ∃ c, (y - x).sign = c ∧ 0 ≤ c := by
        rcases (show y - x = 0 ∨ 0 < y - x by omega) with h | h
        · exact ⟨0, by rw [h]; rfl, by omega⟩
        · exact ⟨1, Int.sign_eq_one_of_pos h, by omega⟩
      rw [hc] at hC
      have HC := Lib.hid hC
      have tc : decide (0 ≤ c) = true := decide_eq_true hc0
      clear hC hc
      go_wp2_with fail
      refine HC.out.mono ?_
      rintro e w9 ⟨rfl, hb9⟩
      have hI9 := HI8.out.ext hb9
      have r0 := hI9.vx.c0
      have r1 := hI9.vx.c1
      have s0 := hI9.vr.c0
      have s1 := hI9.vr.c1
      have s2 := hI9.vr.f0
      have s3 := hI9.vr.f1
      have hxx : x * x ≤ z := by
        have h1 : x * x ≤ q * x := Int.mul_le_mul_of_nonneg_right (by omega) (by omega)
        omega
      have HQ := Lib.hid (show RetRoot w z (.returned (.agg #[.bool false, .slice Ax nx cx])) ((w9.setCell ⟨w.heap.size + 1, 0, none⟩ (.bool false)).setCell ⟨w.heap.size + 1, 1, none⟩ (.slice Ax nx cx)) from ⟨x, ⟨by omega, hxx, hI9.lt⟩, _, rfl, hI9.bx.setVar hI9.vr _ _, (hI9.below.setCell (by simp) _).setCell (by simp) _⟩)
      have HV := Lib.hid (hI9.vr.set (.bool false) (.slice Ax nx cx))
      clear hI9 HC hb9 HI8 HV8 HB8 HI p0 p1 hxx
      go_wp2
      have z0 := HV.out.c0
      have z1 := HV.out.c1
      generalize (w9.setCell ⟨w.heap.size + 1, 0, none⟩ (.bool false)).setCell ⟨w.heap.size + 1, 1, none⟩ (.slice Ax nx cx) = W at *
      exact bodyPost_ret (v := .agg #[.bool false, .slice Ax nx cx]) (by simp [results, Tryd.results32, go_sem, z0, z1]) rfl HQ.out
theorem root_any (u : Value) (z : Int) (w : World) (hx : Big w u z) {N : Nat} (hN : N ≤ 400000) (fz : Fits N z) (hz : 0 ≤ z) : Calls Tryd.prog 32 #[u] w (RetRoot w z) := by
  rcases (show z = 0 ∨ 0 < z by omega) with rfl | h
  · exact root_zero u w hx
  · exact root_pos u z w hx hN fz h
end Go.Proofs.YtpbdlmjfjkfphaaDoor
