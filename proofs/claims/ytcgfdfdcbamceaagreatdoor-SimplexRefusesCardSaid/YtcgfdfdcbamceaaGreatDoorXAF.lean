/- large.Int: Sign, Neg, Add, Sub, Cmp. large.Int: Sub, Cmp, Of. large.Int: Mul. -/
import Derived.Test.YtcgfdfdcbamceaaGreatDoorXAE
import Derived.Deep.RegionHeld3
import Derived.Outline
namespace Go.Proofs.YtcgfdfdcbamceaaGreatDoor
open Go.RowKit
theorem reads_set {w : World} {B sz n : Nat} {A : Option Addr} {xs : List Value} (h : Reads w B sz A n xs) {p : Addr} {old : Value} (hp : w.cell? p = some old) (hk : ∀ u ∈ xs, u ≠ old) (u : Value) : Reads (w.setCell p u) B sz A n xs := by
 refine ⟨h.1, fun hn => ?_⟩
 obtain ⟨b, off, e, hb, hc⟩ := h.2 hn
 refine ⟨b, off, e, hb, fun j x hx => ?_⟩
 have h1 := hc j x hx
 rw [World.cell?_setCell_other _ _ _ _ ?_]
 ·exact h1
 ·rintro rfl
  rw [h1] at hp
  injection hp with hp
  exact hk x (List.mem_of_getElem? hx) hp
def noWord (u : Value) : Prop := ∀ x, U x ≠ u
theorem Big.set {w : World} {v : Value} {z : Int} (h : Big w v z) {p : Addr} {old : Value} (hp : w.cell? p = some old) (hk : noWord old) (u : Value) : Big (w.setCell p u) v z := by
 obtain ⟨A, c, ws, h1, h2, h3⟩ := h
 refine ⟨A, c, ws, h1, ?_, h3⟩
 have hz : (w.setCell p u).heap.size = w.heap.size := by simp [World.setCell]
 rw [hz]
 refine reads_set h2 hp (fun x hx => ?_) u
 obtain ⟨y, _, rfl⟩ := List.mem_map.1 hx
 exact hk y
theorem noWord_bool (b : Bool) : noWord (.bool b) := fun _ h => by cases h
theorem noWord_slice (A : Option Addr) (n c : Nat) : noWord (.slice A n c) := fun _ h => by cases h
abbrev bigT : TypeId := 69
theorem ret_big_set {w w2 : World} {R : Nat} {x y : Value} {z : Int} {b0 : Bool} {A0 : Option Addr} {n0 c0 : Nat} (hb : Below w.heap.size w w2) (hR : w.heap.size ≤ R) (hB : Blk w2 R bigT #[.bool b0, .slice A0 n0 c0]) (h : Big w2 (.agg #[x, y]) z) :
  RetBig w z (.returned (.agg #[x, y])) ((w2.setCell ⟨R, 0, none⟩ x).setCell ⟨R, 1, none⟩ y) := by
 refine ⟨_, rfl, ?_, (hb.setCell hR _).setCell hR _⟩
 refine (h.set (old := .bool b0) (hB.cell 0) (noWord_bool _) x).set (old := .slice A0 n0 c0) ?_ (noWord_slice _ _ _) y
 rw [(hB.set_ 0 x).cell]; rfl
theorem Big.sign {z : Int} {ws : List Int} (ho : Ok ws) (hn : Nm ws) (hv : val ws = (z.natAbs : Int)) : ws.length = 0 ↔ z = 0 := by
 have := nm_zero ho hn
 rw [hv] at this
 constructor
 ·intro h; have := this.1 (List.eq_nil_of_length_eq_zero h); omega
 ·intro h; have := this.2 (by omega); rw [this]; rfl
theorem sign_any (v : Value) (z : Int) (w : World) (h : Big w v z) : Calls Tryz.prog 86 #[v] w fun e w' => e = .returned (I z.sign) ∧ Below w.heap.size w w' := by
 obtain ⟨A, c, ws, rfl, hr, hc, ho, hn, hv⟩ := h
 have hs := Big.sign ho hn hv
 have HB := Lib.hid ((Below.refl w.heap.size w).alloc (Nat.le_refl _) (.cells #[.bool (decide (z < 0)), .slice A ws.length c] 69))
 by_cases h0 : z = 0
 ·have hl := hs.2 h0
  have t0 : ((ws.length : Int) == 0) = true := beq_iff_eq.2 (by omega)
  have HZ := Lib.hid (show z.sign = 0 by rw [h0]; rfl)
  clear hs h0 hl hv hr
  go_enter Tryz.func86, Tryz.ntmps86
  go_wp2
  go_ret
  exact ⟨ret_int HZ.out.symm, HB.out⟩
 ·have t0 : ((ws.length : Int) == 0) = false := beq_eq_false_iff_ne.2 (by have := mt hs.1 h0; omega)
  by_cases h1 : z < 0
  ·have t1 : decide (z < 0) = true := decide_eq_true h1
   have HZ := Lib.hid (show z.sign = -1 from Int.sign_eq_neg_one_of_neg h1)
   rw [t1] at HB ⊢
   clear hs h0 hv hr t1
   go_enter Tryz.func86, Tryz.ntmps86
   go_wp2
   go_ret
   exact ⟨ret_int HZ.out.symm, HB.out⟩
  ·have t1 : decide (z < 0) = false := decide_eq_false h1
   have HZ := Lib.hid (show z.sign = 1 from Int.sign_eq_one_of_pos (by omega))
   rw [t1] at HB ⊢
   clear hs h0 hv hr t1
   go_enter Tryz.func86, Tryz.ntmps86
   go_wp2
   go_ret
   exact ⟨ret_int HZ.out.symm, HB.out⟩
theorem Big.ofWords {w : World} {v : Value} {z : Int} (h : Big w v z) : ∃ b A n c, v = .agg #[.bool b, .slice A n c] := by
 obtain ⟨A, c, ws, h1, _⟩ := h
 exact ⟨_, _, _, _, h1⟩
theorem sgn_not {z : Int} : sgn (!decide (z < 0)) (z.natAbs : Int) = -z := by
 by_cases h : z < 0
 ·simp [sgn, h]; omega
 ·simp [sgn, h]; omega
theorem neg_any (v : Value) (z : Int) (w : World) (h : Big w v z) : Calls Tryz.prog 83 #[v] w (RetBig w (-z)) := by
 obtain ⟨A, c, ws, rfl, hr, ⟨hc, hcm⟩, ho, hn, hv⟩ := h
 have hb2 : Below w.heap.size w ((w.alloc (.cells #[.bool (decide (z < 0)), .slice A ws.length c] 69)).alloc (.cells #[.bool false, .slice none 0 0] 69)) := ((Below.refl _ _).alloc (Nat.le_refl _) _).alloc (by simp) _
 have HN := Lib.hid (norm_any (!decide (z < 0)) ws A c _ ((hr.below hb2).more hb2.size) hc hcm ho)
 rw [hv, sgn_not] at HN
 have HB := Lib.hid hb2
 have HR := Lib.hid (Blk.new (w.alloc (.cells #[.bool (decide (z < 0)), .slice A ws.length c] 69)) bigT #[.bool false, .slice none 0 0])
 rw [World.size_alloc w] at HR
 clear hv hr hb2
 go_enter Tryz.func83, Tryz.ntmps83
 go_wp2_with fail
 refine HN.out.mono ?_
 rintro e w1 ⟨v, rfl, hv, hb⟩
 obtain ⟨b1, A1, n1, c1, rfl⟩ := hv.ofWords
 have hR1 := HR.out.below hb HR.out.lt
 have y0 := hR1.cell 0
 have y1 := hR1.cell 1
 have f0 := hR1.frozen 0
 have f1 := hR1.frozen 1
 have HQ := Lib.hid (ret_big_set (HB.out.trans (hb.mono HB.out.size)) (by omega) hR1 hv)
 have hR2 := (hR1.set_ 0 (.bool b1)).set_ 1 (.slice A1 n1 c1)
 have HR2 := Lib.hid hR2
 clear hv hb hR1 HB HN HR hR2
 go_wp2
 have z0 := HR2.out.cell 0
 have z1 := HR2.out.cell 1
 generalize (w1.setCell ⟨w.heap.size + 1, 0, none⟩ (.bool b1)).setCell ⟨w.heap.size + 1, 1, none⟩ (.slice A1 n1 c1) = W at *
 exact bodyPost_ret (v := .agg #[.bool b1, .slice A1 n1 c1]) (by simp [results, Tryz.results83, go_sem, z0, z1]) rfl HQ.out
theorem Row.caps {w : World} {base : Nat} {e : TypeId} {sz : Nat} {v : Value} {n : Nat} {xs : List Value} (h : Row w base e sz v n xs) : ∃ A c, v = .slice A n c ∧ n ≤ c ∧ c ≤ maxLen := by
 rcases h.2 with ⟨rfl, rfl⟩ | ⟨g, off, cap, cur, rfl, _, _, h1, h2, _⟩
 ·exact ⟨_, _, rfl, Nat.le_refl _, Nat.zero_le _⟩
 ·exact ⟨_, _, rfl, h1, h2⟩
theorem old_cell {w : World} {p : Addr} {u : Value} (h : w.cell? p = some u) : w.cell? p = some (oldCell w p) := by rw [oldCell, h]; rfl
theorem below_undrew {w w' : World} (h : Below w.drew.heap.size w.drew w') : Below w.heap.size w w' := ⟨h.os, h.tape, h.output, h.size, h.block⟩
theorem Big.drew {w : World} {v : Value} {z : Int} (h : Big w v z) : Big w.drew v z := h.ext (below_undrew (Below.refl _ _))
theorem Blk.set2 {w : World} {r : Nat} {t : TypeId} {x0 x1 : Value} (h : Blk w r t #[x0, x1]) (u v : Value) : Blk ((w.setCell ⟨r, 0, none⟩ u).setCell ⟨r, 1, none⟩ v) r t #[u, v] := (h.set_ 0 u).set_ 1 v
theorem hold3 {w' : World} {b0 b1 r : Nat} {x0 x1 y0 y1 z0 z1 : Value} (h : Blk w' b0 bigT #[x0, x1]) (k : Blk w' b1 bigT #[y0, y1]) (l : Blk w' r bigT #[z0, z1]) :
  w'.cell? ⟨b0, 0, none⟩ = some x0 ∧ w'.cell? ⟨b0, 1, none⟩ = some x1 ∧ w'.cell? ⟨b1, 0, none⟩ = some y0 ∧ w'.cell? ⟨b1, 1, none⟩ = some y1 ∧ w'.frozen? ⟨r, 0, none⟩ = false ∧ w'.frozen? ⟨r, 1, none⟩ = false ∧
   w'.cell? ⟨r, 0, none⟩ = some (oldCell w' ⟨r, 0, none⟩) ∧ w'.cell? ⟨r, 1, none⟩ = some (oldCell w' ⟨r, 1, none⟩) :=
 ⟨h.cell 0, h.cell 1, k.cell 0, k.cell 1, l.frozen 0, l.frozen 1, old_cell (l.cell 0), old_cell (l.cell 1)⟩
theorem sgn_add {x y : Int} (h : decide (x < 0) = decide (y < 0)) : sgn (decide (x < 0)) ((x.natAbs : Int) + (y.natAbs : Int)) = x + y := by
 by_cases h1 : x < 0
 ·have h2 : y < 0 := by simpa [h1] using h
  simp [sgn, h1]; omega
 ·have h2 : ¬ y < 0 := by simpa [h1] using h
  simp [sgn, h1]; omega
theorem sgn_sub {x y : Int} (h : decide (x < 0) ≠ decide (y < 0)) : sgn (decide (x < 0)) ((x.natAbs : Int) - (y.natAbs : Int)) = x + y := by
 by_cases h1 : x < 0
 ·have h2 : ¬ y < 0 := by simpa [h1] using h
  simp [sgn, h1]; omega
 ·have h2 : y < 0 := by simpa [h1] using h
  simp [sgn, h1]; omega
set_option maxRecDepth 100000 in
set_option maxHeartbeats 2000000 in
theorem add_any (u v : Value) (x y : Int) (w : World) (hx : Big w u x) (hy : Big w v y) {N : Nat} (hN : N ≤ 1000000000) (fx : Fits N x) (fy : Fits N y) : Calls Tryz.prog 77 #[u, v] w (RetBig w (x + y)) := by
 obtain ⟨A, ca, wx, rfl, hrx, ⟨hcx, hmx⟩, hox, hnx, hvx⟩ := hx
 obtain ⟨B, cb, wy, rfl, hry, ⟨hcy, hmy⟩, hoy, hny, hvy⟩ := hy
 have lx := fx.len hox hnx hvx
 have ly := fy.len hoy hny hvy
 have hb1 : Below w.heap.size w (((w.alloc (.cells #[.bool (decide (x < 0)), .slice A wx.length ca] bigT)).alloc (.cells #[.bool (decide (y < 0)), .slice B wy.length cb] bigT)).alloc (.cells #[.bool false, .slice none 0 0] bigT)) := (((Below.refl _ _).alloc (Nat.le_refl _) _).alloc (by simp) _).alloc (by simp; omega) _
 have HX := Lib.hid (((Blk.new w bigT #[.bool (decide (x < 0)), .slice A wx.length ca]).alloc (.cells #[.bool (decide (y < 0)), .slice B wy.length cb] bigT)).alloc (.cells #[.bool false, .slice none 0 0] bigT))
 have HY := Lib.hid ((Blk.new (w.alloc (.cells #[.bool (decide (x < 0)), .slice A wx.length ca] bigT)) bigT #[.bool (decide (y < 0)), .slice B wy.length cb]).alloc (.cells #[.bool false, .slice none 0 0] bigT))
 have HR := Lib.hid (Blk.new ((w.alloc (.cells #[.bool (decide (x < 0)), .slice A wx.length ca] bigT)).alloc (.cells #[.bool (decide (y < 0)), .slice B wy.length cb] bigT)) bigT #[.bool false, .slice none 0 0])
 rw [World.size_alloc w] at HY
 rw [World.size_alloc _, World.size_alloc w] at HR
 have HRX := Lib.hid ((hrx.below hb1).more hb1.size)
 have HRY := Lib.hid ((hry.below hb1).more hb1.size)
 have HB := Lib.hid hb1
 have HVX := Lib.hid hvx
 have HVY := Lib.hid hvy
 clear hrx hry hb1 hvx hvy fx fy
 by_cases hs : decide (x < 0) = decide (y < 0)
 ·have hS := sgn_add hs
  have HS := Lib.hid hS
  have t0 : (decide (x < 0) == decide (y < 0)) = true := beq_iff_eq.2 hs
  clear hS hs
  generalize decide (x < 0) = bx at *
  generalize decide (y < 0) = by_ at *
  unfold bigT at *
  go_enter Tryz.func77, Tryz.ntmps77
  go_wp2
  generalize hW0 : ((w.alloc (Obj.cells #[Value.bool bx, Value.slice A wx.length ca] 69)).alloc (Obj.cells #[Value.bool by_, Value.slice B wy.length cb] 69)).alloc (Obj.cells #[Value.bool false, Value.slice none 0 0] 69) = W0 at *
  clear hW0
  go_region_held3 (fun w' => w'.cell? ⟨w.heap.size, 0, none⟩ = some (.bool bx) ∧ w'.cell? ⟨w.heap.size, 1, none⟩ = some (.slice A wx.length ca) ∧ w'.cell? ⟨w.heap.size + 1, 0, none⟩ = some (.bool by_) ∧ w'.cell? ⟨w.heap.size + 1, 1, none⟩ = some (.slice B wy.length cb) ∧ w'.frozen? ⟨w.heap.size + 1 + 1, 0, none⟩ = false ∧ w'.frozen? ⟨w.heap.size + 1 + 1, 1, none⟩ = false ∧ w'.cell? ⟨w.heap.size + 1 + 1, 0, none⟩ = some (oldCell w' ⟨w.heap.size + 1 + 1, 0, none⟩) ∧ w'.cell? ⟨w.heap.size + 1 + 1, 1, none⟩ = some (oldCell w' ⟨w.heap.size + 1 + 1, 1, none⟩))
   (first | (with_reducible exact hold3 HX.out HY.out HR.out) | (with_reducible exact hold3 HX.out.drew HY.out.drew HR.out.drew) | (with_reducible exact hold3 HX1.out HY1.out HR1.out) | (with_reducible exact hold3 HX2.out HY2.out HR2.out) | (with_reducible exact hold3 HX3.out HY3.out HR3.out))
   (first | (go_at_call 101; (with_reducible refine (addW_any wx wy A B ca cb _ HRX.out.drew HRY.out.drew hox hoy (by omega) (by omega)).mono ?_); rintro e w1 ⟨v1, o1, rfl, hr1, ho1, ⟨hv1, -⟩, hb1⟩; obtain ⟨A1, c1, rfl, hc1, hm1⟩ := hr1.caps; have HX1 := Lib.hid (HX.out.drew.below hb1 HX.out.lt); have HY1 := Lib.hid (HY.out.drew.below hb1 HY.out.lt); have HR1 := Lib.hid (HR.out.drew.below hb1 HR.out.lt); have HB1 := Lib.hid (HB.out.trans ((below_undrew hb1).mono HB.out.size)); have HV1 := Lib.hid hv1; clear hv1 hb1) | (go_at_call 91; (with_reducible refine (norm_any bx o1 A1 c1 _ hr1.reads hc1 hm1 ho1).mono ?_); rintro e w2 ⟨v2, rfl, hv2, hb2⟩; obtain ⟨b2, A2, n2, c2, rfl⟩ := hv2.ofWords; have HX2 := Lib.hid (HX1.out.below hb2 HX1.out.lt); have HY2 := Lib.hid (HY1.out.below hb2 HY1.out.lt); have HR2 := Lib.hid (HR1.out.below hb2 HR1.out.lt); have HQ := Lib.hid (ret_big_set (HB1.out.trans (hb2.mono HB1.out.size)) (by omega) HR2.out hv2); have HX3 := Lib.hid ((HX2.out.far (p := ⟨w.heap.size + 1 + 1, 0, none⟩) (by simp only; omega) (.bool b2)).far (p := ⟨w.heap.size + 1 + 1, 1, none⟩) (by simp only; omega) (.slice A2 n2 c2)); have HY3 := Lib.hid ((HY2.out.far (p := ⟨w.heap.size + 1 + 1, 0, none⟩) (by simp only; omega) (.bool b2)).far (p := ⟨w.heap.size + 1 + 1, 1, none⟩) (by simp only; omega) (.slice A2 n2 c2)); have HR3 := Lib.hid (HR2.out.set2 (.bool b2) (.slice A2 n2 c2)); clear hv2 hb2))
  rw [HV1.out, HVX.out, HVY.out, HS.out] at HQ
  have z0 := HR3.out.cell 0
  have z1 := HR3.out.cell 1
  generalize (w2.setCell ⟨w.heap.size + 1 + 1, 0, none⟩ (.bool b2)).setCell ⟨w.heap.size + 1 + 1, 1, none⟩ (.slice A2 n2 c2) = W at *
  go_wp2
  exact bodyPost_ret (v := .agg #[.bool b2, .slice A2 n2 c2]) (by simp [results, Tryz.results77, go_sem, z0, z1]) rfl HQ.out
 ·have t0 : (decide (x < 0) == decide (y < 0)) = false := beq_eq_false_iff_ne.2 hs
  have hS1 := sgn_sub hs
  have hS2 := sgn_sub (Ne.symm hs)
  rw [Int.add_comm y x] at hS2
  have HS1 := Lib.hid hS1
  have HS2 := Lib.hid hS2
  clear hS1 hS2 hs
  generalize decide (x < 0) = bx at *
  generalize decide (y < 0) = by_ at *
  unfold bigT at *
  go_enter Tryz.func77, Tryz.ntmps77
  go_wp2_with fail
  generalize hW0 : ((w.alloc (Obj.cells #[Value.bool bx, Value.slice A wx.length ca] 69)).alloc (Obj.cells #[Value.bool by_, Value.slice B wy.length cb] 69)).alloc (Obj.cells #[Value.bool false, Value.slice none 0 0] 69) = W9 at *
  clear hW0
  refine (cmpW_any wx wy A B ca cb _ HRX.out HRY.out hox hoy hnx hny (by omega) (by omega)).mono ?_
  rintro e W0 ⟨r, rfl, ⟨hr1, hr2, hr3, hr4⟩, hb0⟩
  have HX9 := Lib.hid (HX.out.below hb0 HX.out.lt)
  have HY9 := Lib.hid (HY.out.below hb0 HY.out.lt)
  have HR9 := Lib.hid (HR.out.below hb0 HR.out.lt)
  have HB9 := Lib.hid (HB.out.trans (hb0.mono HB.out.size))
  have HRX9 := Lib.hid ((HRX.out.below hb0).more hb0.size)
  have HRY9 := Lib.hid ((HRY.out.below hb0).more hb0.size)
  have HCM := Lib.hid (And.intro hr1 hr2)
  clear HX HY HR HB HRX HRY hb0 hr1 hr2
  have HX := HX9
  have HY := HY9
  have HR := HR9
  have HB := HB9
  have HRX := HRX9
  have HRY := HRY9
  clear HX9 HY9 HR9 HB9 HRX9 HRY9
  have x0 := HX.out.cell 0
  have x1 := HX.out.cell 1
  have y0 := HY.out.cell 0
  have y1 := HY.out.cell 1
  by_cases hr0 : 0 ≤ r
  ·have hle : val wy ≤ val wx := by have := HCM.out; omega
   have hll : wy.length ≤ wx.length := nm_len hoy hny (by have := val_lt hox; omega)
   have HLE := Lib.hid hle
   have tr : decide (0 ≤ r) = true := decide_eq_true hr0
   clear hle
   go_wp2
   clear x0 x1 y0 y1
   go_region_held3 (fun w' => w'.cell? ⟨w.heap.size, 0, none⟩ = some (.bool bx) ∧ w'.cell? ⟨w.heap.size, 1, none⟩ = some (.slice A wx.length ca) ∧ w'.cell? ⟨w.heap.size + 1, 0, none⟩ = some (.bool by_) ∧ w'.cell? ⟨w.heap.size + 1, 1, none⟩ = some (.slice B wy.length cb) ∧ w'.frozen? ⟨w.heap.size + 1 + 1, 0, none⟩ = false ∧ w'.frozen? ⟨w.heap.size + 1 + 1, 1, none⟩ = false ∧ w'.cell? ⟨w.heap.size + 1 + 1, 0, none⟩ = some (oldCell w' ⟨w.heap.size + 1 + 1, 0, none⟩) ∧ w'.cell? ⟨w.heap.size + 1 + 1, 1, none⟩ = some (oldCell w' ⟨w.heap.size + 1 + 1, 1, none⟩))
    (first | (with_reducible exact hold3 HX.out HY.out HR.out) | (with_reducible exact hold3 HX.out.drew HY.out.drew HR.out.drew) | (with_reducible exact hold3 HX1.out HY1.out HR1.out) | (with_reducible exact hold3 HX2.out HY2.out HR2.out) | (with_reducible exact hold3 HX3.out HY3.out HR3.out))
    (first | (go_at_call 103; (with_reducible refine (subW_any wx wy A B ca cb _ HRX.out.drew HRY.out.drew hox hoy (by omega) hll HLE.out).mono ?_); rintro e w1 ⟨v1, o1, rfl, hr1, ho1, ⟨hv1, -⟩, hb1⟩; obtain ⟨A1, c1, rfl, hc1, hm1⟩ := hr1.caps; have HX1 := Lib.hid (HX.out.drew.below hb1 HX.out.lt); have HY1 := Lib.hid (HY.out.drew.below hb1 HY.out.lt); have HR1 := Lib.hid (HR.out.drew.below hb1 HR.out.lt); have HB1 := Lib.hid (HB.out.trans ((below_undrew hb1).mono HB.out.size)); have HV1 := Lib.hid hv1; clear hv1 hb1) | (go_at_call 91; (with_reducible refine (norm_any bx o1 A1 c1 _ hr1.reads hc1 hm1 ho1).mono ?_); rintro e w2 ⟨v2, rfl, hv2, hb2⟩; obtain ⟨b2, A2, n2, c2, rfl⟩ := hv2.ofWords; have HX2 := Lib.hid (HX1.out.below hb2 HX1.out.lt); have HY2 := Lib.hid (HY1.out.below hb2 HY1.out.lt); have HR2 := Lib.hid (HR1.out.below hb2 HR1.out.lt); have HQ := Lib.hid (ret_big_set (HB1.out.trans (hb2.mono HB1.out.size)) (by omega) HR2.out hv2); have HX3 := Lib.hid ((HX2.out.far (p := ⟨w.heap.size + 1 + 1, 0, none⟩) (by simp only; omega) (.bool b2)).far (p := ⟨w.heap.size + 1 + 1, 1, none⟩) (by simp only; omega) (.slice A2 n2 c2)); have HY3 := Lib.hid ((HY2.out.far (p := ⟨w.heap.size + 1 + 1, 0, none⟩) (by simp only; omega) (.bool b2)).far (p := ⟨w.heap.size + 1 + 1, 1, none⟩) (by simp only; omega) (.slice A2 n2 c2)); have HR3 := Lib.hid (HR2.out.set2 (.bool b2) (.slice A2 n2 c2)); clear hv2 hb2))
   rw [HV1.out, HVX.out, HVY.out, HS1.out] at HQ
   have z0 := HR3.out.cell 0
   have z1 := HR3.out.cell 1
   generalize (w2.setCell ⟨w.heap.size + 1 + 1, 0, none⟩ (.bool b2)).setCell ⟨w.heap.size + 1 + 1, 1, none⟩ (.slice A2 n2 c2) = W at *
   go_wp2
   exact bodyPost_ret (v := .agg #[.bool b2, .slice A2 n2 c2]) (by simp [results, Tryz.results77, go_sem, z0, z1]) rfl HQ.out
  ·have hle : val wx ≤ val wy := by have := HCM.out; omega
   have hll : wx.length ≤ wy.length := nm_len hox hnx (by have := val_lt hoy; omega)
   have HLE := Lib.hid hle
   have tr : decide (0 ≤ r) = false := decide_eq_false hr0
   clear hle
   go_wp2
   clear x0 x1 y0 y1
   go_region_held3 (fun w' => w'.cell? ⟨w.heap.size, 0, none⟩ = some (.bool bx) ∧ w'.cell? ⟨w.heap.size, 1, none⟩ = some (.slice A wx.length ca) ∧ w'.cell? ⟨w.heap.size + 1, 0, none⟩ = some (.bool by_) ∧ w'.cell? ⟨w.heap.size + 1, 1, none⟩ = some (.slice B wy.length cb) ∧ w'.frozen? ⟨w.heap.size + 1 + 1, 0, none⟩ = false ∧ w'.frozen? ⟨w.heap.size + 1 + 1, 1, none⟩ = false ∧ w'.cell? ⟨w.heap.size + 1 + 1, 0, none⟩ = some (oldCell w' ⟨w.heap.size + 1 + 1, 0, none⟩) ∧ w'.cell? ⟨w.heap.size + 1 + 1, 1, none⟩ = some (oldCell w' ⟨w.heap.size + 1 + 1, 1, none⟩))
    (first | (with_reducible exact hold3 HX.out HY.out HR.out) | (with_reducible exact hold3 HX.out.drew HY.out.drew HR.out.drew) | (with_reducible exact hold3 HX1.out HY1.out HR1.out) | (with_reducible exact hold3 HX2.out HY2.out HR2.out) | (with_reducible exact hold3 HX3.out HY3.out HR3.out))
    (first | (go_at_call 103; (with_reducible refine (subW_any wy wx B A cb ca _ HRY.out.drew HRX.out.drew hoy hox (by omega) hll HLE.out).mono ?_); rintro e w1 ⟨v1, o1, rfl, hr1, ho1, ⟨hv1, -⟩, hb1⟩; obtain ⟨A1, c1, rfl, hc1, hm1⟩ := hr1.caps; have HX1 := Lib.hid (HX.out.drew.below hb1 HX.out.lt); have HY1 := Lib.hid (HY.out.drew.below hb1 HY.out.lt); have HR1 := Lib.hid (HR.out.drew.below hb1 HR.out.lt); have HB1 := Lib.hid (HB.out.trans ((below_undrew hb1).mono HB.out.size)); have HV1 := Lib.hid hv1; clear hv1 hb1) | (go_at_call 91; (with_reducible refine (norm_any by_ o1 A1 c1 _ hr1.reads hc1 hm1 ho1).mono ?_); rintro e w2 ⟨v2, rfl, hv2, hb2⟩; obtain ⟨b2, A2, n2, c2, rfl⟩ := hv2.ofWords; have HX2 := Lib.hid (HX1.out.below hb2 HX1.out.lt); have HY2 := Lib.hid (HY1.out.below hb2 HY1.out.lt); have HR2 := Lib.hid (HR1.out.below hb2 HR1.out.lt); have HQ := Lib.hid (ret_big_set (HB1.out.trans (hb2.mono HB1.out.size)) (by omega) HR2.out hv2); have HX3 := Lib.hid ((HX2.out.far (p := ⟨w.heap.size + 1 + 1, 0, none⟩) (by simp only; omega) (.bool b2)).far (p := ⟨w.heap.size + 1 + 1, 1, none⟩) (by simp only; omega) (.slice A2 n2 c2)); have HY3 := Lib.hid ((HY2.out.far (p := ⟨w.heap.size + 1 + 1, 0, none⟩) (by simp only; omega) (.bool b2)).far (p := ⟨w.heap.size + 1 + 1, 1, none⟩) (by simp only; omega) (.slice A2 n2 c2)); have HR3 := Lib.hid (HR2.out.set2 (.bool b2) (.slice A2 n2 c2)); clear hv2 hb2))
   rw [HV1.out, HVX.out, HVY.out, HS2.out] at HQ
   have z0 := HR3.out.cell 0
   have z1 := HR3.out.cell 1
   generalize (w2.setCell ⟨w.heap.size + 1 + 1, 0, none⟩ (.bool b2)).setCell ⟨w.heap.size + 1 + 1, 1, none⟩ (.slice A2 n2 c2) = W at *
   go_wp2
   exact bodyPost_ret (v := .agg #[.bool b2, .slice A2 n2 c2]) (by simp [results, Tryz.results77, go_sem, z0, z1]) rfl HQ.out
theorem RetBig.of_eq {w : World} {z z' : Int} {e : Ending} {w' : World} (h : RetBig w z e w') (hz : z = z') : RetBig w z' e w' := by rw [← hz]; exact h
set_option maxRecDepth 100000 in
set_option maxHeartbeats 2000000 in
theorem sub_any (u v : Value) (x y : Int) (w : World) (hx : Big w u x) (hy : Big w v y) {N : Nat} (hN : N ≤ 1000000000) (fx : Fits N x) (fy : Fits N y) : Calls Tryz.prog 106 #[u, v] w (RetBig w (x - y)) := by
 obtain ⟨bx, A, lx, ca, rfl⟩ := hx.ofWords
 obtain ⟨by_, B, ly, cb, rfl⟩ := hy.ofWords
 have hb1 : Below w.heap.size w (((w.alloc (.cells #[.bool bx, .slice A lx ca] bigT)).alloc (.cells #[.bool by_, .slice B ly cb] bigT)).alloc (.cells #[.bool false, .slice none 0 0] bigT)) := (((Below.refl _ _).alloc (Nat.le_refl _) _).alloc (by simp) _).alloc (by simp; omega) _
 have HX := Lib.hid (((Blk.new w bigT #[.bool bx, .slice A lx ca]).alloc (.cells #[.bool by_, .slice B ly cb] bigT)).alloc (.cells #[.bool false, .slice none 0 0] bigT))
 have HY := Lib.hid ((Blk.new (w.alloc (.cells #[.bool bx, .slice A lx ca] bigT)) bigT #[.bool by_, .slice B ly cb]).alloc (.cells #[.bool false, .slice none 0 0] bigT))
 have HR := Lib.hid (Blk.new ((w.alloc (.cells #[.bool bx, .slice A lx ca] bigT)).alloc (.cells #[.bool by_, .slice B ly cb] bigT)) bigT #[.bool false, .slice none 0 0])
 rw [World.size_alloc w] at HY
 rw [World.size_alloc _, World.size_alloc w] at HR
 have HBX := Lib.hid (hx.ext hb1)
 have HBY := Lib.hid (hy.ext hb1)
 have HB := Lib.hid hb1
 clear hx hy hb1
 unfold bigT at *
 go_enter Tryz.func106, Tryz.ntmps106
 go_wp2
 generalize hW0 : ((w.alloc (Obj.cells #[Value.bool bx, Value.slice A lx ca] 69)).alloc (Obj.cells #[Value.bool by_, Value.slice B ly cb] 69)).alloc (Obj.cells #[Value.bool false, Value.slice none 0 0] 69) = W0 at *
 clear hW0
 go_region_held3 (fun w' => w'.cell? ⟨w.heap.size, 0, none⟩ = some (.bool bx) ∧ w'.cell? ⟨w.heap.size, 1, none⟩ = some (.slice A lx ca) ∧ w'.cell? ⟨w.heap.size + 1, 0, none⟩ = some (.bool by_) ∧ w'.cell? ⟨w.heap.size + 1, 1, none⟩ = some (.slice B ly cb) ∧ w'.frozen? ⟨w.heap.size + 1 + 1, 0, none⟩ = false ∧ w'.frozen? ⟨w.heap.size + 1 + 1, 1, none⟩ = false ∧ w'.cell? ⟨w.heap.size + 1 + 1, 0, none⟩ = some (oldCell w' ⟨w.heap.size + 1 + 1, 0, none⟩) ∧ w'.cell? ⟨w.heap.size + 1 + 1, 1, none⟩ = some (oldCell w' ⟨w.heap.size + 1 + 1, 1, none⟩))
  (first | (with_reducible exact hold3 HX.out HY.out HR.out) | (with_reducible exact hold3 HX.out.drew HY.out.drew HR.out.drew) | (with_reducible exact hold3 HX1.out HY1.out HR1.out) | (with_reducible exact hold3 HX2.out HY2.out HR2.out) | (with_reducible exact hold3 HX3.out HY3.out HR3.out))
  (first | (go_at_call 83; (with_reducible refine (neg_any _ y _ HBY.out.drew).mono ?_); rintro e w1 ⟨v1, rfl, hv1, hb1⟩; have HX1 := Lib.hid (HX.out.drew.below hb1 HX.out.lt); have HY1 := Lib.hid (HY.out.drew.below hb1 HY.out.lt); have HR1 := Lib.hid (HR.out.drew.below hb1 HR.out.lt); have HB1 := Lib.hid (HB.out.trans ((below_undrew hb1).mono HB.out.size)); have HBX1 := Lib.hid (HBX.out.drew.ext hb1); clear hb1) | (go_at_call 77; (with_reducible refine (add_any _ _ x (-y) _ HBX1.out hv1 hN fx fy.neg).mono ?_); rintro e w2 ⟨v2, rfl, hv2, hb2⟩; obtain ⟨b2, A2, n2, c2, rfl⟩ := hv2.ofWords; have HX2 := Lib.hid (HX1.out.below hb2 HX1.out.lt); have HY2 := Lib.hid (HY1.out.below hb2 HY1.out.lt); have HR2 := Lib.hid (HR1.out.below hb2 HR1.out.lt); have HQ := Lib.hid (ret_big_set (HB1.out.trans (hb2.mono HB1.out.size)) (by omega) HR2.out hv2); have HX3 := Lib.hid ((HX2.out.far (p := ⟨w.heap.size + 1 + 1, 0, none⟩) (by simp only; omega) (.bool b2)).far (p := ⟨w.heap.size + 1 + 1, 1, none⟩) (by simp only; omega) (.slice A2 n2 c2)); have HY3 := Lib.hid ((HY2.out.far (p := ⟨w.heap.size + 1 + 1, 0, none⟩) (by simp only; omega) (.bool b2)).far (p := ⟨w.heap.size + 1 + 1, 1, none⟩) (by simp only; omega) (.slice A2 n2 c2)); have HR3 := Lib.hid (HR2.out.set2 (.bool b2) (.slice A2 n2 c2)); clear hv2 hb2))
 have z0 := HR3.out.cell 0
 have z1 := HR3.out.cell 1
 generalize (w2.setCell ⟨w.heap.size + 1 + 1, 0, none⟩ (.bool b2)).setCell ⟨w.heap.size + 1 + 1, 1, none⟩ (.slice A2 n2 c2) = W at *
 go_wp2
 exact bodyPost_ret (v := .agg #[.bool b2, .slice A2 n2 c2]) (by simp [results, Tryz.results106, go_sem, z0, z1]) rfl (HQ.out.of_eq Int.sub_eq_add_neg.symm)
set_option maxRecDepth 100000 in
set_option maxHeartbeats 2000000 in
theorem cmp_any (u v : Value) (x y : Int) (w : World) (hx : Big w u x) (hy : Big w v y) {N : Nat} (hN : N ≤ 1000000000) (fx : Fits N x) (fy : Fits N y) : Calls Tryz.prog 81 #[u, v] w fun e w' => e = .returned (I (x - y).sign) ∧ Below w.heap.size w w' := by
 obtain ⟨bx, A, lx, ca, rfl⟩ := hx.ofWords
 obtain ⟨by_, B, ly, cb, rfl⟩ := hy.ofWords
 have hb1 : Below w.heap.size w ((w.alloc (.cells #[.bool bx, .slice A lx ca] bigT)).alloc (.cells #[.bool by_, .slice B ly cb] bigT)) := ((Below.refl _ _).alloc (Nat.le_refl _) _).alloc (by simp) _
 have HC := Lib.hid (sub_any _ _ x y _ (hx.ext hb1) (hy.ext hb1) hN fx fy)
 have HB := Lib.hid hb1
 clear hx hy hb1
 unfold bigT at *
 go_enter Tryz.func81, Tryz.ntmps81
 go_wp2_with fail
 refine HC.out.mono ?_
 rintro e w1 ⟨v1, rfl, hv1, hb1⟩
 have HB1 := Lib.hid (HB.out.trans (hb1.mono HB.out.size))
 have HS := Lib.hid (sign_any _ _ _ hv1)
 clear hb1 hv1 HC HB
 go_wp2_with fail
 refine HS.out.mono ?_
 rintro e w2 ⟨rfl, hb2⟩
 have HB2 := Lib.hid (HB1.out.trans (hb2.mono HB1.out.size))
 clear hb2
 go_wp2
 go_ret
 exact ⟨rfl, HB2.out⟩
theorem reads_two (w : World) (t : TypeId) (x y : Value) : Reads (w.alloc (.cells #[x, y] t)) (w.alloc (.cells #[x, y] t)).heap.size 1 (some ⟨w.heap.size, 0, none⟩) 2 [x, y] := by
 refine ⟨rfl, fun _ => ⟨_, _, rfl, by simp, fun j u hu => ?_⟩⟩
 rw [(Blk.new w t #[x, y]).cell, Nat.zero_add]
 rw [← hu]
 simp
theorem of_words {n lo hi : Int} (e1 : lo + 4294967296 * hi = (n.natAbs : Int)) (h0 : 0 ≤ lo ∧ lo < 4294967296) (h1 : 0 ≤ hi ∧ hi < 4294967296) : val [lo, hi] = (n.natAbs : Int) ∧ Ok [lo, hi] := by
 refine ⟨by simp only [val]; omega, fun x hx => ?_⟩
 rcases List.mem_cons.1 hx with rfl | hx
 ·exact h0
 ·rcases List.mem_cons.1 hx with rfl | hx
  ·exact h1
  ·simp at hx
theorem two_norm {n lo hi : Int} (m : Bool) (w : World) (e1 : lo + 4294967296 * hi = (n.natAbs : Int)) (h0 : 0 ≤ lo ∧ lo < 4294967296) (h1 : 0 ≤ hi ∧ hi < 4294967296) (hm : sgn m (n.natAbs : Int) = n) :
  Calls Tryz.prog 91 #[.bool m, .slice (some ⟨w.heap.size, 0, none⟩) 2 2] (w.alloc (.cells #[U lo, U hi] 139)) (RetBig (w.alloc (.cells #[U lo, U hi] 139)) n) := by
 obtain ⟨hv, ho⟩ := of_words e1 h0 h1
 have := norm_any m [lo, hi] (some ⟨w.heap.size, 0, none⟩) 2 (w.alloc (.cells #[U lo, U hi] 139)) (reads_two w _ _ _) (Nat.le_refl _) (by unfold maxLen; omega) ho
 rw [hv, hm] at this
 exact this
set_option maxRecDepth 100000 in
theorem of_any (n : Int) (w : World) (h0 : -9223372036854775808 ≤ n) (h1 : n ≤ 9223372036854775807) : Calls Tryz.prog 80 #[I n] w (RetBig w n) := by
 have hb0 : ∀ o, Below w.heap.size w ((w.alloc (.cells #[.bool false, .slice none 0 0] 69)).alloc o) := fun o => ((Below.refl _ _).alloc (Nat.le_refl _) _).alloc (by simp) _
 by_cases hn : n < 0
 ·have hm : sgn true (n.natAbs : Int) = n := by simp [sgn]; omega
  have e1 : IntKind.u64.wrap (-IntKind.u64.wrap n) % 4294967296 + 4294967296 * (IntKind.u64.wrap (-IntKind.u64.wrap n) / 4294967296 % 4294967296) = (n.natAbs : Int) := by rw [IntKind.wrap_u64, IntKind.wrap_u64]; omega
  have h2 := two_norm (n := n) true (w.alloc (.cells #[.bool false, .slice none 0 0] 69)) e1 (by omega) (by omega) hm
  have hbk := (Blk.new w bigT #[.bool false, .slice none 0 0]).alloc (.cells #[U (IntKind.u64.wrap (-IntKind.u64.wrap n) % 4294967296), U (IntKind.u64.wrap (-IntKind.u64.wrap n) / 4294967296 % 4294967296)] 139)
  have HN := Lib.hid h2
  have HB := Lib.hid (hb0 (.cells #[U (IntKind.u64.wrap (-IntKind.u64.wrap n) % 4294967296), U (IntKind.u64.wrap (-IntKind.u64.wrap n) / 4294967296 % 4294967296)] 139))
  have HR := Lib.hid hbk
  rw [World.size_alloc w] at HN
  clear hm e1 h2 hbk hb0
  go_enter Tryz.func80, Tryz.ntmps80
  go_wp2_with fail
  refine HN.out.mono ?_
  rintro e w1 ⟨v, rfl, hv, hb⟩
  obtain ⟨b1, A1, n1, c1, rfl⟩ := hv.ofWords
  have hR1 := HR.out.below hb HR.out.lt
  have y0 := hR1.cell 0
  have y1 := hR1.cell 1
  have f0 := hR1.frozen 0
  have f1 := hR1.frozen 1
  have HQ := Lib.hid (ret_big_set (HB.out.trans (hb.mono HB.out.size)) (by omega) hR1 hv)
  have HR2 := Lib.hid (hR1.set2 (.bool b1) (.slice A1 n1 c1))
  clear hv hb hR1 HB HN HR
  go_wp2
  have z0 := HR2.out.cell 0
  have z1 := HR2.out.cell 1
  generalize (w1.setCell ⟨w.heap.size, 0, none⟩ (.bool b1)).setCell ⟨w.heap.size, 1, none⟩ (.slice A1 n1 c1) = W at *
  exact bodyPost_ret (v := .agg #[.bool b1, .slice A1 n1 c1]) (by simp [results, Tryz.results80, go_sem, z0, z1]) rfl HQ.out
 ·have hm : sgn false (n.natAbs : Int) = n := by simp [sgn]; omega
  have e1 : n % 4294967296 + 4294967296 * (n / 4294967296) = (n.natAbs : Int) := by omega
  have h2 := two_norm (n := n) false (w.alloc (.cells #[.bool false, .slice none 0 0] 69)) e1 (by omega) (by omega) hm
  have hbk := (Blk.new w bigT #[.bool false, .slice none 0 0]).alloc (.cells #[U (n % 4294967296), U (n / 4294967296)] 139)
  have HN := Lib.hid h2
  have HB := Lib.hid (hb0 (.cells #[U (n % 4294967296), U (n / 4294967296)] 139))
  have HR := Lib.hid hbk
  rw [World.size_alloc w] at HN
  clear hm e1 h2 hbk hb0
  go_enter Tryz.func80, Tryz.ntmps80
  go_wp2_with fail
  refine HN.out.mono ?_
  rintro e w1 ⟨v, rfl, hv, hb⟩
  obtain ⟨b1, A1, n1, c1, rfl⟩ := hv.ofWords
  have hR1 := HR.out.below hb HR.out.lt
  have y0 := hR1.cell 0
  have y1 := hR1.cell 1
  have f0 := hR1.frozen 0
  have f1 := hR1.frozen 1
  have HQ := Lib.hid (ret_big_set (HB.out.trans (hb.mono HB.out.size)) (by omega) hR1 hv)
  have HR2 := Lib.hid (hR1.set2 (.bool b1) (.slice A1 n1 c1))
  clear hv hb hR1 HB HN HR
  go_wp2
  have z0 := HR2.out.cell 0
  have z1 := HR2.out.cell 1
  generalize (w1.setCell ⟨w.heap.size, 0, none⟩ (.bool b1)).setCell ⟨w.heap.size, 1, none⟩ (.slice A1 n1 c1) = W at *
  exact bodyPost_ret (v := .agg #[.bool b1, .slice A1 n1 c1]) (by simp [results, Tryz.results80, go_sem, z0, z1]) rfl HQ.out
theorem val_set (l : List Int) : ∀ (j : Nat) (x : Int), j < l.length → val (l.set j x) = val l + P32 j * (x - l.getD j 0) := by
 induction l with
 | nil => intro j x h; simp at h
 | cons y l ih =>
  intro j x h
  cases j with
  | zero => simp [val, P32_zero]; omega
  | succ j =>
   simp only [List.set_cons_succ, val, List.getD_cons_succ]
   rw [ih j x (by simpa using h), P32_succ, Int.mul_add, Int.mul_assoc]
   omega
theorem mul_bound {x y : Int} (hx : 0 ≤ x ∧ x < 4294967296) (hy : 0 ≤ y ∧ y < 4294967296) : 0 ≤ x * y ∧ x * y ≤ 18446744065119617025 := by
 refine ⟨Int.mul_nonneg hx.1 hy.1, ?_⟩
 have := Int.mul_le_mul (show x ≤ 4294967295 by omega) (show y ≤ 4294967295 by omega) hy.1 (by omega)
 omega
structure MulO (w : World) (g : Nat) (a b : List Int) (i : Nat) (o : List Int) (wr : World) : Prop where
 wrd : Wrd w g (a.length + b.length) o wr
 hi : i ≤ a.length
 sum : val o = val (a.take i) * val b
 zero : ∀ k, i + b.length ≤ k → o.getD k 0 = 0
structure MulK (w : World) (g : Nat) (a b : List Int) (i : Nat) (x : Int) (k : Nat) (c : Int) (o : List Int) (wr : World) : Prop where
 wrd : Wrd w g (a.length + b.length) o wr
 hk : k ≤ b.length
 hc : 0 ≤ c ∧ c < 4294967296
 sum : val o + P32 (i + k) * c = val (a.take i) * val b + P32 i * (x * val (b.take k))
 zero : ∀ k, i + b.length ≤ k → o.getD k 0 = 0
theorem MulK.step {w : World} {g : Nat} {a b : List Int} {i : Nat} {x : Int} {k : Nat} {c : Int} {o : List Int} {wr : World} (h : MulK w g a b i x k c o wr) (ob : Ok b) (hx : 0 ≤ x ∧ x < 4294967296) (hlt : k < b.length) (hi : i < a.length) (hg : w.heap.size ≤ g) {s : Int} (hs : s = c + (o.getD (i + k) 0 + x * b.getD k 0)) :
  MulK w g a b i x (k + 1) (s / 4294967296) (o.set (i + k) (s % 4294967296)) (wr.setCell ⟨g, i + k, none⟩ (U (s % 4294967296))) := by
 have h1 := ob.at_ k
 have h2 := h.wrd.ok.at_ (i + k)
 have h3 := h.hc
 have h4 := mul_bound hx h1
 refine ⟨h.wrd.set (i + k) (by omega) hg, by omega, by omega, ?_, ?_⟩
 ·have hl := h.wrd.len
  rw [val_set o (i + k) _ (by omega), val_take_succ, show i + (k + 1) = (i + k) + 1 from rfl, P32_succ]
  have h5 := h.sum
  have h6 := mul_split (P32 (i + k)) s
  have e1 : P32 (i + k) * s = P32 (i + k) * c + (P32 (i + k) * o.getD (i + k) 0 + P32 (i + k) * (x * b.getD k 0)) := by rw [hs, Int.mul_add, Int.mul_add]
  have e2 : P32 i * (x * (val (b.take k) + P32 k * b.getD k 0)) = P32 i * (x * val (b.take k)) + P32 (i + k) * (x * b.getD k 0) := by
   rw [Int.mul_add, Int.mul_add, P32_add]
   congr 1
   rw [Int.mul_assoc, Int.mul_left_comm x]
  rw [e2, Int.mul_sub]
  omega
 ·intro j hj
  rw [getD_set_ne _ _ (by omega)]
  exact h.zero j hj
theorem MulK.last {w : World} {g : Nat} {a b : List Int} {i : Nat} {x : Int} {c : Int} {o : List Int} {wr : World} (h : MulK w g a b i x b.length c o wr) (hi : i < a.length) (hx : x = a.getD i 0) (hg : w.heap.size ≤ g) :
  MulO w g a b (i + 1) (o.set (i + b.length) c) (wr.setCell ⟨g, i + b.length, none⟩ (U c)) := by
 refine ⟨h.wrd.set (i + b.length) h.hc hg, by omega, ?_, ?_⟩
 ·have hl := h.wrd.len
  have h5 := h.sum
  rw [val_set o (i + b.length) _ (by omega), h.zero _ (Nat.le_refl _), val_take_succ, ← hx, Int.add_mul, Int.mul_assoc]
  rw [List.take_of_length_le (Nat.le_refl _)] at h5
  rw [Int.sub_zero]
  exact h5
 ·intro j hj
  rw [getD_set_ne _ _ (by omega)]
  exact h.zero j (by omega)
theorem sgn_mul (x y : Int) : sgn (decide (x < 0) != decide (y < 0)) ((x.natAbs : Int) * (y.natAbs : Int)) = x * y := by
 by_cases h1 : x < 0
 ·by_cases h2 : y < 0
  ·have e1 : (x.natAbs : Int) = -x := by omega
   have e2 : (y.natAbs : Int) = -y := by omega
   simp [sgn, h1, h2, e1, e2, Int.neg_mul, Int.mul_neg]
  ·have e1 : (x.natAbs : Int) = -x := by omega
   have e2 : (y.natAbs : Int) = y := by omega
   simp [sgn, h1, h2, e1, e2, Int.neg_mul]
 ·by_cases h2 : y < 0
  ·have e1 : (x.natAbs : Int) = x := by omega
   have e2 : (y.natAbs : Int) = -y := by omega
   simp [sgn, h1, h2, e1, e2, Int.mul_neg]
  ·have e1 : (x.natAbs : Int) = x := by omega
   have e2 : (y.natAbs : Int) = y := by omega
   simp [sgn, h1, h2, e1, e2]
set_option maxRecDepth 100000 in
set_option maxHeartbeats 4000000 in
theorem mul_any (u v : Value) (x y : Int) (w : World) (hx : Big w u x) (hy : Big w v y) {N : Nat} (hN : N ≤ 1000000000) (fx : Fits N x) (fy : Fits N y) : Calls Tryz.prog 76 #[u, v] w (RetBig w (x * y)) := by
 obtain ⟨A, ca, wx, rfl, hrx, ⟨hcx, hmx⟩, hox, hnx, hvx⟩ := hx
 obtain ⟨B, cb, wy, rfl, hry, ⟨hcy, hmy⟩, hoy, hny, hvy⟩ := hy
 have lx := fx.len hox hnx hvx
 have ly := fy.len hoy hny hvy
 have hS := sgn_mul x y
 rw [← hvx, ← hvy] at hS
 have HS := Lib.hid hS
 clear hvx hvy fx fy hS
 have hb1 : Below w.heap.size w (((w.alloc (.cells #[.bool (decide (x < 0)), .slice A wx.length ca] bigT)).alloc (.cells #[.bool (decide (y < 0)), .slice B wy.length cb] bigT)).alloc (.cells #[.bool false, .slice none 0 0] bigT)) := (((Below.refl _ _).alloc (Nat.le_refl _) _).alloc (by simp) _).alloc (by simp; omega) _
 have HX := Lib.hid (((Blk.new w bigT #[.bool (decide (x < 0)), .slice A wx.length ca]).alloc (.cells #[.bool (decide (y < 0)), .slice B wy.length cb] bigT)).alloc (.cells #[.bool false, .slice none 0 0] bigT))
 have HY := Lib.hid ((Blk.new (w.alloc (.cells #[.bool (decide (x < 0)), .slice A wx.length ca] bigT)) bigT #[.bool (decide (y < 0)), .slice B wy.length cb]).alloc (.cells #[.bool false, .slice none 0 0] bigT))
 have HR := Lib.hid (Blk.new ((w.alloc (.cells #[.bool (decide (x < 0)), .slice A wx.length ca] bigT)).alloc (.cells #[.bool (decide (y < 0)), .slice B wy.length cb] bigT)) bigT #[.bool false, .slice none 0 0])
 rw [World.size_alloc w] at HY
 rw [World.size_alloc _, World.size_alloc w] at HR
 have HRX := Lib.hid ((hrx.below hb1).more hb1.size)
 have HRY := Lib.hid ((hry.below hb1).more hb1.size)
 have HB := Lib.hid hb1
 clear hrx hry hb1
 generalize decide (x < 0) = bx at *
 generalize decide (y < 0) = by_ at *
 have hmk := make_u32 (wx.length + wy.length) (by omega)
 have e1 : ((wx.length + wy.length : Nat) : Int) = (wx.length : Int) + wy.length := by omega
 rw [e1] at hmk
 clear e1
 unfold bigT at *
 go_enter Tryz.func76, Tryz.ntmps76
 go_wp2
 have HW : Hid (Wrd (((w.alloc (Obj.cells #[Value.bool bx, Value.slice A wx.length ca] 69)).alloc (Obj.cells #[Value.bool by_, Value.slice B wy.length cb] 69)).alloc (Obj.cells #[Value.bool false, Value.slice none 0 0] 69)) (w.heap.size + 1 + 1 + 1) (wx.length + wy.length) (List.replicate (wx.length + wy.length) 0)
   ((((w.alloc (Obj.cells #[Value.bool bx, Value.slice A wx.length ca] 69)).alloc (Obj.cells #[Value.bool by_, Value.slice B wy.length cb] 69)).alloc (Obj.cells #[Value.bool false, Value.slice none 0 0] 69)).alloc (Obj.cells (Array.replicate (wx.length + wy.length) (U 0)) 139))) := by
  have := Wrd.start (((w.alloc (Obj.cells #[Value.bool bx, Value.slice A wx.length ca] 69)).alloc (Obj.cells #[Value.bool by_, Value.slice B wy.length cb] 69)).alloc (Obj.cells #[Value.bool false, Value.slice none 0 0] 69)) (wx.length + wy.length)
  rw [World.size_alloc _, World.size_alloc _, World.size_alloc w] at this
  exact this
 have HZ : Hid ((((w.alloc (Obj.cells #[Value.bool bx, Value.slice A wx.length ca] 69)).alloc (Obj.cells #[Value.bool by_, Value.slice B wy.length cb] 69)).alloc (Obj.cells #[Value.bool false, Value.slice none 0 0] 69)).heap.size ≤ w.heap.size + 1 + 1 + 1) := by rw [World.size_alloc _, World.size_alloc _, World.size_alloc w]; exact Nat.le_refl _
 generalize hW0 : ((w.alloc (Obj.cells #[Value.bool bx, Value.slice A wx.length ca] 69)).alloc (Obj.cells #[Value.bool by_, Value.slice B wy.length cb] 69)).alloc (Obj.cells #[Value.bool false, Value.slice none 0 0] 69) = W0 at *
 clear hW0 hmk
 generalize w.heap.size + 1 + 1 + 1 = g at *
 go_loopg [22] (wx.length - 0) (fun r iv wr => ∃ (i : Nat) (o : List Int), r = wx.length - i ∧ iv = I i ∧ MulO W0 g wx wy i o wr)
 case atStart => exact ⟨0, _, rfl, rfl, HW.out, by omega, by rw [val_replicate]; simp [val], fun k _ => by simp [List.getD_eq_getElem?_getD, List.getElem?_replicate]; split <;> rfl⟩
 case round =>
  clear HW
  obtain ⟨i, o, rfl, rfl, hO⟩ := hrel
  obtain ⟨wa, rfl⟩ : ∃ wa : World, wa = wr := ⟨_, rfl⟩
  have hi := hO.hi
  have y1 := (HY.out.below hO.wrd.below HY.out.lt).cell 1
  have hyl := (HY.out.below hO.wrd.below HY.out.lt).lt
  by_cases hlt : i < wx.length
  ·obtain ⟨ba, offa, hAe, hba, hca⟩ := (HRX.out.below hO.wrd.below).word hlt
   subst hAe
   have hxx := hox.at_ i
   obtain ⟨z, hze⟩ : ∃ z, wx.getD i 0 = z := ⟨_, rfl⟩
   rw [hze] at hca hxx
   have HZE := Lib.hid hze
   obtain ⟨hz0, hz1⟩ := hxx
   have hK : MulK W0 g wx wy i z 0 0 o wa := ⟨hO.wrd, by omega, by omega, by rw [hO.sum]; simp [val], hO.zero⟩
   have HK := Lib.hid hK
   clear hze hK hO
   go_wp2
   go_loopg [8, 30] (wy.length - 0) (fun r cv kv wr => ∃ (k : Nat) (c : Int) (o : List Int), r = wy.length - k ∧ cv = .int .u64 c ∧ kv = I k ∧ MulK W0 g wx wy i z k c o wr)
   case atStart => exact ⟨0, 0, o, rfl, rfl, rfl, HK.out⟩
   case round =>
    clear HK y1 hca
    obtain ⟨k, c, o2, rfl, rfl, rfl, hK⟩ := hrel
    have hk := hK.hk
    obtain ⟨hc0, hc1⟩ := hK.hc
    have y1 := (HY.out.below hK.wrd.below HY.out.lt).cell 1
    have hlo := hK.wrd.blk.lt
    by_cases hkl : k < wy.length
    ·obtain ⟨bb, offb, hBe, hbb, hcb⟩ := (HRY.out.below hK.wrd.below).word hkl
     subst hBe
     have hyy := hoy.at_ k
     obtain ⟨q, hqe⟩ : ∃ q, wy.getD k 0 = q := ⟨_, rfl⟩
     rw [hqe] at hcb hyy
     have hoo := hK.wrd.ok.at_ (i + k)
     have hco := hK.wrd.cell (i := i + k) (by omega)
     obtain ⟨p, hpe⟩ : ∃ p, o2.getD (i + k) 0 = p := ⟨_, rfl⟩
     rw [hpe] at hco hoo
     have hN := hK.step hoy ⟨hz0, hz1⟩ hkl hlt HZ.out (s := c + (p + z * q)) (by rw [hpe, hqe])
     have hmb := mul_bound ⟨hz0, hz1⟩ hyy
     have hf : wr.frozen? ⟨g, i + k, none⟩ = false := hK.wrd.blk.frozen _
     have HN := Lib.hid hN
     obtain ⟨hmb0, hmb1⟩ := hmb
     obtain ⟨hq0, hq1⟩ := hyy
     obtain ⟨hp0, hp1⟩ := hoo
     clear hN hK hpe hqe
     go_wp2
     go_roundg (wy.length - (k + 1))
     case measure => omega
     case rel => exact ⟨k + 1, _, _, rfl, rfl, by go_num, HN.out⟩
    ·obtain rfl : k = wy.length := by omega
     have hN := hK.last hlt HZE.out.symm HZ.out
     have hf : wr.frozen? ⟨g, i + wy.length, none⟩ = false := hK.wrd.blk.frozen _
     have hco := hK.wrd.cell (i := i + wy.length) (by omega)
     have HN := Lib.hid hN
     clear hN hK
     go_wp2
     go_roundg (wx.length - (i + 1))
     case measure => omega
     case rel => exact ⟨i + 1, _, rfl, by go_num, HN.out⟩
  ·obtain rfl : i = wx.length := by omega
   have x0 := (HX.out.below hO.wrd.below HX.out.lt).cell 0
   have x1 := (HX.out.below hO.wrd.below HX.out.lt).cell 1
   have y0 := (HY.out.below hO.wrd.below HY.out.lt).cell 0
   have hxl := (HX.out.below hO.wrd.below HX.out.lt).lt
   have hV := hO.sum
   rw [List.take_of_length_le (Nat.le_refl _)] at hV
   have hl := hO.wrd.len
   have hNm := norm_any (bx != by_) o (some ⟨g, 0, none⟩) (wx.length + wy.length) wa hO.wrd.reads (by omega) (by unfold maxLen; omega) hO.wrd.ok
   rw [hV, HS.out, hl] at hNm
   have HNm := Lib.hid hNm
   have HR1 := Lib.hid (HR.out.below hO.wrd.below HR.out.lt)
   have HB1 := Lib.hid (HB.out.trans (hO.wrd.below.mono HB.out.size))
   clear hO hV hl hNm
   go_wp2_with fail
   refine HNm.out.mono ?_
   rintro e w1 ⟨v, rfl, hv, hb⟩
   obtain ⟨b1, A1, n1, c1, rfl⟩ := hv.ofWords
   have hR1 := HR1.out.below hb HR1.out.lt
   have q0 := hR1.cell 0
   have q1 := hR1.cell 1
   have f0 := hR1.frozen 0
   have f1 := hR1.frozen 1
   have HQ := Lib.hid (ret_big_set (HB1.out.trans (hb.mono HB1.out.size)) (by omega) hR1 hv)
   have HR2 := Lib.hid (hR1.set2 (.bool b1) (.slice A1 n1 c1))
   clear hv hb hR1 HB HNm HR
   go_wp2
   have z0 := HR2.out.cell 0
   have z1 := HR2.out.cell 1
   generalize (w1.setCell ⟨w.heap.size + 1 + 1, 0, none⟩ (.bool b1)).setCell ⟨w.heap.size + 1 + 1, 1, none⟩ (.slice A1 n1 c1) = W at *
   exact bodyPost_ret (v := .agg #[.bool b1, .slice A1 n1 c1]) (by simp [results, Tryz.results76, go_sem, z0, z1]) rfl HQ.out
end Go.Proofs.YtcgfdfdcbamceaaGreatDoor
