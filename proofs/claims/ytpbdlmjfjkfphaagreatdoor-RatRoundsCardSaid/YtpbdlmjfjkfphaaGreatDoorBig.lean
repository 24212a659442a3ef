/- large.Int: Sign, Neg, Add, Sub, Cmp. -/
import Derived.Test.YtpbdlmjfjkfphaaGreatDoorNorm
import Derived.Deep.RegionHeld3
import Derived.Outline
namespace Go.Proofs.YtpbdlmjfjkfphaaGreatDoor
open Go.RowKit

theorem reads_set {w : World} {B sz n : Nat} {A : Option Addr} {xs : List Value} (h : Reads w B sz A n xs) {p : Addr} {old : Value} (hp : w.cell? p = some old) (hk : ∀ u ∈ xs, u ≠ old) (u : Value) : Reads (w.setCell p u) B sz A n xs := by
  refine ⟨h.1, fun hn => ?_⟩
  obtain ⟨b, off, e, hb, hc⟩ := h.2 hn
  refine ⟨b, off, e, hb, fun j x hx => ?_⟩
  have h1 := hc j x hx
  rw [World.cell?_setCell_other _ _ _ _ ?_]
  · exact h1
  · rintro rfl
    rw [h1] at hp
    injection hp with hp
    exact hk x (List.mem_of_getElem? hx) hp
/-- a cell that holds no word -/
def noWord (u : Value) : Prop := ∀ x, U x ≠ u
theorem Big.set {w : World} {v : Value} {z : Int} (h : Big w v z) {p : Addr} {old : Value} (hp : w.cell? p = some old) (hk : noWord old) (u : Value) : Big (w.setCell p u) v z := by
  obtain ⟨A, c, ws, h1, h2, h3⟩ := h
  refine ⟨A, c, ws, h1, ?_, h3⟩
  have hz : (w.setCell p u).heap.size = w.heap.size := by simp [World.setCell]
  rw [hz]
  refine reads_set h2 hp (fun x hx => ?_) u
  obtain ⟨y, _, rfl⟩ := List.mem_map.1 hx
  exact hk y
theorem noWord_bool (b : Bool) : noWord (.bool b) := fun _ h => by cases h
theorem noWord_slice (A : Option Addr) (n c : Nat) : noWord (.slice A n c) := fun _ h => by cases h
abbrev bigT : TypeId := 45
/-- the result's cell is written -/
theorem ret_big_set {w w2 : World} {R : Nat} {x y : Value} {z : Int} {b0 : Bool} {A0 : Option Addr} {n0 c0 : Nat} (hb : Below w.heap.size w w2) (hR : w.heap.size ≤ R) (hB : Blk w2 R bigT #[.bool b0, .slice A0 n0 c0]) (h : Big w2 (.agg #[x, y]) z) :
    RetBig w z (.returned (.agg #[x, y])) ((w2.setCell ⟨R, 0, none⟩ x).setCell ⟨R, 1, none⟩ y) := by
  refine ⟨_, rfl, ?_, (hb.setCell hR _).setCell hR _⟩
  refine (h.set (old := .bool b0) (hB.cell 0) (noWord_bool _) x).set (old := .slice A0 n0 c0) ?_ (noWord_slice _ _ _) y
  rw [(hB.set_ 0 x).cell]; rfl
theorem Big.sign {z : Int} {ws : List Int} (ho : Ok ws) (hn : Nm ws) (hv : val ws = (z.natAbs : Int)) : ws.length = 0 ↔ z = 0 := by
  have := nm_zero ho hn
  rw [hv] at this
  constructor
  · intro h; have := this.1 (List.eq_nil_of_length_eq_zero h); omega
  · intro h; have := this.2 (by omega); rw [this]; rfl
theorem sign_any (v : Value) (z : Int) (w : World) (h : Big w v z) : Calls Tryz.prog 72 #[v] w fun e w' => e = .returned (I z.sign) ∧ Below w.heap.size w w' := by
  obtain ⟨A, c, ws, rfl, hr, hc, ho, hn, hv⟩ := h
  have hs := Big.sign ho hn hv
  have HB := Lib.hid ((Below.refl w.heap.size w).alloc (Nat.le_refl _) (.cells #[.bool (decide (z < 0)), .slice A ws.length c] 45))
  by_cases h0 : z = 0
  · have hl := hs.2 h0
    have t0 : ((ws.length : Int) == 0) = true := beq_iff_eq.2 (by omega)
    have HZ := Lib.hid (show z.sign = 0 by rw [h0]; rfl)
    clear hs h0 hl hv hr
    go_enter Tryz.func72, Tryz.ntmps72
    go_wp2
    go_ret
    exact ⟨ret_int HZ.out.symm, HB.out⟩
  · have t0 : ((ws.length : Int) == 0) = false := beq_eq_false_iff_ne.2 (by have := mt hs.1 h0; omega)
    by_cases h1 : z < 0
    · have t1 : decide (z < 0) = true := decide_eq_true h1
      have HZ := Lib.hid (show z.sign = -1 from Int.sign_eq_neg_one_of_neg h1)
      rw [t1] at HB ⊢
      clear hs h0 hv hr t1
      go_enter Tryz.func72, Tryz.ntmps72
      go_wp2
      go_ret
      exact ⟨ret_int HZ.out.symm, HB.out⟩
    · have t1 : decide (z < 0) = false := decide_eq_false h1
      have HZ := Lib.hid (show z.sign = 1 from Int.sign_eq_one_of_pos (by omega))
      rw [t1] at HB ⊢
      clear hs h0 hv hr t1
      go_enter Tryz.func72, Tryz.ntmps72
      go_wp2
      go_ret
      exact ⟨ret_int HZ.out.symm, HB.out⟩
theorem Big.ofWords {w : World} {v : Value} {z : Int} (h : Big w v z) : ∃ b A n c, v = .agg #[.bool b, .slice A n c] := by
  obtain ⟨A, c, ws, h1, _⟩ := h
  exact ⟨_, _, _, _, h1⟩
theorem sgn_not {z : Int} : sgn (!decide (z < 0)) (z.natAbs : Int) = -z := by
  by_cases h : z < 0
  · simp [sgn, h]; omega
  · simp [sgn, h]; omega
theorem neg_any (v : Value) (z : Int) (w : World) (h : Big w v z) : Calls Tryz.prog 54 #[v] w (RetBig w (-z)) := by
  obtain ⟨A, c, ws, rfl, hr, ⟨hc, hcm⟩, ho, hn, hv⟩ := h
  have hb2 : Below w.heap.size w ((w.alloc (.cells #[.bool (decide (z < 0)), .slice A ws.length c] 45)).alloc (.cells #[.bool false, .slice none 0 0] 45)) := ((Below.refl _ _).alloc (Nat.le_refl _) _).alloc (by simp) _
  have HN := Lib.hid (norm_any (!decide (z < 0)) ws A c _ ((hr.below hb2).more hb2.size) hc hcm ho)
  rw [hv, sgn_not] at HN
  have HB := Lib.hid hb2
  have HR := Lib.hid (Blk.new (w.alloc (.cells #[.bool (decide (z < 0)), .slice A ws.length c] 45)) bigT #[.bool false, .slice none 0 0])
  rw [World.size_alloc w] at HR
  clear hv hr hb2
  go_enter Tryz.func54, Tryz.ntmps54
  go_wp2_with fail
  refine HN.out.mono ?_
  rintro e w1 ⟨v, rfl, hv, hb⟩
  obtain ⟨b1, A1, n1, c1, rfl⟩ := hv.ofWords
  have hR1 := HR.out.below hb HR.out.lt
  have y0 := hR1.cell 0
  have y1 := hR1.cell 1
  have f0 := hR1.frozen 0
  have f1 := hR1.frozen 1
  have HQ := Lib.hid (ret_big_set (HB.out.trans (hb.mono HB.out.size)) (by omega) hR1 hv)
  have hR2 := (hR1.set_ 0 (.bool b1)).set_ 1 (.slice A1 n1 c1)
  have HR2 := Lib.hid hR2
  clear hv hb hR1 HB HN HR hR2
  go_wp2
  have z0 := HR2.out.cell 0
  have z1 := HR2.out.cell 1
  generalize (w1.setCell ⟨w.heap.size + 1, 0, none⟩ (.bool b1)).setCell ⟨w.heap.size + 1, 1, none⟩ (.slice A1 n1 c1) = W at *
  exact bodyPost_ret (v := .agg #[.bool b1, .slice A1 n1 c1]) (by simp [results, Tryz.results54, go_sem, z0, z1]) rfl HQ.out

theorem Row.caps {w : World} {base : Nat} {e : TypeId} {sz : Nat} {v : Value} {n : Nat} {xs : List Value} (h : Row w base e sz v n xs) : ∃ A c, v = .slice A n c ∧ n ≤ c ∧ c ≤ maxLen := by
  rcases h.2 with ⟨rfl, rfl⟩ | ⟨g, off, cap, cur, rfl, _, _, h1, h2, _⟩
  · exact ⟨_, _, rfl, Nat.le_refl _, Nat.zero_le _⟩
  · exact ⟨_, _, rfl, h1, h2⟩
/-- what a cell holds, whatever it is -/
def oldCell (w : World) (p : Addr) : Value := (w.cell? p).getD undef
theorem old_cell {w : World} {p : Addr} {u : Value} (h : w.cell? p = some u) : w.cell? p = some (oldCell w p) := by rw [oldCell, h]; rfl
theorem Blk.drew {w : World} {g : Nat} {t : TypeId} {cs : Array Value} (h : Blk w g t cs) : Blk w.drew g t cs := h
theorem Reads.drew {w : World} {B sz n : Nat} {A : Option Addr} {xs : List Value} (h : Reads w B sz A n xs) : Reads w.drew B sz A n xs := h.keep fun _ _ => rfl
theorem below_undrew {w w' : World} (h : Below w.drew.heap.size w.drew w') : Below w.heap.size w w' := ⟨h.os, h.tape, h.output, h.size, h.block⟩
theorem Big.drew {w : World} {v : Value} {z : Int} (h : Big w v z) : Big w.drew v z := h.ext (below_undrew (Below.refl _ _))
theorem Blk.set2 {w : World} {r : Nat} {t : TypeId} {x0 x1 : Value} (h : Blk w r t #[x0, x1]) (u v : Value) : Blk ((w.setCell ⟨r, 0, none⟩ u).setCell ⟨r, 1, none⟩ v) r t #[u, v] := (h.set_ 0 u).set_ 1 v
theorem hold3 {w' : World} {b0 b1 r : Nat} {x0 x1 y0 y1 z0 z1 : Value} (h : Blk w' b0 bigT #[x0, x1]) (k : Blk w' b1 bigT #[y0, y1]) (l : Blk w' r bigT #[z0, z1]) :
    w'.cell? ⟨b0, 0, none⟩ = some x0 ∧ w'.cell? ⟨b0, 1, none⟩ = some x1 ∧ w'.cell? ⟨b1, 0, none⟩ = some y0 ∧ w'.cell? ⟨b1, 1, none⟩ = some y1 ∧ w'.frozen? ⟨r, 0, none⟩ = false ∧ w'.frozen? ⟨r, 1, none⟩ = false ∧
      w'.cell? ⟨r, 0, none⟩ = some (oldCell w' ⟨r, 0, none⟩) ∧ w'.cell? ⟨r, 1, none⟩ = some (oldCell w' ⟨r, 1, none⟩) :=
  ⟨h.cell 0, h.cell 1, k.cell 0, k.cell 1, l.frozen 0, l.frozen 1, old_cell (l.cell 0), old_cell (l.cell 1)⟩
theorem sgn_add {x y : Int} (h : decide (x < 0) = decide (y < 0)) : sgn (decide (x < 0)) ((x.natAbs : Int) + (y.natAbs : Int)) = x + y := by
  by_cases h1 : x < 0
  · have h2 : y < 0 := by simpa [h1] using h
    simp [sgn, h1]; omega
  · have h2 : ¬ y < 0 := by simpa [h1] using h
    simp [sgn, h1]; omega
theorem sgn_sub {x y : Int} (h : decide (x < 0) ≠ decide (y < 0)) : sgn (decide (x < 0)) ((x.natAbs : Int) - (y.natAbs : Int)) = x + y := by
  by_cases h1 : x < 0
  · have h2 : ¬ y < 0 := by simpa [h1] using h
    simp [sgn, h1]; omega
  · have h2 : y < 0 := by simpa [h1] using h
    simp [sgn, h1]; omega
set_option maxRecDepth 100000 in
set_option maxHeartbeats 2000000 in
theorem add_any (u v : Value) (x y : Int) (w : World) (hx : Big w u x) (hy : Big w v y) {N : Nat} (hN : N ≤ 1000000) (fx : Fits N x) (fy : Fits N y) : Calls Tryz.prog 50 #[u, v] w (RetBig w (x + y)) := by
  obtain ⟨A, ca, wx, rfl, hrx, ⟨hcx, hmx⟩, hox, hnx, hvx⟩ := hx
  obtain ⟨B, cb, wy, rfl, hry, ⟨hcy, hmy⟩, hoy, hny, hvy⟩ := hy
  have lx := fx.len hox hnx hvx
  have ly := fy.len hoy hny hvy
  have hb1 : Below w.heap.size w (((w.alloc (.cells #[.bool (decide (x < 0)), .slice A wx.length ca] bigT)).alloc (.cells #[.bool (decide (y < 0)), .slice B wy.length cb] bigT)).alloc (.cells #[.bool false, .slice none 0 0] bigT)) := (((Below.refl _ _).alloc (Nat.le_refl _) _).alloc (by simp) _).alloc (by simp; omega) _
  have HX := Lib.hid (((Blk.new w bigT #[.bool (decide (x < 0)), .slice A wx.length ca]).alloc (.cells #[.bool (decide (y < 0)), .slice B wy.length cb] bigT)).alloc (.cells #[.bool false, .slice none 0 0] bigT))
  have HY := Lib.hid ((Blk.new (w.alloc (.cells #[.bool (decide (x < 0)), .slice A wx.length ca] bigT)) bigT #[.bool (decide (y < 0)), .slice B wy.length cb]).alloc (.cells #[.bool false, .slice none 0 0] bigT))
  have HR := Lib.hid (Blk.new ((w.alloc (.cells #[.bool (decide (x < 0)), .slice A wx.length ca] bigT)).alloc (.cells #[.bool (decide (y < 0)), .slice B wy.length cb] bigT)) bigT #[.bool false, .slice none 0 0])
  rw [World.size_alloc w] at HY
  rw [World.size_alloc _, World.size_alloc w] at HR
  have HRX := Lib.hid ((hrx.below hb1).more hb1.size)
  have HRY := Lib.hid ((hry.below hb1).more hb1.size)
  have HB := Lib.hid hb1
  have HVX := Lib.hid hvx
  have HVY := Lib.hid hvy
  clear hrx hry hb1 hvx hvy fx fy
  by_cases hs : decide (x < 0) = decide (y < 0)
  · have hS := sgn_add hs
    have HS := Lib.hid hS
    have t0 : (decide (x < 0) == decide (y < 0)) = true := beq_iff_eq.2 hs
    clear hS hs
    generalize decide (x < 0) = bx at *
    generalize decide (y < 0) = by_ at *
    unfold bigT at *
    go_enter Tryz.func50, Tryz.ntmps50
    go_wp2
    generalize hW0 : ((w.alloc (Obj.cells #[Value.bool bx, Value.slice A wx.length ca] 45)).alloc (Obj.cells #[Value.bool by_, Value.slice B wy.length cb] 45)).alloc (Obj.cells #[Value.bool false, Value.slice none 0 0] 45) = W0 at *
    clear hW0
    go_region_held3 (fun w' => w'.cell? ⟨w.heap.size, 0, none⟩ = some (.bool bx) ∧ w'.cell? ⟨w.heap.size, 1, none⟩ = some (.slice A wx.length ca) ∧ w'.cell? ⟨w.heap.size + 1, 0, none⟩ = some (.bool by_) ∧ w'.cell? ⟨w.heap.size + 1, 1, none⟩ = some (.slice B wy.length cb) ∧ w'.frozen? ⟨w.heap.size + 1 + 1, 0, none⟩ = false ∧ w'.frozen? ⟨w.heap.size + 1 + 1, 1, none⟩ = false ∧ w'.cell? ⟨w.heap.size + 1 + 1, 0, none⟩ = some (oldCell w' ⟨w.heap.size + 1 + 1, 0, none⟩) ∧ w'.cell? ⟨w.heap.size + 1 + 1, 1, none⟩ = some (oldCell w' ⟨w.heap.size + 1 + 1, 1, none⟩))
      (first | (with_reducible exact hold3 HX.out HY.out HR.out) | (with_reducible exact hold3 HX.out.drew HY.out.drew HR.out.drew) | (with_reducible exact hold3 HX1.out HY1.out HR1.out) | (with_reducible exact hold3 HX2.out HY2.out HR2.out) | (with_reducible exact hold3 HX3.out HY3.out HR3.out))
      (first | (go_at_call 69; (with_reducible refine (addW_any wx wy A B ca cb _ HRX.out.drew HRY.out.drew hox hoy (by omega) (by omega)).mono ?_); rintro e w1 ⟨v1, o1, rfl, hr1, ho1, ⟨hv1, -⟩, hb1⟩; obtain ⟨A1, c1, rfl, hc1, hm1⟩ := hr1.caps; have HX1 := Lib.hid (HX.out.drew.below hb1 HX.out.lt); have HY1 := Lib.hid (HY.out.drew.below hb1 HY.out.lt); have HR1 := Lib.hid (HR.out.drew.below hb1 HR.out.lt); have HB1 := Lib.hid (HB.out.trans ((below_undrew hb1).mono HB.out.size)); have HV1 := Lib.hid hv1; clear hv1 hb1) | (go_at_call 68; (with_reducible refine (norm_any bx o1 A1 c1 _ hr1.reads hc1 hm1 ho1).mono ?_); rintro e w2 ⟨v2, rfl, hv2, hb2⟩; obtain ⟨b2, A2, n2, c2, rfl⟩ := hv2.ofWords; have HX2 := Lib.hid (HX1.out.below hb2 HX1.out.lt); have HY2 := Lib.hid (HY1.out.below hb2 HY1.out.lt); have HR2 := Lib.hid (HR1.out.below hb2 HR1.out.lt); have HQ := Lib.hid (ret_big_set (HB1.out.trans (hb2.mono HB1.out.size)) (by omega) HR2.out hv2); have HX3 := Lib.hid ((HX2.out.far (p := ⟨w.heap.size + 1 + 1, 0, none⟩) (by simp only; omega) (.bool b2)).far (p := ⟨w.heap.size + 1 + 1, 1, none⟩) (by simp only; omega) (.slice A2 n2 c2)); have HY3 := Lib.hid ((HY2.out.far (p := ⟨w.heap.size + 1 + 1, 0, none⟩) (by simp only; omega) (.bool b2)).far (p := ⟨w.heap.size + 1 + 1, 1, none⟩) (by simp only; omega) (.slice A2 n2 c2)); have HR3 := Lib.hid (HR2.out.set2 (.bool b2) (.slice A2 n2 c2)); clear hv2 hb2))
    rw [HV1.out, HVX.out, HVY.out, HS.out] at HQ
    have z0 := HR3.out.cell 0
    have z1 := HR3.out.cell 1
    generalize (w2.setCell ⟨w.heap.size + 1 + 1, 0, none⟩ (.bool b2)).setCell ⟨w.heap.size + 1 + 1, 1, none⟩ (.slice A2 n2 c2) = W at *
    go_wp2
    exact bodyPost_ret (v := .agg #[.bool b2, .slice A2 n2 c2]) (by simp [results, Tryz.results50, go_sem, z0, z1]) rfl HQ.out
  · have t0 : (decide (x < 0) == decide (y < 0)) = false := beq_eq_false_iff_ne.2 hs
    have hS1 := sgn_sub hs
    have hS2 := sgn_sub (Ne.symm hs)
    rw [Int.add_comm y x] at hS2
    have HS1 := Lib.hid hS1
    have HS2 := Lib.hid hS2
    clear hS1 hS2 hs
    generalize decide (x < 0) = bx at *
    generalize decide (y < 0) = by_ at *
    unfold bigT at *
    go_enter Tryz.func50, Tryz.ntmps50
    go_wp2_with fail
    generalize hW0 : ((w.alloc (Obj.cells #[Value.bool bx, Value.slice A wx.length ca] 45)).alloc (Obj.cells #[Value.bool by_, Value.slice B wy.length cb] 45)).alloc (Obj.cells #[Value.bool false, Value.slice none 0 0] 45) = W9 at *
    clear hW0
    refine (cmpW_any wx wy A B ca cb _ HRX.out HRY.out hox hoy hnx hny (by omega) (by omega)).mono ?_
    rintro e W0 ⟨r, rfl, ⟨hr1, hr2, hr3, hr4⟩, hb0⟩
    have HX9 := Lib.hid (HX.out.below hb0 HX.out.lt)
    have HY9 := Lib.hid (HY.out.below hb0 HY.out.lt)
    have HR9 := Lib.hid (HR.out.below hb0 HR.out.lt)
    have HB9 := Lib.hid (HB.out.trans (hb0.mono HB.out.size))
    have HRX9 := Lib.hid ((HRX.out.below hb0).more hb0.size)
    have HRY9 := Lib.hid ((HRY.out.below hb0).more hb0.size)
    have HCM := Lib.hid (And.intro hr1 hr2)
    clear HX HY HR HB HRX HRY hb0 hr1 hr2
    have HX := HX9
    have HY := HY9
    have HR := HR9
    have HB := HB9
    have HRX := HRX9
    have HRY := HRY9
    clear HX9 HY9 HR9 HB9 HRX9 HRY9
    have x0 := HX.out.cell 0
    have x1 := HX.out.cell 1
    have y0 := HY.out.cell 0
    have y1 := HY.out.cell 1
    by_cases hr0 : 0 ≤ r
    · have hle : val wy ≤ val wx := by have := HCM.out; omega
      have hll : wy.length ≤ wx.length := nm_len hoy hny (by have := val_lt hox; omega)
      have HLE := Lib.hid hle
      have tr : decide (0 ≤ r) = true := decide_eq_true hr0
      clear hle
      go_wp2
      clear x0 x1 y0 y1
      go_region_held3 (fun w' => w'.cell? ⟨w.heap.size, 0, none⟩ = some (.bool bx) ∧ w'.cell? ⟨w.heap.size, 1, none⟩ = some (.slice A wx.length ca) ∧ w'.cell? ⟨w.heap.size + 1, 0, none⟩ = some (.bool by_) ∧ w'.cell? ⟨w.heap.size + 1, 1, none⟩ = some (.slice B wy.length cb) ∧ w'.frozen? ⟨w.heap.size + 1 + 1, 0, none⟩ = false ∧ w'.frozen? ⟨w.heap.size + 1 + 1, 1, none⟩ = false ∧ w'.cell? ⟨w.heap.size + 1 + 1, 0, none⟩ = some (oldCell w' ⟨w.heap.size + 1 + 1, 0, none⟩) ∧ w'.cell? ⟨w.heap.size + 1 + 1, 1, none⟩ = some (oldCell w' ⟨w.heap.size + 1 + 1, 1, none⟩))
        (first | (with_reducible exact hold3 HX.out HY.out HR.out) | (with_reducible exact hold3 HX.out.drew HY.out.drew HR.out.drew) | (with_reducible exact hold3 HX1.out HY1.out HR1.out) | (with_reducible exact hold3 HX2.out HY2.out HR2.out) | (with_reducible exact hold3 HX3.out HY3.out HR3.out))
        (first | (go_at_call 71; (with_reducible refine (subW_any wx wy A B ca cb _ HRX.out.drew HRY.out.drew hox hoy (by omega) hll HLE.out).mono ?_); rintro e w1 ⟨v1, o1, rfl, hr1, ho1, ⟨hv1, -⟩, hb1⟩; obtain ⟨A1, c1, rfl, hc1, hm1⟩ := hr1.caps; have HX1 := Lib.hid (HX.out.drew.below hb1 HX.out.lt); have HY1 := Lib.hid (HY.out.drew.below hb1 HY.out.lt); have HR1 := Lib.hid (HR.out.drew.below hb1 HR.out.lt); have HB1 := Lib.hid (HB.out.trans ((below_undrew hb1).mono HB.out.size)); have HV1 := Lib.hid hv1; clear hv1 hb1) | (go_at_call 68; (with_reducible refine (norm_any bx o1 A1 c1 _ hr1.reads hc1 hm1 ho1).mono ?_); rintro e w2 ⟨v2, rfl, hv2, hb2⟩; obtain ⟨b2, A2, n2, c2, rfl⟩ := hv2.ofWords; have HX2 := Lib.hid (HX1.out.below hb2 HX1.out.lt); have HY2 := Lib.hid (HY1.out.below hb2 HY1.out.lt); have HR2 := Lib.hid (HR1.out.below hb2 HR1.out.lt); have HQ := Lib.hid (ret_big_set (HB1.out.trans (hb2.mono HB1.out.size)) (by omega) HR2.out hv2); have HX3 := Lib.hid ((HX2.out.far (p := ⟨w.heap.size + 1 + 1, 0, none⟩) (by simp only; omega) (.bool b2)).far (p := ⟨w.heap.size + 1 + 1, 1, none⟩) (by simp only; omega) (.slice A2 n2 c2)); have HY3 := Lib.hid ((HY2.out.far (p := ⟨w.heap.size + 1 + 1, 0, none⟩) (by simp only; omega) (.bool b2)).far (p := ⟨w.heap.size + 1 + 1, 1, none⟩) (by simp only; omega) (.slice A2 n2 c2)); have HR3 := Lib.hid (HR2.out.set2 (.bool b2) (.slice A2 n2 c2)); clear hv2 hb2))
      rw [HV1.out, HVX.out, HVY.out, HS1.out] at HQ
      have z0 := HR3.out.cell 0
      have z1 := HR3.out.cell 1
      generalize (w2.setCell ⟨w.heap.size + 1 + 1, 0, none⟩ (.bool b2)).setCell ⟨w.heap.size + 1 + 1, 1, none⟩ (.slice A2 n2 c2) = W at *
      go_wp2
      exact bodyPost_ret (v := .agg #[.bool b2, .slice A2 n2 c2]) (by simp [results, Tryz.results50, go_sem, z0, z1]) rfl HQ.out
    · have hle : val wx ≤ val wy := by have := HCM.out; omega
      have hll : wx.length ≤ wy.length := nm_len hox hnx (by have := val_lt hoy; omega)
      have HLE := Lib.hid hle
      have tr : decide (0 ≤ r) = false := decide_eq_false hr0
      clear hle
      go_wp2
      clear x0 x1 y0 y1
      go_region_held3 (fun w' => w'.cell? ⟨w.heap.size, 0, none⟩ = some (.bool bx) ∧ w'.cell? ⟨w.heap.size, 1, none⟩ = some (.slice A wx.length ca) ∧ w'.cell? ⟨w.heap.size + 1, 0, none⟩ = some (.bool by_) ∧ w'.cell? ⟨w.heap.size + 1, 1, none⟩ = some (.slice B wy.length cb) ∧ w'.frozen? ⟨w.heap.size + 1 + 1, 0, none⟩ = false ∧ w'.frozen? ⟨w.heap.size + 1 + 1, 1, none⟩ = false ∧ w'.cell? ⟨w.heap.size + 1 + 1, 0, none⟩ = some (oldCell w' ⟨w.heap.size + 1 + 1, 0, none⟩) ∧ w'.cell? ⟨w.heap.size + 1 + 1, 1, none⟩ = some (oldCell w' ⟨w.heap.size + 1 + 1, 1, none⟩))
        (first | (with_reducible exact hold3 HX.out HY.out HR.out) | (with_reducible exact hold3 HX.out.drew HY.out.drew HR.out.drew) | (with_reducible exact hold3 HX1.out HY1.out HR1.out) | (with_reducible exact hold3 HX2.out HY2.out HR2.out) | (with_reducible exact hold3 HX3.out HY3.out HR3.out))
        (first | (go_at_call 71; (with_reducible refine (subW_any wy wx B A cb ca _ HRY.out.drew HRX.out.drew hoy hox (by omega) hll HLE.out).mono ?_); rintro e w1 ⟨v1, o1, rfl, hr1, ho1, ⟨hv1, -⟩, hb1⟩; obtain ⟨A1, c1, rfl, hc1, hm1⟩ := hr1.caps; have HX1 := Lib.hid (HX.out.drew.below hb1 HX.out.lt); have HY1 := Lib.hid (HY.out.drew.below hb1 HY.out.lt); have HR1 := Lib.hid (HR.out.drew.below hb1 HR.out.lt); have HB1 := Lib.hid (HB.out.trans ((below_undrew hb1).mono HB.out.size)); have HV1 := Lib.hid hv1; clear hv1 hb1) | (go_at_call 68; (with_reducible refine (norm_any by_ o1 A1 c1 _ hr1.reads hc1 hm1 ho1).mono ?_); rintro e w2 ⟨v2, rfl, hv2, hb2⟩; obtain ⟨b2, A2, n2, c2, rfl⟩ := hv2.ofWords; have HX2 := Lib.hid (HX1.out.below hb2 HX1.out.lt); have HY2 := Lib.hid (HY1.out.below hb2 HY1.out.lt); have HR2 := Lib.hid (HR1.out.below hb2 HR1.out.lt); have HQ := Lib.hid (ret_big_set (HB1.out.trans (hb2.mono HB1.out.size)) (by omega) HR2.out hv2); have HX3 := Lib.hid ((HX2.out.far (p := ⟨w.heap.size + 1 + 1, 0, none⟩) (by simp only; omega) (.bool b2)).far (p := ⟨w.heap.size + 1 + 1, 1, none⟩) (by simp only; omega) (.slice A2 n2 c2)); have HY3 := Lib.hid ((HY2.out.far (p := ⟨w.heap.size + 1 + 1, 0, none⟩) (by simp only; omega) (.bool b2)).far (p := ⟨w.heap.size + 1 + 1, 1, none⟩) (by simp only; omega) (.slice A2 n2 c2)); have HR3 := Lib.hid (HR2.out.set2 (.bool b2) (.slice A2 n2 c2)); clear hv2 hb2))
      rw [HV1.out, HVX.out, HVY.out, HS2.out] at HQ
      have z0 := HR3.out.cell 0
      have z1 := HR3.out.cell 1
      generalize (w2.setCell ⟨w.heap.size + 1 + 1, 0, none⟩ (.bool b2)).setCell ⟨w.heap.size + 1 + 1, 1, none⟩ (.slice A2 n2 c2) = W at *
      go_wp2
      exact bodyPost_ret (v := .agg #[.bool b2, .slice A2 n2 c2]) (by simp [results, Tryz.results50, go_sem, z0, z1]) rfl HQ.out
end Go.Proofs.YtpbdlmjfjkfphaaGreatDoor
