/- large.Gcd. Numerals in parts of nine digits: plain facts. No program here. More words for memory: append with what it leaves alone; slices of slices of ints. No program here. -/
import Derived.Test.YtcgfdfdcbamceaaGreatDoorXAM
import Derived.Lib.ItoaNum
import Derived.WalkKit
import Derived.Test.YtcgfdfdcbamceaaGreatDoorXAD
namespace Go.Proofs.YtcgfdfdcbamceaaGreatDoor
open Go.RowKit
structure Nn (w : World) (A : Option Addr) (c : Nat) (ws : List Int) : Prop where
 reads : Reads w w.heap.size 1 A ws.length (ws.map U)
 cap : ws.length ≤ c ∧ c ≤ maxLen
 ok : Ok ws
 nm : Nm ws
theorem Nn.ext {w w' : World} {A : Option Addr} {c : Nat} {ws : List Int} (h : Nn w A c ws) (hb : Below w.heap.size w w') : Nn w' A c ws := ⟨(h.reads.below hb).more hb.size, h.cap, h.ok, h.nm⟩
theorem Nn.big {w : World} {A : Option Addr} {c : Nat} {ws : List Int} (h : Nn w A c ws) : Big w (.agg #[.bool false, .slice A ws.length c]) (val ws) := by
 have h0 := val_nonneg h.ok
 refine ⟨A, c, ws, ?_, h.reads, h.cap, h.ok, h.nm, by omega⟩
 rw [decide_eq_false (by omega)]
theorem Nn.setVar {w : World} {A : Option Addr} {c : Nat} {ws : List Int} (h : Nn w A c ws) {g : Nat} {b : Bool} {A' : Option Addr} {n' c' : Nat} (hv : Var w g (.bool b) (.slice A' n' c')) (x y : Value) : Nn ((w.setCell ⟨g, 0, none⟩ x).setCell ⟨g, 1, none⟩ y) A c ws := by
 have h1 : ∀ u ∈ ws.map U, u ≠ .bool b := by intro u hu; obtain ⟨z, _, rfl⟩ := List.mem_map.1 hu; intro e; cases e
 have h2 : ∀ u ∈ ws.map U, u ≠ .slice A' n' c' := by intro u hu; obtain ⟨z, _, rfl⟩ := List.mem_map.1 hu; intro e; cases e
 refine ⟨?_, h.cap, h.ok, h.nm⟩
 have e : ((w.setCell ⟨g, 0, none⟩ x).setCell ⟨g, 1, none⟩ y).heap.size = w.heap.size := by simp [World.setCell]
 rw [e]
 refine reads_set (reads_set h.reads hv.c0 h1 x) (old := .slice A' n' c') ?_ h2 y
 rw [World.cell?_setCell_other _ _ _ _ (by simp)]; exact hv.c1
theorem Big.nn {w : World} {v : Value} {z : Int} (h : Big w v z) : ∃ A c ws, v = .agg #[.bool (decide (z < 0)), .slice A ws.length c] ∧ Nn w A c ws ∧ val ws = (z.natAbs : Int) := by
 obtain ⟨A, c, ws, h1, h2, h3, h4, h5, h6⟩ := h
 exact ⟨A, c, ws, h1, ⟨h2, h3, h4, h5⟩, h6⟩
structure GcdI (w : World) (N : Nat) (G : Nat) (x y : List Int) (Ax Ay : Option Addr) (cx cy : Nat) (wr : World) : Prop where
 vx : Var wr w.heap.size (.bool false) (.slice Ax x.length cx)
 vy : Var wr (w.heap.size + 1) (.bool false) (.slice Ay y.length cy)
 vr : Var wr (w.heap.size + 1 + 1) (.bool false) (.slice none 0 0)
 nx : Nn wr Ax cx x
 ny : Nn wr Ay cy y
 fx : Fits N (val x)
 fy : Fits N (val y)
 gcd : Int.gcd (val x) (val y) = G
 below : Below w.heap.size w wr
theorem gcd_step {x y : Int} (hx : 0 ≤ x) (hy : 0 ≤ y) : Int.gcd y (x % y) = Int.gcd x y := by
 obtain ⟨n, rfl⟩ := Int.eq_ofNat_of_zero_le hx
 obtain ⟨m, rfl⟩ := Int.eq_ofNat_of_zero_le hy
 have e : ((n : Int) % (m : Int)) = ((n % m : Nat) : Int) := by simp
 rw [e, Int.gcd_natCast_natCast, Int.gcd_natCast_natCast, Nat.gcd_comm n m, Nat.gcd_comm m (n % m), ← Nat.gcd_rec]
set_option maxRecDepth 100000 in
set_option maxHeartbeats 4000000 in
theorem gcd_any (u v : Value) (x y : Int) (w : World) (hx : Big w u x) (hy : Big w v y) {N : Nat} (hN : N ≤ 900000000) (fx : Fits N x) (fy : Fits N y) : Calls Tryz.prog 99 #[u, v] w (RetBig w (Int.gcd x y)) := by
 obtain ⟨A, ca, wx, rfl, hnx, hvx⟩ := hx.nn
 obtain ⟨B, cb, wy, rfl, hny, hvy⟩ := hy.nn
 have hb1 : Below w.heap.size w (((w.alloc (.cells #[.bool false, .slice A wx.length ca] bigT)).alloc (.cells #[.bool false, .slice B wy.length cb] bigT)).alloc (.cells #[.bool false, .slice none 0 0] bigT)) := (((Below.refl _ _).alloc (Nat.le_refl _) _).alloc (by simp) _).alloc (by simp; omega) _
 have hX := (((Blk.new w bigT #[.bool false, .slice A wx.length ca]).alloc (.cells #[.bool false, .slice B wy.length cb] bigT)).alloc (.cells #[.bool false, .slice none 0 0] bigT))
 have hY := ((Blk.new (w.alloc (.cells #[.bool false, .slice A wx.length ca] bigT)) bigT #[.bool false, .slice B wy.length cb]).alloc (.cells #[.bool false, .slice none 0 0] bigT))
 have hR := (Blk.new ((w.alloc (.cells #[.bool false, .slice A wx.length ca] bigT)).alloc (.cells #[.bool false, .slice B wy.length cb] bigT)) bigT #[.bool false, .slice none 0 0])
 rw [World.size_alloc w] at hY
 rw [World.size_alloc _, World.size_alloc w] at hR
 have hI : GcdI w N (Int.gcd x y) wx wy A B ca cb (((w.alloc (.cells #[.bool false, .slice A wx.length ca] bigT)).alloc (.cells #[.bool false, .slice B wy.length cb] bigT)).alloc (.cells #[.bool false, .slice none 0 0] bigT)) :=
  ⟨hX.var, hY.var, hR.var, hnx.ext hb1, hny.ext hb1, by unfold Fits at *; omega, by unfold Fits at *; omega, by rw [hvx, hvy]; simp [Int.gcd], hb1⟩
 have HI := Lib.hid hI
 clear hI hX hY hR hb1 hnx hny hvx hvy hx hy fx fy
 generalize decide (x < 0) = bx at *
 generalize decide (y < 0) = by_ at *
 generalize Int.gcd x y = G at *
 unfold bigT at *
 go_enter Tryz.func99, Tryz.ntmps99
 go_wp2_with fail
 generalize ((w.alloc (Obj.cells #[Value.bool false, Value.slice A wx.length ca] 69)).alloc (Obj.cells #[Value.bool false, Value.slice B wy.length cb] 69)).alloc (Obj.cells #[Value.bool false, Value.slice none 0 0] 69) = W0 at *
 go_loopg [6] (val wy).toNat (fun r _ wr => ∃ Ax Ay cx cy p q, r = (val q).toNat ∧ GcdI w N G p q Ax Ay cx cy wr)
 case atStart => exact ⟨_, _, _, _, _, _, rfl, HI.out⟩
 case round =>
  clear HI
  obtain ⟨Ax, Ay, cx, cy, p, q, rfl, hG⟩ := hrel
  obtain ⟨wa, rfl⟩ : ∃ wa : World, wa = wr := ⟨_, rfl⟩
  have x0 := hG.vx.c0
  have x1 := hG.vx.c1
  have y0 := hG.vy.c0
  have y1 := hG.vy.c1
  have lx := hG.vr.lt
  have hq0 := val_nonneg hG.ny.ok
  have HS := Lib.hid (sign_any _ _ wa hG.ny.big)
  have HG := Lib.hid hG
  clear hG
  by_cases h0 : val q = 0
  ·have hsg : (val q).sign = 0 := by rw [h0]; rfl
   rw [hsg] at HS
   go_wp2_with fail
   refine HS.out.mono ?_
   rintro e w1 ⟨rfl, hb1⟩
   have v1 := HG.out.vx.below hb1
   have v3 := HG.out.vr.below hb1
   have hg := HG.out.gcd
   rw [h0, Int.gcd_zero_right] at hg
   have hp0 := val_nonneg HG.out.nx.ok
   have hB := (HG.out.nx.ext hb1).big
   have e : val p = (G : Int) := by omega
   rw [e] at hB
   have HQ := Lib.hid (show RetBig w G (.returned (.agg #[.bool false, .slice Ax p.length cx])) ((w1.setCell ⟨w.heap.size + 1 + 1, 0, none⟩ (.bool false)).setCell ⟨w.heap.size + 1 + 1, 1, none⟩ (.slice Ax p.length cx)) from ⟨_, rfl, hB.setVar v3 _ _, ((HG.out.below.trans (hb1.mono HG.out.below.size)).setCell (by simp only; omega) _).setCell (by simp only; omega) _⟩)
   have HR := Lib.hid (v3.set (.bool false) (.slice Ax p.length cx))
   have a0 := v1.c0
   have a1 := v1.c1
   have b0 := v3.c0
   have b1 := v3.c1
   have c0 := v3.f0
   have c1 := v3.f1
   clear v1 v3 hg hB e hb1 HS h0 hsg x0 x1 y0 y1
   go_wp2
   have z0 := HR.out.c0
   have z1 := HR.out.c1
   generalize (w1.setCell ⟨w.heap.size + 1 + 1, 0, none⟩ (.bool false)).setCell ⟨w.heap.size + 1 + 1, 1, none⟩ (.slice Ax p.length cx) = W at *
   exact bodyPost_ret (v := .agg #[.bool false, .slice Ax p.length cx]) (by simp [results, Tryz.results99, go_sem, z0, z1]) rfl HQ.out
  ·have hsg : (val q).sign = 1 := Int.sign_eq_one_of_pos (by omega)
   rw [hsg] at HS
   go_wp2_with fail
   refine HS.out.mono ?_
   rintro e w1 ⟨rfl, hb1⟩
   have hG1 : GcdI w N G p q Ax Ay cx cy w1 := ⟨HG.out.vx.below hb1, HG.out.vy.below hb1, HG.out.vr.below hb1, HG.out.nx.ext hb1, HG.out.ny.ext hb1, HG.out.fx, HG.out.fy, HG.out.gcd, HG.out.below.trans (hb1.mono HG.out.below.size)⟩
   have lp := nm_len hG1.nx.ok hG1.nx.nm (k := N) (by have := hG1.fx; unfold Fits at this; omega)
   have lq := nm_len hG1.ny.ok hG1.ny.nm (k := N) (by have := hG1.fy; unfold Fits at this; omega)
   have HD := Lib.hid (divW_any p q Ax Ay cx cy w1 hG1.nx.reads hG1.ny.reads hG1.nx.ok hG1.ny.ok hG1.nx.nm hG1.ny.nm (by omega) (by omega) (by omega))
   have a0 := hG1.vx.c0
   have a1 := hG1.vx.c1
   have b0 := hG1.vy.c0
   have b1 := hG1.vy.c1
   have HG1 := Lib.hid hG1
   have hqp : 0 < val q := by omega
   clear hG1 HG hb1 HS h0 hsg x0 x1 y0 y1
   go_wp2_with fail
   refine HD.out.mono ?_
   rintro e w2 ⟨Aq, cq, Ar, cr, qq, r, rfl, -, hrr, -, orr, -, vr, ⟨-, lr⟩, hb2⟩
   have HVX := Lib.hid (HG1.out.vx.below hb2)
   have HVY := Lib.hid (HG1.out.vy.below hb2)
   have HVR := Lib.hid (HG1.out.vr.below hb2)
   have HNY := Lib.hid (HG1.out.ny.ext hb2)
   have HB2 := Lib.hid (HG1.out.below.trans (hb2.mono HG1.out.below.size))
   have HRR := Lib.hid hrr
   have HVR2 := Lib.hid vr
   have l2 := HVR.out.lt
   clear HD hb2 hrr vr a0 a1 b0 b1
   go_upto_region 4 with (fail)
   refine wp_region_c (fun w' => w'.cell? ⟨w.heap.size + 1, 0, none⟩ = some (.bool false) ∧ w'.cell? ⟨w.heap.size + 1, 1, none⟩ = some (.slice Ay q.length cy)) 5 (by kernel_rfl) ?_
   refine wpAnyC_take (i := 0) (oi := _) (v := .agg #[.bool false, .slice Ay q.length cy]) rfl (by kernel_rfl) (by kernel_rfl) (by kernel_rfl) (by kernel_rfl) (by kernel_rfl) (by kernel_rfl) (fun _ _ _ h => h) (Or.inl ⟨by rfl, ?_⟩) ⟨HVY.out.drew.c0, HVY.out.drew.c1⟩ ?_
   ·rintro w ⟨s0, s1⟩
    go_simp
   simp only [Act.put, List.setIfInBounds_toArray]
   refine wpAnyC_take (i := 1) (oi := _) (v := .slice Ar r.length cr) rfl (by kernel_rfl) (by kernel_rfl) (by kernel_rfl) (by kernel_rfl) (by kernel_rfl) (by kernel_rfl) (fun _ _ _ h => h) (Or.inl ⟨by rfl, ?_⟩) ⟨HVY.out.drew.c0, HVY.out.drew.c1⟩ ?_
   ·intro w hSw
    go_simp
   simp only [Act.put]
   refine on1 2 fun K hK => ?_
   go_simp
   go_at_call 115
   refine (clone_any r Ar cr _ HRR.out.drew lr).mono ?_
   rintro e w3 ⟨A3, c3, rfl, hr3, ⟨hc3, hm3⟩, hb3⟩
   have HVX3 := Lib.hid (HVX.out.drew.below hb3)
   have HVY3 := Lib.hid (HVY.out.drew.below hb3)
   have HVR3 := Lib.hid (HVR.out.drew.below hb3)
   have HNY3 := Lib.hid (HNY.out.ext (below_undrew hb3))
   have HB3 := Lib.hid (HB2.out.trans ((below_undrew hb3).mono HB2.out.size))
   have HNM := Lib.hid (norm_any false r A3 c3 w3 hr3 hc3 hm3 orr)
   refine hK.out _ _ (fun _ => ⟨HVY3.out.c0, HVY3.out.c1⟩) ?_
   clear hK K hb3 hr3
   refine on1 3 fun K hK => ?_
   go_simp
   go_at_call 91
   refine HNM.out.mono ?_
   rintro e w4 ⟨v4, rfl, hv4, hb4⟩
   obtain ⟨A4, c4, r4, rfl, hn4, hv4'⟩ := hv4.nn
   have hr0 := val_nonneg orr
   have HE4 := Lib.hid (show val r4 = val p % val q by rw [hv4', sgn_abs false hr0]; exact HVR2.out)
   have e4 : sgn false (val r) = val r := rfl
   rw [e4, decide_eq_false (show ¬ val r < 0 by omega)] at *
   have HVX4 := Lib.hid (HVX3.out.below hb4)
   have HVY4 := Lib.hid (HVY3.out.below hb4)
   have HVR4 := Lib.hid (HVR3.out.below hb4)
   have HNY4 := Lib.hid (HNY3.out.ext hb4)
   have HB4 := Lib.hid (HB3.out.trans (hb4.mono HB3.out.size))
   have HN4 := Lib.hid hn4
   refine hK.out _ _ (fun _ => ⟨HVY4.out.c0, HVY4.out.c1⟩) ?_
   clear hK K hb4 hn4 hv4 hv4' e4
   have t1 := HVX4.out.c0
   have t2 := HVX4.out.c1
   have t3 := HVX4.out.f0
   have t4 := HVX4.out.f1
   have hne : w.heap.size ≠ w.heap.size + 1 := by omega
   have e5 := HVY4.out.far hne (.bool false) (.slice Ay q.length cy)
   refine on1 4 fun K hK => ?_
   go_simp
   refine hK.out _ _ (fun _ => ⟨e5.c0, e5.c1⟩) ?_
   clear hK K t1 t2 t3 t4
   have t5 := e5.c0
   have t6 := e5.c1
   have t7 := e5.f0
   have t8 := e5.f1
   refine on1 5 fun K hK => ?_
   go_simp
   refine hK.out _ _ (fun h => absurd h (by decide)) ?_
   clear hK K t5 t6 t7 t8
   refine wpAnyC_done (by kernel_rfl) ?_ _
   have hmod := Int.emod_lt_of_pos (val p) hqp
   have hmod0 := Int.emod_nonneg (val p) (show val q ≠ 0 by omega)
   have HF : Hid (GcdI w N G q r4 Ay A4 cy c4 ((((w4.setCell ⟨w.heap.size, 0, none⟩ (.bool false)).setCell ⟨w.heap.size, 1, none⟩ (.slice Ay q.length cy)).setCell ⟨w.heap.size + 1, 0, none⟩ (.bool false)).setCell ⟨w.heap.size + 1, 1, none⟩ (.slice A4 r4.length c4))) := Lib.hid
    ⟨(HVX4.out.set _ _).far (by omega) _ _, e5.set _ _, (HVR4.out.far (by omega) _ _).far (by omega) _ _, (HNY4.out.setVar HVX4.out _ _).setVar e5 _ _, (HN4.out.setVar HVX4.out _ _).setVar e5 _ _, HG1.out.fy, by rw [HE4.out]; exact HG1.out.fy.mod hqp, by rw [HE4.out, gcd_step (val_nonneg HG1.out.nx.ok) (val_nonneg HG1.out.ny.ok)]; exact HG1.out.gcd, (((HB4.out.setCell (by simp only; omega) _).setCell (by simp only; omega) _).setCell (by simp only; omega) _).setCell (by simp only; omega) _⟩
   have hE4 := HE4.out
   go_wp2
   go_roundg (val r4).toNat
   case measure => omega
   case rel => exact ⟨_, _, _, _, _, _, rfl, HF.out⟩
theorem fits_one (N : Nat) (h : 1 ≤ N) (k : Int) (h0 : -4294967296 < k) (h1 : k < 4294967296) : Fits N k := by
 refine Fits.mono (n := 1) ?_ h
 unfold Fits
 have e : P32 1 = 4294967296 := by decide
 omega
theorem Big.flag {w : World} {b : Bool} {A : Option Addr} {n c : Nat} {z : Int} (h : Big w (.agg #[.bool b, .slice A n c]) z) : b = decide (z < 0) := by
 obtain ⟨A', c', ws, e, _⟩ := h
 injection e with e
 have := congrArg (fun a : Array Value => a[0]?) e
 simpa using this
end Go.Proofs.YtcgfdfdcbamceaaGreatDoor
namespace Go.Proofs.YtcgfdfdcbamceaaGreatDoor
open Go.Lib
def padN : Nat → Nat → List UInt8
 | 0, _ => []
 | n + 1, b => padN n (b / 10) ++ [UInt8.ofNat (48 + b % 10)]
theorem dec_ge {u : Nat} (h : 10 ≤ u) : decDigits u = decDigits (u / 10) ++ [UInt8.ofNat (48 + u % 10)] := by rw [decDigits, dif_neg (by omega)]
theorem dec_join (a : Nat) (ha : 1 ≤ a) : ∀ (n b : Nat), b < 10 ^ n → decDigits (a * 10 ^ n + b) = decDigits a ++ padN n b
 | 0, b, h => by
  have : b = 0 := by simpa using h
  subst this
  simp [padN]
 | n + 1, b, h => by
  have hp : 0 < 10 ^ n := Nat.pow_pos (by decide)
  have e : 10 ^ (n + 1) = 10 * 10 ^ n := by rw [Nat.pow_succ, Nat.mul_comm]
  have h1 : a * 10 ^ (n + 1) = 10 * (a * 10 ^ n) := by rw [e, Nat.mul_left_comm]
  have h2 : 10 ^ n ≤ a * 10 ^ n := Nat.le_mul_of_pos_left _ ha
  rw [h1, dec_ge (by omega), show (10 * (a * 10 ^ n) + b) / 10 = a * 10 ^ n + b / 10 by omega, show (10 * (a * 10 ^ n) + b) % 10 = b % 10 by omega, dec_join a ha n (b / 10) (by omega), padN, List.append_assoc]
theorem padN_zero : ∀ n, padN n 0 = List.replicate n 48
 | 0 => rfl
 | n + 1 => by rw [padN, padN_zero n, List.replicate_succ']; rfl
theorem dec_len_pos (u : Nat) : 1 ≤ (decDigits u).length := by
 rw [decDigits]
 split <;> simp
theorem dec_len_le : ∀ (n b : Nat), b < 10 ^ n → 1 ≤ n → (decDigits b).length ≤ n
 | 0, _, _, h => by omega
 | n + 1, b, h, _ => by
  by_cases hb : b < 10
  ·rw [decDigits, dif_pos hb]; simp
  ·have hn : 1 ≤ n := by
    rcases Nat.eq_zero_or_pos n with h0 | h0
    ·subst h0; simp at h; omega
    ·exact h0
   have e : 10 ^ (n + 1) = 10 * 10 ^ n := by rw [Nat.pow_succ, Nat.mul_comm]
   rw [dec_ge (by omega), List.length_append]
   have := dec_len_le n (b / 10) (by omega) hn
   simp
   omega
theorem padN_eq : ∀ (n b : Nat), b < 10 ^ n → 1 ≤ n → padN n b = List.replicate (n - (decDigits b).length) 48 ++ decDigits b
 | 0, _, _, h => by omega
 | n + 1, b, h, _ => by
  by_cases hb : b < 10
  ·have e : decDigits b = [UInt8.ofNat (48 + b)] := by rw [decDigits, dif_pos hb]
   rw [padN, show b / 10 = 0 by omega, padN_zero, e, show b % 10 = b by omega]
   simp
  ·have hn : 1 ≤ n := by
    rcases Nat.eq_zero_or_pos n with h0 | h0
    ·subst h0; simp at h; omega
    ·exact h0
   have e : 10 ^ (n + 1) = 10 * 10 ^ n := by rw [Nat.pow_succ, Nat.mul_comm]
   rw [padN, padN_eq n (b / 10) (by omega) hn, dec_ge (show 10 ≤ b by omega), List.append_assoc]
   congr 2
   simp
def valB : List Int → Int
 | [] => 0
 | p :: r => p + 1000000000 * valB r
def OkB (l : List Int) : Prop := ∀ x ∈ l, 0 ≤ x ∧ x < 1000000000
theorem OkB.nil : OkB [] := fun _ h => by simp at h
theorem OkB.snoc {l : List Int} (h : OkB l) {x : Int} (hx : 0 ≤ x ∧ x < 1000000000) : OkB (l ++ [x]) := fun y hy => by
 rcases List.mem_append.1 hy with h1 | h1
 ·exact h y h1
 ·simp at h1; subst h1; exact hx
theorem OkB.at_ {l : List Int} (h : OkB l) (i : Nat) : 0 ≤ l.getD i 0 ∧ l.getD i 0 < 1000000000 := by
 rw [List.getD_eq_getElem?_getD]
 by_cases hi : i < l.length
 ·rw [List.getElem?_eq_getElem hi]; exact h _ (List.getElem_mem hi)
 ·rw [List.getElem?_eq_none (by omega)]; exact ⟨by decide, by decide⟩
theorem valB_nonneg : ∀ {l : List Int}, OkB l → 0 ≤ valB l
 | [], _ => Int.le_refl _
 | x :: l, h => by
  have h1 := valB_nonneg (l := l) fun y hy => h y (List.mem_cons_of_mem _ hy)
  have h2 := h x List.mem_cons_self
  rw [valB]; omega
theorem valB_snoc : ∀ (l : List Int) (x : Int), valB (l ++ [x]) = valB l + 1000000000 ^ l.length * x
 | [], x => by simp [valB]
 | y :: l, x => by
  rw [List.cons_append, valB, valB, valB_snoc l x, List.length_cons, Int.pow_succ]
  grind
def txt : List Int → List UInt8
 | [] => []
 | [p] => decDigits p.toNat
 | p :: q :: r => txt (q :: r) ++ (List.replicate (9 - (decDigits p.toNat).length) 48 ++ decDigits p.toNat)
theorem txt_pos : ∀ {l : List Int}, OkB l → (hne : l ≠ []) → l.getLast hne ≠ 0 → 1 ≤ valB l
 | [x], h, _, hl => by
  have := h x List.mem_cons_self
  simp at hl
  simp [valB]
  omega
 | x :: y :: r, h, _, hl => by
  have h1 := txt_pos (l := y :: r) (fun z hz => h z (List.mem_cons_of_mem _ hz)) (by simp) (by simpa using hl)
  have h2 := h x List.mem_cons_self
  rw [valB]
  omega
theorem txt_eq : ∀ {l : List Int}, OkB l → (hne : l ≠ []) → l.getLast hne ≠ 0 → txt l = decDigits (valB l).toNat
 | [x], _, _, _ => by simp [txt, valB]
 | x :: y :: r, h, _, hl => by
  have hr : OkB (y :: r) := fun z hz => h z (List.mem_cons_of_mem _ hz)
  have h1 := txt_pos hr (by simp) (by simpa using hl)
  have h2 := h x List.mem_cons_self
  have ih := txt_eq hr (by simp) (by simpa using hl)
  have e : (valB (x :: y :: r)).toNat = (valB (y :: r)).toNat * 10 ^ 9 + x.toNat := by rw [valB]; omega
  rw [e, dec_join _ (by omega) 9 _ (by omega), txt, ih, padN_eq 9 _ (by omega) (by omega)]
theorem txt_drop {l : List Int} {i : Nat} (h : i + 1 < l.length) : txt (l.drop i) = txt (l.drop (i + 1)) ++ (List.replicate (9 - (decDigits (l.getD i 0).toNat).length) 48 ++ decDigits (l.getD i 0).toNat) := by
 have e1 : l.drop i = l.getD i 0 :: l.drop (i + 1) := by rw [List.drop_eq_getElem_cons (by omega), List.getD_eq_getElem?_getD, List.getElem?_eq_getElem (by omega)]; rfl
 have e2 : l.drop (i + 1) = l.getD (i + 1) 0 :: l.drop (i + 2) := by rw [List.drop_eq_getElem_cons h, List.getD_eq_getElem?_getD, List.getElem?_eq_getElem h]; rfl
 rw [e1, e2, txt]
theorem txt_last {l : List Int} {i : Nat} (h : i + 1 = l.length) : txt (l.drop i) = decDigits (l.getD i 0).toNat := by
 have e1 : l.drop i = l.getD i 0 :: l.drop (i + 1) := by rw [List.drop_eq_getElem_cons (by omega), List.getD_eq_getElem?_getD, List.getElem?_eq_getElem (by omega)]; rfl
 rw [e1, List.drop_of_length_le (by omega), txt]
theorem dec_len_lt (u n : Nat) (hn : 1 ≤ n) : (decDigits u).length ≤ n ↔ u < 10 ^ n := by
 refine ⟨fun h => ?_, fun h => dec_len_le n u h hn⟩
 have h1 := lt_pow_nDigits u
 rw [decDigits_length] at h
 exact Nat.lt_of_lt_of_le h1 (Nat.pow_le_pow_right (by decide) h)
end Go.Proofs.YtcgfdfdcbamceaaGreatDoor
namespace Go.Proofs.YtcgfdfdcbamceaaGreatDoor
open Go.RowKit
theorem run_append_rowG {P : Program} (w : World) (base : Nat) (t ty e : TypeId) (i : TypeInfo) (z : Value) (sz bytes : Nat) (ht : P.underlying t = some (.slice e)) (hi : P.info? e = some i) (hz : i.zero = some z)
  (hsize : i.size = sz) (hby : i.bytes = bytes) (hzs : z.cells.size = sz) (hsz : 0 < sz)
  (v : Value) (n : Nat) (xs : List Value) (hr : Row w base e sz v n xs)
  (B : Nat) (A : Option Addr) (m c : Nat) (news : List Value) (hs : Reads w B sz A m news) (h1 : ∀ u ∈ news, u.oneCell' = true)
  (h63 : n + m ≤ maxLen) (hbytes : (n + m) * bytes ≤ 140737488355328) (hbase : base ≤ w.heap.size) :
  ∃ v' w', (Builtin.append_ #[t, t] ty #[v, .slice A m c]).run P w = .ok v' w' ∧ Row w' base e sz v' (n + m) (xs ++ news) ∧ w.grownBy w' v.ownBlock := by
 rcases A with _ | ad
 ·have hm : m = 0 := by
   rcases Nat.eq_zero_or_pos m with h0 | h0
   ·exact h0
   ·obtain ⟨b, off, h, _⟩ := hs.2 h0
    cases h
  subst hm
  have hn : news = [] := List.eq_nil_of_length_eq_zero (by simpa using hs.1)
  subst hn
  exact ⟨v, w, run_append_nothing w base t ty e i ht hi sz n v xs hr c, by simpa using hr, World.grownBy.refl w _⟩
 ·have hcells : ∀ j u, news[j]? = some u → w.cell? (ad.add j) = some u := by
   intro j u hu
   rcases Nat.eq_zero_or_pos m with h0 | h0
   ·subst h0
    have hn : news = [] := List.eq_nil_of_length_eq_zero (by simpa using hs.1)
    subst hn
    simp at hu
   ·obtain ⟨b, off, h, _, hc⟩ := hs.2 h0
    injection h with h
    subst h
    rw [Addr.add_lit]
    exact hc j u hu
  rcases hr.2 with ⟨rfl, rfl⟩ | ⟨g, off, cap, cur, rfl, hbg, hg, hnc, hcm, hcs, htake⟩
  ·have hx : xs = [] := List.eq_nil_of_length_eq_zero (by simpa using hr.1)
   subst hx
   obtain ⟨v', w', hrun, h2, h3, _⟩ := run_append_own (P := P) w base t ty e i z sz bytes ht hi hz hsize hby hzs hsz (.slice none 0 0) 0 [] (World.ownsRow_nil w _ e sz) ad m c news hs.1 hcells h1 h63 hbytes hbase
   exact ⟨v', w', hrun, Row.of_own h2, h3⟩
  ·by_cases hroom : n + m ≤ cap
   ·subst hsize
    have hle : (n + m) * i.size ≤ cap * i.size := Nat.mul_le_mul_right _ hroom
    rw [Nat.add_mul] at hle
    have hl := hs.1
    have hfit : off + n * i.size + news.length ≤ cur.size := by omega
    refine ⟨_, _, run_append_room_off w t ty e i ht hi g off n cap cur hg ad m c news hs.1 hcells h1 hroom hfit, ⟨by rw [List.length_append, hr.1, hl, Nat.add_mul], .inr ⟨g, off, cap, _, rfl, hbg, setRow_heap w g cur _ e _ hg, hroom, hcm, ?_, ?_⟩⟩, ?_⟩
    ·simp only [List.size_toArray, List.length_append, List.length_take, List.length_drop, Array.length_toList]
     omega
    ·simp only
     rw [Nat.add_mul, ← hl]
     have := room_list (m := news.length) htake hr.1 rfl (by simpa using hfit)
     exact this
    ·exact ⟨rfl, rfl, rfl, by simp [World.setRow], fun k _ hk => setRow_other w g k _ (fun e => hk (by simp [Value.ownBlock, e]))⟩
   ·have holds : ∀ j u, xs[j]? = some u → w.cell? ((⟨g, off, none⟩ : Addr).add j) = some u := by
     intro j u hu
     rw [Addr.add_lit, hg.cell]
     rw [← htake, List.getElem?_take] at hu
     split at hu
     ·simpa using hu
     ·cases hu
    obtain ⟨v', w', hrun, h2, h3⟩ := run_append_arg_grows (P := P) w t ty e i z sz bytes ht hi hz hsize hby hzs hsz ⟨g, off, none⟩ n cap xs hr.1 holds ad m c news hs.1 hcells (by omega) h63 hbytes
    exact ⟨v', w', hrun, (Row.of_own h2).less hbase, ⟨h3.os, h3.tape, h3.output, h3.size, fun k hk _ => h3.block k hk (by simp)⟩⟩
theorem wpList_append_rowG {P : Program} {w : World} {ops : Array Oper} {rest : List Oper} {o : Oper} {a : Act} {Q : Exit → Act → World → Prop} (hgd : o.guard = none) (s x : Operand) (t : TypeId)
  (ho : o.op = .call { callee := .builtin .append, args := #[s, x], argTypes := #[t, t] })
  (base : Nat) (e : TypeId) (i : TypeInfo) (z : Value) (sz bytes : Nat) (ht : P.underlying t = some (.slice e)) (hi : P.info? e = some i) (hz : i.zero = some z)
  (hsize : i.size = sz) (hby : i.bytes = bytes) (hzs : z.cells.size = sz) (hsz : 0 < sz)
  (v : Value) (n : Nat) (xs : List Value) (hsv : a.eval s = v) (hr : Row w base e sz v n xs)
  (B : Nat) (A : Option Addr) (m c : Nat) (news : List Value) (hx : a.eval x = .slice A m c) (hs : Reads w B sz A m news) (h1 : ∀ u ∈ news, u.oneCell' = true)
  (h63 : n + m ≤ maxLen) (hbytes : (n + m) * bytes ≤ 140737488355328) (hbase : base ≤ w.heap.size)
  (h : ∀ v' w', Row w' base e sz v' (n + m) (xs ++ news) → w.grownBy w' v.ownBlock → wpList P ops Q rest (a.put o.dst v') w') : wpList P ops Q (o :: rest) a w := by
 refine wpList_plain hgd fun K hK => ?_
 obtain ⟨v', w', hrun, h2, h3⟩ := run_append_rowG (P := P) w base t o.type e i z sz bytes ht hi hz hsize hby hzs hsz v n xs hr B A m c news hs h1 h63 hbytes hbase
 unfold Oper.wp execOp
 simp only [ho, resolve, invoke, builtin, Sem.run_bind, Sem.run_pure, Result.andThen_ok, List.map_toArray, List.map_cons, List.map_nil, hsv, hx, hrun]
 exact hK _ _ (h v' w' h2 h3)
section
variable {w w' : World} {base : Nat} {e e' : TypeId} {sz sz' : Nat} {v u : Value} {n m : Nat} {xs ys : List Value}
theorem Row.belowG (hu : Row w base e sz u m ys) (hg : w.grownBy w' u.ownBlock) (hbase : base ≤ w.heap.size) : Below base w w' := by
 refine (Below.refl base w).grown hg hbase ?_
 intro k hk
 rcases hu.2 with ⟨rfl, _⟩ | ⟨g', off', cap', cur', rfl, hb, _⟩
 ·simp [Value.ownBlock] at hk
 ·simp [Value.ownBlock] at hk; omega
end
end Go.Proofs.YtcgfdfdcbamceaaGreatDoor
