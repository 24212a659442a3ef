/- large.Ratio. -/
import Derived.Test.YtcgfdfdcbamceaaGreatDoorXAR
import Derived.Test.YtcgfdfdcbamceaaGreatDoorXAP
import Derived.Deep.DeepCutAuto
namespace Go.Proofs.YtcgfdfdcbamceaaGreatDoor
open Go.RowKit
structure RtI (w : World) (N : Nat) (q : Rat) (n d : Int) (A : Option Addr) (l c : Nat) (B : Option Addr) (m e : Nat) (wx : World) : Prop where
 vn : Var wx w.heap.size (.bool (decide (n < 0))) (.slice A l c)
 vd : Var wx (w.heap.size + 1) (.bool false) (.slice B m e)
 vr : Vr wx (w.heap.size + 1 + 1) (.bool false) (.slice none 0 0) (.bool false) (.slice none 0 0)
 bn : Big wx (.agg #[.bool (decide (n < 0)), .slice A l c]) n
 bd : Big wx (.agg #[.bool false, .slice B m e]) d
 pos : 0 < d
 eq : Rat.divInt n d = q
 fn : Fits N n
 fd : Fits N d
 below : Below w.heap.size w wx
theorem RtI.ext {w : World} {N : Nat} {q : Rat} {n d : Int} {A : Option Addr} {l c : Nat} {B : Option Addr} {m e : Nat} {wx w2 : World} (h : RtI w N q n d A l c B m e wx) (hb : Below wx.heap.size wx w2) : RtI w N q n d A l c B m e w2 :=
 ⟨h.vn.below hb, h.vd.below hb, h.vr.below hb, h.bn.ext hb, h.bd.ext hb, h.pos, h.eq, h.fn, h.fd, h.below.trans (hb.mono h.below.size)⟩
theorem RtI.done {w : World} {N : Nat} {q : Rat} {n d : Int} {A : Option Addr} {l c : Nat} {B : Option Addr} {m e : Nat} {wx : World} (h : RtI w N q n d A l c B m e wx) (hg : Int.gcd d n = 1) : Rt wx (.agg #[.bool (decide (n < 0)), .slice A l c, .bool false, .slice B m e]) q := by
 obtain ⟨h1, h2⟩ := rat_of h.pos hg
 rw [h.eq] at h1 h2
 have b1 := h.bn
 have b2 := h.bd
 rw [← h1] at b1
 rw [← h2] at b2
 have e1 : decide (q.num < 0) = decide (n < 0) := by rw [h1]
 rw [e1] at b1
 exact Rt.mk b1 b2
theorem word_one {ws : List Int} (ho : Ok ws) (hn : Nm ws) {d : Int} (hv : val ws = d) (_hd : 0 < d) : d = 1 ↔ ws.length = 1 ∧ ws.getD 0 0 = 1 := by
 constructor
 ·intro h
  have h1 : ws.length ≤ 1 := nm_len ho hn (by rw [hv, h]; decide)
  have h2 : ws.length = 1 := by
   cases ws with
   | nil => simp [val] at hv; omega
   | cons x r => simp at h1; simp [h1]
  refine ⟨h2, ?_⟩
  match ws, h2 with
  | [x], _ => simp [val] at hv; simp; omega
 ·rintro ⟨h1, h2⟩
  match ws, h1 with
  | [x], _ => simp [val] at hv; simp at h2; omega
theorem Big.abs {w : World} {b : Bool} {A : Option Addr} {l c : Nat} {z : Int} (h : Big w (.agg #[.bool b, .slice A l c]) z) : Big w (.agg #[.bool false, .slice A l c]) (z.natAbs : Int) := by
 obtain ⟨A', c', ws, e, hr, hc, ho, hn, hv⟩ := h
 injection e with e
 have e1 := congrArg (fun a : Array Value => a[1]?) e
 simp at e1
 obtain ⟨rfl, rfl, rfl⟩ := e1
 exact ⟨A, c, ws, by rw [decide_eq_false (show ¬ ((z.natAbs : Int) < 0) by omega)], hr, hc, ho, hn, by rw [hv]; omega⟩
theorem reduce {n d : Int} (hd : 0 < d) : (Rat.divInt n d).num = sgn (decide (n < 0)) ((n.natAbs / Int.gcd n d : Nat) : Int) ∧ ((Rat.divInt n d).den : Int) = d / (Int.gcd n d : Int) := by
 have hg : Int.gcd n d ≠ 0 := fun h => by have := (Int.gcd_eq_zero_iff.1 h).2; omega
 rw [Rat.num_divInt, Rat.den_divInt, Int.sign_eq_one_of_pos hd, if_neg (by omega), Int.one_mul, Int.gcd_comm d n]
 constructor
 ·obtain ⟨k, hk⟩ := Int.gcd_dvd_left (a := n) (b := d)
  have hgp : (0 : Int) < (Int.gcd n d : Int) := by omega
  generalize Int.gcd n d = g at *
  rw [hk, Int.mul_ediv_cancel_left _ (by omega), Int.natAbs_mul, Int.natAbs_natCast, Nat.mul_div_cancel_left _ (by omega)]
  by_cases hk0 : k < 0
  ·rw [decide_eq_true (Int.mul_neg_of_pos_of_neg hgp hk0)]
   simp only [sgn, if_true]; omega
  ·rw [decide_eq_false (Int.not_lt.2 (Int.mul_nonneg (by omega) (by omega)))]
   simp [sgn]; omega
 ·rw [Int.natCast_ediv]; congr 1; omega
theorem hold_neg {w' : World} {a b : Nat} {x0 x1 y0 y1 : Value} (h : Var w' a x0 x1) (k : Var w' b y0 y1) : w'.cell? ⟨a, 0, none⟩ = some x0 ∧ w'.cell? ⟨a, 1, none⟩ = some x1 ∧ w'.cell? ⟨b, 0, none⟩ = some y0 ∧ w'.cell? ⟨b, 1, none⟩ = some y1 := ⟨h.c0, h.c1, k.c0, k.c1⟩
theorem boxesR (w : World) (a0 a1 b0 b1 : Value) : Var (((w.alloc (.cells #[a0, a1] bigT)).alloc (.cells #[b0, b1] bigT)).alloc z4) w.heap.size a0 a1 ∧ Var (((w.alloc (.cells #[a0, a1] bigT)).alloc (.cells #[b0, b1] bigT)).alloc z4) (w.heap.size + 1) b0 b1 ∧
  Vr (((w.alloc (.cells #[a0, a1] bigT)).alloc (.cells #[b0, b1] bigT)).alloc z4) (w.heap.size + 1 + 1) (.bool false) (.slice none 0 0) (.bool false) (.slice none 0 0) ∧ Below w.heap.size w (((w.alloc (.cells #[a0, a1] bigT)).alloc (.cells #[b0, b1] bigT)).alloc z4) := by
 have h1 := (Blk.new w bigT #[a0, a1]).var
 have h2 := (Blk.new (w.alloc (.cells #[a0, a1] bigT)) bigT #[b0, b1]).var
 rw [World.size_alloc w] at h2
 have h3 := (Blk.new ((w.alloc (.cells #[a0, a1] bigT)).alloc (.cells #[b0, b1] bigT)) ratT #[.bool false, .slice none 0 0, .bool false, .slice none 0 0]).vr
 rw [World.size_alloc _, World.size_alloc w] at h3
 exact ⟨(h1.alloc _).alloc _, h2.alloc _, h3, (((Below.refl _ _).alloc (Nat.le_refl _) _).alloc (by simp) _).alloc (by simp; omega) _⟩
set_option maxRecDepth 100000 in
set_option maxHeartbeats 4000000 in
theorem ratio_any (u v : Value) (n d : Int) (w : World) (hu : Big w u n) (hv : Big w v d) (hd : d ≠ 0) {N : Nat} (hN : N ≤ 300000000) (fn : Fits N n) (fd : Fits N d) : Calls Tryz.prog 75 #[u, v] w (RetRt w (Rat.divInt n d)) := by
 obtain ⟨A, l, c, rfl⟩ := hu.form
 obtain ⟨B, m, e, rfl⟩ := hv.form
 obtain ⟨bn, hbn⟩ : ∃ b, decide (n < 0) = b := ⟨_, rfl⟩
 obtain ⟨bd, hbd⟩ : ∃ b, decide (d < 0) = b := ⟨_, rfl⟩
 rw [hbn] at hu ⊢
 rw [hbd] at hv ⊢
 have HBN := Lib.hid hbn
 clear hbn
 obtain ⟨vn, vd, vr, hb⟩ := boxesR w (.bool bn) (.slice A l c) (.bool bd) (.slice B m e)
 have VN := Lib.hid vn
 have VD := Lib.hid vd
 have VRR := Lib.hid vr
 have HB := Lib.hid hb
 have BN := Lib.hid (hu.ext hb)
 have BD := Lib.hid (hv.ext hb)
 have FN := Lib.hid fn
 have FD := Lib.hid fd
 clear vn vd vr hb hu hv fn fd
 obtain ⟨q, hq⟩ : ∃ q, Rat.divInt n d = q := ⟨_, rfl⟩
 rw [hq]
 have HQ := Lib.hid hq
 clear hq
 unfold z4 ratT bigT at *
 go_enter Tryz.func75, Tryz.ntmps75
 go_upto_if 8 with fail
 generalize hW0 : ((w.alloc (Obj.cells #[Value.bool bn, Value.slice A l c] 69)).alloc (Obj.cells #[Value.bool bd, Value.slice B m e] 69)).alloc (Obj.cells #[Value.bool false, Value.slice none 0 0, Value.bool false, Value.slice none 0 0] 71) = W0 at *
 clear hW0
 go_cut [1] (fun _ wx => ∃ n' d' A l c B m e, RtI w N q n' d' A l c B m e wx)
 case first =>
  by_cases hneg : d < 0
  ·obtain rfl : bd = true := by rw [← hbd]; exact decide_eq_true hneg
   clear hbd
   have VND := Lib.hid VN.out.drew
   have VDD := Lib.hid VD.out.drew
   have BND := Lib.hid BN.out.drew
   have BDD := Lib.hid BD.out.drew
   have HBD := Lib.hid HB.out.drew
   have VRD := Lib.hid VRR.out.drew
   go_upto_region 2 with (fail)
   refine wp_region_c (fun w' => w'.cell? ⟨w.heap.size, 0, none⟩ = some (.bool bn) ∧ w'.cell? ⟨w.heap.size, 1, none⟩ = some (.slice A l c) ∧ w'.cell? ⟨w.heap.size + 1, 0, none⟩ = some (.bool true) ∧ w'.cell? ⟨w.heap.size + 1, 1, none⟩ = some (.slice B m e)) 4 (by kernel_rfl) ?_
   refine tkS (hold_neg VND.out VDD.out) fun hSS => ?_
   refine tq 0 (.agg #[.bool bn, .slice A l c]) rfl ?_ hSS ?_
   ·rintro w ⟨s0, s1, s2, s3⟩
    go_simp
   try simp only [Act.put, List.setIfInBounds_toArray]
   refine tq 2 (.agg #[.bool true, .slice B m e]) rfl ?_ hSS ?_
   ·rintro w ⟨s0, s1, s2, s3⟩
    go_simp
   try simp only [Act.put]
   refine on1 1 fun K hK => ?_
   go_simp
   go_at_call 83
   refine (neg_any _ n _ BND.out).mono ?_
   rintro e1 w1 ⟨v1, rfl, hv, hb⟩
   obtain ⟨nb, A1, l1, c1, rfl⟩ := hv.ofWords
   have HNB := Lib.hid hv.flag
   have HB1 := Lib.hid (HBD.out.trans (hb.mono HBD.out.size))
   have VN1 := Lib.hid (VND.out.below hb)
   have VD1 := Lib.hid (VDD.out.below hb)
   have VR1 := Lib.hid (VRD.out.below hb)
   have BD1 := Lib.hid (BDD.out.ext hb)
   have HV1 := Lib.hid hv
   refine hK.out _ _ (fun _ => hold_neg VN1.out VD1.out) ?_
   clear hK K hb hv
   try simp only [Act.put, putA, putZ, putC]
   refine on1 3 fun K hK => ?_
   go_simp
   go_at_call 83
   refine (neg_any _ d _ BD1.out).mono ?_
   rintro e2 w2 ⟨v2, rfl, hv, hb⟩
   obtain ⟨A2, l2, c2, rfl⟩ := hv.form
   have ed2 : decide (-d < 0) = false := decide_eq_false (by omega)
   rw [ed2] at hv ⊢
   have HB2 := Lib.hid (HB1.out.trans (hb.mono HB1.out.size))
   have VN2 := Lib.hid (VN1.out.below hb)
   have VD2 := Lib.hid (VD1.out.below hb)
   have VR2 := Lib.hid (VR1.out.below hb)
   have BN2 := Lib.hid (HV1.out.ext hb)
   have BD2 := Lib.hid hv
   refine hK.out _ _ (fun _ => hold_neg VN2.out VD2.out) ?_
   clear hK K hb hv
   try simp only [Act.put, putA, putZ, putC]
   have VD3 := VD2.out.far (g' := w.heap.size) (by omega) (.bool nb) (.slice A1 l1 c1)
   have HI : Hid (RtI w N q (-n) (-d) A1 l1 c1 A2 l2 c2 ((((w2.setCell ⟨w.heap.size, 0, none⟩ (.bool nb)).setCell ⟨w.heap.size, 1, none⟩ (.slice A1 l1 c1)).setCell ⟨w.heap.size + 1, 0, none⟩ (.bool false)).setCell ⟨w.heap.size + 1, 1, none⟩ (.slice A2 l2 c2))) := Lib.hid
    ⟨by rw [← HNB.out]; exact (VN2.out.set _ _).far (by omega) _ _, VD3.set _ _, (VR2.out.far2 (by omega) _ _).far2 (by omega) _ _, by rw [← HNB.out]; exact (BN2.out.setVar VN2.out _ _).setVar VD3 _ _, (BD2.out.setVar VN2.out _ _).setVar VD3 _ _, by omega, by rw [← HQ.out, Rat.neg_divInt_neg], FN.out.neg, FD.out.neg,
     ((((HB2.out.setCell (p := ⟨w.heap.size, 0, none⟩) (Nat.le_refl _) _).setCell (p := ⟨w.heap.size, 1, none⟩) (Nat.le_refl _) _).setCell (p := ⟨w.heap.size + 1, 0, none⟩) (Nat.le_succ _) _).setCell (p := ⟨w.heap.size + 1, 1, none⟩) (Nat.le_succ _) _)⟩
   have r0 := VN2.out.c0
   have r1 := VN2.out.c1
   have r2 := VN2.out.f0
   have r3 := VN2.out.f1
   refine on1 4 fun K hK => ?_
   go_simp
   refine hK.out _ _ (fun h => absurd h (by decide)) ?_
   clear hK K r0 r1 r2 r3
   have r0 := VD3.c0
   have r1 := VD3.c1
   have r2 := VD3.f0
   have r3 := VD3.f1
   refine on1 5 fun K hK => ?_
   go_simp
   refine hK.out _ _ (fun h => absurd h (by decide)) ?_
   clear hK K r0 r1 r2 r3 VD3
   refine wpAnyC_done (by kernel_rfl) ?_ _
   go_wp2_with fail
   go_meet
   exact ⟨_, _, _, _, _, _, _, _, HI.out⟩
  ·obtain rfl : bd = false := by rw [← hbd]; exact decide_eq_false hneg
   clear hbd
   have HI : Hid (RtI w N q n d A l c B m e W0) := Lib.hid ⟨by rw [HBN.out]; exact VN.out, VD.out, VRR.out, by rw [HBN.out]; exact BN.out, BD.out, by omega, HQ.out, FN.out, FD.out, HB.out⟩
   clear VN VD VRR BN BD HQ FN FD HB
   go_wp2_with fail
   go_meet
   exact ⟨_, _, _, _, _, _, _, _, HI.out⟩
 case rest =>
  clear VN VD VRR BN BD HQ FN FD HB HBN hbd
  clear hd
  obtain ⟨n, d, A, l, c, B, m, e, hI⟩ := hcut
  obtain ⟨wd, Bm, hwd, hvd⟩ : ∃ wd, ∃ _ : wd.length = m, Nn wc B e wd ∧ val wd = d := by
   obtain ⟨B', e', wd, h1, h2, h3⟩ := hI.bd.nn
   injection h1 with h1
   have h4 := congrArg (fun a : Array Value => a[1]?) h1
   simp at h4
   obtain ⟨rfl, rfl, rfl⟩ := h4
   exact ⟨wd, rfl, h2, by have := hI.pos; omega⟩
  subst Bm
  have HW1 := Lib.hid (word_one hwd.ok hwd.nm hvd hI.pos)
  have d0 := hI.vd.c0
  have d1 := hI.vd.c1
  have n0 := hI.vn.c0
  have n1 := hI.vn.c1
  have HI := Lib.hid hI
  have HWD := Lib.hid hwd
  clear hI hwd hvd
  obtain ⟨nb, hnb⟩ : ∃ b, decide (n < 0) = b := ⟨_, rfl⟩
  rw [hnb] at n0
  have HNB := Lib.hid hnb
  clear hnb
  go_upto_region 3 with fail
  go_cut [23] (fun t wx => t = .bool (decide (d = 1)) ∧ wx = wc)
  case first =>
   by_cases h1 : wd.length = 1
   ·obtain ⟨b0, o0, rfl, -, hc⟩ := HWD.out.reads.word (k := 0) (by omega)
    have t1 : ((wd.length : Int) == 1) = true := beq_iff_eq.2 (by omega)
    obtain ⟨x, hx⟩ : ∃ x, wd.getD 0 0 = x := ⟨_, rfl⟩
    rw [hx, Nat.add_zero] at hc
    by_cases h2 : x = 1
    ·have HR := Lib.hid (show decide (d = 1) = true from decide_eq_true (HW1.out.2 ⟨h1, by rw [hx, h2]⟩))
     have t2 : (x == 1) = true := beq_iff_eq.2 h2
     clear HW1 hx
     go_wp2_with fail
     go_meet
     exact ⟨by rw [HR.out], rfl⟩
    ·have HR := Lib.hid (show decide (d = 1) = false from decide_eq_false fun k => h2 (by rw [← hx]; exact (HW1.out.1 k).2))
     have t2 : (x == 1) = false := beq_eq_false_iff_ne.2 h2
     clear HW1 hx
     go_wp2_with fail
     go_meet
     exact ⟨by rw [HR.out], rfl⟩
   ·have t1 : ((wd.length : Int) == 1) = false := beq_eq_false_iff_ne.2 (by omega)
    have HR := Lib.hid (show decide (d = 1) = false from decide_eq_false fun k => h1 (HW1.out.1 k).1)
    clear HW1
    go_wp2_with fail
    go_meet
    exact ⟨by rw [HR.out], rfl⟩
  case rest =>
   obtain ⟨rfl, rfl⟩ := hcut
   clear HW1 HWD
   by_cases h1 : d = 1
   ·have td : decide (d = 1) = true := decide_eq_true h1
    rw [td]
    subst h1
    clear td
    have HR := ret_rat_set (g := w.heap.size + 1 + 1) HI.out.below (by omega) HI.out.vr (HI.out.done (by rw [Int.gcd_comm, Int.gcd_one]))
    rw [HNB.out] at HR
    have HR := Lib.hid HR
    have HZ := Lib.hid (HI.out.vr.set (.bool nb) (.slice A l c) (.bool false) (.slice B wd.length e))
    unfold set4 at HR HZ
    have r0 := HI.out.vr.c0
    have r1 := HI.out.vr.c1
    have r2 := HI.out.vr.c2
    have r3 := HI.out.vr.c3
    have q0 := HI.out.vr.f0
    have q1 := HI.out.vr.f1
    have q2 := HI.out.vr.f2
    have q3 := HI.out.vr.f3
    clear HI
    go_wp2
    have z0 := HZ.out.c0
    have z1 := HZ.out.c1
    have z2 := HZ.out.c2
    have z3 := HZ.out.c3
    generalize ((((wc.setCell ⟨w.heap.size + 1 + 1, 0, none⟩ (.bool nb)).setCell ⟨w.heap.size + 1 + 1, 1, none⟩ (.slice A l c)).setCell ⟨w.heap.size + 1 + 1, 2, none⟩ (.bool false)).setCell ⟨w.heap.size + 1 + 1, 3, none⟩ (.slice B wd.length e)) = W at *
    exact bodyPost_ret (v := .agg #[.bool nb, .slice A l c, .bool false, .slice B wd.length e]) (by simp [results, Tryz.results75, go_sem, z0, z1, z2, z3]) rfl HR.out
   ·have td : decide (d = 1) = false := decide_eq_false h1
    rw [td]
    clear h1 td
    go_wp2_with fail
    have hbn := HI.out.bn
    rw [HNB.out] at hbn
    refine (gcd_any _ _ n d _ hbn HI.out.bd (N := N) (by omega) HI.out.fn HI.out.fd).mono ?_
    clear hbn n0 n1 d0 d1
    rintro e1 w1 ⟨v1, rfl, hg, hb⟩
    obtain ⟨Ag, cg, wg, rfl, hwg, hvg⟩ := hg.nn
    have hg0 : decide (((Int.gcd n d : Nat) : Int) < 0) = false := decide_eq_false (by omega)
    rw [hg0] at hg ⊢
    rw [Int.natAbs_natCast] at hvg
    have hb2 := hb.alloc hb.size (.cells #[.bool false, .slice Ag wg.length cg] bigT)
    have HI2 := Lib.hid (HI.out.ext hb2)
    have VG := Lib.hid (Blk.new w1 bigT #[.bool false, .slice Ag wg.length cg]).var
    have BG := Lib.hid (hg.alloc (.cells #[.bool false, .slice Ag wg.length cg] bigT))
    have HWG := Lib.hid (hwg.ext ((Below.refl _ _).alloc (Nat.le_refl _) (.cells #[.bool false, .slice Ag wg.length cg] bigT)))
    have hgp : 0 < ((Int.gcd n d : Nat) : Int) := by
     have : Int.gcd n d ≠ 0 := fun h => by have := (Int.gcd_eq_zero_iff.1 h).2; have := HI.out.pos; omega
     omega
    have HW1 := Lib.hid (word_one hwg.ok hwg.nm hvg hgp)
    have hgx : w.heap.size + 1 + 1 < w1.heap.size := by have := HI.out.vr.lt; have := hb.size; omega
    clear hb hb2 hg hwg hvg HI hg0
    obtain ⟨g, hgg⟩ : ∃ g, Int.gcd n d = g := ⟨_, rfl⟩
    rw [hgg] at HW1 BG hgp
    have HGG := Lib.hid hgg
    clear hgg
    unfold bigT at *
    have g0 := VG.out.c0
    have g1 := VG.out.c1
    go_upto_region 6 with fail
    generalize w1.alloc (Obj.cells #[Value.bool false, Value.slice Ag wg.length cg] 69) = wy at *
    generalize w1.heap.size = gg at *
    go_cut [40] (fun t wx => t = .bool (decide (g = 1)) ∧ wx = wy)
    case first =>
     by_cases h1 : wg.length = 1
     ·obtain ⟨b0, o0, rfl, -, hc⟩ := HWG.out.reads.word (k := 0) (by omega)
      have t1 : ((wg.length : Int) == 1) = true := beq_iff_eq.2 (by omega)
      obtain ⟨x, hx⟩ : ∃ x, wg.getD 0 0 = x := ⟨_, rfl⟩
      rw [hx, Nat.add_zero] at hc
      by_cases h2 : x = 1
      ·have HR := Lib.hid (show decide (g = 1) = true from decide_eq_true (by have := HW1.out.2 ⟨h1, by rw [hx, h2]⟩; omega))
       have t2 : (x == 1) = true := beq_iff_eq.2 h2
       clear HW1 hx
       go_wp2_with fail
       go_meet
       exact ⟨by rw [HR.out], rfl⟩
      ·have HR := Lib.hid (show decide (g = 1) = false from decide_eq_false fun k => h2 (by rw [← hx]; exact (HW1.out.1 (by omega)).2))
       have t2 : (x == 1) = false := beq_eq_false_iff_ne.2 h2
       clear HW1 hx
       go_wp2_with fail
       go_meet
       exact ⟨by rw [HR.out], rfl⟩
     ·have t1 : ((wg.length : Int) == 1) = false := beq_eq_false_iff_ne.2 (by omega)
      have HR := Lib.hid (show decide (g = 1) = false from decide_eq_false fun k => h1 (HW1.out.1 (by omega)).1)
      clear HW1
      go_wp2_with fail
      go_meet
      exact ⟨by rw [HR.out], rfl⟩
    case rest =>
     obtain ⟨rfl, rfl⟩ := hcut
     clear HW1 HWG g0 g1
     have n0 := HI2.out.vn.c0
     have n1 := HI2.out.vn.c1
     have d0 := HI2.out.vd.c0
     have d1 := HI2.out.vd.c1
     rw [HNB.out] at n0
     by_cases h1 : g = 1
     ·have td : decide (g = 1) = true := decide_eq_true h1
      rw [td]
      subst h1
      clear td
      have HI := HI2
      clear HI2
      have HR := ret_rat_set (g := w.heap.size + 1 + 1) HI.out.below (by omega) HI.out.vr (HI.out.done (by rw [Int.gcd_comm, HGG.out]))
      rw [HNB.out] at HR
      have HR := Lib.hid HR
      have HZ := Lib.hid (HI.out.vr.set (.bool nb) (.slice A l c) (.bool false) (.slice B wd.length e))
      unfold set4 at HR HZ
      have r0 := HI.out.vr.c0
      have r1 := HI.out.vr.c1
      have r2 := HI.out.vr.c2
      have r3 := HI.out.vr.c3
      have q0 := HI.out.vr.f0
      have q1 := HI.out.vr.f1
      have q2 := HI.out.vr.f2
      have q3 := HI.out.vr.f3
      clear HI
      go_wp2
      have z0 := HZ.out.c0
      have z1 := HZ.out.c1
      have z2 := HZ.out.c2
      have z3 := HZ.out.c3
      generalize ((((wc.setCell ⟨w.heap.size + 1 + 1, 0, none⟩ (.bool nb)).setCell ⟨w.heap.size + 1 + 1, 1, none⟩ (.slice A l c)).setCell ⟨w.heap.size + 1 + 1, 2, none⟩ (.bool false)).setCell ⟨w.heap.size + 1 + 1, 3, none⟩ (.slice B wd.length e)) = W at *
      exact bodyPost_ret (v := .agg #[.bool nb, .slice A l c, .bool false, .slice B wd.length e]) (by simp [results, Tryz.results75, go_sem, z0, z1, z2, z3]) rfl HR.out
     ·have td : decide (g = 1) = false := decide_eq_false h1
      rw [td]
      clear td h1
      have f0 := HI2.out.vn.f0
      have f1 := HI2.out.vn.f1
      have VG := Lib.hid VG.out
      have hne1 : gg ≠ w.heap.size := by omega
      have hne2 : gg ≠ w.heap.size + 1 := by omega
      have hne3 : gg ≠ w.heap.size + 1 + 1 := by omega
      -- the sign is struck
      have VN1 := HI2.out.vn.set0 (.bool false)
      have VD1 := HI2.out.vd.far0 (g' := w.heap.size) (by omega) (.bool false)
      have VR1 := HI2.out.vr.off (p := ⟨w.heap.size, 0, none⟩) (by simp only; omega) (.bool false)
      have VG1 := VG.out.far0 (g' := w.heap.size) (by omega) (.bool false)
      have BN1 := HI2.out.bn.abs.set HI2.out.vn.c0 (noWord_bool _) (.bool false)
      have BD1 := HI2.out.bd.set HI2.out.vn.c0 (noWord_bool _) (.bool false)
      have BG1 := BG.out.set HI2.out.vn.c0 (noWord_bool _) (.bool false)
      have HB1 := HI2.out.below.setCell (p := ⟨w.heap.size, 0, none⟩) (Nat.le_refl _) (.bool false)
      have hgd : (g : Int) ≤ d := by rw [← HGG.out]; exact Int.le_of_dvd HI2.out.pos (Int.gcd_dvd_right ..)
      have FG : Fits N (g : Int) := by have := HI2.out.fd; unfold Fits at *; omega
      have FA : Fits N (n.natAbs : Int) := by have := HI2.out.fn; unfold Fits at *; omega
      have HDM := Lib.hid (divmod_any _ _ (n.natAbs : Int) (g : Int) _ BN1 BG1 (N := N) (by omega) FA FG hgp)
      have HRED := Lib.hid (reduce (n := n) HI2.out.pos)
      rw [HI2.out.eq, HGG.out, HNB.out] at HRED
      have FD := Lib.hid HI2.out.fd
      have FG := Lib.hid FG
      have VN1 := Lib.hid VN1
      have VD1 := Lib.hid VD1
      have VR1 := Lib.hid VR1
      have VG1 := Lib.hid VG1
      have BD1 := Lib.hid BD1
      have BG1 := Lib.hid BG1
      have HB1 := Lib.hid HB1
      have a0 := VN1.out.c0
      have a1 := VN1.out.c1
      have b0 := VG1.out.c0
      have b1 := VG1.out.c1
      clear BN1 FA hgd HI2 VG BG d0 d1
      go_upto_region 10 with fail
      generalize wc.setCell ⟨w.heap.size, 0, none⟩ (.bool false) = W1 at *
      clear n0 n1 f0 f1
      go_wp2_with fail
      refine HDM.out.mono ?_
      rintro e2 w2 ⟨vq, vr, rfl, hq, -, hb⟩
      obtain ⟨A1, l1, c1, rfl⟩ := hq.form
      have eq0 : decide ((n.natAbs : Int) / (g : Int) < 0) = false := decide_eq_false (Int.not_lt.2 (Int.ediv_nonneg (by omega) (by omega)))
      rw [eq0] at hq ⊢
      have VN2 := VN1.out.below hb
      have VD2 := VD1.out.below hb
      have VR2 := VR1.out.below hb
      have VG2 := VG1.out.below hb
      have BD2 := BD1.out.ext hb
      have BG2 := BG1.out.ext hb
      have HB2 := HB1.out.trans (hb.mono HB1.out.size)
      have VN3 := Lib.hid (VN2.set (.bool false) (.slice A1 l1 c1))
      have VD3 := Lib.hid (VD2.far (g' := w.heap.size) (by omega) (.bool false) (.slice A1 l1 c1))
      have VR3 := Lib.hid (VR2.far2 (g' := w.heap.size) (by omega) (.bool false) (.slice A1 l1 c1))
      have VG3 := Lib.hid (VG2.far (g' := w.heap.size) (by omega) (.bool false) (.slice A1 l1 c1))
      have BN3 := Lib.hid (hq.setVar VN2 (.bool false) (.slice A1 l1 c1))
      have BD3 := Lib.hid (BD2.setVar VN2 (.bool false) (.slice A1 l1 c1))
      have BG3 := Lib.hid (BG2.setVar VN2 (.bool false) (.slice A1 l1 c1))
      have HB3 := Lib.hid ((HB2.setCell (p := ⟨w.heap.size, 0, none⟩) (Nat.le_refl _) (.bool false)).setCell (p := ⟨w.heap.size, 1, none⟩) (Nat.le_refl _) (.slice A1 l1 c1))
      have r0 := VN2.c0
      have r1 := VN2.c1
      have r2 := VN2.f0
      have r3 := VN2.f1
      clear hb hq eq0 VN2 VD2 VR2 VG2 BD2 BG2 HB2 VN1 VD1 VR1 VG1 BD1 BG1 HB1 HDM a0 a1 b0 b1
      go_upto_region 11 with fail
      generalize (w2.setCell ⟨w.heap.size, 0, none⟩ (.bool false)).setCell ⟨w.heap.size, 1, none⟩ (.slice A1 l1 c1) = W3 at *
      clear r0 r1 r2 r3
      have HDM := Lib.hid (divmod_any _ _ d (g : Int) _ BD3.out BG3.out (N := N) (by omega) FD.out FG.out hgp)
      have a0 := VD3.out.c0
      have a1 := VD3.out.c1
      have b0 := VG3.out.c0
      have b1 := VG3.out.c1
      go_wp2_with fail
      refine HDM.out.mono ?_
      rintro e4 w4 ⟨vq, vr, rfl, hq, -, hb⟩
      obtain ⟨A2, l2, c2, rfl⟩ := hq.form
      have eq0 : decide (d / (g : Int) < 0) = false := decide_eq_false (by rw [← HRED.out.2]; omega)
      rw [eq0] at hq ⊢
      have VN4 := VN3.out.below hb
      have VD4 := VD3.out.below hb
      have VR4 := VR3.out.below hb
      have BN4 := BN3.out.ext hb
      have HB4 := HB3.out.trans (hb.mono HB3.out.size)
      have VD5 := Lib.hid (VD4.set (.bool false) (.slice A2 l2 c2))
      have VN5 := Lib.hid (VN4.far (g' := w.heap.size + 1) (by omega) (.bool false) (.slice A2 l2 c2))
      have VR5 := Lib.hid (VR4.far2 (g' := w.heap.size + 1) (by omega) (.bool false) (.slice A2 l2 c2))
      have BN5 := Lib.hid (BN4.setVar VD4 (.bool false) (.slice A2 l2 c2))
      have BD5 := Lib.hid (hq.setVar VD4 (.bool false) (.slice A2 l2 c2))
      have HB5 := Lib.hid ((HB4.setCell (p := ⟨w.heap.size + 1, 0, none⟩) (Nat.le_succ _) (.bool false)).setCell (p := ⟨w.heap.size + 1, 1, none⟩) (Nat.le_succ _) (.slice A2 l2 c2))
      have r0 := VD4.c0
      have r1 := VD4.c1
      have r2 := VD4.f0
      have r3 := VD4.f1
      clear hb hq eq0 VN4 VD4 VR4 BN4 HB4 VN3 VD3 VR3 VG3 BN3 BD3 BG3 HB3 HDM a0 a1 b0 b1
      go_upto_region 12 with fail
      generalize (w4.setCell ⟨w.heap.size + 1, 0, none⟩ (.bool false)).setCell ⟨w.heap.size + 1, 1, none⟩ (.slice A2 l2 c2) = W5 at *
      clear r0 r1 r2 r3
      obtain ⟨fb, hfb⟩ : ∃ b, (nb && decide (0 < l1)) = b := ⟨_, rfl⟩
      have hsg := BN5.out.signed (x := n.natAbs / g) nb
      rw [hfb, ← HRED.out.1] at hsg
      have hbd := BD5.out
      rw [← HRED.out.2] at hbd
      have VN6 := Lib.hid (VN5.out.set0 (.bool fb))
      have VD6 := Lib.hid (VD5.out.far0 (g' := w.heap.size) (by omega) (.bool fb))
      have VR6 := VR5.out.off (p := ⟨w.heap.size, 0, none⟩) (by simp only; omega) (.bool fb)
      have HR := ret_rat_set (g := w.heap.size + 1 + 1) (HB5.out.setCell (p := ⟨w.heap.size, 0, none⟩) (Nat.le_refl _) (.bool fb)) (by omega) VR6 (Rt.mk (hsg.set VN5.out.c0 (noWord_bool _) (.bool fb)) (hbd.set VN5.out.c0 (noWord_bool _) (.bool fb)))
      have HR := Lib.hid HR
      have HZ := Lib.hid (VR6.set (.bool fb) (.slice A1 l1 c1) (.bool false) (.slice A2 l2 c2))
      have VR6 := Lib.hid VR6
      unfold set4 at HR HZ
      have a0 := VN5.out.c0
      have a1 := VN5.out.c1
      have a2 := VN5.out.f0
      have a3 := VN5.out.f1
      clear hsg hbd VN5 VD5 VR5 BN5 BD5 HB5 HRED
      have HFB : (nb = false ∧ fb = false) ∨ (nb = true ∧ decide (0 < l1) = fb) := by
       cases nb
       ·exact .inl ⟨rfl, by rw [← hfb]; rfl⟩
       ·exact .inr ⟨rfl, by rw [← hfb]; rfl⟩
      clear hfb
      rcases HFB with ⟨rfl, rfl⟩ | ⟨rfl, rfl⟩
      ·go_upto_region 13 with fail
       generalize W5.setCell ⟨w.heap.size, 0, none⟩ (.bool false) = W6 at *
       clear a0 a1 a2 a3
       have r0 := VR6.out.c0
       have r1 := VR6.out.c1
       have r2 := VR6.out.c2
       have r3 := VR6.out.c3
       have q0 := VR6.out.f0
       have q1 := VR6.out.f1
       have q2 := VR6.out.f2
       have q3 := VR6.out.f3
       have x0 := VN6.out.c0
       have x1 := VN6.out.c1
       have y0 := VD6.out.c0
       have y1 := VD6.out.c1
       go_wp2
       have z0 := HZ.out.c0
       have z1 := HZ.out.c1
       have z2 := HZ.out.c2
       have z3 := HZ.out.c3
       generalize ((((W6.setCell ⟨w.heap.size + 1 + 1, 0, none⟩ (.bool false)).setCell ⟨w.heap.size + 1 + 1, 1, none⟩ (.slice A1 l1 c1)).setCell ⟨w.heap.size + 1 + 1, 2, none⟩ (.bool false)).setCell ⟨w.heap.size + 1 + 1, 3, none⟩ (.slice A2 l2 c2)) = W at *
       exact bodyPost_ret (v := .agg #[.bool false, .slice A1 l1 c1, .bool false, .slice A2 l2 c2]) (by simp [results, Tryz.results75, go_sem, z0, z1, z2, z3]) rfl HR.out
      ·go_upto_region 13 with fail
       generalize W5.setCell ⟨w.heap.size, 0, none⟩ (.bool (decide (0 < l1))) = W6 at *
       clear a0 a1 a2 a3
       have r0 := VR6.out.c0
       have r1 := VR6.out.c1
       have r2 := VR6.out.c2
       have r3 := VR6.out.c3
       have q0 := VR6.out.f0
       have q1 := VR6.out.f1
       have q2 := VR6.out.f2
       have q3 := VR6.out.f3
       have x0 := VN6.out.c0
       have x1 := VN6.out.c1
       have y0 := VD6.out.c0
       have y1 := VD6.out.c1
       go_wp2
       have z0 := HZ.out.c0
       have z1 := HZ.out.c1
       have z2 := HZ.out.c2
       have z3 := HZ.out.c3
       generalize ((((W6.setCell ⟨w.heap.size + 1 + 1, 0, none⟩ (.bool (decide (0 < l1)))).setCell ⟨w.heap.size + 1 + 1, 1, none⟩ (.slice A1 l1 c1)).setCell ⟨w.heap.size + 1 + 1, 2, none⟩ (.bool false)).setCell ⟨w.heap.size + 1 + 1, 3, none⟩ (.slice A2 l2 c2)) = W at *
       exact bodyPost_ret (v := .agg #[.bool (decide (0 < l1)), .slice A1 l1 c1, .bool false, .slice A2 l2 c2]) (by simp [results, Tryz.results75, go_sem, z0, z1, z2, z3]) rfl HR.out
end Go.Proofs.YtcgfdfdcbamceaaGreatDoor
