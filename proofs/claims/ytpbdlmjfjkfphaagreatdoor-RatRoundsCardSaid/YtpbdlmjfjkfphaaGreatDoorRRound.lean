/- large.Rat.Round. -/
import Derived.Test.YtpbdlmjfjkfphaaGreatDoorROf
import Derived.Laws.BitsAllLaws
namespace Go.Proofs.YtpbdlmjfjkfphaaGreatDoor
open Go.RowKit

section
variable {P : Program} {ops : Array Oper} {Q : Exit → Act → World → Prop} {md : Region.Mode} {S : World → Prop} {c : Nat}
/-- one of two comes up -/
theorem wpAnyC_two {i j : Nat} {o1 o2 : Oper} {fuel : Nat} {listed : Array Bool} {a : Act} {w : World} (hr : Region.ready md ops listed = [i, j]) (h1 : ops[i]? = some o1) (h2 : ops[j]? = some o2)
    (k1 : ∀ K' : Act → World → Prop, Shut (∀ a w, ((listed.setIfInBounds i true).getD c true = false → S w) → wpAnyC P md ops Q S c fuel (listed.setIfInBounds i true) a w → K' a w) → if Region.wanted o1 (yielded ops a.tmps) = true then Oper.wp P o1 a w K' Q else K' (a.put o1.dst undef) w)
    (k2 : ∀ K' : Act → World → Prop, Shut (∀ a w, ((listed.setIfInBounds j true).getD c true = false → S w) → wpAnyC P md ops Q S c fuel (listed.setIfInBounds j true) a w → K' a w) → if Region.wanted o2 (yielded ops a.tmps) = true then Oper.wp P o2 a w K' Q else K' (a.put o2.dst undef) w) : wpAnyC P md ops Q S c (fuel + 1) listed a w := by
  refine ⟨fun h0 => (by rw [hr] at h0; cases h0), fun x hx => ?_⟩
  rw [hr] at hx
  rcases List.mem_cons.1 hx with rfl | hx
  · exact wpOp_step h1 (fun K' hK => k1 K' (fun a w hS hW => hK a w ⟨hS, hW⟩))
  · obtain rfl : x = j := by simpa using hx
    exact wpOp_step h2 (fun K' hK => k2 K' (fun a w hS hW => hK a w ⟨hS, hW⟩))
theorem wpAnyC_three {i j k : Nat} {o1 o2 o3 : Oper} {fuel : Nat} {listed : Array Bool} {a : Act} {w : World} (hr : Region.ready md ops listed = [i, j, k]) (h1 : ops[i]? = some o1) (h2 : ops[j]? = some o2) (h3 : ops[k]? = some o3)
    (k1 : ∀ K' : Act → World → Prop, Shut (∀ a w, ((listed.setIfInBounds i true).getD c true = false → S w) → wpAnyC P md ops Q S c fuel (listed.setIfInBounds i true) a w → K' a w) → if Region.wanted o1 (yielded ops a.tmps) = true then Oper.wp P o1 a w K' Q else K' (a.put o1.dst undef) w)
    (k2 : ∀ K' : Act → World → Prop, Shut (∀ a w, ((listed.setIfInBounds j true).getD c true = false → S w) → wpAnyC P md ops Q S c fuel (listed.setIfInBounds j true) a w → K' a w) → if Region.wanted o2 (yielded ops a.tmps) = true then Oper.wp P o2 a w K' Q else K' (a.put o2.dst undef) w)
    (k3 : ∀ K' : Act → World → Prop, Shut (∀ a w, ((listed.setIfInBounds k true).getD c true = false → S w) → wpAnyC P md ops Q S c fuel (listed.setIfInBounds k true) a w → K' a w) → if Region.wanted o3 (yielded ops a.tmps) = true then Oper.wp P o3 a w K' Q else K' (a.put o3.dst undef) w) : wpAnyC P md ops Q S c (fuel + 1) listed a w := by
  refine ⟨fun h0 => (by rw [hr] at h0; cases h0), fun x hx => ?_⟩
  rw [hr] at hx
  rcases List.mem_cons.1 hx with rfl | hx
  · exact wpOp_step h1 (fun K' hK => k1 K' (fun a w hS hW => hK a w ⟨hS, hW⟩))
  · rcases List.mem_cons.1 hx with rfl | hx
    · exact wpOp_step h2 (fun K' hK => k2 K' (fun a w hS hW => hK a w ⟨hS, hW⟩))
    · obtain rfl : x = k := by simpa using hx
      exact wpOp_step h3 (fun K' hK => k3 K' (fun a w hS hW => hK a w ⟨hS, hW⟩))
end
/-- behind the first statement: twice the number lies at g -/
structure RS (w : World) (n d : Int) (g : Nat) (b : Bool) (A : Option Addr) (l c : Nat) (B : Option Addr) (m e : Nat) (wx : World) : Prop where
  gx : w.heap.size + 1 < g
  vt : Vr wx g (.bool b) (.slice A l c) (.bool false) (.slice B m e)
  bn : Big wx (.agg #[.bool b, .slice A l c]) (n + n)
  bd : Big wx (.agg #[.bool false, .slice B m e]) d
  vr : Var wx (w.heap.size + 1) (.bool false) (.slice none 0 0)
  below : Below w.heap.size w wx
theorem RS.ext {w : World} {n d : Int} {g : Nat} {b : Bool} {A : Option Addr} {l c : Nat} {B : Option Addr} {m e : Nat} {wx w2 : World} (h : RS w n d g b A l c B m e wx) (hb : Below wx.heap.size wx w2) : RS w n d g b A l c B m e w2 :=
  ⟨h.gx, h.vt.below hb, h.bn.ext hb, h.bd.ext hb, h.vr.below hb, h.below.trans (hb.mono h.below.size)⟩
theorem RS.alloc {w : World} {n d : Int} {g : Nat} {b : Bool} {A : Option Addr} {l c : Nat} {B : Option Addr} {m e : Nat} {wx : World} (h : RS w n d g b A l c B m e wx) (o : Obj) : RS w n d g b A l c B m e (wx.alloc o) := h.ext ((Below.refl _ _).alloc (Nat.le_refl _) _)
theorem RS.drew {w : World} {n d : Int} {g : Nat} {b : Bool} {A : Option Addr} {l c : Nat} {B : Option Addr} {m e : Nat} {wx : World} (h : RS w n d g b A l c B m e wx) : RS w n d g b A l c B m e wx.drew := h.ext (below_undrew (Below.refl _ _))
theorem RS.set4 {w : World} {n d : Int} {g : Nat} {b : Bool} {A : Option Addr} {l c : Nat} {B : Option Addr} {m e : Nat} {wx : World} (h : RS w n d g b A l c B m e wx) {k : Nat} {b1 b2 : Bool} {A1 A2 : Option Addr} {l1 c1 l2 c2 : Nat} (hv : Vr wx k (.bool b1) (.slice A1 l1 c1) (.bool b2) (.slice A2 l2 c2)) (h1 : k ≠ g) (h2 : w.heap.size + 1 < k) (u0 u1 u2 u3 : Value) : RS w n d g b A l c B m e (set4 wx k u0 u1 u2 u3) :=
  ⟨h.gx, h.vt.far h1 _ _ _ _, h.bn.set4 hv _ _ _ _, h.bd.set4 hv _ _ _ _, h.vr.far4 (by omega) _ _ _ _, below_set4 h.below (by omega) _ _ _ _⟩
theorem RS.set2 {w : World} {n d : Int} {g : Nat} {b : Bool} {A : Option Addr} {l c : Nat} {B : Option Addr} {m e : Nat} {wx : World} (h : RS w n d g b A l c B m e wx) {k : Nat} {b1 : Bool} {A1 : Option Addr} {l1 c1 : Nat} (hv : Var wx k (.bool b1) (.slice A1 l1 c1)) (h1 : k ≠ g) (h2 : w.heap.size + 1 < k) (u0 u1 : Value) : RS w n d g b A l c B m e ((wx.setCell ⟨k, 0, none⟩ u0).setCell ⟨k, 1, none⟩ u1) :=
  ⟨h.gx, h.vt.far2 h1 _ _, h.bn.setVar hv _ _, h.bd.setVar hv _ _, h.vr.far (by omega) _ _, (h.below.setCell (by simp only; omega) _).setCell (by simp only; omega) _⟩
theorem Rt.parts {w : World} {x0 x1 x2 x3 : Value} {q : Rat} (h : Rt w (.agg #[x0, x1, x2, x3]) q) : Big w (.agg #[x0, x1]) q.num ∧ Big w (.agg #[x2, x3]) (q.den : Int) := by
  obtain ⟨y0, y1, y2, y3, e, h1, h2⟩ := h
  simp only [Value.agg.injEq, Array.mk.injEq, List.cons.injEq, and_true] at e
  obtain ⟨rfl, rfl, rfl, rfl⟩ := e
  exact ⟨h1, h2⟩
theorem cross (a : Int) {d : Int} (hd : 0 < d) : (Rat.divInt a d).num * d = a * ((Rat.divInt a d).den : Int) := by
  have h := Rat.num_divInt_den (Rat.divInt a d)
  exact (Rat.divInt_eq_divInt_iff (by have := den_pos (Rat.divInt a d); omega) (by omega)).1 h
theorem tie_iff {a d : Int} (_hd : 0 < d) : a % (2 * d) = 0 ↔ (a / (2 * d) + a / (2 * d) - 1) * d = a - d := by
  have h := Int.emod_add_mul_ediv a (2 * d)
  have e : (a / (2 * d) + a / (2 * d) - 1) * d = 2 * d * (a / (2 * d)) - d := by grind
  rw [e]; omega
theorem and_one {x : Int} (h0 : 0 ≤ x) (h1 : x < 4294967296) : bits .and .u32 x 1 = x % 2 := by
  rw [u32_and x 1 h0 h1 (by decide) (by decide)]
  show ((x.toNat &&& 1 : Nat) : Int) = x % 2
  rw [Nat.and_one_is_mod]; omega
/-- is a number odd? by its words -/
theorem Big.parity {w : World} {b : Bool} {A : Option Addr} {l c : Nat} {z : Int} (h : Big w (.agg #[.bool b, .slice A l c]) z) : ∃ ws, ws.length = l ∧ Nn w A c ws ∧ (z % 2 = 1 ↔ 0 < l ∧ ws.getD 0 0 % 2 = 1) := by
  obtain ⟨A', c', ws, h1, h2, h3⟩ := h.nn
  injection h1 with h1
  have h4 := congrArg (fun a : Array Value => a[1]?) h1
  simp at h4
  obtain ⟨rfl, rfl, rfl⟩ := h4
  refine ⟨ws, rfl, h2, ?_⟩
  cases ws with
  | nil => simp [val] at h3; simp; omega
  | cons x r => simp only [val] at h3; simp; omega
theorem floor_eq {p s a d : Int} (hs : 0 < s) (hd : 0 < d) (h : p * d = a * s) : p / (s + s) = a / (2 * d) := by
  have h1 : p / (s + s) = (p * d) / ((s + s) * d) := (Int.mul_ediv_mul_of_pos_left _ _ hd).symm
  have h2 : a / (2 * d) = (a * s) / ((2 * d) * s) := (Int.mul_ediv_mul_of_pos_left _ _ hs).symm
  rw [h1, h2, h, show (s + s) * d = 2 * d * s by grind]
set_option maxRecDepth 100000 in
set_option maxHeartbeats 8000000 in
theorem rround_any (v : Value) (q : Rat) (w : World) (hx : Rt w v q) {N : Nat} (hN : N ≤ 20000) (f : FitR N q) : Calls Tryz.prog 38 #[v] w (RetBig w (roundQ q)) := by
  obtain ⟨A, l, c, B, m, e, rfl, hn, hd⟩ := hx.form
  obtain ⟨nb, hnb⟩ : ∃ b, decide (q.num < 0) = b := ⟨_, rfl⟩
  rw [hnb] at hn ⊢
  have fn := f.1
  have fd := f.2
  have hdp := den_pos q
  have hrq : roundQ q = if (2 * q.num + q.den) % (2 * q.den) = 0 ∧ (2 * q.num + q.den) / (2 * q.den) % 2 = 1 then (2 * q.num + q.den) / (2 * q.den) - 1 else (2 * q.num + q.den) / (2 * q.den) := rfl
  obtain ⟨RQ, hRQ⟩ : ∃ z, roundQ q = z := ⟨_, rfl⟩
  rw [hRQ] at hrq ⊢
  obtain ⟨n, hnn⟩ : ∃ n, q.num = n := ⟨_, rfl⟩
  obtain ⟨d, hdd⟩ : ∃ d, (q.den : Int) = d := ⟨_, rfl⟩
  rw [hnn] at hn fn hrq
  rw [hdd] at hd fd hdp hrq
  have FN := Lib.hid fn
  have FD := Lib.hid fd
  have HRQ := Lib.hid hrq
  obtain ⟨vx, vr, hb⟩ := boxB w (.bool nb) (.slice A l c) (.bool false) (.slice B m e)
  have BN := Lib.hid (hn.ext hb).drew
  have BD := Lib.hid (hd.ext hb).drew
  have VX := Lib.hid vx.drew
  have VR := Lib.hid vr.drew
  have HB := Lib.hid hb.drew
  clear hx hn hd vx vr hb f hnb hnn hdd fn fd hrq hRQ
  unfold ratT bigT at *
  go_enter Tryz.func38, Tryz.ntmps38
  go_upto_region 1 with fail
  generalize (w.alloc (Obj.cells #[Value.bool nb, Value.slice A l c, Value.bool false, Value.slice B m e] 47)).alloc (Obj.cells #[Value.bool false, Value.slice none 0 0] 45) = W0 at *
  go_cut [3] (fun v3 wx => ∃ g b A l c B m e, v3 = .pointer (some ⟨g, 0, none⟩) ∧ RS w n d g b A l c B m e wx)
  case first =>
    generalize hWD : W0.drew = WD at *
    refine wp_region_c (fun w' => w'.cell? ⟨w.heap.size, 0, none⟩ = some (.bool nb) ∧ w'.cell? ⟨w.heap.size, 1, none⟩ = some (.slice A l c) ∧ w'.cell? ⟨w.heap.size, 2, none⟩ = some (.bool false) ∧ w'.cell? ⟨w.heap.size, 3, none⟩ = some (.slice B m e)) 9 (by kernel_rfl) ?_
    rw [hWD]
    clear hWD
    refine wpAnyC_take8 (i := 0) (oi := _) (v := .pointer (some ⟨w.heap.size, 0, none⟩)) rfl (by kernel_rfl) (by kernel_rfl) (by kernel_rfl) (by kernel_rfl) (by kernel_rfl) (by kernel_rfl) (fun _ _ _ h => h) (Or.inl ⟨by rfl, ?_⟩) ⟨VX.out.c0, VX.out.c1, VX.out.c2, VX.out.c3⟩ ?_
    · intro w hSw
      obtain ⟨s0, s1, s2, s3⟩ := hSw
      go_simp
    try simp only [Act.put, List.setIfInBounds_toArray]
    refine wpAnyC_take8 (i := 1) (oi := _) (v := .agg #[.bool nb, .slice A l c]) rfl (by kernel_rfl) (by kernel_rfl) (by kernel_rfl) (by kernel_rfl) (by kernel_rfl) (by kernel_rfl) (fun _ _ _ h => h) (Or.inl ⟨by rfl, ?_⟩) ⟨VX.out.c0, VX.out.c1, VX.out.c2, VX.out.c3⟩ ?_
    · intro w hSw
      obtain ⟨s0, s1, s2, s3⟩ := hSw
      go_simp
    try simp only [Act.put]
    refine wpAnyC_take8 (i := 2) (oi := _) (v := .pointer (some ⟨w.heap.size, 0, none⟩)) rfl (by kernel_rfl) (by kernel_rfl) (by kernel_rfl) (by kernel_rfl) (by kernel_rfl) (by kernel_rfl) (fun _ _ _ h => h) (Or.inl ⟨by rfl, ?_⟩) ⟨VX.out.c0, VX.out.c1, VX.out.c2, VX.out.c3⟩ ?_
    · intro w hSw
      obtain ⟨s0, s1, s2, s3⟩ := hSw
      go_simp
    try simp only [Act.put]
    refine wpAnyC_take8 (i := 3) (oi := _) (v := .agg #[.bool nb, .slice A l c]) rfl (by kernel_rfl) (by kernel_rfl) (by kernel_rfl) (by kernel_rfl) (by kernel_rfl) (by kernel_rfl) (fun _ _ _ h => h) (Or.inl ⟨by rfl, ?_⟩) ⟨VX.out.c0, VX.out.c1, VX.out.c2, VX.out.c3⟩ ?_
    · intro w hSw
      obtain ⟨s0, s1, s2, s3⟩ := hSw
      go_simp
    try simp only [Act.put]
    refine wpAnyC_take8 (i := 5) (oi := _) (v := .pointer (some ⟨w.heap.size, 2, none⟩)) rfl (by kernel_rfl) (by kernel_rfl) (by kernel_rfl) (by kernel_rfl) (by kernel_rfl) (by kernel_rfl) (fun _ _ _ h => h) (Or.inl ⟨by rfl, ?_⟩) ⟨VX.out.c0, VX.out.c1, VX.out.c2, VX.out.c3⟩ ?_
    · intro w hSw
      obtain ⟨s0, s1, s2, s3⟩ := hSw
      go_simp
    try simp only [Act.put]
    refine wpAnyC_take8 (i := 6) (oi := _) (v := .agg #[.bool false, .slice B m e]) rfl (by kernel_rfl) (by kernel_rfl) (by kernel_rfl) (by kernel_rfl) (by kernel_rfl) (by kernel_rfl) (fun _ _ _ h => h) (Or.inl ⟨by rfl, ?_⟩) ⟨VX.out.c0, VX.out.c1, VX.out.c2, VX.out.c3⟩ ?_
    · intro w hSw
      obtain ⟨s0, s1, s2, s3⟩ := hSw
      go_simp
    try simp only [Act.put]
    refine wpAnyC_two (i := 4) (j := 8) (by kernel_rfl) rfl rfl (fun K hK => ?_) (fun K hK => ?_)
    · skip
      go_simp
      go_at_call 50
      refine (add_any _ _ n n _ BN.out BN.out (N := N) (by omega) FN.out FN.out).mono ?_
      rintro ew1 w1 ⟨v3, rfl, v3h, hb2⟩
      obtain ⟨b4, A5, l6, c7, rfl⟩ := v3h.ofWords
      have H9 := Lib.hid (VX.out.below hb2)
      have H10 := Lib.hid (VR.out.below hb2)
      have H11 := Lib.hid (HB.out.trans (hb2.mono HB.out.size))
      have H12 := Lib.hid (BN.out.ext hb2)
      have H13 := Lib.hid (BD.out.ext hb2)
      have H14 := Lib.hid (v3h)
      refine hK.out _ _ (fun _ => ⟨H9.out.c0, H9.out.c1, H9.out.c2, H9.out.c3⟩) ?_
      clear hK K
      try simp only [Act.put, List.setIfInBounds_toArray, List.set_cons_zero, List.set_cons_succ]
      refine wpAnyC_take8 (i := 7) (oi := _) (v := .agg #[.bool b4, .slice A5 l6 c7, .bool false, .slice B m e]) rfl (by kernel_rfl) (by kernel_rfl) (by kernel_rfl) (by kernel_rfl) (by kernel_rfl) (by kernel_rfl) (fun _ _ _ h => h) (Or.inl ⟨by rfl, ?_⟩) ⟨H9.out.c0, H9.out.c1, H9.out.c2, H9.out.c3⟩ ?_
      · intro w hSw
        obtain ⟨s0, s1, s2, s3⟩ := hSw
        go_simp
      try simp only [Act.put, List.setIfInBounds_toArray]
      refine wpAnyC_one (i := 8) (by kernel_rfl) rfl (fun K hK => ?_)
      go_simp
      have H17 := Lib.hid (H9.out.alloc (.cells #[.bool false, .slice none 0 0, .bool false, .slice none 0 0] 47))
      have H18 := Lib.hid (H10.out.alloc (.cells #[.bool false, .slice none 0 0, .bool false, .slice none 0 0] 47))
      have H19 := Lib.hid (H11.out.alloc H11.out.size (.cells #[.bool false, .slice none 0 0, .bool false, .slice none 0 0] 47))
      have H20 := Lib.hid (H12.out.alloc (.cells #[.bool false, .slice none 0 0, .bool false, .slice none 0 0] 47))
      have H21 := Lib.hid (H13.out.alloc (.cells #[.bool false, .slice none 0 0, .bool false, .slice none 0 0] 47))
      have H22 := Lib.hid (H14.out.alloc (.cells #[.bool false, .slice none 0 0, .bool false, .slice none 0 0] 47))
      have H23 := Lib.hid ((Blk.new w1 47 #[.bool false, .slice none 0 0, .bool false, .slice none 0 0]).vr)
      have lt24 : w.heap.size + 1 < w1.heap.size := H10.out.lt
      refine hK.out _ _ (fun _ => ⟨H17.out.c0, H17.out.c1, H17.out.c2, H17.out.c3⟩) ?_
      clear hK K
      try simp only [Act.put, List.setIfInBounds_toArray, List.set_cons_zero, List.set_cons_succ]
      generalize w1.alloc (.cells #[.bool false, .slice none 0 0, .bool false, .slice none 0 0] 47) = w16 at *
      generalize w1.heap.size = g15 at *
      have hv := H23.out
      have r0 := hv.c0
      have q0 := hv.f0
      have r1 := hv.c1
      have q1 := hv.f1
      have r2 := hv.c2
      have q2 := hv.f2
      have r3 := hv.c3
      have q3 := hv.f3
      have HRS : Hid (RS w n d g15 b4 A5 l6 c7 B m e (set4 w16 g15 (.bool b4) (.slice A5 l6 c7) (.bool false) (.slice B m e))) := Lib.hid ⟨by omega, hv.set _ _ _ _, H22.out.set4 hv _ _ _ _, H21.out.set4 hv _ _ _ _, H18.out.far4 (by omega) _ _ _ _, below_set4 H19.out (by omega) _ _ _ _⟩
      unfold set4 at HRS
      clear hv
      refine wpAnyC_one (i := 9) (by kernel_rfl) rfl (fun K hK => ?_)
      go_simp
      refine hK.out _ _ (fun h => absurd h (by decide)) ?_
      clear hK K r0 r1 r2 r3 q0 q1 q2 q3
      refine wpAnyC_done (by kernel_rfl) ?_ _
      go_wp2_with fail
      go_meet
      exact ⟨_, _, _, _, _, _, _, _, rfl, HRS.out⟩
    · skip
      go_simp
      have H27 := Lib.hid (VX.out.alloc (.cells #[.bool false, .slice none 0 0, .bool false, .slice none 0 0] 47))
      have H28 := Lib.hid (VR.out.alloc (.cells #[.bool false, .slice none 0 0, .bool false, .slice none 0 0] 47))
      have H29 := Lib.hid (HB.out.alloc HB.out.size (.cells #[.bool false, .slice none 0 0, .bool false, .slice none 0 0] 47))
      have H30 := Lib.hid (BN.out.alloc (.cells #[.bool false, .slice none 0 0, .bool false, .slice none 0 0] 47))
      have H31 := Lib.hid (BD.out.alloc (.cells #[.bool false, .slice none 0 0, .bool false, .slice none 0 0] 47))
      have H32 := Lib.hid ((Blk.new WD 47 #[.bool false, .slice none 0 0, .bool false, .slice none 0 0]).vr)
      have lt33 : w.heap.size + 1 < WD.heap.size := VR.out.lt
      refine hK.out _ _ (fun _ => ⟨H27.out.c0, H27.out.c1, H27.out.c2, H27.out.c3⟩) ?_
      clear hK K
      try simp only [Act.put, List.setIfInBounds_toArray, List.set_cons_zero, List.set_cons_succ]
      generalize WD.alloc (.cells #[.bool false, .slice none 0 0, .bool false, .slice none 0 0] 47) = w26 at *
      generalize WD.heap.size = g25 at *
      refine wpAnyC_one (i := 4) (by kernel_rfl) rfl (fun K hK => ?_)
      go_simp
      go_at_call 50
      refine (add_any _ _ n n _ H30.out H30.out (N := N) (by omega) FN.out FN.out).mono ?_
      rintro ew34 w34 ⟨v36, rfl, v36h, hb35⟩
      obtain ⟨b37, A38, l39, c40, rfl⟩ := v36h.ofWords
      have H42 := Lib.hid (H27.out.below hb35)
      have H43 := Lib.hid (H28.out.below hb35)
      have H44 := Lib.hid (H29.out.trans (hb35.mono H29.out.size))
      have H45 := Lib.hid (H30.out.ext hb35)
      have H46 := Lib.hid (H31.out.ext hb35)
      have H47 := Lib.hid (H32.out.below hb35)
      have H48 := Lib.hid (v36h)
      refine hK.out _ _ (fun _ => ⟨H42.out.c0, H42.out.c1, H42.out.c2, H42.out.c3⟩) ?_
      clear hK K
      try simp only [Act.put, List.setIfInBounds_toArray, List.set_cons_zero, List.set_cons_succ]
      refine wpAnyC_take8 (i := 7) (oi := _) (v := .agg #[.bool b37, .slice A38 l39 c40, .bool false, .slice B m e]) rfl (by kernel_rfl) (by kernel_rfl) (by kernel_rfl) (by kernel_rfl) (by kernel_rfl) (by kernel_rfl) (fun _ _ _ h => h) (Or.inl ⟨by rfl, ?_⟩) ⟨H42.out.c0, H42.out.c1, H42.out.c2, H42.out.c3⟩ ?_
      · intro w hSw
        obtain ⟨s0, s1, s2, s3⟩ := hSw
        go_simp
      try simp only [Act.put, List.setIfInBounds_toArray]
      have hv := H47.out
      have r0 := hv.c0
      have q0 := hv.f0
      have r1 := hv.c1
      have q1 := hv.f1
      have r2 := hv.c2
      have q2 := hv.f2
      have r3 := hv.c3
      have q3 := hv.f3
      have HRS : Hid (RS w n d g25 b37 A38 l39 c40 B m e (set4 w34 g25 (.bool b37) (.slice A38 l39 c40) (.bool false) (.slice B m e))) := Lib.hid ⟨by omega, hv.set _ _ _ _, H48.out.set4 hv _ _ _ _, H46.out.set4 hv _ _ _ _, H43.out.far4 (by omega) _ _ _ _, below_set4 H44.out (by omega) _ _ _ _⟩
      unfold set4 at HRS
      clear hv
      refine wpAnyC_one (i := 9) (by kernel_rfl) rfl (fun K hK => ?_)
      go_simp
      refine hK.out _ _ (fun h => absurd h (by decide)) ?_
      clear hK K r0 r1 r2 r3 q0 q1 q2 q3
      refine wpAnyC_done (by kernel_rfl) ?_ _
      go_wp2_with fail
      go_meet
      exact ⟨_, _, _, _, _, _, _, _, rfl, HRS.out⟩
  case rest =>
    obtain ⟨g, b, A, l, c, B, m, e, rfl, hRS⟩ := hcut
    clear BN BD VX VR HB
    have HRS := Lib.hid hRS.drew
    clear hRS
    go_upto_region 2 with fail
    go_cut [4] (fun v4 wx => ∃ g4 b4 A4 l4 c4 b5 A5 l5 c5, v4 = .pointer (some ⟨g4, 0, none⟩) ∧ Vr wx g4 (.bool b4) (.slice A4 l4 c4) (.bool b5) (.slice A5 l5 c5) ∧ Rt wx (.agg #[.bool b4, .slice A4 l4 c4, .bool b5, .slice A5 l5 c5]) (Rat.divInt (2 * n + d) d) ∧ RS w n d g b A l c B m e wx)
    case first =>
      generalize hWD : wc.drew = WD at *
      refine wp_region_c (fun w' => w'.cell? ⟨g, 0, none⟩ = some (.bool b) ∧ w'.cell? ⟨g, 1, none⟩ = some (.slice A l c) ∧ w'.cell? ⟨g, 2, none⟩ = some (.bool false) ∧ w'.cell? ⟨g, 3, none⟩ = some (.slice B m e)) 4 (by kernel_rfl) ?_
      rw [hWD]
      clear hWD
      have hgx := HRS.out.gx
      refine wpAnyC_take8 (i := 0) (oi := _) (v := .agg #[.bool b, .slice A l c, .bool false, .slice B m e]) rfl (by kernel_rfl) (by kernel_rfl) (by kernel_rfl) (by kernel_rfl) (by kernel_rfl) (by kernel_rfl) (fun _ _ _ h => h) (Or.inl ⟨by rfl, ?_⟩) ⟨HRS.out.vt.c0, HRS.out.vt.c1, HRS.out.vt.c2, HRS.out.vt.c3⟩ ?_
      · intro w hSw
        obtain ⟨s0, s1, s2, s3⟩ := hSw
        go_simp
      try simp only [Act.put, List.setIfInBounds_toArray]
      refine wpAnyC_two (i := 1) (j := 3) (by kernel_rfl) rfl rfl (fun K hK => ?_) (fun K hK => ?_)
      · skip
        go_simp
        go_at_call 57
        refine (rwhole_any 1 _ (by omega) (by omega)).mono ?_
        rintro ew49 w49 ⟨v51, rfl, v51h, hb50⟩
        have H52 := Lib.hid (HRS.out.ext hb50)
        have H53 := Lib.hid (v51h)
        refine hK.out _ _ (fun _ => ⟨H52.out.vt.c0, H52.out.vt.c1, H52.out.vt.c2, H52.out.vt.c3⟩) ?_
        clear hK K
        try simp only [Act.put, List.setIfInBounds_toArray, List.set_cons_zero, List.set_cons_succ]
        refine wpAnyC_two (i := 2) (j := 3) (by kernel_rfl) rfl rfl (fun K hK => ?_) (fun K hK => ?_)
        · skip
          go_simp
          go_at_call 25
          refine (raddp_any _ _ (n + n) d 1 1 _ ⟨_, _, _, _, rfl, H52.out.bn, H52.out.bd⟩ H53.out.pair hdp (by omega) (N := N + 1) (by omega) ⟨FN.out.add FN.out, FD.out.mono (by omega)⟩ ⟨fits_one _ (by omega) 1 (by omega) (by omega), fits_one _ (by omega) 1 (by omega) (by omega)⟩).mono ?_
          rintro ew54 w54 ⟨v56, rfl, v56h, hb55⟩
          rw [show Rat.divInt ((n + n) * 1 + 1 * d) (d * 1) = Rat.divInt (2 * n + d) d by rw [Int.mul_one, Int.mul_one, Int.one_mul, show n + n = 2 * n by omega]] at v56h
          have H57 := Lib.hid (H52.out.ext hb55)
          have H58 := Lib.hid (H53.out.ext hb55)
          have H59 := Lib.hid (v56h)
          refine hK.out _ _ (fun _ => ⟨H57.out.vt.c0, H57.out.vt.c1, H57.out.vt.c2, H57.out.vt.c3⟩) ?_
          clear hK K
          try simp only [Act.put, List.setIfInBounds_toArray, List.set_cons_zero, List.set_cons_succ]
          refine wpAnyC_one (i := 3) (by kernel_rfl) rfl (fun K hK => ?_)
          go_simp
          have H62 := Lib.hid (H57.out.alloc (.cells #[.bool false, .slice none 0 0, .bool false, .slice none 0 0] 47))
          have H63 := Lib.hid (H58.out.alloc (.cells #[.bool false, .slice none 0 0, .bool false, .slice none 0 0] 47))
          have H64 := Lib.hid (H59.out.alloc (.cells #[.bool false, .slice none 0 0, .bool false, .slice none 0 0] 47))
          have H65 := Lib.hid ((Blk.new w54 47 #[.bool false, .slice none 0 0, .bool false, .slice none 0 0]).vr)
          have lt66 : g < w54.heap.size := H57.out.vt.lt
          refine hK.out _ _ (fun _ => ⟨H62.out.vt.c0, H62.out.vt.c1, H62.out.vt.c2, H62.out.vt.c3⟩) ?_
          clear hK K
          try simp only [Act.put, List.setIfInBounds_toArray, List.set_cons_zero, List.set_cons_succ]
          generalize w54.alloc (.cells #[.bool false, .slice none 0 0, .bool false, .slice none 0 0] 47) = w61 at *
          generalize w54.heap.size = g60 at *
          obtain ⟨b4, A4, l4, c4, b5, A5, l5, c5, rfl, -, -⟩ := H64.out.words
          have hv := H65.out
          have r0 := hv.c0
          have q0 := hv.f0
          have r1 := hv.c1
          have q1 := hv.f1
          have r2 := hv.c2
          have q2 := hv.f2
          have r3 := hv.c3
          have q3 := hv.f3
          have HR1 := Lib.hid (H62.out.set4 hv (by omega) (by omega) (.bool b4) (.slice A4 l4 c4) (.bool b5) (.slice A5 l5 c5))
          have HR2 := Lib.hid (hv.set (.bool b4) (.slice A4 l4 c4) (.bool b5) (.slice A5 l5 c5))
          have HR3 := Lib.hid (H64.out.set4 hv (.bool b4) (.slice A4 l4 c4) (.bool b5) (.slice A5 l5 c5))
          unfold set4 at HR1 HR2 HR3
          clear hv
          refine wpAnyC_one (i := 4) (by kernel_rfl) rfl (fun K hK => ?_)
          go_simp
          refine hK.out _ _ (fun h => absurd h (by decide)) ?_
          clear hK K r0 r1 r2 r3 q0 q1 q2 q3
          refine wpAnyC_done (by kernel_rfl) ?_ _
          go_wp2_with fail
          go_meet
          exact ⟨_, _, _, _, _, _, _, _, _, rfl, HR2.out, HR3.out, HR1.out⟩
        · skip
          go_simp
          have H69 := Lib.hid (H52.out.alloc (.cells #[.bool false, .slice none 0 0, .bool false, .slice none 0 0] 47))
          have H70 := Lib.hid (H53.out.alloc (.cells #[.bool false, .slice none 0 0, .bool false, .slice none 0 0] 47))
          have H71 := Lib.hid ((Blk.new w49 47 #[.bool false, .slice none 0 0, .bool false, .slice none 0 0]).vr)
          have lt72 : g < w49.heap.size := H52.out.vt.lt
          refine hK.out _ _ (fun _ => ⟨H69.out.vt.c0, H69.out.vt.c1, H69.out.vt.c2, H69.out.vt.c3⟩) ?_
          clear hK K
          try simp only [Act.put, List.setIfInBounds_toArray, List.set_cons_zero, List.set_cons_succ]
          generalize w49.alloc (.cells #[.bool false, .slice none 0 0, .bool false, .slice none 0 0] 47) = w68 at *
          generalize w49.heap.size = g67 at *
          refine wpAnyC_one (i := 2) (by kernel_rfl) rfl (fun K hK => ?_)
          go_simp
          go_at_call 25
          refine (raddp_any _ _ (n + n) d 1 1 _ ⟨_, _, _, _, rfl, H69.out.bn, H69.out.bd⟩ H70.out.pair hdp (by omega) (N := N + 1) (by omega) ⟨FN.out.add FN.out, FD.out.mono (by omega)⟩ ⟨fits_one _ (by omega) 1 (by omega) (by omega), fits_one _ (by omega) 1 (by omega) (by omega)⟩).mono ?_
          rintro ew73 w73 ⟨v75, rfl, v75h, hb74⟩
          rw [show Rat.divInt ((n + n) * 1 + 1 * d) (d * 1) = Rat.divInt (2 * n + d) d by rw [Int.mul_one, Int.mul_one, Int.one_mul, show n + n = 2 * n by omega]] at v75h
          have H76 := Lib.hid (H69.out.ext hb74)
          have H77 := Lib.hid (H70.out.ext hb74)
          have H78 := Lib.hid (H71.out.below hb74)
          have H79 := Lib.hid (v75h)
          refine hK.out _ _ (fun _ => ⟨H76.out.vt.c0, H76.out.vt.c1, H76.out.vt.c2, H76.out.vt.c3⟩) ?_
          clear hK K
          try simp only [Act.put, List.setIfInBounds_toArray, List.set_cons_zero, List.set_cons_succ]
          obtain ⟨b4, A4, l4, c4, b5, A5, l5, c5, rfl, -, -⟩ := H79.out.words
          have hv := H78.out
          have r0 := hv.c0
          have q0 := hv.f0
          have r1 := hv.c1
          have q1 := hv.f1
          have r2 := hv.c2
          have q2 := hv.f2
          have r3 := hv.c3
          have q3 := hv.f3
          have HR1 := Lib.hid (H76.out.set4 hv (by omega) (by omega) (.bool b4) (.slice A4 l4 c4) (.bool b5) (.slice A5 l5 c5))
          have HR2 := Lib.hid (hv.set (.bool b4) (.slice A4 l4 c4) (.bool b5) (.slice A5 l5 c5))
          have HR3 := Lib.hid (H79.out.set4 hv (.bool b4) (.slice A4 l4 c4) (.bool b5) (.slice A5 l5 c5))
          unfold set4 at HR1 HR2 HR3
          clear hv
          refine wpAnyC_one (i := 4) (by kernel_rfl) rfl (fun K hK => ?_)
          go_simp
          refine hK.out _ _ (fun h => absurd h (by decide)) ?_
          clear hK K r0 r1 r2 r3 q0 q1 q2 q3
          refine wpAnyC_done (by kernel_rfl) ?_ _
          go_wp2_with fail
          go_meet
          exact ⟨_, _, _, _, _, _, _, _, _, rfl, HR2.out, HR3.out, HR1.out⟩
      · skip
        go_simp
        have H82 := Lib.hid (HRS.out.alloc (.cells #[.bool false, .slice none 0 0, .bool false, .slice none 0 0] 47))
        have H83 := Lib.hid ((Blk.new WD 47 #[.bool false, .slice none 0 0, .bool false, .slice none 0 0]).vr)
        have lt84 : g < WD.heap.size := HRS.out.vt.lt
        refine hK.out _ _ (fun _ => ⟨H82.out.vt.c0, H82.out.vt.c1, H82.out.vt.c2, H82.out.vt.c3⟩) ?_
        clear hK K
        try simp only [Act.put, List.setIfInBounds_toArray, List.set_cons_zero, List.set_cons_succ]
        generalize WD.alloc (.cells #[.bool false, .slice none 0 0, .bool false, .slice none 0 0] 47) = w81 at *
        generalize WD.heap.size = g80 at *
        refine wpAnyC_one (i := 1) (by kernel_rfl) rfl (fun K hK => ?_)
        go_simp
        go_at_call 57
        refine (rwhole_any 1 _ (by omega) (by omega)).mono ?_
        rintro ew85 w85 ⟨v87, rfl, v87h, hb86⟩
        have H88 := Lib.hid (H82.out.ext hb86)
        have H89 := Lib.hid (H83.out.below hb86)
        have H90 := Lib.hid (v87h)
        refine hK.out _ _ (fun _ => ⟨H88.out.vt.c0, H88.out.vt.c1, H88.out.vt.c2, H88.out.vt.c3⟩) ?_
        clear hK K
        try simp only [Act.put, List.setIfInBounds_toArray, List.set_cons_zero, List.set_cons_succ]
        refine wpAnyC_one (i := 2) (by kernel_rfl) rfl (fun K hK => ?_)
        go_simp
        go_at_call 25
        refine (raddp_any _ _ (n + n) d 1 1 _ ⟨_, _, _, _, rfl, H88.out.bn, H88.out.bd⟩ H90.out.pair hdp (by omega) (N := N + 1) (by omega) ⟨FN.out.add FN.out, FD.out.mono (by omega)⟩ ⟨fits_one _ (by omega) 1 (by omega) (by omega), fits_one _ (by omega) 1 (by omega) (by omega)⟩).mono ?_
        rintro ew91 w91 ⟨v93, rfl, v93h, hb92⟩
        rw [show Rat.divInt ((n + n) * 1 + 1 * d) (d * 1) = Rat.divInt (2 * n + d) d by rw [Int.mul_one, Int.mul_one, Int.one_mul, show n + n = 2 * n by omega]] at v93h
        have H94 := Lib.hid (H88.out.ext hb92)
        have H95 := Lib.hid (H89.out.below hb92)
        have H96 := Lib.hid (H90.out.ext hb92)
        have H97 := Lib.hid (v93h)
        refine hK.out _ _ (fun _ => ⟨H94.out.vt.c0, H94.out.vt.c1, H94.out.vt.c2, H94.out.vt.c3⟩) ?_
        clear hK K
        try simp only [Act.put, List.setIfInBounds_toArray, List.set_cons_zero, List.set_cons_succ]
        obtain ⟨b4, A4, l4, c4, b5, A5, l5, c5, rfl, -, -⟩ := H97.out.words
        have hv := H95.out
        have r0 := hv.c0
        have q0 := hv.f0
        have r1 := hv.c1
        have q1 := hv.f1
        have r2 := hv.c2
        have q2 := hv.f2
        have r3 := hv.c3
        have q3 := hv.f3
        have HR1 := Lib.hid (H94.out.set4 hv (by omega) (by omega) (.bool b4) (.slice A4 l4 c4) (.bool b5) (.slice A5 l5 c5))
        have HR2 := Lib.hid (hv.set (.bool b4) (.slice A4 l4 c4) (.bool b5) (.slice A5 l5 c5))
        have HR3 := Lib.hid (H97.out.set4 hv (.bool b4) (.slice A4 l4 c4) (.bool b5) (.slice A5 l5 c5))
        unfold set4 at HR1 HR2 HR3
        clear hv
        refine wpAnyC_one (i := 4) (by kernel_rfl) rfl (fun K hK => ?_)
        go_simp
        refine hK.out _ _ (fun h => absurd h (by decide)) ?_
        clear hK K r0 r1 r2 r3 q0 q1 q2 q3
        refine wpAnyC_done (by kernel_rfl) ?_ _
        go_wp2_with fail
        go_meet
        exact ⟨_, _, _, _, _, _, _, _, _, rfl, HR2.out, HR3.out, HR1.out⟩
    case rest =>
      obtain ⟨g4, b4, A4, l4, c4, b5, A5, l5, c5, rfl, v4, t4, hRS⟩ := hcut
      obtain ⟨p, hp⟩ : ∃ p, (Rat.divInt (2 * n + d) d).num = p := ⟨_, rfl⟩
      obtain ⟨s, hs⟩ : ∃ s, ((Rat.divInt (2 * n + d) d).den : Int) = s := ⟨_, rfl⟩
      have hsp := den_pos (Rat.divInt (2 * n + d) d)
      have hle := divInt_le (2 * n + d) d
      have hcross := cross (2 * n + d) hdp
      obtain ⟨bp, bs⟩ := t4.parts
      rw [hp] at bp hle hcross
      rw [hs] at bs hsp hcross
      have hsd : s ≤ d := by rw [← hs]; omega
      have FP := Lib.hid (show Fits (N + 2) p by have h1 := FN.out; have h2 := FD.out; have h3 : Fits (N + 2) (n + n + d) := (h1.add h1).add (h2.mono (show N ≤ N + 1 by omega)); unfold Fits at *; omega)
      have FS := Lib.hid (show Fits (N + 2) s by have h2 := FD.out.mono (show N ≤ N + 2 by omega); unfold Fits at *; omega)
      have HEQ := Lib.hid (show p / (s + s) = (2 * n + d) / (2 * d) from floor_eq hsp hdp hcross)
      have HRS3 := Lib.hid hRS.drew
      have V4 := Lib.hid v4.drew
      have BP := Lib.hid bp.drew
      have BS := Lib.hid bs.drew
      clear v4 t4 hRS bp bs HRS hle hcross hp hs hsd
      go_upto_region 3 with fail
      go_cut [5] (fun v5 wx => ∃ g5 b6 A6 l6 c6, v5 = .pointer (some ⟨g5, 0, none⟩) ∧ Var wx g5 (.bool b6) (.slice A6 l6 c6) ∧ Big wx (.agg #[.bool b6, .slice A6 l6 c6]) ((2 * n + d) / (2 * d)) ∧ (w.heap.size + 1 < g5 ∧ g5 ≠ g) ∧ RS w n d g b A l c B m e wx)
      case first =>
        generalize hWD : wc.drew = WD at *
        refine wp_region_c (fun w' => w'.cell? ⟨g4, 0, none⟩ = some (.bool b4) ∧ w'.cell? ⟨g4, 1, none⟩ = some (.slice A4 l4 c4) ∧ w'.cell? ⟨g4, 2, none⟩ = some (.bool b5) ∧ w'.cell? ⟨g4, 3, none⟩ = some (.slice A5 l5 c5)) 14 (by kernel_rfl) ?_
        rw [hWD]
        clear hWD
        have hgx := HRS3.out.gx
        refine wpAnyC_take8 (i := 0) (oi := _) (v := .pointer (some ⟨g4, 0, none⟩)) rfl (by kernel_rfl) (by kernel_rfl) (by kernel_rfl) (by kernel_rfl) (by kernel_rfl) (by kernel_rfl) (fun _ _ _ h => h) (Or.inl ⟨by rfl, ?_⟩) ⟨V4.out.c0, V4.out.c1, V4.out.c2, V4.out.c3⟩ ?_
        · intro w hSw
          obtain ⟨s0, s1, s2, s3⟩ := hSw
          go_simp
        try simp only [Act.put, List.setIfInBounds_toArray]
        refine wpAnyC_take8 (i := 1) (oi := _) (v := .agg #[.bool b4, .slice A4 l4 c4]) rfl (by kernel_rfl) (by kernel_rfl) (by kernel_rfl) (by kernel_rfl) (by kernel_rfl) (by kernel_rfl) (fun _ _ _ h => h) (Or.inl ⟨by rfl, ?_⟩) ⟨V4.out.c0, V4.out.c1, V4.out.c2, V4.out.c3⟩ ?_
        · intro w hSw
          obtain ⟨s0, s1, s2, s3⟩ := hSw
          go_simp
        try simp only [Act.put]
        refine wpAnyC_take8 (i := 2) (oi := _) (v := .pointer (some ⟨g4, 2, none⟩)) rfl (by kernel_rfl) (by kernel_rfl) (by kernel_rfl) (by kernel_rfl) (by kernel_rfl) (by kernel_rfl) (fun _ _ _ h => h) (Or.inl ⟨by rfl, ?_⟩) ⟨V4.out.c0, V4.out.c1, V4.out.c2, V4.out.c3⟩ ?_
        · intro w hSw
          obtain ⟨s0, s1, s2, s3⟩ := hSw
          go_simp
        try simp only [Act.put]
        refine wpAnyC_take8 (i := 3) (oi := _) (v := .agg #[.bool b5, .slice A5 l5 c5]) rfl (by kernel_rfl) (by kernel_rfl) (by kernel_rfl) (by kernel_rfl) (by kernel_rfl) (by kernel_rfl) (fun _ _ _ h => h) (Or.inl ⟨by rfl, ?_⟩) ⟨V4.out.c0, V4.out.c1, V4.out.c2, V4.out.c3⟩ ?_
        · intro w hSw
          obtain ⟨s0, s1, s2, s3⟩ := hSw
          go_simp
        try simp only [Act.put]
        refine wpAnyC_take8 (i := 4) (oi := _) (v := .pointer (some ⟨g4, 2, none⟩)) rfl (by kernel_rfl) (by kernel_rfl) (by kernel_rfl) (by kernel_rfl) (by kernel_rfl) (by kernel_rfl) (fun _ _ _ h => h) (Or.inl ⟨by rfl, ?_⟩) ⟨V4.out.c0, V4.out.c1, V4.out.c2, V4.out.c3⟩ ?_
        · intro w hSw
          obtain ⟨s0, s1, s2, s3⟩ := hSw
          go_simp
        try simp only [Act.put]
        refine wpAnyC_take8 (i := 5) (oi := _) (v := .agg #[.bool b5, .slice A5 l5 c5]) rfl (by kernel_rfl) (by kernel_rfl) (by kernel_rfl) (by kernel_rfl) (by kernel_rfl) (by kernel_rfl) (fun _ _ _ h => h) (Or.inl ⟨by rfl, ?_⟩) ⟨V4.out.c0, V4.out.c1, V4.out.c2, V4.out.c3⟩ ?_
        · intro w hSw
          obtain ⟨s0, s1, s2, s3⟩ := hSw
          go_simp
        try simp only [Act.put]
        refine wpAnyC_three (i := 6) (j := 11) (k := 12) (by kernel_rfl) rfl rfl rfl (fun K hK => ?_) (fun K hK => ?_) (fun K hK => ?_)
        · skip
          go_simp
          go_at_call 50
          refine (add_any _ _ s s _ BS.out BS.out (N := N + 2) (by omega) FS.out FS.out).mono ?_
          rintro ew98 w98 ⟨v100, rfl, v100h, hb99⟩
          have H101 := Lib.hid (HRS3.out.ext hb99)
          have H102 := Lib.hid (V4.out.below hb99)
          have H103 := Lib.hid (BP.out.ext hb99)
          have H104 := Lib.hid (BS.out.ext hb99)
          have H105 := Lib.hid (v100h)
          refine hK.out _ _ (fun _ => ⟨H102.out.c0, H102.out.c1, H102.out.c2, H102.out.c3⟩) ?_
          clear hK K
          try simp only [Act.put, List.setIfInBounds_toArray, List.set_cons_zero, List.set_cons_succ]
          refine wpAnyC_three (i := 7) (j := 11) (k := 12) (by kernel_rfl) rfl rfl rfl (fun K hK => ?_) (fun K hK => ?_) (fun K hK => ?_)
          · skip
            go_simp
            go_at_call 56
            refine (divmod_any _ _ p (s + s) _ H103.out H105.out (N := N + 3) (by omega) (FP.out.mono (by omega)) ((FS.out.add FS.out).mono (by omega)) (by omega)).mono ?_
            rintro ew106 w106 ⟨v108, v108x, rfl, v108h, v108m, hb107⟩
            obtain ⟨b109, A110, l111, c112, rfl⟩ := v108h.ofWords
            obtain ⟨b113, A114, l115, c116, rfl⟩ := v108m.ofWords
            have H117 := Lib.hid (H101.out.ext hb107)
            have H118 := Lib.hid (H102.out.below hb107)
            have H119 := Lib.hid (H103.out.ext hb107)
            have H120 := Lib.hid (H104.out.ext hb107)
            have H121 := Lib.hid (H105.out.ext hb107)
            have H122 := Lib.hid (v108h)
            refine hK.out _ _ (fun _ => ⟨H118.out.c0, H118.out.c1, H118.out.c2, H118.out.c3⟩) ?_
            clear hK K
            try simp only [Act.put, List.setIfInBounds_toArray, List.set_cons_zero, List.set_cons_succ]
            refine wpAnyC_take8 (i := 8) (oi := _) (v := .tuple #[.agg #[.bool b109, .slice A110 l111 c112], .agg #[.bool b113, .slice A114 l115 c116]]) rfl (by kernel_rfl) (by kernel_rfl) (by kernel_rfl) (by kernel_rfl) (by kernel_rfl) (by kernel_rfl) (fun _ _ _ h => h) (Or.inl ⟨by rfl, ?_⟩) ⟨H118.out.c0, H118.out.c1, H118.out.c2, H118.out.c3⟩ ?_
            · intro w hSw
              obtain ⟨s0, s1, s2, s3⟩ := hSw
              go_simp
            try simp only [Act.put, List.setIfInBounds_toArray]
            refine wpAnyC_take8 (i := 9) (oi := _) (v := .agg #[.bool b109, .slice A110 l111 c112]) rfl (by kernel_rfl) (by kernel_rfl) (by kernel_rfl) (by kernel_rfl) (by kernel_rfl) (by kernel_rfl) (fun _ _ _ h => h) (Or.inl ⟨by rfl, ?_⟩) ⟨H118.out.c0, H118.out.c1, H118.out.c2, H118.out.c3⟩ ?_
            · intro w hSw
              obtain ⟨s0, s1, s2, s3⟩ := hSw
              go_simp
            try simp only [Act.put]
            refine wpAnyC_take8 (i := 10) (oi := _) (v := .agg #[.bool b113, .slice A114 l115 c116]) rfl (by kernel_rfl) (by kernel_rfl) (by kernel_rfl) (by kernel_rfl) (by kernel_rfl) (by kernel_rfl) (fun _ _ _ h => h) (Or.inl ⟨by rfl, ?_⟩) ⟨H118.out.c0, H118.out.c1, H118.out.c2, H118.out.c3⟩ ?_
            · intro w hSw
              obtain ⟨s0, s1, s2, s3⟩ := hSw
              go_simp
            try simp only [Act.put]
            refine wpAnyC_two (i := 11) (j := 12) (by kernel_rfl) rfl rfl (fun K hK => ?_) (fun K hK => ?_)
            · skip
              go_simp
              have H125 := Lib.hid (H117.out.alloc (.cells #[.bool false, .slice none 0 0] 45))
              have H126 := Lib.hid (H118.out.alloc (.cells #[.bool false, .slice none 0 0] 45))
              have H127 := Lib.hid (H119.out.alloc (.cells #[.bool false, .slice none 0 0] 45))
              have H128 := Lib.hid (H120.out.alloc (.cells #[.bool false, .slice none 0 0] 45))
              have H129 := Lib.hid (H121.out.alloc (.cells #[.bool false, .slice none 0 0] 45))
              have H130 := Lib.hid (H122.out.alloc (.cells #[.bool false, .slice none 0 0] 45))
              have H131 := Lib.hid ((Blk.new w106 45 #[.bool false, .slice none 0 0]).var)
              have lt132 : g < w106.heap.size := H117.out.vt.lt
              have lt133 : g4 < w106.heap.size := H118.out.lt
              refine hK.out _ _ (fun _ => ⟨H126.out.c0, H126.out.c1, H126.out.c2, H126.out.c3⟩) ?_
              clear hK K
              try simp only [Act.put, List.setIfInBounds_toArray, List.set_cons_zero, List.set_cons_succ]
              generalize w106.alloc (.cells #[.bool false, .slice none 0 0] 45) = w124 at *
              generalize w106.heap.size = g123 at *
              refine wpAnyC_one (i := 12) (by kernel_rfl) rfl (fun K hK => ?_)
              go_simp
              have H136 := Lib.hid (H125.out.alloc (.cells #[.bool false, .slice none 0 0] 45))
              have H137 := Lib.hid (H126.out.alloc (.cells #[.bool false, .slice none 0 0] 45))
              have H138 := Lib.hid (H127.out.alloc (.cells #[.bool false, .slice none 0 0] 45))
              have H139 := Lib.hid (H128.out.alloc (.cells #[.bool false, .slice none 0 0] 45))
              have H140 := Lib.hid (H129.out.alloc (.cells #[.bool false, .slice none 0 0] 45))
              have H141 := Lib.hid (H130.out.alloc (.cells #[.bool false, .slice none 0 0] 45))
              have H142 := Lib.hid (H131.out.alloc (.cells #[.bool false, .slice none 0 0] 45))
              have H143 := Lib.hid ((Blk.new w124 45 #[.bool false, .slice none 0 0]).var)
              have lt144 : g123 < w124.heap.size := H131.out.lt
              have lt145 : g < w124.heap.size := H125.out.vt.lt
              have lt146 : g4 < w124.heap.size := H126.out.lt
              refine hK.out _ _ (fun _ => ⟨H137.out.c0, H137.out.c1, H137.out.c2, H137.out.c3⟩) ?_
              clear hK K
              try simp only [Act.put, List.setIfInBounds_toArray, List.set_cons_zero, List.set_cons_succ]
              generalize w124.alloc (.cells #[.bool false, .slice none 0 0] 45) = w135 at *
              generalize w124.heap.size = g134 at *
              have hv := H142.out
              have hm := H143.out
              have hm2 := hm.far (g' := g123) (by omega) (.bool b109) (.slice A110 l111 c112)
              have HR1 := Lib.hid ((H136.out.set2 hv (by omega) (by omega) (.bool b109) (.slice A110 l111 c112)).set2 hm2 (by omega) (by omega) (.bool b113) (.slice A114 l115 c116))
              have HR2 := Lib.hid ((hv.set (.bool b109) (.slice A110 l111 c112)).far (g' := g134) (by omega) (.bool b113) (.slice A114 l115 c116))
              have HR3 := H141.out.setVar hv (.bool b109) (.slice A110 l111 c112) |>.setVar hm2 (.bool b113) (.slice A114 l115 c116)
              rw [HEQ.out] at HR3
              have HR3 := Lib.hid HR3
              have r0 := hv.c0
              have q0 := hv.f0
              have r1 := hv.c1
              have q1 := hv.f1
              have hv4 := H137.out.far2 (g' := g123) (by omega) (.bool b109) (.slice A110 l111 c112)
              refine wpAnyC_one (i := 13) (by kernel_rfl) rfl (fun K hK => ?_)
              go_simp
              refine hK.out _ _ (fun _ => ⟨hv4.c0, hv4.c1, hv4.c2, hv4.c3⟩) ?_
              clear hK K r0 r1 q0 q1
              have r0 := hm2.c0
              have q0 := hm2.f0
              have r1 := hm2.c1
              have q1 := hm2.f1
              refine wpAnyC_one (i := 14) (by kernel_rfl) rfl (fun K hK => ?_)
              go_simp
              refine hK.out _ _ (fun h => absurd h (by decide)) ?_
              clear hK K r0 r1 q0 q1 hv hm hm2
              refine wpAnyC_done (by kernel_rfl) ?_ _
              go_wp2_with fail
              go_meet
              exact ⟨_, _, _, _, _, rfl, HR2.out, HR3.out, ⟨by omega, by omega⟩, HR1.out⟩
            · skip
              go_simp
              have H149 := Lib.hid (H117.out.alloc (.cells #[.bool false, .slice none 0 0] 45))
              have H150 := Lib.hid (H118.out.alloc (.cells #[.bool false, .slice none 0 0] 45))
              have H151 := Lib.hid (H119.out.alloc (.cells #[.bool false, .slice none 0 0] 45))
              have H152 := Lib.hid (H120.out.alloc (.cells #[.bool false, .slice none 0 0] 45))
              have H153 := Lib.hid (H121.out.alloc (.cells #[.bool false, .slice none 0 0] 45))
              have H154 := Lib.hid (H122.out.alloc (.cells #[.bool false, .slice none 0 0] 45))
              have H155 := Lib.hid ((Blk.new w106 45 #[.bool false, .slice none 0 0]).var)
              have lt156 : g < w106.heap.size := H117.out.vt.lt
              have lt157 : g4 < w106.heap.size := H118.out.lt
              refine hK.out _ _ (fun _ => ⟨H150.out.c0, H150.out.c1, H150.out.c2, H150.out.c3⟩) ?_
              clear hK K
              try simp only [Act.put, List.setIfInBounds_toArray, List.set_cons_zero, List.set_cons_succ]
              generalize w106.alloc (.cells #[.bool false, .slice none 0 0] 45) = w148 at *
              generalize w106.heap.size = g147 at *
              refine wpAnyC_one (i := 11) (by kernel_rfl) rfl (fun K hK => ?_)
              go_simp
              have H160 := Lib.hid (H149.out.alloc (.cells #[.bool false, .slice none 0 0] 45))
              have H161 := Lib.hid (H150.out.alloc (.cells #[.bool false, .slice none 0 0] 45))
              have H162 := Lib.hid (H151.out.alloc (.cells #[.bool false, .slice none 0 0] 45))
              have H163 := Lib.hid (H152.out.alloc (.cells #[.bool false, .slice none 0 0] 45))
              have H164 := Lib.hid (H153.out.alloc (.cells #[.bool false, .slice none 0 0] 45))
              have H165 := Lib.hid (H154.out.alloc (.cells #[.bool false, .slice none 0 0] 45))
              have H166 := Lib.hid (H155.out.alloc (.cells #[.bool false, .slice none 0 0] 45))
              have H167 := Lib.hid ((Blk.new w148 45 #[.bool false, .slice none 0 0]).var)
              have lt168 : g147 < w148.heap.size := H155.out.lt
              have lt169 : g < w148.heap.size := H149.out.vt.lt
              have lt170 : g4 < w148.heap.size := H150.out.lt
              refine hK.out _ _ (fun _ => ⟨H161.out.c0, H161.out.c1, H161.out.c2, H161.out.c3⟩) ?_
              clear hK K
              try simp only [Act.put, List.setIfInBounds_toArray, List.set_cons_zero, List.set_cons_succ]
              generalize w148.alloc (.cells #[.bool false, .slice none 0 0] 45) = w159 at *
              generalize w148.heap.size = g158 at *
              have hv := H167.out
              have hm := H166.out
              have hm2 := hm.far (g' := g158) (by omega) (.bool b109) (.slice A110 l111 c112)
              have HR1 := Lib.hid ((H160.out.set2 hv (by omega) (by omega) (.bool b109) (.slice A110 l111 c112)).set2 hm2 (by omega) (by omega) (.bool b113) (.slice A114 l115 c116))
              have HR2 := Lib.hid ((hv.set (.bool b109) (.slice A110 l111 c112)).far (g' := g147) (by omega) (.bool b113) (.slice A114 l115 c116))
              have HR3 := H165.out.setVar hv (.bool b109) (.slice A110 l111 c112) |>.setVar hm2 (.bool b113) (.slice A114 l115 c116)
              rw [HEQ.out] at HR3
              have HR3 := Lib.hid HR3
              have r0 := hv.c0
              have q0 := hv.f0
              have r1 := hv.c1
              have q1 := hv.f1
              have hv4 := H161.out.far2 (g' := g158) (by omega) (.bool b109) (.slice A110 l111 c112)
              refine wpAnyC_one (i := 13) (by kernel_rfl) rfl (fun K hK => ?_)
              go_simp
              refine hK.out _ _ (fun _ => ⟨hv4.c0, hv4.c1, hv4.c2, hv4.c3⟩) ?_
              clear hK K r0 r1 q0 q1
              have r0 := hm2.c0
              have q0 := hm2.f0
              have r1 := hm2.c1
              have q1 := hm2.f1
              refine wpAnyC_one (i := 14) (by kernel_rfl) rfl (fun K hK => ?_)
              go_simp
              refine hK.out _ _ (fun h => absurd h (by decide)) ?_
              clear hK K r0 r1 q0 q1 hv hm hm2
              refine wpAnyC_done (by kernel_rfl) ?_ _
              go_wp2_with fail
              go_meet
              exact ⟨_, _, _, _, _, rfl, HR2.out, HR3.out, ⟨by omega, by omega⟩, HR1.out⟩
          · skip
            go_simp
            have H173 := Lib.hid (H101.out.alloc (.cells #[.bool false, .slice none 0 0] 45))
            have H174 := Lib.hid (H102.out.alloc (.cells #[.bool false, .slice none 0 0] 45))
            have H175 := Lib.hid (H103.out.alloc (.cells #[.bool false, .slice none 0 0] 45))
            have H176 := Lib.hid (H104.out.alloc (.cells #[.bool false, .slice none 0 0] 45))
            have H177 := Lib.hid (H105.out.alloc (.cells #[.bool false, .slice none 0 0] 45))
            have H178 := Lib.hid ((Blk.new w98 45 #[.bool false, .slice none 0 0]).var)
            have lt179 : g < w98.heap.size := H101.out.vt.lt
            have lt180 : g4 < w98.heap.size := H102.out.lt
            refine hK.out _ _ (fun _ => ⟨H174.out.c0, H174.out.c1, H174.out.c2, H174.out.c3⟩) ?_
            clear hK K
            try simp only [Act.put, List.setIfInBounds_toArray, List.set_cons_zero, List.set_cons_succ]
            generalize w98.alloc (.cells #[.bool false, .slice none 0 0] 45) = w172 at *
            generalize w98.heap.size = g171 at *
            refine wpAnyC_two (i := 7) (j := 12) (by kernel_rfl) rfl rfl (fun K hK => ?_) (fun K hK => ?_)
            · skip
              go_simp
              go_at_call 56
              refine (divmod_any _ _ p (s + s) _ H175.out H177.out (N := N + 3) (by omega) (FP.out.mono (by omega)) ((FS.out.add FS.out).mono (by omega)) (by omega)).mono ?_
              rintro ew181 w181 ⟨v183, v183x, rfl, v183h, v183m, hb182⟩
              obtain ⟨b184, A185, l186, c187, rfl⟩ := v183h.ofWords
              obtain ⟨b188, A189, l190, c191, rfl⟩ := v183m.ofWords
              have H192 := Lib.hid (H173.out.ext hb182)
              have H193 := Lib.hid (H174.out.below hb182)
              have H194 := Lib.hid (H175.out.ext hb182)
              have H195 := Lib.hid (H176.out.ext hb182)
              have H196 := Lib.hid (H177.out.ext hb182)
              have H197 := Lib.hid (H178.out.below hb182)
              have H198 := Lib.hid (v183h)
              refine hK.out _ _ (fun _ => ⟨H193.out.c0, H193.out.c1, H193.out.c2, H193.out.c3⟩) ?_
              clear hK K
              try simp only [Act.put, List.setIfInBounds_toArray, List.set_cons_zero, List.set_cons_succ]
              refine wpAnyC_take8 (i := 8) (oi := _) (v := .tuple #[.agg #[.bool b184, .slice A185 l186 c187], .agg #[.bool b188, .slice A189 l190 c191]]) rfl (by kernel_rfl) (by kernel_rfl) (by kernel_rfl) (by kernel_rfl) (by kernel_rfl) (by kernel_rfl) (fun _ _ _ h => h) (Or.inl ⟨by rfl, ?_⟩) ⟨H193.out.c0, H193.out.c1, H193.out.c2, H193.out.c3⟩ ?_
              · intro w hSw
                obtain ⟨s0, s1, s2, s3⟩ := hSw
                go_simp
              try simp only [Act.put, List.setIfInBounds_toArray]
              refine wpAnyC_take8 (i := 9) (oi := _) (v := .agg #[.bool b184, .slice A185 l186 c187]) rfl (by kernel_rfl) (by kernel_rfl) (by kernel_rfl) (by kernel_rfl) (by kernel_rfl) (by kernel_rfl) (fun _ _ _ h => h) (Or.inl ⟨by rfl, ?_⟩) ⟨H193.out.c0, H193.out.c1, H193.out.c2, H193.out.c3⟩ ?_
              · intro w hSw
                obtain ⟨s0, s1, s2, s3⟩ := hSw
                go_simp
              try simp only [Act.put]
              refine wpAnyC_take8 (i := 10) (oi := _) (v := .agg #[.bool b188, .slice A189 l190 c191]) rfl (by kernel_rfl) (by kernel_rfl) (by kernel_rfl) (by kernel_rfl) (by kernel_rfl) (by kernel_rfl) (fun _ _ _ h => h) (Or.inl ⟨by rfl, ?_⟩) ⟨H193.out.c0, H193.out.c1, H193.out.c2, H193.out.c3⟩ ?_
              · intro w hSw
                obtain ⟨s0, s1, s2, s3⟩ := hSw
                go_simp
              try simp only [Act.put]
              refine wpAnyC_one (i := 12) (by kernel_rfl) rfl (fun K hK => ?_)
              go_simp
              have H201 := Lib.hid (H192.out.alloc (.cells #[.bool false, .slice none 0 0] 45))
              have H202 := Lib.hid (H193.out.alloc (.cells #[.bool false, .slice none 0 0] 45))
              have H203 := Lib.hid (H194.out.alloc (.cells #[.bool false, .slice none 0 0] 45))
              have H204 := Lib.hid (H195.out.alloc (.cells #[.bool false, .slice none 0 0] 45))
              have H205 := Lib.hid (H196.out.alloc (.cells #[.bool false, .slice none 0 0] 45))
              have H206 := Lib.hid (H197.out.alloc (.cells #[.bool false, .slice none 0 0] 45))
              have H207 := Lib.hid (H198.out.alloc (.cells #[.bool false, .slice none 0 0] 45))
              have H208 := Lib.hid ((Blk.new w181 45 #[.bool false, .slice none 0 0]).var)
              have lt209 : g171 < w181.heap.size := H197.out.lt
              have lt210 : g < w181.heap.size := H192.out.vt.lt
              have lt211 : g4 < w181.heap.size := H193.out.lt
              refine hK.out _ _ (fun _ => ⟨H202.out.c0, H202.out.c1, H202.out.c2, H202.out.c3⟩) ?_
              clear hK K
              try simp only [Act.put, List.setIfInBounds_toArray, List.set_cons_zero, List.set_cons_succ]
              generalize w181.alloc (.cells #[.bool false, .slice none 0 0] 45) = w200 at *
              generalize w181.heap.size = g199 at *
              have hv := H206.out
              have hm := H208.out
              have hm2 := hm.far (g' := g171) (by omega) (.bool b184) (.slice A185 l186 c187)
              have HR1 := Lib.hid ((H201.out.set2 hv (by omega) (by omega) (.bool b184) (.slice A185 l186 c187)).set2 hm2 (by omega) (by omega) (.bool b188) (.slice A189 l190 c191))
              have HR2 := Lib.hid ((hv.set (.bool b184) (.slice A185 l186 c187)).far (g' := g199) (by omega) (.bool b188) (.slice A189 l190 c191))
              have HR3 := H207.out.setVar hv (.bool b184) (.slice A185 l186 c187) |>.setVar hm2 (.bool b188) (.slice A189 l190 c191)
              rw [HEQ.out] at HR3
              have HR3 := Lib.hid HR3
              have r0 := hv.c0
              have q0 := hv.f0
              have r1 := hv.c1
              have q1 := hv.f1
              have hv4 := H202.out.far2 (g' := g171) (by omega) (.bool b184) (.slice A185 l186 c187)
              refine wpAnyC_one (i := 13) (by kernel_rfl) rfl (fun K hK => ?_)
              go_simp
              refine hK.out _ _ (fun _ => ⟨hv4.c0, hv4.c1, hv4.c2, hv4.c3⟩) ?_
              clear hK K r0 r1 q0 q1
              have r0 := hm2.c0
              have q0 := hm2.f0
              have r1 := hm2.c1
              have q1 := hm2.f1
              refine wpAnyC_one (i := 14) (by kernel_rfl) rfl (fun K hK => ?_)
              go_simp
              refine hK.out _ _ (fun h => absurd h (by decide)) ?_
              clear hK K r0 r1 q0 q1 hv hm hm2
              refine wpAnyC_done (by kernel_rfl) ?_ _
              go_wp2_with fail
              go_meet
              exact ⟨_, _, _, _, _, rfl, HR2.out, HR3.out, ⟨by omega, by omega⟩, HR1.out⟩
            · skip
              go_simp
              have H214 := Lib.hid (H173.out.alloc (.cells #[.bool false, .slice none 0 0] 45))
              have H215 := Lib.hid (H174.out.alloc (.cells #[.bool false, .slice none 0 0] 45))
              have H216 := Lib.hid (H175.out.alloc (.cells #[.bool false, .slice none 0 0] 45))
              have H217 := Lib.hid (H176.out.alloc (.cells #[.bool false, .slice none 0 0] 45))
              have H218 := Lib.hid (H177.out.alloc (.cells #[.bool false, .slice none 0 0] 45))
              have H219 := Lib.hid (H178.out.alloc (.cells #[.bool false, .slice none 0 0] 45))
              have H220 := Lib.hid ((Blk.new w172 45 #[.bool false, .slice none 0 0]).var)
              have lt221 : g171 < w172.heap.size := H178.out.lt
              have lt222 : g < w172.heap.size := H173.out.vt.lt
              have lt223 : g4 < w172.heap.size := H174.out.lt
              refine hK.out _ _ (fun _ => ⟨H215.out.c0, H215.out.c1, H215.out.c2, H215.out.c3⟩) ?_
              clear hK K
              try simp only [Act.put, List.setIfInBounds_toArray, List.set_cons_zero, List.set_cons_succ]
              generalize w172.alloc (.cells #[.bool false, .slice none 0 0] 45) = w213 at *
              generalize w172.heap.size = g212 at *
              refine wpAnyC_one (i := 7) (by kernel_rfl) rfl (fun K hK => ?_)
              go_simp
              go_at_call 56
              refine (divmod_any _ _ p (s + s) _ H216.out H218.out (N := N + 3) (by omega) (FP.out.mono (by omega)) ((FS.out.add FS.out).mono (by omega)) (by omega)).mono ?_
              rintro ew224 w224 ⟨v226, v226x, rfl, v226h, v226m, hb225⟩
              obtain ⟨b227, A228, l229, c230, rfl⟩ := v226h.ofWords
              obtain ⟨b231, A232, l233, c234, rfl⟩ := v226m.ofWords
              have H235 := Lib.hid (H214.out.ext hb225)
              have H236 := Lib.hid (H215.out.below hb225)
              have H237 := Lib.hid (H216.out.ext hb225)
              have H238 := Lib.hid (H217.out.ext hb225)
              have H239 := Lib.hid (H218.out.ext hb225)
              have H240 := Lib.hid (H219.out.below hb225)
              have H241 := Lib.hid (H220.out.below hb225)
              have H242 := Lib.hid (v226h)
              refine hK.out _ _ (fun _ => ⟨H236.out.c0, H236.out.c1, H236.out.c2, H236.out.c3⟩) ?_
              clear hK K
              try simp only [Act.put, List.setIfInBounds_toArray, List.set_cons_zero, List.set_cons_succ]
              refine wpAnyC_take8 (i := 8) (oi := _) (v := .tuple #[.agg #[.bool b227, .slice A228 l229 c230], .agg #[.bool b231, .slice A232 l233 c234]]) rfl (by kernel_rfl) (by kernel_rfl) (by kernel_rfl) (by kernel_rfl) (by kernel_rfl) (by kernel_rfl) (fun _ _ _ h => h) (Or.inl ⟨by rfl, ?_⟩) ⟨H236.out.c0, H236.out.c1, H236.out.c2, H236.out.c3⟩ ?_
              · intro w hSw
                obtain ⟨s0, s1, s2, s3⟩ := hSw
                go_simp
              try simp only [Act.put, List.setIfInBounds_toArray]
              refine wpAnyC_take8 (i := 9) (oi := _) (v := .agg #[.bool b227, .slice A228 l229 c230]) rfl (by kernel_rfl) (by kernel_rfl) (by kernel_rfl) (by kernel_rfl) (by kernel_rfl) (by kernel_rfl) (fun _ _ _ h => h) (Or.inl ⟨by rfl, ?_⟩) ⟨H236.out.c0, H236.out.c1, H236.out.c2, H236.out.c3⟩ ?_
              · intro w hSw
                obtain ⟨s0, s1, s2, s3⟩ := hSw
                go_simp
              try simp only [Act.put]
              refine wpAnyC_take8 (i := 10) (oi := _) (v := .agg #[.bool b231, .slice A232 l233 c234]) rfl (by kernel_rfl) (by kernel_rfl) (by kernel_rfl) (by kernel_rfl) (by kernel_rfl) (by kernel_rfl) (fun _ _ _ h => h) (Or.inl ⟨by rfl, ?_⟩) ⟨H236.out.c0, H236.out.c1, H236.out.c2, H236.out.c3⟩ ?_
              · intro w hSw
                obtain ⟨s0, s1, s2, s3⟩ := hSw
                go_simp
              try simp only [Act.put]
              have hv := H240.out
              have hm := H241.out
              have hm2 := hm.far (g' := g171) (by omega) (.bool b227) (.slice A228 l229 c230)
              have HR1 := Lib.hid ((H235.out.set2 hv (by omega) (by omega) (.bool b227) (.slice A228 l229 c230)).set2 hm2 (by omega) (by omega) (.bool b231) (.slice A232 l233 c234))
              have HR2 := Lib.hid ((hv.set (.bool b227) (.slice A228 l229 c230)).far (g' := g212) (by omega) (.bool b231) (.slice A232 l233 c234))
              have HR3 := H242.out.setVar hv (.bool b227) (.slice A228 l229 c230) |>.setVar hm2 (.bool b231) (.slice A232 l233 c234)
              rw [HEQ.out] at HR3
              have HR3 := Lib.hid HR3
              have r0 := hv.c0
              have q0 := hv.f0
              have r1 := hv.c1
              have q1 := hv.f1
              have hv4 := H236.out.far2 (g' := g171) (by omega) (.bool b227) (.slice A228 l229 c230)
              refine wpAnyC_one (i := 13) (by kernel_rfl) rfl (fun K hK => ?_)
              go_simp
              refine hK.out _ _ (fun _ => ⟨hv4.c0, hv4.c1, hv4.c2, hv4.c3⟩) ?_
              clear hK K r0 r1 q0 q1
              have r0 := hm2.c0
              have q0 := hm2.f0
              have r1 := hm2.c1
              have q1 := hm2.f1
              refine wpAnyC_one (i := 14) (by kernel_rfl) rfl (fun K hK => ?_)
              go_simp
              refine hK.out _ _ (fun h => absurd h (by decide)) ?_
              clear hK K r0 r1 q0 q1 hv hm hm2
              refine wpAnyC_done (by kernel_rfl) ?_ _
              go_wp2_with fail
              go_meet
              exact ⟨_, _, _, _, _, rfl, HR2.out, HR3.out, ⟨by omega, by omega⟩, HR1.out⟩
          · skip
            go_simp
            have H245 := Lib.hid (H101.out.alloc (.cells #[.bool false, .slice none 0 0] 45))
            have H246 := Lib.hid (H102.out.alloc (.cells #[.bool false, .slice none 0 0] 45))
            have H247 := Lib.hid (H103.out.alloc (.cells #[.bool false, .slice none 0 0] 45))
            have H248 := Lib.hid (H104.out.alloc (.cells #[.bool false, .slice none 0 0] 45))
            have H249 := Lib.hid (H105.out.alloc (.cells #[.bool false, .slice none 0 0] 45))
            have H250 := Lib.hid ((Blk.new w98 45 #[.bool false, .slice none 0 0]).var)
            have lt251 : g < w98.heap.size := H101.out.vt.lt
            have lt252 : g4 < w98.heap.size := H102.out.lt
            refine hK.out _ _ (fun _ => ⟨H246.out.c0, H246.out.c1, H246.out.c2, H246.out.c3⟩) ?_
            clear hK K
            try simp only [Act.put, List.setIfInBounds_toArray, List.set_cons_zero, List.set_cons_succ]
            generalize w98.alloc (.cells #[.bool false, .slice none 0 0] 45) = w244 at *
            generalize w98.heap.size = g243 at *
            refine wpAnyC_two (i := 7) (j := 11) (by kernel_rfl) rfl rfl (fun K hK => ?_) (fun K hK => ?_)
            · skip
              go_simp
              go_at_call 56
              refine (divmod_any _ _ p (s + s) _ H247.out H249.out (N := N + 3) (by omega) (FP.out.mono (by omega)) ((FS.out.add FS.out).mono (by omega)) (by omega)).mono ?_
              rintro ew253 w253 ⟨v255, v255x, rfl, v255h, v255m, hb254⟩
              obtain ⟨b256, A257, l258, c259, rfl⟩ := v255h.ofWords
              obtain ⟨b260, A261, l262, c263, rfl⟩ := v255m.ofWords
              have H264 := Lib.hid (H245.out.ext hb254)
              have H265 := Lib.hid (H246.out.below hb254)
              have H266 := Lib.hid (H247.out.ext hb254)
              have H267 := Lib.hid (H248.out.ext hb254)
              have H268 := Lib.hid (H249.out.ext hb254)
              have H269 := Lib.hid (H250.out.below hb254)
              have H270 := Lib.hid (v255h)
              refine hK.out _ _ (fun _ => ⟨H265.out.c0, H265.out.c1, H265.out.c2, H265.out.c3⟩) ?_
              clear hK K
              try simp only [Act.put, List.setIfInBounds_toArray, List.set_cons_zero, List.set_cons_succ]
              refine wpAnyC_take8 (i := 8) (oi := _) (v := .tuple #[.agg #[.bool b256, .slice A257 l258 c259], .agg #[.bool b260, .slice A261 l262 c263]]) rfl (by kernel_rfl) (by kernel_rfl) (by kernel_rfl) (by kernel_rfl) (by kernel_rfl) (by kernel_rfl) (fun _ _ _ h => h) (Or.inl ⟨by rfl, ?_⟩) ⟨H265.out.c0, H265.out.c1, H265.out.c2, H265.out.c3⟩ ?_
              · intro w hSw
                obtain ⟨s0, s1, s2, s3⟩ := hSw
                go_simp
              try simp only [Act.put, List.setIfInBounds_toArray]
              refine wpAnyC_take8 (i := 9) (oi := _) (v := .agg #[.bool b256, .slice A257 l258 c259]) rfl (by kernel_rfl) (by kernel_rfl) (by kernel_rfl) (by kernel_rfl) (by kernel_rfl) (by kernel_rfl) (fun _ _ _ h => h) (Or.inl ⟨by rfl, ?_⟩) ⟨H265.out.c0, H265.out.c1, H265.out.c2, H265.out.c3⟩ ?_
              · intro w hSw
                obtain ⟨s0, s1, s2, s3⟩ := hSw
                go_simp
              try simp only [Act.put]
              refine wpAnyC_take8 (i := 10) (oi := _) (v := .agg #[.bool b260, .slice A261 l262 c263]) rfl (by kernel_rfl) (by kernel_rfl) (by kernel_rfl) (by kernel_rfl) (by kernel_rfl) (by kernel_rfl) (fun _ _ _ h => h) (Or.inl ⟨by rfl, ?_⟩) ⟨H265.out.c0, H265.out.c1, H265.out.c2, H265.out.c3⟩ ?_
              · intro w hSw
                obtain ⟨s0, s1, s2, s3⟩ := hSw
                go_simp
              try simp only [Act.put]
              refine wpAnyC_one (i := 11) (by kernel_rfl) rfl (fun K hK => ?_)
              go_simp
              have H273 := Lib.hid (H264.out.alloc (.cells #[.bool false, .slice none 0 0] 45))
              have H274 := Lib.hid (H265.out.alloc (.cells #[.bool false, .slice none 0 0] 45))
              have H275 := Lib.hid (H266.out.alloc (.cells #[.bool false, .slice none 0 0] 45))
              have H276 := Lib.hid (H267.out.alloc (.cells #[.bool false, .slice none 0 0] 45))
              have H277 := Lib.hid (H268.out.alloc (.cells #[.bool false, .slice none 0 0] 45))
              have H278 := Lib.hid (H269.out.alloc (.cells #[.bool false, .slice none 0 0] 45))
              have H279 := Lib.hid (H270.out.alloc (.cells #[.bool false, .slice none 0 0] 45))
              have H280 := Lib.hid ((Blk.new w253 45 #[.bool false, .slice none 0 0]).var)
              have lt281 : g243 < w253.heap.size := H269.out.lt
              have lt282 : g < w253.heap.size := H264.out.vt.lt
              have lt283 : g4 < w253.heap.size := H265.out.lt
              refine hK.out _ _ (fun _ => ⟨H274.out.c0, H274.out.c1, H274.out.c2, H274.out.c3⟩) ?_
              clear hK K
              try simp only [Act.put, List.setIfInBounds_toArray, List.set_cons_zero, List.set_cons_succ]
              generalize w253.alloc (.cells #[.bool false, .slice none 0 0] 45) = w272 at *
              generalize w253.heap.size = g271 at *
              have hv := H280.out
              have hm := H278.out
              have hm2 := hm.far (g' := g271) (by omega) (.bool b256) (.slice A257 l258 c259)
              have HR1 := Lib.hid ((H273.out.set2 hv (by omega) (by omega) (.bool b256) (.slice A257 l258 c259)).set2 hm2 (by omega) (by omega) (.bool b260) (.slice A261 l262 c263))
              have HR2 := Lib.hid ((hv.set (.bool b256) (.slice A257 l258 c259)).far (g' := g243) (by omega) (.bool b260) (.slice A261 l262 c263))
              have HR3 := H279.out.setVar hv (.bool b256) (.slice A257 l258 c259) |>.setVar hm2 (.bool b260) (.slice A261 l262 c263)
              rw [HEQ.out] at HR3
              have HR3 := Lib.hid HR3
              have r0 := hv.c0
              have q0 := hv.f0
              have r1 := hv.c1
              have q1 := hv.f1
              have hv4 := H274.out.far2 (g' := g271) (by omega) (.bool b256) (.slice A257 l258 c259)
              refine wpAnyC_one (i := 13) (by kernel_rfl) rfl (fun K hK => ?_)
              go_simp
              refine hK.out _ _ (fun _ => ⟨hv4.c0, hv4.c1, hv4.c2, hv4.c3⟩) ?_
              clear hK K r0 r1 q0 q1
              have r0 := hm2.c0
              have q0 := hm2.f0
              have r1 := hm2.c1
              have q1 := hm2.f1
              refine wpAnyC_one (i := 14) (by kernel_rfl) rfl (fun K hK => ?_)
              go_simp
              refine hK.out _ _ (fun h => absurd h (by decide)) ?_
              clear hK K r0 r1 q0 q1 hv hm hm2
              refine wpAnyC_done (by kernel_rfl) ?_ _
              go_wp2_with fail
              go_meet
              exact ⟨_, _, _, _, _, rfl, HR2.out, HR3.out, ⟨by omega, by omega⟩, HR1.out⟩
            · skip
              go_simp
              have H286 := Lib.hid (H245.out.alloc (.cells #[.bool false, .slice none 0 0] 45))
              have H287 := Lib.hid (H246.out.alloc (.cells #[.bool false, .slice none 0 0] 45))
              have H288 := Lib.hid (H247.out.alloc (.cells #[.bool false, .slice none 0 0] 45))
              have H289 := Lib.hid (H248.out.alloc (.cells #[.bool false, .slice none 0 0] 45))
              have H290 := Lib.hid (H249.out.alloc (.cells #[.bool false, .slice none 0 0] 45))
              have H291 := Lib.hid (H250.out.alloc (.cells #[.bool false, .slice none 0 0] 45))
              have H292 := Lib.hid ((Blk.new w244 45 #[.bool false, .slice none 0 0]).var)
              have lt293 : g243 < w244.heap.size := H250.out.lt
              have lt294 : g < w244.heap.size := H245.out.vt.lt
              have lt295 : g4 < w244.heap.size := H246.out.lt
              refine hK.out _ _ (fun _ => ⟨H287.out.c0, H287.out.c1, H287.out.c2, H287.out.c3⟩) ?_
              clear hK K
              try simp only [Act.put, List.setIfInBounds_toArray, List.set_cons_zero, List.set_cons_succ]
              generalize w244.alloc (.cells #[.bool false, .slice none 0 0] 45) = w285 at *
              generalize w244.heap.size = g284 at *
              refine wpAnyC_one (i := 7) (by kernel_rfl) rfl (fun K hK => ?_)
              go_simp
              go_at_call 56
              refine (divmod_any _ _ p (s + s) _ H288.out H290.out (N := N + 3) (by omega) (FP.out.mono (by omega)) ((FS.out.add FS.out).mono (by omega)) (by omega)).mono ?_
              rintro ew296 w296 ⟨v298, v298x, rfl, v298h, v298m, hb297⟩
              obtain ⟨b299, A300, l301, c302, rfl⟩ := v298h.ofWords
              obtain ⟨b303, A304, l305, c306, rfl⟩ := v298m.ofWords
              have H307 := Lib.hid (H286.out.ext hb297)
              have H308 := Lib.hid (H287.out.below hb297)
              have H309 := Lib.hid (H288.out.ext hb297)
              have H310 := Lib.hid (H289.out.ext hb297)
              have H311 := Lib.hid (H290.out.ext hb297)
              have H312 := Lib.hid (H291.out.below hb297)
              have H313 := Lib.hid (H292.out.below hb297)
              have H314 := Lib.hid (v298h)
              refine hK.out _ _ (fun _ => ⟨H308.out.c0, H308.out.c1, H308.out.c2, H308.out.c3⟩) ?_
              clear hK K
              try simp only [Act.put, List.setIfInBounds_toArray, List.set_cons_zero, List.set_cons_succ]
              refine wpAnyC_take8 (i := 8) (oi := _) (v := .tuple #[.agg #[.bool b299, .slice A300 l301 c302], .agg #[.bool b303, .slice A304 l305 c306]]) rfl (by kernel_rfl) (by kernel_rfl) (by kernel_rfl) (by kernel_rfl) (by kernel_rfl) (by kernel_rfl) (fun _ _ _ h => h) (Or.inl ⟨by rfl, ?_⟩) ⟨H308.out.c0, H308.out.c1, H308.out.c2, H308.out.c3⟩ ?_
              · intro w hSw
                obtain ⟨s0, s1, s2, s3⟩ := hSw
                go_simp
              try simp only [Act.put, List.setIfInBounds_toArray]
              refine wpAnyC_take8 (i := 9) (oi := _) (v := .agg #[.bool b299, .slice A300 l301 c302]) rfl (by kernel_rfl) (by kernel_rfl) (by kernel_rfl) (by kernel_rfl) (by kernel_rfl) (by kernel_rfl) (fun _ _ _ h => h) (Or.inl ⟨by rfl, ?_⟩) ⟨H308.out.c0, H308.out.c1, H308.out.c2, H308.out.c3⟩ ?_
              · intro w hSw
                obtain ⟨s0, s1, s2, s3⟩ := hSw
                go_simp
              try simp only [Act.put]
              refine wpAnyC_take8 (i := 10) (oi := _) (v := .agg #[.bool b303, .slice A304 l305 c306]) rfl (by kernel_rfl) (by kernel_rfl) (by kernel_rfl) (by kernel_rfl) (by kernel_rfl) (by kernel_rfl) (fun _ _ _ h => h) (Or.inl ⟨by rfl, ?_⟩) ⟨H308.out.c0, H308.out.c1, H308.out.c2, H308.out.c3⟩ ?_
              · intro w hSw
                obtain ⟨s0, s1, s2, s3⟩ := hSw
                go_simp
              try simp only [Act.put]
              have hv := H313.out
              have hm := H312.out
              have hm2 := hm.far (g' := g284) (by omega) (.bool b299) (.slice A300 l301 c302)
              have HR1 := Lib.hid ((H307.out.set2 hv (by omega) (by omega) (.bool b299) (.slice A300 l301 c302)).set2 hm2 (by omega) (by omega) (.bool b303) (.slice A304 l305 c306))
              have HR2 := Lib.hid ((hv.set (.bool b299) (.slice A300 l301 c302)).far (g' := g243) (by omega) (.bool b303) (.slice A304 l305 c306))
              have HR3 := H314.out.setVar hv (.bool b299) (.slice A300 l301 c302) |>.setVar hm2 (.bool b303) (.slice A304 l305 c306)
              rw [HEQ.out] at HR3
              have HR3 := Lib.hid HR3
              have r0 := hv.c0
              have q0 := hv.f0
              have r1 := hv.c1
              have q1 := hv.f1
              have hv4 := H308.out.far2 (g' := g284) (by omega) (.bool b299) (.slice A300 l301 c302)
              refine wpAnyC_one (i := 13) (by kernel_rfl) rfl (fun K hK => ?_)
              go_simp
              refine hK.out _ _ (fun _ => ⟨hv4.c0, hv4.c1, hv4.c2, hv4.c3⟩) ?_
              clear hK K r0 r1 q0 q1
              have r0 := hm2.c0
              have q0 := hm2.f0
              have r1 := hm2.c1
              have q1 := hm2.f1
              refine wpAnyC_one (i := 14) (by kernel_rfl) rfl (fun K hK => ?_)
              go_simp
              refine hK.out _ _ (fun h => absurd h (by decide)) ?_
              clear hK K r0 r1 q0 q1 hv hm hm2
              refine wpAnyC_done (by kernel_rfl) ?_ _
              go_wp2_with fail
              go_meet
              exact ⟨_, _, _, _, _, rfl, HR2.out, HR3.out, ⟨by omega, by omega⟩, HR1.out⟩
        · skip
          go_simp
          have H317 := Lib.hid (HRS3.out.alloc (.cells #[.bool false, .slice none 0 0] 45))
          have H318 := Lib.hid (V4.out.alloc (.cells #[.bool false, .slice none 0 0] 45))
          have H319 := Lib.hid (BP.out.alloc (.cells #[.bool false, .slice none 0 0] 45))
          have H320 := Lib.hid (BS.out.alloc (.cells #[.bool false, .slice none 0 0] 45))
          have H321 := Lib.hid ((Blk.new WD 45 #[.bool false, .slice none 0 0]).var)
          have lt322 : g < WD.heap.size := HRS3.out.vt.lt
          have lt323 : g4 < WD.heap.size := V4.out.lt
          refine hK.out _ _ (fun _ => ⟨H318.out.c0, H318.out.c1, H318.out.c2, H318.out.c3⟩) ?_
          clear hK K
          try simp only [Act.put, List.setIfInBounds_toArray, List.set_cons_zero, List.set_cons_succ]
          generalize WD.alloc (.cells #[.bool false, .slice none 0 0] 45) = w316 at *
          generalize WD.heap.size = g315 at *
          refine wpAnyC_two (i := 6) (j := 12) (by kernel_rfl) rfl rfl (fun K hK => ?_) (fun K hK => ?_)
          · skip
            go_simp
            go_at_call 50
            refine (add_any _ _ s s _ H320.out H320.out (N := N + 2) (by omega) FS.out FS.out).mono ?_
            rintro ew324 w324 ⟨v326, rfl, v326h, hb325⟩
            have H327 := Lib.hid (H317.out.ext hb325)
            have H328 := Lib.hid (H318.out.below hb325)
            have H329 := Lib.hid (H319.out.ext hb325)
            have H330 := Lib.hid (H320.out.ext hb325)
            have H331 := Lib.hid (H321.out.below hb325)
            have H332 := Lib.hid (v326h)
            refine hK.out _ _ (fun _ => ⟨H328.out.c0, H328.out.c1, H328.out.c2, H328.out.c3⟩) ?_
            clear hK K
            try simp only [Act.put, List.setIfInBounds_toArray, List.set_cons_zero, List.set_cons_succ]
            refine wpAnyC_two (i := 7) (j := 12) (by kernel_rfl) rfl rfl (fun K hK => ?_) (fun K hK => ?_)
            · skip
              go_simp
              go_at_call 56
              refine (divmod_any _ _ p (s + s) _ H329.out H332.out (N := N + 3) (by omega) (FP.out.mono (by omega)) ((FS.out.add FS.out).mono (by omega)) (by omega)).mono ?_
              rintro ew333 w333 ⟨v335, v335x, rfl, v335h, v335m, hb334⟩
              obtain ⟨b336, A337, l338, c339, rfl⟩ := v335h.ofWords
              obtain ⟨b340, A341, l342, c343, rfl⟩ := v335m.ofWords
              have H344 := Lib.hid (H327.out.ext hb334)
              have H345 := Lib.hid (H328.out.below hb334)
              have H346 := Lib.hid (H329.out.ext hb334)
              have H347 := Lib.hid (H330.out.ext hb334)
              have H348 := Lib.hid (H331.out.below hb334)
              have H349 := Lib.hid (H332.out.ext hb334)
              have H350 := Lib.hid (v335h)
              refine hK.out _ _ (fun _ => ⟨H345.out.c0, H345.out.c1, H345.out.c2, H345.out.c3⟩) ?_
              clear hK K
              try simp only [Act.put, List.setIfInBounds_toArray, List.set_cons_zero, List.set_cons_succ]
              refine wpAnyC_take8 (i := 8) (oi := _) (v := .tuple #[.agg #[.bool b336, .slice A337 l338 c339], .agg #[.bool b340, .slice A341 l342 c343]]) rfl (by kernel_rfl) (by kernel_rfl) (by kernel_rfl) (by kernel_rfl) (by kernel_rfl) (by kernel_rfl) (fun _ _ _ h => h) (Or.inl ⟨by rfl, ?_⟩) ⟨H345.out.c0, H345.out.c1, H345.out.c2, H345.out.c3⟩ ?_
              · intro w hSw
                obtain ⟨s0, s1, s2, s3⟩ := hSw
                go_simp
              try simp only [Act.put, List.setIfInBounds_toArray]
              refine wpAnyC_take8 (i := 9) (oi := _) (v := .agg #[.bool b336, .slice A337 l338 c339]) rfl (by kernel_rfl) (by kernel_rfl) (by kernel_rfl) (by kernel_rfl) (by kernel_rfl) (by kernel_rfl) (fun _ _ _ h => h) (Or.inl ⟨by rfl, ?_⟩) ⟨H345.out.c0, H345.out.c1, H345.out.c2, H345.out.c3⟩ ?_
              · intro w hSw
                obtain ⟨s0, s1, s2, s3⟩ := hSw
                go_simp
              try simp only [Act.put]
              refine wpAnyC_take8 (i := 10) (oi := _) (v := .agg #[.bool b340, .slice A341 l342 c343]) rfl (by kernel_rfl) (by kernel_rfl) (by kernel_rfl) (by kernel_rfl) (by kernel_rfl) (by kernel_rfl) (fun _ _ _ h => h) (Or.inl ⟨by rfl, ?_⟩) ⟨H345.out.c0, H345.out.c1, H345.out.c2, H345.out.c3⟩ ?_
              · intro w hSw
                obtain ⟨s0, s1, s2, s3⟩ := hSw
                go_simp
              try simp only [Act.put]
              refine wpAnyC_one (i := 12) (by kernel_rfl) rfl (fun K hK => ?_)
              go_simp
              have H353 := Lib.hid (H344.out.alloc (.cells #[.bool false, .slice none 0 0] 45))
              have H354 := Lib.hid (H345.out.alloc (.cells #[.bool false, .slice none 0 0] 45))
              have H355 := Lib.hid (H346.out.alloc (.cells #[.bool false, .slice none 0 0] 45))
              have H356 := Lib.hid (H347.out.alloc (.cells #[.bool false, .slice none 0 0] 45))
              have H357 := Lib.hid (H348.out.alloc (.cells #[.bool false, .slice none 0 0] 45))
              have H358 := Lib.hid (H349.out.alloc (.cells #[.bool false, .slice none 0 0] 45))
              have H359 := Lib.hid (H350.out.alloc (.cells #[.bool false, .slice none 0 0] 45))
              have H360 := Lib.hid ((Blk.new w333 45 #[.bool false, .slice none 0 0]).var)
              have lt361 : g315 < w333.heap.size := H348.out.lt
              have lt362 : g < w333.heap.size := H344.out.vt.lt
              have lt363 : g4 < w333.heap.size := H345.out.lt
              refine hK.out _ _ (fun _ => ⟨H354.out.c0, H354.out.c1, H354.out.c2, H354.out.c3⟩) ?_
              clear hK K
              try simp only [Act.put, List.setIfInBounds_toArray, List.set_cons_zero, List.set_cons_succ]
              generalize w333.alloc (.cells #[.bool false, .slice none 0 0] 45) = w352 at *
              generalize w333.heap.size = g351 at *
              have hv := H357.out
              have hm := H360.out
              have hm2 := hm.far (g' := g315) (by omega) (.bool b336) (.slice A337 l338 c339)
              have HR1 := Lib.hid ((H353.out.set2 hv (by omega) (by omega) (.bool b336) (.slice A337 l338 c339)).set2 hm2 (by omega) (by omega) (.bool b340) (.slice A341 l342 c343))
              have HR2 := Lib.hid ((hv.set (.bool b336) (.slice A337 l338 c339)).far (g' := g351) (by omega) (.bool b340) (.slice A341 l342 c343))
              have HR3 := H359.out.setVar hv (.bool b336) (.slice A337 l338 c339) |>.setVar hm2 (.bool b340) (.slice A341 l342 c343)
              rw [HEQ.out] at HR3
              have HR3 := Lib.hid HR3
              have r0 := hv.c0
              have q0 := hv.f0
              have r1 := hv.c1
              have q1 := hv.f1
              have hv4 := H354.out.far2 (g' := g315) (by omega) (.bool b336) (.slice A337 l338 c339)
              refine wpAnyC_one (i := 13) (by kernel_rfl) rfl (fun K hK => ?_)
              go_simp
              refine hK.out _ _ (fun _ => ⟨hv4.c0, hv4.c1, hv4.c2, hv4.c3⟩) ?_
              clear hK K r0 r1 q0 q1
              have r0 := hm2.c0
              have q0 := hm2.f0
              have r1 := hm2.c1
              have q1 := hm2.f1
              refine wpAnyC_one (i := 14) (by kernel_rfl) rfl (fun K hK => ?_)
              go_simp
              refine hK.out _ _ (fun h => absurd h (by decide)) ?_
              clear hK K r0 r1 q0 q1 hv hm hm2
              refine wpAnyC_done (by kernel_rfl) ?_ _
              go_wp2_with fail
              go_meet
              exact ⟨_, _, _, _, _, rfl, HR2.out, HR3.out, ⟨by omega, by omega⟩, HR1.out⟩
            · skip
              go_simp
              have H366 := Lib.hid (H327.out.alloc (.cells #[.bool false, .slice none 0 0] 45))
              have H367 := Lib.hid (H328.out.alloc (.cells #[.bool false, .slice none 0 0] 45))
              have H368 := Lib.hid (H329.out.alloc (.cells #[.bool false, .slice none 0 0] 45))
              have H369 := Lib.hid (H330.out.alloc (.cells #[.bool false, .slice none 0 0] 45))
              have H370 := Lib.hid (H331.out.alloc (.cells #[.bool false, .slice none 0 0] 45))
              have H371 := Lib.hid (H332.out.alloc (.cells #[.bool false, .slice none 0 0] 45))
              have H372 := Lib.hid ((Blk.new w324 45 #[.bool false, .slice none 0 0]).var)
              have lt373 : g315 < w324.heap.size := H331.out.lt
              have lt374 : g < w324.heap.size := H327.out.vt.lt
              have lt375 : g4 < w324.heap.size := H328.out.lt
              refine hK.out _ _ (fun _ => ⟨H367.out.c0, H367.out.c1, H367.out.c2, H367.out.c3⟩) ?_
              clear hK K
              try simp only [Act.put, List.setIfInBounds_toArray, List.set_cons_zero, List.set_cons_succ]
              generalize w324.alloc (.cells #[.bool false, .slice none 0 0] 45) = w365 at *
              generalize w324.heap.size = g364 at *
              refine wpAnyC_one (i := 7) (by kernel_rfl) rfl (fun K hK => ?_)
              go_simp
              go_at_call 56
              refine (divmod_any _ _ p (s + s) _ H368.out H371.out (N := N + 3) (by omega) (FP.out.mono (by omega)) ((FS.out.add FS.out).mono (by omega)) (by omega)).mono ?_
              rintro ew376 w376 ⟨v378, v378x, rfl, v378h, v378m, hb377⟩
              obtain ⟨b379, A380, l381, c382, rfl⟩ := v378h.ofWords
              obtain ⟨b383, A384, l385, c386, rfl⟩ := v378m.ofWords
              have H387 := Lib.hid (H366.out.ext hb377)
              have H388 := Lib.hid (H367.out.below hb377)
              have H389 := Lib.hid (H368.out.ext hb377)
              have H390 := Lib.hid (H369.out.ext hb377)
              have H391 := Lib.hid (H370.out.below hb377)
              have H392 := Lib.hid (H371.out.ext hb377)
              have H393 := Lib.hid (H372.out.below hb377)
              have H394 := Lib.hid (v378h)
              refine hK.out _ _ (fun _ => ⟨H388.out.c0, H388.out.c1, H388.out.c2, H388.out.c3⟩) ?_
              clear hK K
              try simp only [Act.put, List.setIfInBounds_toArray, List.set_cons_zero, List.set_cons_succ]
              refine wpAnyC_take8 (i := 8) (oi := _) (v := .tuple #[.agg #[.bool b379, .slice A380 l381 c382], .agg #[.bool b383, .slice A384 l385 c386]]) rfl (by kernel_rfl) (by kernel_rfl) (by kernel_rfl) (by kernel_rfl) (by kernel_rfl) (by kernel_rfl) (fun _ _ _ h => h) (Or.inl ⟨by rfl, ?_⟩) ⟨H388.out.c0, H388.out.c1, H388.out.c2, H388.out.c3⟩ ?_
              · intro w hSw
                obtain ⟨s0, s1, s2, s3⟩ := hSw
                go_simp
              try simp only [Act.put, List.setIfInBounds_toArray]
              refine wpAnyC_take8 (i := 9) (oi := _) (v := .agg #[.bool b379, .slice A380 l381 c382]) rfl (by kernel_rfl) (by kernel_rfl) (by kernel_rfl) (by kernel_rfl) (by kernel_rfl) (by kernel_rfl) (fun _ _ _ h => h) (Or.inl ⟨by rfl, ?_⟩) ⟨H388.out.c0, H388.out.c1, H388.out.c2, H388.out.c3⟩ ?_
              · intro w hSw
                obtain ⟨s0, s1, s2, s3⟩ := hSw
                go_simp
              try simp only [Act.put]
              refine wpAnyC_take8 (i := 10) (oi := _) (v := .agg #[.bool b383, .slice A384 l385 c386]) rfl (by kernel_rfl) (by kernel_rfl) (by kernel_rfl) (by kernel_rfl) (by kernel_rfl) (by kernel_rfl) (fun _ _ _ h => h) (Or.inl ⟨by rfl, ?_⟩) ⟨H388.out.c0, H388.out.c1, H388.out.c2, H388.out.c3⟩ ?_
              · intro w hSw
                obtain ⟨s0, s1, s2, s3⟩ := hSw
                go_simp
              try simp only [Act.put]
              have hv := H391.out
              have hm := H393.out
              have hm2 := hm.far (g' := g315) (by omega) (.bool b379) (.slice A380 l381 c382)
              have HR1 := Lib.hid ((H387.out.set2 hv (by omega) (by omega) (.bool b379) (.slice A380 l381 c382)).set2 hm2 (by omega) (by omega) (.bool b383) (.slice A384 l385 c386))
              have HR2 := Lib.hid ((hv.set (.bool b379) (.slice A380 l381 c382)).far (g' := g364) (by omega) (.bool b383) (.slice A384 l385 c386))
              have HR3 := H394.out.setVar hv (.bool b379) (.slice A380 l381 c382) |>.setVar hm2 (.bool b383) (.slice A384 l385 c386)
              rw [HEQ.out] at HR3
              have HR3 := Lib.hid HR3
              have r0 := hv.c0
              have q0 := hv.f0
              have r1 := hv.c1
              have q1 := hv.f1
              have hv4 := H388.out.far2 (g' := g315) (by omega) (.bool b379) (.slice A380 l381 c382)
              refine wpAnyC_one (i := 13) (by kernel_rfl) rfl (fun K hK => ?_)
              go_simp
              refine hK.out _ _ (fun _ => ⟨hv4.c0, hv4.c1, hv4.c2, hv4.c3⟩) ?_
              clear hK K r0 r1 q0 q1
              have r0 := hm2.c0
              have q0 := hm2.f0
              have r1 := hm2.c1
              have q1 := hm2.f1
              refine wpAnyC_one (i := 14) (by kernel_rfl) rfl (fun K hK => ?_)
              go_simp
              refine hK.out _ _ (fun h => absurd h (by decide)) ?_
              clear hK K r0 r1 q0 q1 hv hm hm2
              refine wpAnyC_done (by kernel_rfl) ?_ _
              go_wp2_with fail
              go_meet
              exact ⟨_, _, _, _, _, rfl, HR2.out, HR3.out, ⟨by omega, by omega⟩, HR1.out⟩
          · skip
            go_simp
            have H397 := Lib.hid (H317.out.alloc (.cells #[.bool false, .slice none 0 0] 45))
            have H398 := Lib.hid (H318.out.alloc (.cells #[.bool false, .slice none 0 0] 45))
            have H399 := Lib.hid (H319.out.alloc (.cells #[.bool false, .slice none 0 0] 45))
            have H400 := Lib.hid (H320.out.alloc (.cells #[.bool false, .slice none 0 0] 45))
            have H401 := Lib.hid (H321.out.alloc (.cells #[.bool false, .slice none 0 0] 45))
            have H402 := Lib.hid ((Blk.new w316 45 #[.bool false, .slice none 0 0]).var)
            have lt403 : g315 < w316.heap.size := H321.out.lt
            have lt404 : g < w316.heap.size := H317.out.vt.lt
            have lt405 : g4 < w316.heap.size := H318.out.lt
            refine hK.out _ _ (fun _ => ⟨H398.out.c0, H398.out.c1, H398.out.c2, H398.out.c3⟩) ?_
            clear hK K
            try simp only [Act.put, List.setIfInBounds_toArray, List.set_cons_zero, List.set_cons_succ]
            generalize w316.alloc (.cells #[.bool false, .slice none 0 0] 45) = w396 at *
            generalize w316.heap.size = g395 at *
            refine wpAnyC_one (i := 6) (by kernel_rfl) rfl (fun K hK => ?_)
            go_simp
            go_at_call 50
            refine (add_any _ _ s s _ H400.out H400.out (N := N + 2) (by omega) FS.out FS.out).mono ?_
            rintro ew406 w406 ⟨v408, rfl, v408h, hb407⟩
            have H409 := Lib.hid (H397.out.ext hb407)
            have H410 := Lib.hid (H398.out.below hb407)
            have H411 := Lib.hid (H399.out.ext hb407)
            have H412 := Lib.hid (H400.out.ext hb407)
            have H413 := Lib.hid (H401.out.below hb407)
            have H414 := Lib.hid (H402.out.below hb407)
            have H415 := Lib.hid (v408h)
            refine hK.out _ _ (fun _ => ⟨H410.out.c0, H410.out.c1, H410.out.c2, H410.out.c3⟩) ?_
            clear hK K
            try simp only [Act.put, List.setIfInBounds_toArray, List.set_cons_zero, List.set_cons_succ]
            refine wpAnyC_one (i := 7) (by kernel_rfl) rfl (fun K hK => ?_)
            go_simp
            go_at_call 56
            refine (divmod_any _ _ p (s + s) _ H411.out H415.out (N := N + 3) (by omega) (FP.out.mono (by omega)) ((FS.out.add FS.out).mono (by omega)) (by omega)).mono ?_
            rintro ew416 w416 ⟨v418, v418x, rfl, v418h, v418m, hb417⟩
            obtain ⟨b419, A420, l421, c422, rfl⟩ := v418h.ofWords
            obtain ⟨b423, A424, l425, c426, rfl⟩ := v418m.ofWords
            have H427 := Lib.hid (H409.out.ext hb417)
            have H428 := Lib.hid (H410.out.below hb417)
            have H429 := Lib.hid (H411.out.ext hb417)
            have H430 := Lib.hid (H412.out.ext hb417)
            have H431 := Lib.hid (H413.out.below hb417)
            have H432 := Lib.hid (H414.out.below hb417)
            have H433 := Lib.hid (H415.out.ext hb417)
            have H434 := Lib.hid (v418h)
            refine hK.out _ _ (fun _ => ⟨H428.out.c0, H428.out.c1, H428.out.c2, H428.out.c3⟩) ?_
            clear hK K
            try simp only [Act.put, List.setIfInBounds_toArray, List.set_cons_zero, List.set_cons_succ]
            refine wpAnyC_take8 (i := 8) (oi := _) (v := .tuple #[.agg #[.bool b419, .slice A420 l421 c422], .agg #[.bool b423, .slice A424 l425 c426]]) rfl (by kernel_rfl) (by kernel_rfl) (by kernel_rfl) (by kernel_rfl) (by kernel_rfl) (by kernel_rfl) (fun _ _ _ h => h) (Or.inl ⟨by rfl, ?_⟩) ⟨H428.out.c0, H428.out.c1, H428.out.c2, H428.out.c3⟩ ?_
            · intro w hSw
              obtain ⟨s0, s1, s2, s3⟩ := hSw
              go_simp
            try simp only [Act.put, List.setIfInBounds_toArray]
            refine wpAnyC_take8 (i := 9) (oi := _) (v := .agg #[.bool b419, .slice A420 l421 c422]) rfl (by kernel_rfl) (by kernel_rfl) (by kernel_rfl) (by kernel_rfl) (by kernel_rfl) (by kernel_rfl) (fun _ _ _ h => h) (Or.inl ⟨by rfl, ?_⟩) ⟨H428.out.c0, H428.out.c1, H428.out.c2, H428.out.c3⟩ ?_
            · intro w hSw
              obtain ⟨s0, s1, s2, s3⟩ := hSw
              go_simp
            try simp only [Act.put]
            refine wpAnyC_take8 (i := 10) (oi := _) (v := .agg #[.bool b423, .slice A424 l425 c426]) rfl (by kernel_rfl) (by kernel_rfl) (by kernel_rfl) (by kernel_rfl) (by kernel_rfl) (by kernel_rfl) (fun _ _ _ h => h) (Or.inl ⟨by rfl, ?_⟩) ⟨H428.out.c0, H428.out.c1, H428.out.c2, H428.out.c3⟩ ?_
            · intro w hSw
              obtain ⟨s0, s1, s2, s3⟩ := hSw
              go_simp
            try simp only [Act.put]
            have hv := H431.out
            have hm := H432.out
            have hm2 := hm.far (g' := g315) (by omega) (.bool b419) (.slice A420 l421 c422)
            have HR1 := Lib.hid ((H427.out.set2 hv (by omega) (by omega) (.bool b419) (.slice A420 l421 c422)).set2 hm2 (by omega) (by omega) (.bool b423) (.slice A424 l425 c426))
            have HR2 := Lib.hid ((hv.set (.bool b419) (.slice A420 l421 c422)).far (g' := g395) (by omega) (.bool b423) (.slice A424 l425 c426))
            have HR3 := H434.out.setVar hv (.bool b419) (.slice A420 l421 c422) |>.setVar hm2 (.bool b423) (.slice A424 l425 c426)
            rw [HEQ.out] at HR3
            have HR3 := Lib.hid HR3
            have r0 := hv.c0
            have q0 := hv.f0
            have r1 := hv.c1
            have q1 := hv.f1
            have hv4 := H428.out.far2 (g' := g315) (by omega) (.bool b419) (.slice A420 l421 c422)
            refine wpAnyC_one (i := 13) (by kernel_rfl) rfl (fun K hK => ?_)
            go_simp
            refine hK.out _ _ (fun _ => ⟨hv4.c0, hv4.c1, hv4.c2, hv4.c3⟩) ?_
            clear hK K r0 r1 q0 q1
            have r0 := hm2.c0
            have q0 := hm2.f0
            have r1 := hm2.c1
            have q1 := hm2.f1
            refine wpAnyC_one (i := 14) (by kernel_rfl) rfl (fun K hK => ?_)
            go_simp
            refine hK.out _ _ (fun h => absurd h (by decide)) ?_
            clear hK K r0 r1 q0 q1 hv hm hm2
            refine wpAnyC_done (by kernel_rfl) ?_ _
            go_wp2_with fail
            go_meet
            exact ⟨_, _, _, _, _, rfl, HR2.out, HR3.out, ⟨by omega, by omega⟩, HR1.out⟩
        · skip
          go_simp
          have H437 := Lib.hid (HRS3.out.alloc (.cells #[.bool false, .slice none 0 0] 45))
          have H438 := Lib.hid (V4.out.alloc (.cells #[.bool false, .slice none 0 0] 45))
          have H439 := Lib.hid (BP.out.alloc (.cells #[.bool false, .slice none 0 0] 45))
          have H440 := Lib.hid (BS.out.alloc (.cells #[.bool false, .slice none 0 0] 45))
          have H441 := Lib.hid ((Blk.new WD 45 #[.bool false, .slice none 0 0]).var)
          have lt442 : g < WD.heap.size := HRS3.out.vt.lt
          have lt443 : g4 < WD.heap.size := V4.out.lt
          refine hK.out _ _ (fun _ => ⟨H438.out.c0, H438.out.c1, H438.out.c2, H438.out.c3⟩) ?_
          clear hK K
          try simp only [Act.put, List.setIfInBounds_toArray, List.set_cons_zero, List.set_cons_succ]
          generalize WD.alloc (.cells #[.bool false, .slice none 0 0] 45) = w436 at *
          generalize WD.heap.size = g435 at *
          refine wpAnyC_two (i := 6) (j := 11) (by kernel_rfl) rfl rfl (fun K hK => ?_) (fun K hK => ?_)
          · skip
            go_simp
            go_at_call 50
            refine (add_any _ _ s s _ H440.out H440.out (N := N + 2) (by omega) FS.out FS.out).mono ?_
            rintro ew444 w444 ⟨v446, rfl, v446h, hb445⟩
            have H447 := Lib.hid (H437.out.ext hb445)
            have H448 := Lib.hid (H438.out.below hb445)
            have H449 := Lib.hid (H439.out.ext hb445)
            have H450 := Lib.hid (H440.out.ext hb445)
            have H451 := Lib.hid (H441.out.below hb445)
            have H452 := Lib.hid (v446h)
            refine hK.out _ _ (fun _ => ⟨H448.out.c0, H448.out.c1, H448.out.c2, H448.out.c3⟩) ?_
            clear hK K
            try simp only [Act.put, List.setIfInBounds_toArray, List.set_cons_zero, List.set_cons_succ]
            refine wpAnyC_two (i := 7) (j := 11) (by kernel_rfl) rfl rfl (fun K hK => ?_) (fun K hK => ?_)
            · skip
              go_simp
              go_at_call 56
              refine (divmod_any _ _ p (s + s) _ H449.out H452.out (N := N + 3) (by omega) (FP.out.mono (by omega)) ((FS.out.add FS.out).mono (by omega)) (by omega)).mono ?_
              rintro ew453 w453 ⟨v455, v455x, rfl, v455h, v455m, hb454⟩
              obtain ⟨b456, A457, l458, c459, rfl⟩ := v455h.ofWords
              obtain ⟨b460, A461, l462, c463, rfl⟩ := v455m.ofWords
              have H464 := Lib.hid (H447.out.ext hb454)
              have H465 := Lib.hid (H448.out.below hb454)
              have H466 := Lib.hid (H449.out.ext hb454)
              have H467 := Lib.hid (H450.out.ext hb454)
              have H468 := Lib.hid (H451.out.below hb454)
              have H469 := Lib.hid (H452.out.ext hb454)
              have H470 := Lib.hid (v455h)
              refine hK.out _ _ (fun _ => ⟨H465.out.c0, H465.out.c1, H465.out.c2, H465.out.c3⟩) ?_
              clear hK K
              try simp only [Act.put, List.setIfInBounds_toArray, List.set_cons_zero, List.set_cons_succ]
              refine wpAnyC_take8 (i := 8) (oi := _) (v := .tuple #[.agg #[.bool b456, .slice A457 l458 c459], .agg #[.bool b460, .slice A461 l462 c463]]) rfl (by kernel_rfl) (by kernel_rfl) (by kernel_rfl) (by kernel_rfl) (by kernel_rfl) (by kernel_rfl) (fun _ _ _ h => h) (Or.inl ⟨by rfl, ?_⟩) ⟨H465.out.c0, H465.out.c1, H465.out.c2, H465.out.c3⟩ ?_
              · intro w hSw
                obtain ⟨s0, s1, s2, s3⟩ := hSw
                go_simp
              try simp only [Act.put, List.setIfInBounds_toArray]
              refine wpAnyC_take8 (i := 9) (oi := _) (v := .agg #[.bool b456, .slice A457 l458 c459]) rfl (by kernel_rfl) (by kernel_rfl) (by kernel_rfl) (by kernel_rfl) (by kernel_rfl) (by kernel_rfl) (fun _ _ _ h => h) (Or.inl ⟨by rfl, ?_⟩) ⟨H465.out.c0, H465.out.c1, H465.out.c2, H465.out.c3⟩ ?_
              · intro w hSw
                obtain ⟨s0, s1, s2, s3⟩ := hSw
                go_simp
              try simp only [Act.put]
              refine wpAnyC_take8 (i := 10) (oi := _) (v := .agg #[.bool b460, .slice A461 l462 c463]) rfl (by kernel_rfl) (by kernel_rfl) (by kernel_rfl) (by kernel_rfl) (by kernel_rfl) (by kernel_rfl) (fun _ _ _ h => h) (Or.inl ⟨by rfl, ?_⟩) ⟨H465.out.c0, H465.out.c1, H465.out.c2, H465.out.c3⟩ ?_
              · intro w hSw
                obtain ⟨s0, s1, s2, s3⟩ := hSw
                go_simp
              try simp only [Act.put]
              refine wpAnyC_one (i := 11) (by kernel_rfl) rfl (fun K hK => ?_)
              go_simp
              have H473 := Lib.hid (H464.out.alloc (.cells #[.bool false, .slice none 0 0] 45))
              have H474 := Lib.hid (H465.out.alloc (.cells #[.bool false, .slice none 0 0] 45))
              have H475 := Lib.hid (H466.out.alloc (.cells #[.bool false, .slice none 0 0] 45))
              have H476 := Lib.hid (H467.out.alloc (.cells #[.bool false, .slice none 0 0] 45))
              have H477 := Lib.hid (H468.out.alloc (.cells #[.bool false, .slice none 0 0] 45))
              have H478 := Lib.hid (H469.out.alloc (.cells #[.bool false, .slice none 0 0] 45))
              have H479 := Lib.hid (H470.out.alloc (.cells #[.bool false, .slice none 0 0] 45))
              have H480 := Lib.hid ((Blk.new w453 45 #[.bool false, .slice none 0 0]).var)
              have lt481 : g435 < w453.heap.size := H468.out.lt
              have lt482 : g < w453.heap.size := H464.out.vt.lt
              have lt483 : g4 < w453.heap.size := H465.out.lt
              refine hK.out _ _ (fun _ => ⟨H474.out.c0, H474.out.c1, H474.out.c2, H474.out.c3⟩) ?_
              clear hK K
              try simp only [Act.put, List.setIfInBounds_toArray, List.set_cons_zero, List.set_cons_succ]
              generalize w453.alloc (.cells #[.bool false, .slice none 0 0] 45) = w472 at *
              generalize w453.heap.size = g471 at *
              have hv := H480.out
              have hm := H477.out
              have hm2 := hm.far (g' := g471) (by omega) (.bool b456) (.slice A457 l458 c459)
              have HR1 := Lib.hid ((H473.out.set2 hv (by omega) (by omega) (.bool b456) (.slice A457 l458 c459)).set2 hm2 (by omega) (by omega) (.bool b460) (.slice A461 l462 c463))
              have HR2 := Lib.hid ((hv.set (.bool b456) (.slice A457 l458 c459)).far (g' := g435) (by omega) (.bool b460) (.slice A461 l462 c463))
              have HR3 := H479.out.setVar hv (.bool b456) (.slice A457 l458 c459) |>.setVar hm2 (.bool b460) (.slice A461 l462 c463)
              rw [HEQ.out] at HR3
              have HR3 := Lib.hid HR3
              have r0 := hv.c0
              have q0 := hv.f0
              have r1 := hv.c1
              have q1 := hv.f1
              have hv4 := H474.out.far2 (g' := g471) (by omega) (.bool b456) (.slice A457 l458 c459)
              refine wpAnyC_one (i := 13) (by kernel_rfl) rfl (fun K hK => ?_)
              go_simp
              refine hK.out _ _ (fun _ => ⟨hv4.c0, hv4.c1, hv4.c2, hv4.c3⟩) ?_
              clear hK K r0 r1 q0 q1
              have r0 := hm2.c0
              have q0 := hm2.f0
              have r1 := hm2.c1
              have q1 := hm2.f1
              refine wpAnyC_one (i := 14) (by kernel_rfl) rfl (fun K hK => ?_)
              go_simp
              refine hK.out _ _ (fun h => absurd h (by decide)) ?_
              clear hK K r0 r1 q0 q1 hv hm hm2
              refine wpAnyC_done (by kernel_rfl) ?_ _
              go_wp2_with fail
              go_meet
              exact ⟨_, _, _, _, _, rfl, HR2.out, HR3.out, ⟨by omega, by omega⟩, HR1.out⟩
            · skip
              go_simp
              have H486 := Lib.hid (H447.out.alloc (.cells #[.bool false, .slice none 0 0] 45))
              have H487 := Lib.hid (H448.out.alloc (.cells #[.bool false, .slice none 0 0] 45))
              have H488 := Lib.hid (H449.out.alloc (.cells #[.bool false, .slice none 0 0] 45))
              have H489 := Lib.hid (H450.out.alloc (.cells #[.bool false, .slice none 0 0] 45))
              have H490 := Lib.hid (H451.out.alloc (.cells #[.bool false, .slice none 0 0] 45))
              have H491 := Lib.hid (H452.out.alloc (.cells #[.bool false, .slice none 0 0] 45))
              have H492 := Lib.hid ((Blk.new w444 45 #[.bool false, .slice none 0 0]).var)
              have lt493 : g435 < w444.heap.size := H451.out.lt
              have lt494 : g < w444.heap.size := H447.out.vt.lt
              have lt495 : g4 < w444.heap.size := H448.out.lt
              refine hK.out _ _ (fun _ => ⟨H487.out.c0, H487.out.c1, H487.out.c2, H487.out.c3⟩) ?_
              clear hK K
              try simp only [Act.put, List.setIfInBounds_toArray, List.set_cons_zero, List.set_cons_succ]
              generalize w444.alloc (.cells #[.bool false, .slice none 0 0] 45) = w485 at *
              generalize w444.heap.size = g484 at *
              refine wpAnyC_one (i := 7) (by kernel_rfl) rfl (fun K hK => ?_)
              go_simp
              go_at_call 56
              refine (divmod_any _ _ p (s + s) _ H488.out H491.out (N := N + 3) (by omega) (FP.out.mono (by omega)) ((FS.out.add FS.out).mono (by omega)) (by omega)).mono ?_
              rintro ew496 w496 ⟨v498, v498x, rfl, v498h, v498m, hb497⟩
              obtain ⟨b499, A500, l501, c502, rfl⟩ := v498h.ofWords
              obtain ⟨b503, A504, l505, c506, rfl⟩ := v498m.ofWords
              have H507 := Lib.hid (H486.out.ext hb497)
              have H508 := Lib.hid (H487.out.below hb497)
              have H509 := Lib.hid (H488.out.ext hb497)
              have H510 := Lib.hid (H489.out.ext hb497)
              have H511 := Lib.hid (H490.out.below hb497)
              have H512 := Lib.hid (H491.out.ext hb497)
              have H513 := Lib.hid (H492.out.below hb497)
              have H514 := Lib.hid (v498h)
              refine hK.out _ _ (fun _ => ⟨H508.out.c0, H508.out.c1, H508.out.c2, H508.out.c3⟩) ?_
              clear hK K
              try simp only [Act.put, List.setIfInBounds_toArray, List.set_cons_zero, List.set_cons_succ]
              refine wpAnyC_take8 (i := 8) (oi := _) (v := .tuple #[.agg #[.bool b499, .slice A500 l501 c502], .agg #[.bool b503, .slice A504 l505 c506]]) rfl (by kernel_rfl) (by kernel_rfl) (by kernel_rfl) (by kernel_rfl) (by kernel_rfl) (by kernel_rfl) (fun _ _ _ h => h) (Or.inl ⟨by rfl, ?_⟩) ⟨H508.out.c0, H508.out.c1, H508.out.c2, H508.out.c3⟩ ?_
              · intro w hSw
                obtain ⟨s0, s1, s2, s3⟩ := hSw
                go_simp
              try simp only [Act.put, List.setIfInBounds_toArray]
              refine wpAnyC_take8 (i := 9) (oi := _) (v := .agg #[.bool b499, .slice A500 l501 c502]) rfl (by kernel_rfl) (by kernel_rfl) (by kernel_rfl) (by kernel_rfl) (by kernel_rfl) (by kernel_rfl) (fun _ _ _ h => h) (Or.inl ⟨by rfl, ?_⟩) ⟨H508.out.c0, H508.out.c1, H508.out.c2, H508.out.c3⟩ ?_
              · intro w hSw
                obtain ⟨s0, s1, s2, s3⟩ := hSw
                go_simp
              try simp only [Act.put]
              refine wpAnyC_take8 (i := 10) (oi := _) (v := .agg #[.bool b503, .slice A504 l505 c506]) rfl (by kernel_rfl) (by kernel_rfl) (by kernel_rfl) (by kernel_rfl) (by kernel_rfl) (by kernel_rfl) (fun _ _ _ h => h) (Or.inl ⟨by rfl, ?_⟩) ⟨H508.out.c0, H508.out.c1, H508.out.c2, H508.out.c3⟩ ?_
              · intro w hSw
                obtain ⟨s0, s1, s2, s3⟩ := hSw
                go_simp
              try simp only [Act.put]
              have hv := H513.out
              have hm := H511.out
              have hm2 := hm.far (g' := g484) (by omega) (.bool b499) (.slice A500 l501 c502)
              have HR1 := Lib.hid ((H507.out.set2 hv (by omega) (by omega) (.bool b499) (.slice A500 l501 c502)).set2 hm2 (by omega) (by omega) (.bool b503) (.slice A504 l505 c506))
              have HR2 := Lib.hid ((hv.set (.bool b499) (.slice A500 l501 c502)).far (g' := g435) (by omega) (.bool b503) (.slice A504 l505 c506))
              have HR3 := H514.out.setVar hv (.bool b499) (.slice A500 l501 c502) |>.setVar hm2 (.bool b503) (.slice A504 l505 c506)
              rw [HEQ.out] at HR3
              have HR3 := Lib.hid HR3
              have r0 := hv.c0
              have q0 := hv.f0
              have r1 := hv.c1
              have q1 := hv.f1
              have hv4 := H508.out.far2 (g' := g484) (by omega) (.bool b499) (.slice A500 l501 c502)
              refine wpAnyC_one (i := 13) (by kernel_rfl) rfl (fun K hK => ?_)
              go_simp
              refine hK.out _ _ (fun _ => ⟨hv4.c0, hv4.c1, hv4.c2, hv4.c3⟩) ?_
              clear hK K r0 r1 q0 q1
              have r0 := hm2.c0
              have q0 := hm2.f0
              have r1 := hm2.c1
              have q1 := hm2.f1
              refine wpAnyC_one (i := 14) (by kernel_rfl) rfl (fun K hK => ?_)
              go_simp
              refine hK.out _ _ (fun h => absurd h (by decide)) ?_
              clear hK K r0 r1 q0 q1 hv hm hm2
              refine wpAnyC_done (by kernel_rfl) ?_ _
              go_wp2_with fail
              go_meet
              exact ⟨_, _, _, _, _, rfl, HR2.out, HR3.out, ⟨by omega, by omega⟩, HR1.out⟩
          · skip
            go_simp
            have H517 := Lib.hid (H437.out.alloc (.cells #[.bool false, .slice none 0 0] 45))
            have H518 := Lib.hid (H438.out.alloc (.cells #[.bool false, .slice none 0 0] 45))
            have H519 := Lib.hid (H439.out.alloc (.cells #[.bool false, .slice none 0 0] 45))
            have H520 := Lib.hid (H440.out.alloc (.cells #[.bool false, .slice none 0 0] 45))
            have H521 := Lib.hid (H441.out.alloc (.cells #[.bool false, .slice none 0 0] 45))
            have H522 := Lib.hid ((Blk.new w436 45 #[.bool false, .slice none 0 0]).var)
            have lt523 : g435 < w436.heap.size := H441.out.lt
            have lt524 : g < w436.heap.size := H437.out.vt.lt
            have lt525 : g4 < w436.heap.size := H438.out.lt
            refine hK.out _ _ (fun _ => ⟨H518.out.c0, H518.out.c1, H518.out.c2, H518.out.c3⟩) ?_
            clear hK K
            try simp only [Act.put, List.setIfInBounds_toArray, List.set_cons_zero, List.set_cons_succ]
            generalize w436.alloc (.cells #[.bool false, .slice none 0 0] 45) = w516 at *
            generalize w436.heap.size = g515 at *
            refine wpAnyC_one (i := 6) (by kernel_rfl) rfl (fun K hK => ?_)
            go_simp
            go_at_call 50
            refine (add_any _ _ s s _ H520.out H520.out (N := N + 2) (by omega) FS.out FS.out).mono ?_
            rintro ew526 w526 ⟨v528, rfl, v528h, hb527⟩
            have H529 := Lib.hid (H517.out.ext hb527)
            have H530 := Lib.hid (H518.out.below hb527)
            have H531 := Lib.hid (H519.out.ext hb527)
            have H532 := Lib.hid (H520.out.ext hb527)
            have H533 := Lib.hid (H521.out.below hb527)
            have H534 := Lib.hid (H522.out.below hb527)
            have H535 := Lib.hid (v528h)
            refine hK.out _ _ (fun _ => ⟨H530.out.c0, H530.out.c1, H530.out.c2, H530.out.c3⟩) ?_
            clear hK K
            try simp only [Act.put, List.setIfInBounds_toArray, List.set_cons_zero, List.set_cons_succ]
            refine wpAnyC_one (i := 7) (by kernel_rfl) rfl (fun K hK => ?_)
            go_simp
            go_at_call 56
            refine (divmod_any _ _ p (s + s) _ H531.out H535.out (N := N + 3) (by omega) (FP.out.mono (by omega)) ((FS.out.add FS.out).mono (by omega)) (by omega)).mono ?_
            rintro ew536 w536 ⟨v538, v538x, rfl, v538h, v538m, hb537⟩
            obtain ⟨b539, A540, l541, c542, rfl⟩ := v538h.ofWords
            obtain ⟨b543, A544, l545, c546, rfl⟩ := v538m.ofWords
            have H547 := Lib.hid (H529.out.ext hb537)
            have H548 := Lib.hid (H530.out.below hb537)
            have H549 := Lib.hid (H531.out.ext hb537)
            have H550 := Lib.hid (H532.out.ext hb537)
            have H551 := Lib.hid (H533.out.below hb537)
            have H552 := Lib.hid (H534.out.below hb537)
            have H553 := Lib.hid (H535.out.ext hb537)
            have H554 := Lib.hid (v538h)
            refine hK.out _ _ (fun _ => ⟨H548.out.c0, H548.out.c1, H548.out.c2, H548.out.c3⟩) ?_
            clear hK K
            try simp only [Act.put, List.setIfInBounds_toArray, List.set_cons_zero, List.set_cons_succ]
            refine wpAnyC_take8 (i := 8) (oi := _) (v := .tuple #[.agg #[.bool b539, .slice A540 l541 c542], .agg #[.bool b543, .slice A544 l545 c546]]) rfl (by kernel_rfl) (by kernel_rfl) (by kernel_rfl) (by kernel_rfl) (by kernel_rfl) (by kernel_rfl) (fun _ _ _ h => h) (Or.inl ⟨by rfl, ?_⟩) ⟨H548.out.c0, H548.out.c1, H548.out.c2, H548.out.c3⟩ ?_
            · intro w hSw
              obtain ⟨s0, s1, s2, s3⟩ := hSw
              go_simp
            try simp only [Act.put, List.setIfInBounds_toArray]
            refine wpAnyC_take8 (i := 9) (oi := _) (v := .agg #[.bool b539, .slice A540 l541 c542]) rfl (by kernel_rfl) (by kernel_rfl) (by kernel_rfl) (by kernel_rfl) (by kernel_rfl) (by kernel_rfl) (fun _ _ _ h => h) (Or.inl ⟨by rfl, ?_⟩) ⟨H548.out.c0, H548.out.c1, H548.out.c2, H548.out.c3⟩ ?_
            · intro w hSw
              obtain ⟨s0, s1, s2, s3⟩ := hSw
              go_simp
            try simp only [Act.put]
            refine wpAnyC_take8 (i := 10) (oi := _) (v := .agg #[.bool b543, .slice A544 l545 c546]) rfl (by kernel_rfl) (by kernel_rfl) (by kernel_rfl) (by kernel_rfl) (by kernel_rfl) (by kernel_rfl) (fun _ _ _ h => h) (Or.inl ⟨by rfl, ?_⟩) ⟨H548.out.c0, H548.out.c1, H548.out.c2, H548.out.c3⟩ ?_
            · intro w hSw
              obtain ⟨s0, s1, s2, s3⟩ := hSw
              go_simp
            try simp only [Act.put]
            have hv := H552.out
            have hm := H551.out
            have hm2 := hm.far (g' := g515) (by omega) (.bool b539) (.slice A540 l541 c542)
            have HR1 := Lib.hid ((H547.out.set2 hv (by omega) (by omega) (.bool b539) (.slice A540 l541 c542)).set2 hm2 (by omega) (by omega) (.bool b543) (.slice A544 l545 c546))
            have HR2 := Lib.hid ((hv.set (.bool b539) (.slice A540 l541 c542)).far (g' := g435) (by omega) (.bool b543) (.slice A544 l545 c546))
            have HR3 := H554.out.setVar hv (.bool b539) (.slice A540 l541 c542) |>.setVar hm2 (.bool b543) (.slice A544 l545 c546)
            rw [HEQ.out] at HR3
            have HR3 := Lib.hid HR3
            have r0 := hv.c0
            have q0 := hv.f0
            have r1 := hv.c1
            have q1 := hv.f1
            have hv4 := H548.out.far2 (g' := g515) (by omega) (.bool b539) (.slice A540 l541 c542)
            refine wpAnyC_one (i := 13) (by kernel_rfl) rfl (fun K hK => ?_)
            go_simp
            refine hK.out _ _ (fun _ => ⟨hv4.c0, hv4.c1, hv4.c2, hv4.c3⟩) ?_
            clear hK K r0 r1 q0 q1
            have r0 := hm2.c0
            have q0 := hm2.f0
            have r1 := hm2.c1
            have q1 := hm2.f1
            refine wpAnyC_one (i := 14) (by kernel_rfl) rfl (fun K hK => ?_)
            go_simp
            refine hK.out _ _ (fun h => absurd h (by decide)) ?_
            clear hK K r0 r1 q0 q1 hv hm hm2
            refine wpAnyC_done (by kernel_rfl) ?_ _
            go_wp2_with fail
            go_meet
            exact ⟨_, _, _, _, _, rfl, HR2.out, HR3.out, ⟨by omega, by omega⟩, HR1.out⟩
      case rest =>
        clear HRS3 V4 BP BS FP FS HEQ hsp
        obtain ⟨g5, b6, A6, l6, c6, rfl, v5, q5, ⟨hg5, hg5g⟩, hRS⟩ := hcut
        have hfa : Fits (N + 2) (2 * n + d) := by
          have h3 : Fits (N + 2) (n + n + d) := (FN.out.add FN.out).add (FD.out.mono (show N ≤ N + 1 by omega))
          rwa [show n + n + d = 2 * n + d by omega] at h3
        have HFQ := Lib.hid (hfa.div (show 0 < 2 * d by omega))
        have hpar := Big.parity q5
        have htie := tie_iff (a := 2 * n + d) hdp
        have HRQ2 := HRQ.out
        obtain ⟨Q, hQ⟩ : ∃ Q, (2 * n + d) / (2 * d) = Q := ⟨_, rfl⟩
        rw [hQ] at q5 hpar htie HRQ2 HFQ
        have HTIE := Lib.hid htie
        have HPAR := Lib.hid hpar
        have HRQ3 := Lib.hid HRQ2
        have HRS := Lib.hid hRS
        have V5 := Lib.hid v5
        have Q5 := Lib.hid q5
        have a0 := v5.c0
        have a1 := v5.c1
        clear hfa hQ htie hpar HRQ HRQ2 hRS v5 q5
        go_wp2_with fail
        refine (add_any _ _ Q Q _ Q5.out Q5.out (N := N + 2) (by omega) HFQ.out HFQ.out).mono ?_
        rintro e1 w1 ⟨v1, rfl, h1, hb⟩
        have HRS1 := Lib.hid (HRS.out.ext hb)
        have V51 := Lib.hid (V5.out.below hb)
        have Q51 := Lib.hid (Q5.out.ext hb)
        have H1 := Lib.hid h1
        clear hb h1 HRS V5 Q5 a0 a1
        go_wp2_with fail
        refine (of_any 1 _ (by omega) (by omega)).mono ?_
        rintro e2 w2 ⟨v2, rfl, h2, hb⟩
        have HRS2 := Lib.hid (HRS1.out.ext hb)
        have V52 := Lib.hid (V51.out.below hb)
        have Q52 := Lib.hid (Q51.out.ext hb)
        have H12 := Lib.hid (H1.out.ext hb)
        have H2 := Lib.hid h2
        clear hb h2 HRS1 V51 Q51 H1
        go_wp2_with fail
        refine (sub_any _ _ (Q + Q) 1 _ H12.out H2.out (N := N + 3) (by omega) (HFQ.out.add HFQ.out) (fits_one _ (by omega) 1 (by omega) (by omega))).mono ?_
        rintro e3 w3 ⟨v3, rfl, h3, hb⟩
        have HRS3 := Lib.hid (HRS2.out.ext hb)
        have V53 := Lib.hid (V52.out.below hb)
        have Q53 := Lib.hid (Q52.out.ext hb)
        have H3 := Lib.hid h3
        obtain ⟨b3, A3, l3, c3, rfl⟩ := h3.ofWords
        clear hb h3 HRS2 V52 Q52 H12 H2
        go_wp2_with fail
        refine (of_any 1 _ (by omega) (by omega)).mono ?_
        rintro e4 w4 ⟨v4, rfl, h4, hb⟩
        obtain ⟨b4, A4, l4, c4, rfl⟩ := h4.ofWords
        have hba : Below w4.heap.size w4 (w4.alloc (.cells #[.bool b3, .slice A3 l3 c3, .bool b4, .slice A4 l4 c4] ratT)) := (Below.refl _ _).alloc (Nat.le_refl _) _
        have HRS4 := Lib.hid ((HRS3.out.ext hb).ext hba)
        have V54 := Lib.hid ((V53.out.below hb).below hba)
        have Q54 := Lib.hid ((Q53.out.ext hb).ext hba)
        have H34 := Lib.hid ((H3.out.ext hb).ext hba)
        have H44 := Lib.hid (h4.ext hba)
        have V7 := Lib.hid (boxes1 w4 (.bool b3) (.slice A3 l3 c3) (.bool b4) (.slice A4 l4 c4)).1
        clear hb h4 hba HRS3 V53 Q53 H3
        have c0 := V7.out.c0
        have c1 := V7.out.c1
        have c2 := V7.out.c2
        have c3' := V7.out.c3
        have d0 := HRS4.out.vt.c0
        have d1 := HRS4.out.vt.c1
        have d2 := HRS4.out.vt.c2
        have d3 := HRS4.out.vt.c3
        unfold ratT at *
        go_upto_region 5 with fail
        generalize w4.alloc (Obj.cells #[Value.bool b3, Value.slice A3 l3 c3, Value.bool b4, Value.slice A4 l4 c4] 47) = W4 at *
        generalize w4.heap.size = g7 at *
        have HC := Lib.hid (rcmpp_any _ _ (Q + Q - 1) 1 (n + n) d W4 ⟨_, _, _, _, rfl, H34.out, H44.out⟩ ⟨_, _, _, _, rfl, HRS4.out.bn, HRS4.out.bd⟩ (by omega) hdp (N := N + 4) (by omega) ⟨(HFQ.out.add HFQ.out).sub (fits_one _ (by omega) 1 (by omega) (by omega)), fits_one _ (by omega) 1 (by omega) (by omega)⟩ ⟨(FN.out.add FN.out).mono (by omega), FD.out.mono (by omega)⟩)
        clear H34 H44
        go_cut [40] (fun t wx => t = .bool (decide ((2 * n + d) % (2 * d) = 0)) ∧ RS w n d g b A l c B m e wx ∧ Var wx g5 (.bool b6) (.slice A6 l6 c6) ∧ Big wx (.agg #[.bool b6, .slice A6 l6 c6]) Q)
        case first =>
          go_wp2_with fail
          refine HC.out.mono ?_
          rintro e5 w5 ⟨rfl, hb⟩
          have HRS5 := Lib.hid (HRS4.out.ext hb)
          have V55 := Lib.hid (V54.out.below hb)
          have Q55 := Lib.hid (Q54.out.ext hb)
          clear hb HRS4 V54 Q54 V7 HC c0 c1 c2 c3' d0 d1 d2 d3
          by_cases h : (2 * n + d) % (2 * d) = 0
          · have hs : ((Q + Q - 1) * d - (n + n) * 1).sign = 0 := by rw [Int.sign_eq_zero_iff_zero]; have := HTIE.out.1 h; omega
            have HR := Lib.hid (decide_eq_true h)
            rw [hs]
            clear h hs
            go_wp2_with fail
            go_meet
            exact ⟨by rw [HR.out], HRS5.out, V55.out, Q55.out⟩
          · have hs : ((Q + Q - 1) * d - (n + n) * 1).sign ≠ 0 := fun k => h (HTIE.out.2 (by have := Int.sign_eq_zero_iff_zero.1 k; omega))
            have HR := Lib.hid (decide_eq_false h)
            have ts : (((Q + Q - 1) * d - (n + n) * 1).sign == 0) = false := beq_eq_false_iff_ne.2 hs
            generalize ((Q + Q - 1) * d - (n + n) * 1).sign = sg at *
            clear h hs
            go_wp2_with fail
            go_meet
            exact ⟨by rw [HR.out], HRS5.out, V55.out, Q55.out⟩
        case rest =>
          obtain ⟨rfl, hRS, hv5, hq5⟩ := hcut
          clear HRS4 V54 Q54 V7 HC c0 c1 c2 c3' d0 d1 d2 d3 HTIE
          have HRSZ := Lib.hid hRS
          have V5Z := Lib.hid hv5
          have Q5Z := Lib.hid hq5
          clear hRS hv5 hq5
          by_cases ht : (2 * n + d) % (2 * d) = 0
          · have td := decide_eq_true ht
            rw [td]
            have HT := Lib.hid ht
            clear td ht
            have HNN := Lib.hid (Q5Z.out.parity)
            clear HPAR
            have a0 := V5Z.out.c0
            have a1 := V5Z.out.c1
            go_upto_region 6 with fail
            go_cut [52] (fun t wx => t = .bool (decide (Q % 2 = 1)) ∧ wx = wc)
            case first =>
              obtain ⟨ws, rfl, hnn, hpar⟩ := HNN.out
              by_cases h1 : 0 < ws.length
              · obtain ⟨b0, o0, rfl, -, hc⟩ := hnn.reads.word (k := 0) h1
                have hx := hnn.ok.at_ 0
                obtain ⟨x, hxx⟩ : ∃ x, ws.getD 0 0 = x := ⟨_, rfl⟩
                rw [hxx] at hc hx hpar
                rw [Nat.add_zero] at hc
                have ha := and_one hx.1 hx.2
                have t1 : decide (0 < (ws.length : Int)) = true := decide_eq_true (by omega)
                by_cases h2 : x % 2 = 1
                · have HR := Lib.hid (decide_eq_true (hpar.2 ⟨by omega, h2⟩))
                  have t2 : (x % 2 == 1) = true := beq_iff_eq.2 h2
                  clear hpar hxx hnn
                  go_wp2_with fail
                  go_meet
                  exact ⟨by rw [HR.out], rfl⟩
                · have HR := Lib.hid (show decide (Q % 2 = 1) = false from decide_eq_false fun k => h2 (hpar.1 k).2)
                  have t2 : (x % 2 == 1) = false := beq_eq_false_iff_ne.2 h2
                  clear hpar hxx hnn
                  go_wp2_with fail
                  go_meet
                  exact ⟨by rw [HR.out], rfl⟩
              · have HR := Lib.hid (show decide (Q % 2 = 1) = false from decide_eq_false fun k => h1 (by have := (hpar.1 k).1; omega))
                have t1 : decide (0 < ws.length) = false := decide_eq_false h1
                clear hpar hnn
                go_wp2_with fail
                go_meet
                exact ⟨by rw [HR.out], rfl⟩
            case rest =>
              obtain ⟨rfl, rfl⟩ := hcut
              clear HNN a0 a1
              by_cases ho : Q % 2 = 1
              · have td := decide_eq_true ho
                rw [td]
                have HEQ := Lib.hid (show RQ = Q - 1 by rw [HRQ3.out, if_pos ⟨HT.out, ho⟩])
                clear td ho
                have V5D := Lib.hid V5Z.out.drew
                have Q5D := Lib.hid Q5Z.out.drew
                have RSD := Lib.hid HRSZ.out.drew
                go_upto_region 7 with fail
                refine wp_region_c (fun w' => w'.cell? ⟨g5, 0, none⟩ = some (.bool b6) ∧ w'.cell? ⟨g5, 1, none⟩ = some (.slice A6 l6 c6)) 3 (by kernel_rfl) ?_
                refine wpAnyC_take8 (i := 0) (oi := _) (v := .agg #[.bool b6, .slice A6 l6 c6]) rfl (by kernel_rfl) (by kernel_rfl) (by kernel_rfl) (by kernel_rfl) (by kernel_rfl) (by kernel_rfl) (fun _ _ _ h => h) (Or.inl ⟨by rfl, ?_⟩) ⟨V5D.out.c0, V5D.out.c1⟩ ?_
                · intro w hSw
                  obtain ⟨s0, s1⟩ := hSw
                  go_simp
                try simp only [Act.put, List.setIfInBounds_toArray]
                refine wpAnyC_one (i := 1) (by kernel_rfl) rfl (fun K hK => ?_)
                go_simp
                go_at_call 52
                refine (of_any 1 _ (by omega) (by omega)).mono ?_
                rintro e1 w1 ⟨v1, rfl, h1, hb⟩
                have V51 := Lib.hid (V5D.out.below hb)
                have Q51 := Lib.hid (Q5D.out.ext hb)
                have RS1 := Lib.hid (RSD.out.ext hb)
                have H1 := Lib.hid h1
                refine hK.out _ _ (fun _ => ⟨V51.out.c0, V51.out.c1⟩) ?_
                clear hK K h1 hb
                try simp only [Act.put, List.setIfInBounds_toArray, List.set_cons_zero, List.set_cons_succ]
                refine wpAnyC_one (i := 2) (by kernel_rfl) rfl (fun K hK => ?_)
                go_simp
                go_at_call 58
                refine (sub_any _ _ Q 1 _ Q51.out H1.out (N := N + 2) (by omega) HFQ.out (fits_one _ (by omega) 1 (by omega) (by omega))).mono ?_
                rintro e2 w2 ⟨v2, rfl, h2, hb⟩
                obtain ⟨b7, A7, l7, c7, rfl⟩ := h2.ofWords
                have hv := V51.out.below hb
                have V52 := Lib.hid hv
                have VF := Lib.hid (hv.set (.bool b7) (.slice A7 l7 c7))
                have QF := Lib.hid (h2.setVar hv (.bool b7) (.slice A7 l7 c7))
                have RSF := Lib.hid ((RS1.out.ext hb).set2 hv hg5g hg5 (.bool b7) (.slice A7 l7 c7))
                refine hK.out _ _ (fun _ => ⟨V52.out.c0, V52.out.c1⟩) ?_
                clear hK K h2 hb
                try simp only [Act.put, List.setIfInBounds_toArray, List.set_cons_zero, List.set_cons_succ]
                have r0 := hv.c0
                have r1 := hv.c1
                have r2 := hv.f0
                have r3 := hv.f1
                refine wpAnyC_one (i := 3) (by kernel_rfl) rfl (fun K hK => ?_)
                go_simp
                refine hK.out _ _ (fun h => absurd h (by decide)) ?_
                clear hK K r0 r1 r2 r3 hv
                refine wpAnyC_done (by kernel_rfl) ?_ _
                generalize (w2.setCell ⟨g5, 0, none⟩ (.bool b7)).setCell ⟨g5, 1, none⟩ (.slice A7 l7 c7) = W7 at *
                clear HRSZ V5Z Q5Z V5D Q5D RSD V51 Q51 RS1 H1 V52
                have hr := RSF.out.vr
                have HR := Lib.hid (show RetBig w RQ (.returned (.agg #[.bool b7, .slice A7 l7 c7])) _ from ⟨_, rfl, by rw [HEQ.out]; exact QF.out.setVar hr (.bool b7) (.slice A7 l7 c7), (RSF.out.below.setCell (p := ⟨w.heap.size + 1, 0, none⟩) (by simp only; omega) (.bool b7)).setCell (p := ⟨w.heap.size + 1, 1, none⟩) (by simp only; omega) (.slice A7 l7 c7)⟩)
                have HZ := Lib.hid (hr.set (.bool b7) (.slice A7 l7 c7))
                have a0 := VF.out.c0
                have a1 := VF.out.c1
                have r0 := hr.c0
                have r1 := hr.c1
                have r2 := hr.f0
                have r3 := hr.f1
                clear hr
                go_wp2
                have z0 := HZ.out.c0
                have z1 := HZ.out.c1
                generalize (W7.setCell ⟨w.heap.size + 1, 0, none⟩ (.bool b7)).setCell ⟨w.heap.size + 1, 1, none⟩ (.slice A7 l7 c7) = W at *
                exact bodyPost_ret (v := .agg #[.bool b7, .slice A7 l7 c7]) (by simp [results, Tryz.results38, go_sem, z0, z1]) rfl HR.out
              · have td : decide (Q % 2 = 1) = false := decide_eq_false ho
                rw [td]
                have HEQ := Lib.hid (show RQ = Q by rw [HRQ3.out, if_neg (fun k => ho k.2)])
                clear td ho
                have hr := HRSZ.out.vr
                have HR := Lib.hid (show RetBig w RQ (.returned (.agg #[.bool b6, .slice A6 l6 c6])) _ from ⟨_, rfl, by rw [HEQ.out]; exact Q5Z.out.setVar hr (.bool b6) (.slice A6 l6 c6), (HRSZ.out.below.setCell (p := ⟨w.heap.size + 1, 0, none⟩) (by simp only; omega) (.bool b6)).setCell (p := ⟨w.heap.size + 1, 1, none⟩) (by simp only; omega) (.slice A6 l6 c6)⟩)
                have HZ := Lib.hid (hr.set (.bool b6) (.slice A6 l6 c6))
                have a0 := V5Z.out.c0
                have a1 := V5Z.out.c1
                have r0 := hr.c0
                have r1 := hr.c1
                have r2 := hr.f0
                have r3 := hr.f1
                clear hr
                go_wp2
                have z0 := HZ.out.c0
                have z1 := HZ.out.c1
                generalize (wc.setCell ⟨w.heap.size + 1, 0, none⟩ (.bool b6)).setCell ⟨w.heap.size + 1, 1, none⟩ (.slice A6 l6 c6) = W at *
                exact bodyPost_ret (v := .agg #[.bool b6, .slice A6 l6 c6]) (by simp [results, Tryz.results38, go_sem, z0, z1]) rfl HR.out
          · have td : decide ((2 * n + d) % (2 * d) = 0) = false := decide_eq_false ht
            rw [td]
            have HEQ := Lib.hid (show RQ = Q by rw [HRQ3.out, if_neg (fun k => ht k.1)])
            clear td ht
            have hr := HRSZ.out.vr
            have HR := Lib.hid (show RetBig w RQ (.returned (.agg #[.bool b6, .slice A6 l6 c6])) _ from ⟨_, rfl, by rw [HEQ.out]; exact Q5Z.out.setVar hr (.bool b6) (.slice A6 l6 c6), (HRSZ.out.below.setCell (p := ⟨w.heap.size + 1, 0, none⟩) (by simp only; omega) (.bool b6)).setCell (p := ⟨w.heap.size + 1, 1, none⟩) (by simp only; omega) (.slice A6 l6 c6)⟩)
            have HZ := Lib.hid (hr.set (.bool b6) (.slice A6 l6 c6))
            have a0 := V5Z.out.c0
            have a1 := V5Z.out.c1
            have r0 := hr.c0
            have r1 := hr.c1
            have r2 := hr.f0
            have r3 := hr.f1
            clear hr
            go_wp2
            have z0 := HZ.out.c0
            have z1 := HZ.out.c1
            generalize (wc.setCell ⟨w.heap.size + 1, 0, none⟩ (.bool b6)).setCell ⟨w.heap.size + 1, 1, none⟩ (.slice A6 l6 c6) = W at *
            exact bodyPost_ret (v := .agg #[.bool b6, .slice A6 l6 c6]) (by simp [results, Tryz.results38, go_sem, z0, z1]) rfl HR.out
end Go.Proofs.YtpbdlmjfjkfphaaGreatDoor
