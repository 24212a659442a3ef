/- matrix.each, matrix.Add, matrix.Scale. matrix.Add, matrix.Scale. FlowAdds: are there no phase shifts? And the plain law: the flows of added injections are added. -/
import Derived.Test.YtenbglfkdldheaaGreatDoorQFN
set_option maxRecDepth 100000
set_option maxHeartbeats 4000000
namespace Go.Proofs.YtenbglfkdldheaaGreatDoor
open Go.RowKit
def fQ (f : Rat → Rat → Rat) (x y : List (List Rat)) : List (List Rat) := List.zipWith (fun r s => List.zipWith f r s) x y
theorem vW {f : Rat → Rat → Rat} {a b : List (List Rat)} {n k : Nat} (ha : Rect a n k) (hb : Rect b n k) : Rect (fQ f a b) n k := by
 refine ⟨by rw [fQ, List.length_zipWith, ha.len, hb.len, Nat.min_self], fun r hr => ?_⟩
 unfold fQ at hr
 obtain ⟨i, hi, rfl⟩ := List.mem_iff_getElem.1 hr
 rw [List.length_zipWith] at hi
 rw [List.getElem_zipWith, List.length_zipWith, ha.row _ (List.getElem_mem _), hb.row _ (List.getElem_mem _), Nat.min_self]
theorem zM {f : Rat → Rat → Rat} {a b : List (List Rat)} {n k : Nat} (ha : Rect a n k) (hb : Rect b n k) {i j : Nat} (hi : i < n) (hj : j < k) : at2 (fQ f a b) i j = f (at2 a i j) (at2 b i j) := by
 have h1 : i < a.length := by rw [ha.len]; exact hi
 have h2 : i < b.length := by rw [hb.len]; exact hi
 have k1 : j < (a[i]).length := by rw [ha.row _ (List.getElem_mem _)]; exact hj
 have k2 : j < (b[i]).length := by rw [hb.row _ (List.getElem_mem _)]; exact hj
 unfold at2 fQ
 simp only [gD, List.getElem?_zipWith, gE h1, gE h2, Option.getD_some, gE k1, gE k2]
def eM (r x : List (List Rat)) (i k : Nat) : List (List Rat) := (List.range x.length).map fun j => if j < i then r.getD j [] else if j = i then (r.getD i []).take k ++ (x.getD i []).drop k else x.getD j []
theorem lV (r x : List (List Rat)) (i k : Nat) : (eM r x i k).length = x.length := by simp [eM]
theorem oX (r x : List (List Rat)) {i : Nat} (k : Nat) (hi : i < x.length) : (eM r x i k).getD i [] = (r.getD i []).take k ++ (x.getD i []).drop k := by
 unfold eM
 rw [iX _ _ hi, if_neg (by omega), if_pos rfl]
theorem aEg {r x : List (List Rat)} {n wd i k : Nat} (hr : Rect r n wd) (hx : Rect x n wd) (hi : i < n) (hk : k < wd) : ((eM r x i k).getD i []).length = wd ∧ ((eM r x i k).getD i []).getD k 0 = at2 x i k := by
 have l1 := hr.rowlen hi
 have l2 := hx.rowlen hi
 rw [oX r x k (by rw [hx.len]; exact hi)]
 refine ⟨by rw [List.length_append, List.length_take, List.length_drop, l1, l2]; omega, ?_⟩
 unfold at2
 rw [gD, List.getElem?_append_right (by rw [List.length_take, l1]; omega), gD, List.length_take, l1, List.getElem?_drop]
 congr 2
 omega
theorem zN {r x : List (List Rat)} {n wd i k : Nat} (hr : Rect r n wd) (hx : Rect x n wd) (hi : i < n) (hk : k < wd) : (eM r x i k).set i (((eM r x i k).getD i []).set k (at2 r i k)) = eM r x i (k + 1) := by
 have l1 := hr.rowlen hi
 have l2 := hx.rowlen hi
 have hix : i < x.length := by rw [hx.len]; exact hi
 apply List.ext_getElem?
 intro j
 by_cases hj : j = i
 ·subst hj
  rw [List.getElem?_set_self (by rw [lV]; exact hix), oX r x k hix]
  unfold eM
  rw [List.getElem?_map, List.getElem?_range hix, Option.map_some, if_neg (by omega), if_pos rfl]
  congr 1
  have hlt : k < (r.getD j []).length := by rw [l1]; exact hk
  rw [List.set_append_right _ _ (by rw [List.length_take, l1]; omega), List.length_take, l1, List.drop_eq_getElem_cons (i := k) (by rw [l2]; exact hk), show k - min k wd = 0 by omega, List.set_cons_zero, List.take_add_one, gE hlt]
  unfold at2
  rw [gD (l := r.getD j []), gE hlt, List.append_assoc]
  rfl
 ·rw [List.getElem?_set_ne (Ne.symm hj)]
  unfold eM
  rw [List.getElem?_map, List.getElem?_map]
  by_cases h : j < x.length
  ·rw [List.getElem?_range h, Option.map_some, Option.map_some, if_neg hj, if_neg hj]
  ·rw [List.getElem?_eq_none (by simp; omega)]
   rfl
theorem vX {r x : List (List Rat)} {n wd : Nat} (hr : Rect r n wd) (hx : Rect x n wd) {i : Nat} (hi : i < n) : eM r x i wd = eM r x (i + 1) 0 := by
 have l1 := hr.rowlen hi
 have l2 := hx.rowlen hi
 unfold eM
 refine List.map_congr_left fun j _ => ?_
 by_cases h1 : j < i
 ·rw [if_pos h1, if_pos (by omega)]
 ·by_cases h2 : j = i
  ·rw [if_neg h1, if_pos h2, if_pos (by omega), List.take_of_length_le (by omega), List.drop_of_length_le (by omega), List.append_nil, h2]
  ·rw [if_neg h1, if_neg h2, if_neg (by omega)]
   split
   ·rename_i h3; subst h3; simp
   ·rfl
theorem sQ (r x : List (List Rat)) : eM r x 0 0 = x := by
 apply List.ext_getElem
 ·simp [eM]
 ·intro j h1 h2
  simp only [eM, List.getElem_map, List.getElem_range]
  rw [if_neg (by omega)]
  split
  ·rename_i h; subst h; simp [h2]
  ·simp [h2]
theorem zO {r x : List (List Rat)} {n wd : Nat} (hr : Rect r n wd) (hx : Rect x n wd) : eM r x n 0 = r := by
 apply List.ext_getElem
 ·simp [eM, hx.len, hr.len]
 ·intro j h1 h2
  have h3 : j < n := by rw [← hr.len]; exact h2
  simp only [eM, List.getElem_map, List.getElem_range]
  rw [if_pos h3, gD, gE h2]; rfl
theorem Fit2.entry {m : List (List Rat)} (h : Fit2 m) (i j : Nat) : FitR 210 (at2 m i j) := (h.at_ i).at_ j
theorem aCh (u v : Value) (x y q : Rat) (g : Nat) (w : World) (hx : Rt w u x) (hy : Rt w v y) (hq : Vq w g q) (fx : FitR 210 x) (fq : FitR 210 q) :
  Calls Tryz.prog 108 #[u, v, .pointer (some ⟨g, 0, none⟩)] w (RetRt w (x * q)) := by
 obtain ⟨xb, xn, xnl, xnc, xd, xdl, xdc, rfl⟩ := hx.bools
 obtain ⟨yb, yn, ynl, ync, yd, ydl, ydc, rfl⟩ := hy.bools
 obtain ⟨vx, vy, vr, hb0⟩ := tZ w (.bool xb) (.slice xn xnl xnc) (.bool false) (.slice xd xdl xdc) (.bool yb) (.slice yn ynl ync) (.bool false) (.slice yd ydl ydc) (.bool false) (.slice none 0 0) (.bool false) (.slice none 0 0)
 obtain ⟨qb, qn, qnl, qnc, qd, qdl, qdc, hvq, hrq⟩ := hq.below hb0
 have HM := aH (mI _ _ x q _ (hx.ext hb0) hrq (N := 210) (by omega) fx fq)
 have VR := aH vr
 have HB := aH hb0
 have x0 := vx.c0
 have x1 := vx.c1
 have x2 := vx.c2
 have x3 := vx.c3
 have q0 := hvq.c0
 have q1 := hvq.c1
 have q2 := hvq.c2
 have q3 := hvq.c3
 clear vx vy vr hb0 hx hy hvq hrq hq
 unfold aJ at *
 go_enter Tryz.func108, Tryz.ntmps108
 go_wp2_with fail
 refine HM.out.mono ?_
 rintro e w1 ⟨v1, rfl, hv, hb⟩
 obtain ⟨pb, pn, pnl, pnc, pd, pdl, pdc, rfl⟩ := hv.bools
 have hvr := VR.out.below hb
 have HR := aH (bR (g := w.heap.size + 1 + 1) (HB.out.trans (hb.mono HB.out.size)) (by omega) hvr hv)
 have HZ := aH (hvr.set (.bool pb) (.slice pn pnl pnc) (.bool false) (.slice pd pdl pdc))
 have r0 := hvr.c0
 have r1 := hvr.c1
 have r2 := hvr.c2
 have r3 := hvr.c3
 have f0 := hvr.f0
 have f1 := hvr.f1
 have f2 := hvr.f2
 have f3 := hvr.f3
 unfold set4 at HR HZ
 clear hvr hv hb HM HB VR x0 x1 x2 x3 q0 q1 q2 q3
 go_wp2
 have z0 := HZ.out.c0
 have z1 := HZ.out.c1
 have z2 := HZ.out.c2
 have z3 := HZ.out.c3
 generalize (((w1.setCell ⟨w.heap.size + 1 + 1, 0, none⟩ (.bool pb)).setCell ⟨w.heap.size + 1 + 1, 1, none⟩ (.slice pn pnl pnc)).setCell ⟨w.heap.size + 1 + 1, 2, none⟩ (.bool false)).setCell ⟨w.heap.size + 1 + 1, 3, none⟩ (.slice pd pdl pdc) = W at *
 exact bodyPost_ret (v := .agg #[.bool pb, .slice pn pnl pnc, .bool false, .slice pd pdl pdc]) (by simp [results, Tryz.results108, go_sem, z0, z1, z2, z3]) rfl HR.out
structure EachI (w w0 : World) (hi : Nat) (wr : World) : Prop where
 below : Below w.heap.size w wr
 kw : Kw w0 wr
 keep : ∀ g, hi ≤ g → g < w0.heap.size → wr.heap[g]? = w0.heap[g]?
theorem EachI.call {w w0 wr w' : World} {hi : Nat} (h : EachI w w0 hi wr) (hb : Below wr.heap.size wr w') : EachI w w0 hi w' :=
 ⟨h.below.trans (hb.mono h.below.size), h.kw.trans (iY hb), fun g h1 h2 => (hb.block g (Nat.lt_of_lt_of_le h2 h.kw.size)).trans (h.keep g h1 h2)⟩
theorem EachI.put4 {w w0 wr : World} {hi g o : Nat} (h : EachI w w0 hi wr) (hg : w.heap.size ≤ g) (hlt : g < hi) {u0 u1 u2 u3 : Value} (k : Kw wr (put4 wr g o u0 u1 u2 u3)) : EachI w w0 hi (put4 wr g o u0 u1 u2 u3) :=
 ⟨cK h.below hg _ _ _ _, h.kw.trans k, fun g' h1 h2 => (cX wr o _ _ _ _ (by omega)).trans (h.keep g' h1 h2)⟩
theorem zP (a b : List (List ByteArray)) (n wd : Nat) (A B : Option Addr) (ca cb : Nat) (w : World) (ha : SMat w A n a) (hb : SMat w B n b) (sa : Sh2 a) (sb : Sh2 b) (htab : Tab w) (va : VM (tx2 a) n wd) (vb : VM (tx2 b) n wd) (hwd : wd ≤ 40) :
  Calls Tryz.prog 104 #[.slice A n ca, .slice B n cb, .func (.func 99) #[] #[]] w (RetMT w (txM (fQ (fun p q => p + q) (bM (tx2 a)) (bM (tx2 b))))) := by
 have hn := va.hn
 have HA := aH ha
 have HB := aH hb
 have HTB := aH htab
 have HSA := aH sa
 have HSB := aH sb
 have VA := aH va
 have VB := aH vb
 have HX := aH (lH a n A ca w ha sa (sI (m := a) va) (by omega))
 have FXF := aH (nO va)
 have FYF := aH (nO vb)
 have RX := aH va.vals
 have RY := aH vb.vals
 clear ha hb htab sa sb va vb
 go_enter Tryz.func104, Tryz.ntmps104
 go_wp2_with fail
 refine HX.out.mono ?_
 rintro e w1 ⟨vx, xs, rfl, hx, hb1⟩
 have HB1 := aH hb1
 have HXX := aH hx
 have HY := aH (lH b n B cb w1 (HB.out.below hb1) HSB.out (sI (m := b) VB.out) (by omega))
 clear hb1 hx HX
 go_wp2_with fail
 refine HY.out.mono ?_
 rintro e w0 ⟨vy, ys, rfl, hy, hb2⟩
 have hx0 := HXX.out.call hb2
 obtain ⟨Ax, cx, rfl⟩ := hx0.val
 obtain ⟨Ay, cy, rfl⟩ := hy.val
 have lx := RX.out.len
 have ly := RY.out.len
 rw [lx] at hx0 ⊢
 rw [ly] at hy ⊢
 have HYR := aH hy
 have HLT := aH (show ∀ (j : Nat) (u : Value) (g : Nat), xs[j]? = some u → u.ownBlock = some g → g < w1.heap.size from fun j u g h1 h2 => by
  have h3 := HXX.out.len
  have hj := (List.getElem?_eq_some_iff.1 h1).1
  exact ((HXX.out.inner j u _ h1 (gE (by omega))).lt h2).2)
 have HP := aH (show LM w0 w.heap.size (.slice Ax n cx) xs (eM (fQ (fun p q => p + q) (bM (tx2 a)) (bM (tx2 b))) (bM (tx2 a)) 0 0) from by rw [sQ]; exact hx0)
 have HI := aH (show EachI w w0 w1.heap.size w0 from ⟨HB1.out.trans (hb2.mono HB1.out.size), Kw.refl _, fun _ _ _ => rfl⟩)
 have RR := aH (vW (f := fun p q => p + q) RX.out RY.out)
 have HW1 := aH HB1.out.size
 clear hb2 hy hx0 lx ly HY HXX HA HB HSA HSB VA VB
 generalize hR : fQ (fun p q => p + q) (bM (tx2 a)) (bM (tx2 b)) = R at *
 have HRE := aH hR
 clear hR
 generalize hxe : bM (tx2 a) = x at *
 generalize hye : bM (tx2 b) = y at *
 have HXE := aH hxe
 have HYE := aH hye
 clear hxe hye
 go_wp2
 go_loopg [18] (n - 0) (fun r v wr => ∃ i : Nat, r = n - i ∧ v = I i ∧ i ≤ n ∧ Hid (LM wr w.heap.size (.slice Ax n cx) xs (eM R x i 0)) ∧ Hid (EachI w w0 w1.heap.size wr))
 case atStart => exact ⟨0, rfl, rfl, by omega, HP, HI⟩
 case round =>
  clear HP HI
  obtain ⟨i, rfl, rfl, hi, HP, HI⟩ := hrel
  obtain ⟨wa, rfl⟩ := wE wr
  by_cases hlt : i < n
  ·obtain ⟨g0, off, cap, Bh, ch, e0, _, _, _, hcl, _, _⟩ := HP.out.at_ (i := i) (by rw [lV, RX.out.len]; exact hlt)
   have hAx : Ax = some ⟨g0, off, none⟩ := pX e0
   have hlen0 : ((eM R x i 0).getD i []).length = wd := by
    rw [oX R x 0 (by rw [RX.out.len]; exact hlt), List.take_zero, List.nil_append, List.drop_zero]
    exact RX.out.rowlen hlt
   rw [hlen0] at hcl
   subst hAx
   clear e0 hlen0
   go_wp2
   clear hcl
   go_loopg [26] (wd - 0) (fun r v wr => ∃ k : Nat, r = wd - k ∧ v = I k ∧ k ≤ wd ∧ Hid (LM wr w.heap.size (.slice (some ⟨g0, off, none⟩) n cx) xs (eM R x i k)) ∧ Hid (EachI w w0 w1.heap.size wr))
   case atStart => exact ⟨0, rfl, rfl, by omega, HP, HI⟩
   case round =>
    clear HP HI
    obtain ⟨k, rfl, rfl, hk, HP, HI⟩ := hrel
    obtain ⟨wb, rfl⟩ := wE wr
    by_cases hkl : k < wd
    ·obtain ⟨hml, hme⟩ := aEg RR.out RX.out hlt hkl
     have hML : (eM R x i k).length = n := by rw [lV, RX.out.len]
     have hd := aU wb
     have hL1 := HP.out.call hd
     have hI1 := HI.out.call hd
     obtain ⟨bx, ox, c1, xb, xn, xnl, xnc, xd, xdl, xdc, hu, hc, hC, hrt, hfz, _, _, hbx, _, hne⟩ := hL1.elem hML (i := i) (k := k) hlt (by rw [hml]; exact hkl)
     rw [hml] at hu hc
     rw [hme] at hrt
     have hy1 : LM wb.drew w1.heap.size (.slice Ay n cy) ys y := HYR.out.keepB hI1.kw hI1.keep
     obtain ⟨gy, oy, capy, By_, cy2, ey, _⟩ := hy1.at_ (i := i) (by rw [RY.out.len]; exact hlt)
     have hAy : Ay = some ⟨gy, oy, none⟩ := pX ey
     subst hAy
     have hyl := RY.out.rowlen hlt
     obtain ⟨by_, o2, c2, yb, yn, ynl, ync, yd, ydl, ydc, _, hcy, hCy, hrty, _, _, _, _, _, _⟩ := hy1.elem RY.out.len (i := i) (k := k) hlt (by rw [hyl]; exact hkl)
     rw [hyl] at hcy
     have HU := aH hu
     have CX := aH hc
     have EX := aH hC
     have CY := aH hcy
     have EY := aH hCy
     have HFZ := aH hfz
     have HL1 := aH hL1
     have HI1 := aH hI1
     have HML := aH hML
     have HBXL := aH (HLT.out i _ bx hu rfl)
     have HBX := aH hbx
     have HCALL := aH (iU _ _ (at2 x i k) (at2 y i k) wb.drew hrt hrty (N := 210) (by decide) (FXF.out.entry i k) (FYF.out.entry i k))
     clear hu hc hC hrt hfz hbx hne hml hme hML hd hL1 hI1 hy1 ey hyl hcy hCy hrty HP HI
     go_upto_region 8 with (fail)
     refine aG (fun w' => w'.cell? ⟨g0, off + i, none⟩ = some (.slice (some ⟨bx, ox, none⟩) wd c1) ∧ w'.cell? ⟨bx, ox + k * 4, none⟩ = some (.bool xb) ∧ w'.cell? ⟨bx, ox + k * 4 + 1, none⟩ = some (.slice xn xnl xnc) ∧ w'.cell? ⟨bx, ox + k * 4 + 2, none⟩ = some (.bool false) ∧ w'.cell? ⟨bx, ox + k * 4 + 3, none⟩ = some (.slice xd xdl xdc) ∧ w'.cell? ⟨gy, oy + i, none⟩ = some (.slice (some ⟨by_, o2, none⟩) wd c2) ∧ w'.cell? ⟨by_, o2 + k * 4, none⟩ = some (.bool yb) ∧ w'.cell? ⟨by_, o2 + k * 4 + 1, none⟩ = some (.slice yn ynl ync) ∧ w'.cell? ⟨by_, o2 + k * 4 + 2, none⟩ = some (.bool false) ∧ w'.cell? ⟨by_, o2 + k * 4 + 3, none⟩ = some (.slice yd ydl ydc)) 22 (by kernel_rfl) ?_
     generalize wb.drew = W1 at *
     refine tkS ⟨CX.out, EX.out.c0, EX.out.c1, EX.out.c2, EX.out.c3, CY.out, EY.out.c0, EY.out.c1, EY.out.c2, EY.out.c3⟩ fun hSS => ?_
     refine aZ 0 (.slice (some ⟨g0, off, none⟩) n cx) rfl hSS ?_
     refine aZ 1 (I i) rfl hSS ?_
     refine aZ 2 (.pointer (some ⟨g0, off + i, none⟩)) rfl hSS ?_
     refine aZ 3 (.slice (some ⟨bx, ox, none⟩) wd c1) rfl hSS ?_
     refine aZ 4 (I k) rfl hSS ?_
     refine aZ 5 (.func (.func 99) #[] #[]) rfl hSS ?_
     refine aZ 6 (.slice (some ⟨g0, off, none⟩) n cx) rfl hSS ?_
     refine aZ 7 (I i) rfl hSS ?_
     refine aZ 8 (.pointer (some ⟨g0, off + i, none⟩)) rfl hSS ?_
     refine aZ 9 (.slice (some ⟨bx, ox, none⟩) wd c1) rfl hSS ?_
     refine aZ 10 (I k) rfl hSS ?_
     refine aZ 11 (.pointer (some ⟨bx, ox + k * 4, none⟩)) rfl hSS ?_
     refine aZ 12 (.agg #[.bool xb, .slice xn xnl xnc, .bool false, .slice xd xdl xdc]) rfl hSS ?_
     refine aZ 13 (.slice (some ⟨gy, oy, none⟩) n cy) rfl hSS ?_
     refine aZ 14 (I i) rfl hSS ?_
     refine aZ 15 (.pointer (some ⟨gy, oy + i, none⟩)) rfl hSS ?_
     refine aZ 16 (.slice (some ⟨by_, o2, none⟩) wd c2) rfl hSS ?_
     refine aZ 17 (I k) rfl hSS ?_
     refine aZ 18 (.pointer (some ⟨by_, o2 + k * 4, none⟩)) rfl hSS ?_
     refine aZ 19 (.agg #[.bool yb, .slice yn ynl ync, .bool false, .slice yd ydl ydc]) rfl hSS ?_
     refine on1 20 fun K hK => ?_
     go_simp
     go_at_call 99
     refine (HCALL.out).mono ?_
     rintro e W2 ⟨vq, rfl, hv, hb⟩
     obtain ⟨tb, t1, t2, t3, t4, t5, t6, rfl⟩ := hv.bools
     have CX2 := aH (aB CX.out hb)
     have EX2 := aH (EX.out.below hb)
     have CY2 := aH (aB CY.out hb)
     have EY2 := aH (EY.out.below hb)
     have HL2 := aH (HL1.out.call hb)
     have HI2 := aH (HI1.out.call hb)
     have HFZ2 := aH (show ∀ j, W2.frozen? ⟨bx, j, none⟩ = false from fun j => (hb.frozen (p := ⟨bx, j, none⟩) (show bx < _ from World.block_lt_of_cell? _ ⟨bx, _, none⟩ EX.out.c0)).trans (HFZ.out j))
     have HV := aH hv
     clear hb hv
     refine hK.out _ _ (fun _ => ⟨CX2.out, EX2.out.c0, EX2.out.c1, EX2.out.c2, EX2.out.c3, CY2.out, EY2.out.c0, EY2.out.c1, EY2.out.c2, EY2.out.c3⟩) ?_
     clear hK K
     clear HCALL CX EX CY EY HL1 HI1 HFZ
     refine on1 21 fun K hK => ?_
     go_simp
     refine hK.out _ _ (fun _ => ⟨CX2.out, EX2.out.c0, EX2.out.c1, EX2.out.c2, EX2.out.c3, CY2.out, EY2.out.c0, EY2.out.c1, EY2.out.c2, EY2.out.c3⟩) ?_
     clear hK K
     obtain ⟨h1, h2⟩ := HL2.out.putEl HML.out hlt HU.out hkl HV.out
     have hset := zN RR.out RX.out hlt hkl
     rw [← HRE.out, zM RX.out RY.out hlt hkl, HRE.out] at hset
     rw [hset] at h1
     have HN := aH h1
     have HIN := aH (HI2.out.put4 HBX.out HBXL.out h2)
     unfold put4 at HN HIN
     have r0 := EX2.out.c0
     have r1 := EX2.out.c1
     have r2 := EX2.out.c2
     have r3 := EX2.out.c3
     have q0 := HFZ2.out (ox + k * 4)
     have q1 := HFZ2.out (ox + k * 4 + 1)
     have q2 := HFZ2.out (ox + k * 4 + 2)
     have q3 := HFZ2.out (ox + k * 4 + 3)
     clear h1 h2 hset HL2 HI2 HV HU HBX HBXL HML CX2 EX2 CY2 EY2 HFZ2
     refine on1 22 fun K hK => ?_
     go_simp
     refine hK.out _ _ (fun h => absurd h (by decide)) ?_
     clear hK K
     clear r0 r1 r2 r3 q0 q1 q2 q3
     refine aE (by kernel_rfl) ?_ _
     go_wp2
     go_roundg (wd - (k + 1))
     case measure => omega
     case rel => exact ⟨k + 1, rfl, by go_num, by omega, HN, HIN⟩
    ·have hkn : k = wd := by omega
     subst hkn
     have HN := aH (show LM wb w.heap.size (.slice (some ⟨g0, off, none⟩) n cx) xs (eM R x (i + 1) 0) by
      have := HP.out
      rwa [vX RR.out RX.out hlt] at this)
     clear HP
     go_wp2
     go_roundg (n - (i + 1))
     case measure => omega
     case rel => exact ⟨i + 1, rfl, by go_num, by omega, HN, HI⟩
  ·have hin : i = n := by omega
   subst hin
   have hLM := HP.out
   rw [zO RR.out RX.out] at hLM
   have HT := aH (qV R i Ax cx wa hLM.rm (by omega) (fun r hr => by rw [RR.out.row r hr]; omega) (aO HTB.out HI.out.below))
   have HBT := aH HI.out.below
   clear hLM HP HI
   go_wp2_with fail
   refine HT.out.mono ?_
   rintro e w9 ⟨A9, n9, c9, m9, rfl, h1, h2, h3, hb⟩
   have HQ := aH (show RetMT w (txM R) (.returned (.tuple #[.slice A9 n9 c9, I (txM R).2])) w9 from ⟨A9, n9, c9, m9, rfl, h1, h2, h3, HBT.out.trans (hb.mono HBT.out.size)⟩)
   clear h1 h2 h3 hb HT HBT
   go_wp2
   go_ret2
   rw [HXE.out, HYE.out, HRE.out]
   exact HQ.out
theorem aCi (a b : List (List ByteArray)) (n wd : Nat) (A B : Option Addr) (ca cb : Nat) (w : World) (ha : SMat w A n a) (hb : SMat w B n b) (sa : Sh2 a) (sb : Sh2 b) (htab : Tab w) (va : VM (tx2 a) n wd) (vb : VM (tx2 b) n wd) (hwd : wd ≤ 40) (f : Rat) (g : Nat) (_hg : g < w.heap.size) (hf : Vq w g f) (ff : FitR 210 f) :
  Calls Tryz.prog 104 #[.slice A n ca, .slice B n cb, .func (.func 108) #[] #[.pointer (some ⟨g, 0, none⟩)]] w (RetMT w (txM (fQ (fun p _ => p * f) (bM (tx2 a)) (bM (tx2 b))))) := by
 have hn := va.hn
 have HA := aH ha
 have HB := aH hb
 have HTB := aH htab
 have HSA := aH sa
 have HSB := aH sb
 have VA := aH va
 have VB := aH vb
 have HVF := aH hf
 have HFF := aH ff
 clear hf ff
 have HX := aH (lH a n A ca w ha sa (sI (m := a) va) (by omega))
 have FXF := aH (nO va)
 have FYF := aH (nO vb)
 have RX := aH va.vals
 have RY := aH vb.vals
 clear ha hb htab sa sb va vb
 go_enter Tryz.func104, Tryz.ntmps104
 go_wp2_with fail
 refine HX.out.mono ?_
 rintro e w1 ⟨vx, xs, rfl, hx, hb1⟩
 have HB1 := aH hb1
 have HXX := aH hx
 have HY := aH (lH b n B cb w1 (HB.out.below hb1) HSB.out (sI (m := b) VB.out) (by omega))
 clear hb1 hx HX
 go_wp2_with fail
 refine HY.out.mono ?_
 rintro e w0 ⟨vy, ys, rfl, hy, hb2⟩
 have hx0 := HXX.out.call hb2
 obtain ⟨Ax, cx, rfl⟩ := hx0.val
 obtain ⟨Ay, cy, rfl⟩ := hy.val
 have lx := RX.out.len
 have ly := RY.out.len
 rw [lx] at hx0 ⊢
 rw [ly] at hy ⊢
 have HYR := aH hy
 have HLT := aH (show ∀ (j : Nat) (u : Value) (g : Nat), xs[j]? = some u → u.ownBlock = some g → g < w1.heap.size from fun j u g h1 h2 => by
  have h3 := HXX.out.len
  have hj := (List.getElem?_eq_some_iff.1 h1).1
  exact ((HXX.out.inner j u _ h1 (gE (by omega))).lt h2).2)
 have HP := aH (show LM w0 w.heap.size (.slice Ax n cx) xs (eM (fQ (fun p _ => p * f) (bM (tx2 a)) (bM (tx2 b))) (bM (tx2 a)) 0 0) from by rw [sQ]; exact hx0)
 have HI := aH (show EachI w w0 w1.heap.size w0 from ⟨HB1.out.trans (hb2.mono HB1.out.size), Kw.refl _, fun _ _ _ => rfl⟩)
 have RR := aH (vW (f := fun p _ => p * f) RX.out RY.out)
 have HW1 := aH HB1.out.size
 clear hb2 hy hx0 lx ly HY HXX HA HB HSA HSB VA VB
 generalize hR : fQ (fun p _ => p * f) (bM (tx2 a)) (bM (tx2 b)) = R at *
 have HRE := aH hR
 clear hR
 generalize hxe : bM (tx2 a) = x at *
 generalize hye : bM (tx2 b) = y at *
 have HXE := aH hxe
 have HYE := aH hye
 clear hxe hye
 go_wp2
 go_loopg [18] (n - 0) (fun r v wr => ∃ i : Nat, r = n - i ∧ v = I i ∧ i ≤ n ∧ Hid (LM wr w.heap.size (.slice Ax n cx) xs (eM R x i 0)) ∧ Hid (EachI w w0 w1.heap.size wr))
 case atStart => exact ⟨0, rfl, rfl, by omega, HP, HI⟩
 case round =>
  clear HP HI
  obtain ⟨i, rfl, rfl, hi, HP, HI⟩ := hrel
  obtain ⟨wa, rfl⟩ := wE wr
  by_cases hlt : i < n
  ·obtain ⟨g0, off, cap, Bh, ch, e0, _, _, _, hcl, _, _⟩ := HP.out.at_ (i := i) (by rw [lV, RX.out.len]; exact hlt)
   have hAx : Ax = some ⟨g0, off, none⟩ := pX e0
   have hlen0 : ((eM R x i 0).getD i []).length = wd := by
    rw [oX R x 0 (by rw [RX.out.len]; exact hlt), List.take_zero, List.nil_append, List.drop_zero]
    exact RX.out.rowlen hlt
   rw [hlen0] at hcl
   subst hAx
   clear e0 hlen0
   go_wp2
   clear hcl
   go_loopg [26] (wd - 0) (fun r v wr => ∃ k : Nat, r = wd - k ∧ v = I k ∧ k ≤ wd ∧ Hid (LM wr w.heap.size (.slice (some ⟨g0, off, none⟩) n cx) xs (eM R x i k)) ∧ Hid (EachI w w0 w1.heap.size wr))
   case atStart => exact ⟨0, rfl, rfl, by omega, HP, HI⟩
   case round =>
    clear HP HI
    obtain ⟨k, rfl, rfl, hk, HP, HI⟩ := hrel
    obtain ⟨wb, rfl⟩ := wE wr
    by_cases hkl : k < wd
    ·obtain ⟨hml, hme⟩ := aEg RR.out RX.out hlt hkl
     have hML : (eM R x i k).length = n := by rw [lV, RX.out.len]
     have hd := aU wb
     have hL1 := HP.out.call hd
     have hI1 := HI.out.call hd
     obtain ⟨bx, ox, c1, xb, xn, xnl, xnc, xd, xdl, xdc, hu, hc, hC, hrt, hfz, _, _, hbx, _, hne⟩ := hL1.elem hML (i := i) (k := k) hlt (by rw [hml]; exact hkl)
     rw [hml] at hu hc
     rw [hme] at hrt
     have hy1 : LM wb.drew w1.heap.size (.slice Ay n cy) ys y := HYR.out.keepB hI1.kw hI1.keep
     obtain ⟨gy, oy, capy, By_, cy2, ey, _⟩ := hy1.at_ (i := i) (by rw [RY.out.len]; exact hlt)
     have hAy : Ay = some ⟨gy, oy, none⟩ := pX ey
     subst hAy
     have hyl := RY.out.rowlen hlt
     obtain ⟨by_, o2, c2, yb, yn, ynl, ync, yd, ydl, ydc, _, hcy, hCy, hrty, _, _, _, _, _, _⟩ := hy1.elem RY.out.len (i := i) (k := k) hlt (by rw [hyl]; exact hkl)
     rw [hyl] at hcy
     have HU := aH hu
     have CX := aH hc
     have EX := aH hC
     have CY := aH hcy
     have EY := aH hCy
     have HFZ := aH hfz
     have HL1 := aH hL1
     have HI1 := aH hI1
     have HML := aH hML
     have HBXL := aH (HLT.out i _ bx hu rfl)
     have HBX := aH hbx
     have HCALL := aH (aCh _ _ (at2 x i k) (at2 y i k) f g wb.drew hrt hrty (HVF.out.below hI1.below) (FXF.out.entry i k) HFF.out)
     clear hu hc hC hrt hfz hbx hne hml hme hML hd hL1 hI1 hy1 ey hyl hcy hCy hrty HP HI
     go_upto_region 8 with (fail)
     refine aG (fun w' => w'.cell? ⟨g0, off + i, none⟩ = some (.slice (some ⟨bx, ox, none⟩) wd c1) ∧ w'.cell? ⟨bx, ox + k * 4, none⟩ = some (.bool xb) ∧ w'.cell? ⟨bx, ox + k * 4 + 1, none⟩ = some (.slice xn xnl xnc) ∧ w'.cell? ⟨bx, ox + k * 4 + 2, none⟩ = some (.bool false) ∧ w'.cell? ⟨bx, ox + k * 4 + 3, none⟩ = some (.slice xd xdl xdc) ∧ w'.cell? ⟨gy, oy + i, none⟩ = some (.slice (some ⟨by_, o2, none⟩) wd c2) ∧ w'.cell? ⟨by_, o2 + k * 4, none⟩ = some (.bool yb) ∧ w'.cell? ⟨by_, o2 + k * 4 + 1, none⟩ = some (.slice yn ynl ync) ∧ w'.cell? ⟨by_, o2 + k * 4 + 2, none⟩ = some (.bool false) ∧ w'.cell? ⟨by_, o2 + k * 4 + 3, none⟩ = some (.slice yd ydl ydc)) 22 (by kernel_rfl) ?_
     generalize wb.drew = W1 at *
     refine tkS ⟨CX.out, EX.out.c0, EX.out.c1, EX.out.c2, EX.out.c3, CY.out, EY.out.c0, EY.out.c1, EY.out.c2, EY.out.c3⟩ fun hSS => ?_
     refine aZ 0 (.slice (some ⟨g0, off, none⟩) n cx) rfl hSS ?_
     refine aZ 1 (I i) rfl hSS ?_
     refine aZ 2 (.pointer (some ⟨g0, off + i, none⟩)) rfl hSS ?_
     refine aZ 3 (.slice (some ⟨bx, ox, none⟩) wd c1) rfl hSS ?_
     refine aZ 4 (I k) rfl hSS ?_
     refine aZ 5 (.func (.func 108) #[] #[.pointer (some ⟨g, 0, none⟩)]) rfl hSS ?_
     refine aZ 6 (.slice (some ⟨g0, off, none⟩) n cx) rfl hSS ?_
     refine aZ 7 (I i) rfl hSS ?_
     refine aZ 8 (.pointer (some ⟨g0, off + i, none⟩)) rfl hSS ?_
     refine aZ 9 (.slice (some ⟨bx, ox, none⟩) wd c1) rfl hSS ?_
     refine aZ 10 (I k) rfl hSS ?_
     refine aZ 11 (.pointer (some ⟨bx, ox + k * 4, none⟩)) rfl hSS ?_
     refine aZ 12 (.agg #[.bool xb, .slice xn xnl xnc, .bool false, .slice xd xdl xdc]) rfl hSS ?_
     refine aZ 13 (.slice (some ⟨gy, oy, none⟩) n cy) rfl hSS ?_
     refine aZ 14 (I i) rfl hSS ?_
     refine aZ 15 (.pointer (some ⟨gy, oy + i, none⟩)) rfl hSS ?_
     refine aZ 16 (.slice (some ⟨by_, o2, none⟩) wd c2) rfl hSS ?_
     refine aZ 17 (I k) rfl hSS ?_
     refine aZ 18 (.pointer (some ⟨by_, o2 + k * 4, none⟩)) rfl hSS ?_
     refine aZ 19 (.agg #[.bool yb, .slice yn ynl ync, .bool false, .slice yd ydl ydc]) rfl hSS ?_
     refine on1 20 fun K hK => ?_
     go_simp
     go_at_call 108
     refine (HCALL.out).mono ?_
     rintro e W2 ⟨vq, rfl, hv, hb⟩
     obtain ⟨tb, t1, t2, t3, t4, t5, t6, rfl⟩ := hv.bools
     have CX2 := aH (aB CX.out hb)
     have EX2 := aH (EX.out.below hb)
     have CY2 := aH (aB CY.out hb)
     have EY2 := aH (EY.out.below hb)
     have HL2 := aH (HL1.out.call hb)
     have HI2 := aH (HI1.out.call hb)
     have HFZ2 := aH (show ∀ j, W2.frozen? ⟨bx, j, none⟩ = false from fun j => (hb.frozen (p := ⟨bx, j, none⟩) (show bx < _ from World.block_lt_of_cell? _ ⟨bx, _, none⟩ EX.out.c0)).trans (HFZ.out j))
     have HV := aH hv
     clear hb hv
     refine hK.out _ _ (fun _ => ⟨CX2.out, EX2.out.c0, EX2.out.c1, EX2.out.c2, EX2.out.c3, CY2.out, EY2.out.c0, EY2.out.c1, EY2.out.c2, EY2.out.c3⟩) ?_
     clear hK K
     clear HCALL CX EX CY EY HL1 HI1 HFZ
     refine on1 21 fun K hK => ?_
     go_simp
     refine hK.out _ _ (fun _ => ⟨CX2.out, EX2.out.c0, EX2.out.c1, EX2.out.c2, EX2.out.c3, CY2.out, EY2.out.c0, EY2.out.c1, EY2.out.c2, EY2.out.c3⟩) ?_
     clear hK K
     obtain ⟨h1, h2⟩ := HL2.out.putEl HML.out hlt HU.out hkl HV.out
     have hset := zN RR.out RX.out hlt hkl
     rw [← HRE.out, zM RX.out RY.out hlt hkl, HRE.out] at hset
     rw [hset] at h1
     have HN := aH h1
     have HIN := aH (HI2.out.put4 HBX.out HBXL.out h2)
     unfold put4 at HN HIN
     have r0 := EX2.out.c0
     have r1 := EX2.out.c1
     have r2 := EX2.out.c2
     have r3 := EX2.out.c3
     have q0 := HFZ2.out (ox + k * 4)
     have q1 := HFZ2.out (ox + k * 4 + 1)
     have q2 := HFZ2.out (ox + k * 4 + 2)
     have q3 := HFZ2.out (ox + k * 4 + 3)
     clear h1 h2 hset HL2 HI2 HV HU HBX HBXL HML CX2 EX2 CY2 EY2 HFZ2
     refine on1 22 fun K hK => ?_
     go_simp
     refine hK.out _ _ (fun h => absurd h (by decide)) ?_
     clear hK K
     clear r0 r1 r2 r3 q0 q1 q2 q3
     refine aE (by kernel_rfl) ?_ _
     go_wp2
     go_roundg (wd - (k + 1))
     case measure => omega
     case rel => exact ⟨k + 1, rfl, by go_num, by omega, HN, HIN⟩
    ·have hkn : k = wd := by omega
     subst hkn
     have HN := aH (show LM wb w.heap.size (.slice (some ⟨g0, off, none⟩) n cx) xs (eM R x (i + 1) 0) by
      have := HP.out
      rwa [vX RR.out RX.out hlt] at this)
     clear HP
     go_wp2
     go_roundg (n - (i + 1))
     case measure => omega
     case rel => exact ⟨i + 1, rfl, by go_num, by omega, HN, HI⟩
  ·have hin : i = n := by omega
   subst hin
   have hLM := HP.out
   rw [zO RR.out RX.out] at hLM
   have HT := aH (qV R i Ax cx wa hLM.rm (by omega) (fun r hr => by rw [RR.out.row r hr]; omega) (aO HTB.out HI.out.below))
   have HBT := aH HI.out.below
   clear hLM HP HI
   go_wp2_with fail
   refine HT.out.mono ?_
   rintro e w9 ⟨A9, n9, c9, m9, rfl, h1, h2, h3, hb⟩
   have HQ := aH (show RetMT w (txM R) (.returned (.tuple #[.slice A9 n9 c9, I (txM R).2])) w9 from ⟨A9, n9, c9, m9, rfl, h1, h2, h3, HBT.out.trans (hb.mono HBT.out.size)⟩)
   clear h1 h2 h3 hb HT HBT
   go_wp2
   go_ret2
   rw [HXE.out, HYE.out, HRE.out]
   exact HQ.out
theorem aGk (a b : List (List Rat)) : aUj a b = fQ (fun p q => p + q) a b := rfl
theorem aEh {α : Type} (f : α → α) : ∀ l : List α, List.zipWith (fun p _ => f p) l l = l.map f
 | [] => rfl
 | x :: l => by rw [List.zipWith_cons_cons, aEh f l, List.map_cons]
theorem aJk (a : List (List Rat)) (f : Rat) : scQ a f = fQ (fun p _ => p * f) a a := by
 unfold scQ fQ
 have : ∀ l : List (List Rat), List.zipWith (fun r s => List.zipWith (fun p _ => p * f) r s) l l = l.map fun r => r.map fun x => x * f := by
  intro l
  induction l with
  | nil => rfl
  | cons x l ih => rw [List.zipWith_cons_cons, ih, List.map_cons, aEh (fun p => p * f)]
 exact (this a).symm
theorem aOt (a : List (List ByteArray)) (na : Nat) (Aa : Option Addr) (ca : Nat) (b : List (List ByteArray)) (nb : Nat) (Ab : Option Addr) (cb : Nat) (w : World) (ha : SMat w Aa na a) (sa : Sh2 a) (hb : SMat w Ab nb b) (sb : Sh2 b) (htab : Tab w) (h0 : cJ [cS (tx2 a), cS (tx2 b)] ≠ 0) :
  Calls Tryz.prog 44 #[.slice Aa na ca, .slice Ab nb cb] w (RetMT w (nT (tx2 a) (tx2 b))) := by
 have HE := aH (show nT (tx2 a) (tx2 b) = ([], cJ [cS (tx2 a), cS (tx2 b)]) from vA _ _ _ h0)
 have Ha := aH ha
 have Sa := aH sa
 have Hb := aH hb
 have Sb := aH sb
 have HTB := aH htab
 have hca := kF a na Aa ca w (Ha.out) Sa.out (HTB.out)
 have HCA := aH hca
 clear hca ha sa hb sb htab
 go_enter Tryz.func44, Tryz.ntmps44
 go_wp2_with fail
 refine HCA.out.mono ?_
 rintro e w1 ⟨rfl, hb1⟩
 have HB1 := aH hb1
 have hcb := kF b nb Ab cb w1 (Hb.out.below hb1) Sb.out (aO HTB.out hb1)
 have HCB := aH hcb
 clear hb1 HCA hcb
 go_wp2_with fail
 refine HCB.out.mono ?_
 rintro e w2 ⟨rfl, hb2⟩
 have HB2 := aH (HB1.out.trans (hb2.mono HB1.out.size))
 have HF := aH (nK [cS (tx2 a), cS (tx2 b)] 2 (some ⟨w2.heap.size, 0, none⟩) 2 (w2.alloc (.cells #[I (cS (tx2 a)), I (cS (tx2 b))] nU)) (pW w2 nU _ _) (by omega))
 have HB3 := aH (HB2.out.alloc HB2.out.size (.cells #[I (cS (tx2 a)), I (cS (tx2 b))] nU))
 unfold nU at *
 clear hb2 HB1 HB2 HCB
 have tc : (cJ [cS (tx2 a), cS (tx2 b)] != 0) = true := bne_iff_ne.2 h0
 have HQ := aH (RetMT.none_ (w := w) HE.out HB3.out)
 clear h0 HE
 generalize cJ [cS (tx2 a), cS (tx2 b)] = fe at *
 go_wp2_with fail
 refine HF.out.mono ?_
 rintro e w3 ⟨rfl, rfl⟩
 clear HF
 go_wp2
 go_ret2
 exact HQ.out
theorem aJl (a : List (List ByteArray)) (na : Nat) (Aa : Option Addr) (ca : Nat) (b : List (List ByteArray)) (nb : Nat) (Ab : Option Addr) (cb : Nat) (w : World) (ha : SMat w Aa na a) (sa : Sh2 a) (hb : SMat w Ab nb b) (sb : Sh2 b) (htab : Tab w) (h1 : cS (tx2 a) = 0) (h2 : cS (tx2 b) = 0) :
  Calls Tryz.prog 44 #[.slice Aa na ca, .slice Ab nb cb] w (RetMT w (nT (tx2 a) (tx2 b))) := by
 have la : a.length = na := by obtain ⟨_, _, h, _⟩ := ha; exact h
 have lb : b.length = nb := by obtain ⟨_, _, h, _⟩ := hb; exact h
 have VA := aH (yY h1)
 have VB := aH (yY h2)
 have LA := aH (show (tx2 a).length = na by rw [tx2, List.length_map, la])
 have LB := aH (show (tx2 b).length = nb by rw [tx2, List.length_map, lb])
 have hna : na ≤ 40 := by have := VA.out.hn; rw [LA.out] at this; exact this
 have hnb : nb ≤ 40 := by have := VB.out.hn; rw [LB.out] at this; exact this
 clear la lb
 have H1 := aH h1
 have H2 := aH h2
 clear h1 h2
 have Ha := aH ha
 have Sa := aH sa
 have Hb := aH hb
 have Sb := aH sb
 have HTB := aH htab
 have hca := kF a na Aa ca w (Ha.out) Sa.out (HTB.out)
 rw [H1.out] at hca
 have HCA := aH hca
 clear hca ha sa hb sb htab
 go_enter Tryz.func44, Tryz.ntmps44
 go_wp2_with fail
 refine HCA.out.mono ?_
 rintro e w1 ⟨rfl, hb1⟩
 have HB1 := aH hb1
 have hcb := kF b nb Ab cb w1 (Hb.out.below hb1) Sb.out (aO HTB.out hb1)
 rw [H2.out] at hcb
 have HCB := aH hcb
 clear hb1 HCA hcb
 go_wp2_with fail
 refine HCB.out.mono ?_
 rintro e w2 ⟨rfl, hb2⟩
 have HB2 := aH (HB1.out.trans (hb2.mono HB1.out.size))
 have HF := aH (nK [0, 0] 2 (some ⟨w2.heap.size, 0, none⟩) 2 (w2.alloc (.cells #[I (0), I (0)] nU)) (pW w2 nU _ _) (by omega))
 have HB3 := aH (HB2.out.alloc HB2.out.size (.cells #[I (0), I (0)] nU))
 unfold nU at *
 clear hb2 HB1 HB2 HCB
 rw [show cJ [0, 0] = 0 from rfl] at HF
 go_wp2_with fail
 refine HF.out.mono ?_
 rintro e w3 ⟨rfl, rfl⟩
 generalize w2.alloc (.cells #[I 0, I 0] 34) = w3 at *
 clear HF
 by_cases hl : na = nb
 ·subst hl
  have HWA := aH (wX a na Aa ca w3 (Ha.out.below HB3.out))
  have HWB := aH (wX b na Ab cb w3 (Hb.out.below HB3.out))
  by_cases hw : wd (tx2 a) = wd (tx2 b)
  ·have tw : ((wd (tx2 a) : Int) != (wd (tx2 b) : Int)) = false := by rw [hw]; simp
   have hwd : wd (tx2 a) ≤ 40 := by
    rcases VA.out.hk with h | h
    ·exact h
    ·rw [aMq h]; omega
   have HRES := aH (show nT (tx2 a) (tx2 b) = txM (fQ (fun p q => p + q) (bM (tx2 a)) (bM (tx2 b))) by
    unfold nT uQ
    rw [H1.out, H2.out, if_neg (by decide), if_neg (by decide), if_neg (by rw [LA.out, LB.out]; exact fun h => h.elim (fun k => k rfl) fun k => k hw), aGk])
   have va := VA.out
   have vb := VB.out
   rw [LA.out] at va
   rw [LB.out, ← hw] at vb
   have HE := aH (zP a b na (wd (tx2 a)) Aa Ab ca cb w3 (Ha.out.below HB3.out) (Hb.out.below HB3.out) Sa.out Sb.out (aO HTB.out HB3.out) va vb hwd)
   clear hw va vb hwd
   generalize wd (tx2 a) = wa at *
   generalize wd (tx2 b) = wb at *
   go_wp2_with fail
   refine HWA.out.mono ?_
   rintro e w4 ⟨rfl, rfl⟩
   clear HWA
   go_wp2_with fail
   refine HWB.out.mono ?_
   rintro e w5 ⟨rfl, rfl⟩
   clear HWB
   go_wp2_with fail
   refine HE.out.mono ?_
   rintro e w9 ⟨A9, n9, c9, m9, rfl, h1, h2, h3, hb⟩
   have HQ := aH (show RetMT w (nT (tx2 a) (tx2 b)) (.returned (.tuple #[.slice A9 n9 c9, I (txM (fQ (fun p q => p + q) (bM (tx2 a)) (bM (tx2 b)))).2])) w9 from ⟨A9, n9, c9, m9, by rw [HRES.out], h1, by rw [HRES.out]; exact h2, h3, HB3.out.trans (hb.mono HB3.out.size)⟩)
   clear h1 h2 h3 hb HE
   go_wp2
   go_ret2
   exact HQ.out
  ·have tw : ((wd (tx2 a) : Int) != (wd (tx2 b) : Int)) = true := bne_iff_ne.2 (by omega)
   have HQ := aH (RetMT.none_ (w := w) (c := 3) (r := nT (tx2 a) (tx2 b)) (by
    unfold nT uQ
    rw [H1.out, H2.out, if_neg (by decide), if_neg (by decide), if_pos (.inr hw)]) HB3.out)
   clear hw
   generalize wd (tx2 a) = wa at *
   generalize wd (tx2 b) = wb at *
   go_wp2_with fail
   refine HWA.out.mono ?_
   rintro e w4 ⟨rfl, rfl⟩
   clear HWA
   go_wp2_with fail
   refine HWB.out.mono ?_
   rintro e w5 ⟨rfl, rfl⟩
   clear HWB
   go_wp2
   go_ret2
   exact HQ.out
 ·have tl : ((na : Int) != (nb : Int)) = true := bne_iff_ne.2 (by omega)
  have HQ := aH (RetMT.none_ (w := w) (c := 3) (r := nT (tx2 a) (tx2 b)) (by
   unfold nT uQ
   rw [H1.out, H2.out, if_neg (by decide), if_neg (by decide), if_pos (.inl (by rw [LA.out, LB.out]; exact hl))]) HB3.out)
  go_wp2
  go_ret2
  exact HQ.out
theorem aJm (a : List (List ByteArray)) (na : Nat) (Aa : Option Addr) (ca : Nat) (b : List (List ByteArray)) (nb : Nat) (Ab : Option Addr) (cb : Nat) (w : World) (ha : SMat w Aa na a) (sa : Sh2 a) (hb : SMat w Ab nb b) (sb : Sh2 b) (htab : Tab w) :
  Calls Tryz.prog 44 #[.slice Aa na ca, .slice Ab nb cb] w (RetMT w (nT (tx2 a) (tx2 b))) := by
 by_cases h : cJ [cS (tx2 a), cS (tx2 b)] = 0
 ·obtain ⟨h1, h2⟩ := vB h
  exact aJl a na Aa ca b nb Ab cb w ha sa hb sb htab h1 h2
 ·exact aOt a na Aa ca b nb Ab cb w ha sa hb sb htab h
theorem aRt (a : List (List ByteArray)) (na : Nat) (Aa : Option Addr) (ca : Nat) (b : ByteArray) (w : World) (ha : SMat w Aa na a) (sa : Sh2 a) (sb : b.size ≤ 9223372036854775807) (htab : Tab w) (h0 : cJ [cS (tx2 a), dG (SL b)] ≠ 0) :
  Calls Tryz.prog 47 #[.slice Aa na ca, .string b] w (RetMT w (scM (tx2 a) (SL b))) := by
 have HE := aH (show scM (tx2 a) (SL b) = ([], cJ [cS (tx2 a), dG (SL b)]) from vA _ _ _ h0)
 have Ha := aH ha
 have Sa := aH sa
 have Sb := aH sb
 have HTB := aH htab
 have hca := kF a na Aa ca w (Ha.out) Sa.out (HTB.out)
 have HCA := aH hca
 clear hca ha sa sb htab
 go_enter Tryz.func47, Tryz.ntmps47
 go_wp2_with fail
 refine HCA.out.mono ?_
 rintro e w1 ⟨rfl, hb1⟩
 have HB1 := aH hb1
 have hcb := uN b w1 Sb.out (aO HTB.out hb1)
 have HCB := aH hcb
 clear hb1 HCA hcb
 go_wp2_with fail
 refine HCB.out.mono ?_
 rintro e w2 ⟨rfl, hb2⟩
 have HB2 := aH (HB1.out.trans (hb2.mono HB1.out.size))
 have HF := aH (nK [cS (tx2 a), dG (SL b)] 2 (some ⟨w2.heap.size, 0, none⟩) 2 (w2.alloc (.cells #[I (cS (tx2 a)), I (dG (SL b))] nU)) (pW w2 nU _ _) (by omega))
 have HB3 := aH (HB2.out.alloc HB2.out.size (.cells #[I (cS (tx2 a)), I (dG (SL b))] nU))
 unfold nU at *
 clear hb2 HB1 HB2 HCB
 have tc : (cJ [cS (tx2 a), dG (SL b)] != 0) = true := bne_iff_ne.2 h0
 have HQ := aH (RetMT.none_ (w := w) HE.out HB3.out)
 clear h0 HE
 generalize cJ [cS (tx2 a), dG (SL b)] = fe at *
 go_wp2_with fail
 refine HF.out.mono ?_
 rintro e w3 ⟨rfl, rfl⟩
 clear HF
 go_wp2
 go_ret2
 exact HQ.out
theorem aOu (a : List (List ByteArray)) (na : Nat) (Aa : Option Addr) (ca : Nat) (b : ByteArray) (w : World) (ha : SMat w Aa na a) (sa : Sh2 a) (sb : b.size ≤ 9223372036854775807) (htab : Tab w) (h1 : cS (tx2 a) = 0) (h2 : dG (SL b) = 0) :
  Calls Tryz.prog 47 #[.slice Aa na ca, .string b] w (RetMT w (scM (tx2 a) (SL b))) := by
 have la : a.length = na := by obtain ⟨_, _, h, _⟩ := ha; exact h
 have VA := aH (yY h1)
 have VB := aH (tV _ h2)
 have LA := aH (show (tx2 a).length = na by rw [tx2, List.length_map, la])
 have hna : na ≤ 40 := by have := VA.out.hn; rw [LA.out] at this; exact this
 clear la
 have H1 := aH h1
 have H2 := aH h2
 clear h1 h2
 have Ha := aH ha
 have Sa := aH sa
 have Sb := aH sb
 have HTB := aH htab
 have hca := kF a na Aa ca w (Ha.out) Sa.out (HTB.out)
 rw [H1.out] at hca
 have HCA := aH hca
 clear hca ha sa sb htab
 go_enter Tryz.func47, Tryz.ntmps47
 go_wp2_with fail
 refine HCA.out.mono ?_
 rintro e w1 ⟨rfl, hb1⟩
 have HB1 := aH hb1
 have hcb := uN b w1 Sb.out (aO HTB.out hb1)
 rw [H2.out] at hcb
 have HCB := aH hcb
 clear hb1 HCA hcb
 go_wp2_with fail
 refine HCB.out.mono ?_
 rintro e w2 ⟨rfl, hb2⟩
 have HB2 := aH (HB1.out.trans (hb2.mono HB1.out.size))
 have HF := aH (nK [0, 0] 2 (some ⟨w2.heap.size, 0, none⟩) 2 (w2.alloc (.cells #[I (0), I (0)] nU)) (pW w2 nU _ _) (by omega))
 have HB3 := aH (HB2.out.alloc HB2.out.size (.cells #[I (0), I (0)] nU))
 unfold nU at *
 clear hb2 HB1 HB2 HCB
 rw [show cJ [0, 0] = 0 from rfl] at HF
 go_wp2_with fail
 refine HF.out.mono ?_
 rintro e w3 ⟨rfl, rfl⟩
 generalize w2.alloc (.cells #[I 0, I 0] 34) = w3 at *
 clear HF
 have hwd : wd (tx2 a) ≤ 40 := by
  rcases VA.out.hk with h | h
  ·exact h
  ·rw [aMq h]; omega
 have HRES := aH (show scM (tx2 a) (SL b) = txM (fQ (fun p _ => p * dY (SL b)) (bM (tx2 a)) (bM (tx2 a))) by
  unfold scM uQ
  rw [H1.out, H2.out, if_neg (by decide), if_neg (by decide), aJk])
 have HP := aH (wW b w3 Sb.out VB.out)
 go_wp2_with fail
 refine HP.out.mono ?_
 rintro e w4 ⟨v, rfl, hv, hb⟩
 obtain ⟨qb, qn, qnl, qnc, qd, qdl, qdc, rfl⟩ := hv.bools
 obtain ⟨hv4, hb4⟩ := fX w4 (.bool qb) (.slice qn qnl qnc) (.bool false) (.slice qd qdl qdc)
 have hB4 := (HB3.out.trans (hb.mono HB3.out.size))
 have HB5 := aH (hB4.trans (hb4.mono hB4.size))
 have va := VA.out
 rw [LA.out] at va
 have HE := aH (aCi a a na (wd (tx2 a)) Aa Aa ca ca _ (Ha.out.below HB5.out) (Ha.out.below HB5.out) Sa.out Sa.out (aO HTB.out HB5.out) va va hwd (dY (SL b)) w4.heap.size hv4.lt ⟨_, _, _, _, _, _, _, hv4, hv.ext hb4⟩ (aFp VB.out))
 clear hv hb hv4 hb4 hB4 va HP HB3
 unfold aJ at *
 go_wp2_with fail
 refine HE.out.mono ?_
 rintro e w9 ⟨A9, n9, c9, m9, rfl, h1, h2, h3, hb⟩
 have HQ := aH (show RetMT w (scM (tx2 a) (SL b)) (.returned (.tuple #[.slice A9 n9 c9, I (txM (fQ (fun p _ => p * dY (SL b)) (bM (tx2 a)) (bM (tx2 a)))).2])) w9 from ⟨A9, n9, c9, m9, by rw [HRES.out], h1, by rw [HRES.out]; exact h2, h3, HB5.out.trans (hb.mono HB5.out.size)⟩)
 clear h1 h2 h3 hb HE
 go_wp2
 go_ret2
 exact HQ.out
theorem aOv (a : List (List ByteArray)) (na : Nat) (Aa : Option Addr) (ca : Nat) (b : ByteArray) (w : World) (ha : SMat w Aa na a) (sa : Sh2 a) (sb : b.size ≤ 9223372036854775807) (htab : Tab w) :
  Calls Tryz.prog 47 #[.slice Aa na ca, .string b] w (RetMT w (scM (tx2 a) (SL b))) := by
 by_cases h : cJ [cS (tx2 a), dG (SL b)] = 0
 ·obtain ⟨h1, h2⟩ := vB h
  exact aOu a na Aa ca b w ha sa sb htab h1 h2
 ·exact aRt a na Aa ca b w ha sa sb htab h
end Go.Proofs.YtenbglfkdldheaaGreatDoor
