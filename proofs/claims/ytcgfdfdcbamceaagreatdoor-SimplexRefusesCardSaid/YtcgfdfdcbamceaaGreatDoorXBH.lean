/- Linear programs: the numbers of the tables are not too long. Plain facts. No program here. matrix.Dot, matrix.Apply. simplex.proved: the function feasible. -/
import Derived.Test.YtcgfdfdcbamceaaGreatDoorXBF
import Derived.Test.YtcgfdfdcbamceaaGreatDoorXAD
import Derived.Test.YtcgfdfdcbamceaaGreatDoorXBD
namespace Go.Proofs.YtcgfdfdcbamceaaGreatDoor
theorem fitR_oneZ : FitR 1 1 := ⟨by unfold Fits; decide, by unfold Fits; decide⟩
theorem fitR_subZ {N M : Nat} {x y : Rat} (hx : FitR N x) (hy : FitR M y) : FitR (N + M + 1) (x - y) := by
 rw [Rat.sub_eq_add_neg]
 exact fitR_add hx (fitR_ngZ hy)
theorem fitR_mulZ {N M : Nat} {x y : Rat} (hx : FitR N x) (hy : FitR M y) : FitR (N + M + (N + M)) (x * y) := fitR_mul (hx.mono (by omega)) (hy.mono (by omega))
theorem fit_aim {t : TabQ} {m W N M : Nat} (h : RowsB t m W) {g : List Rat} (hg : g.length = W + 1) (fg : ∀ k, FitR N (g.getD k 0)) (fr : ∀ i k, i < m → FitR M (ent t.rows i k)) (hm : m ≤ 7) {i : Nat} (k : Nat) (hi : i ≤ m) :
  FitR (N + (7 * (N + M + (N + M) + 1) + 1) + 1) ((aimN t g i).getD k 0) := by
 rw [aimN_at h hg i hi k]
 refine fitR_subZ (fg k) (FitR.mono (fitR_sum i fun j hj => fitR_mulZ (fg _) (fr j k (by omega))) ?_)
 have := Nat.mul_le_mul_right (N + M + (N + M) + 1) (show i ≤ 7 by omega)
 omega
section
variable {a : List (List Rat)} {b c : List Rat} {m n N : Nat}
theorem fit_T0 (hN : 1 ≤ N) {W x : Nat} {g : Nat → Rat} (ga : ∀ i k, FitR N (ent a i k)) (gb : ∀ i, FitR N (b.getD i 0)) {i : Nat} (hi : i < m) (k : Nat) : FitR N (T0F m n W x (ent a) (fun i => b.getD i 0) g i k) := by
 have h1 : FitR N 1 := fitR_oneZ.mono hN
 have h0 : FitR N 0 := fitR_zero.mono hN
 rw [T0F, if_pos hi]
 split
 ·exact ga i k
 ·split
  ·exact h1
  ·split
   ·exact gb i
   ·split
    ·exact fitR_ngZ h1
    ·exact h0
theorem fit_rows0 (h : ProbQ a b c m n) (hN : 1 ≤ N) (ga : ∀ i k, FitR N (ent a i k)) (gb : ∀ i, FitR N (b.getD i 0)) : ∀ i k, i < m → FitR N (ent (rows0Q a b) i k) := fun i k hi => by
 by_cases hk : k < n + m + 2
 ·rw [rows0_at h hi hk]
  exact fit_T0 hN ga gb hi k
 ·have hl := h.len
  have hx : a[i]? = some (a[i]'(by omega)) := List.getElem?_eq_getElem (by omega)
  have hr := h.row _ (List.getElem_mem (show i < a.length by omega))
  have e : (rows0Q a b).getD i [] = startRow (a[i]'(by omega)) a.length i (b.getD i 0) := by
   rw [rows0Q, List.getD_eq_getElem?_getD, List.getElem?_mapIdx, hx]
   rfl
  rw [ent, e, getD_ge _ _ _ (by rw [startRow_len]; omega)]
  exact fitR_zero.mono hN
theorem fit_negPad {l : List Rat} (hN : 1 ≤ N) (h : ∀ k, FitR N (l.getD k 0)) (V k : Nat) : FitR N ((negPad l V).getD k 0) := by
 by_cases hk : k < V
 ·rw [negPad_at _ hk]
  exact fitR_ngZ (h k)
 ·rw [getD_ge _ _ _ (by rw [negPad_len]; omega)]
  exact fitR_zero.mono hN
theorem fit_goal2 (h : ∀ k, FitR N (c.getD k 0)) (hN : 1 ≤ N) (m k : Nat) : FitR N ((goal2 c m).getD k 0) := by
 rw [goal2, List.getD_eq_getElem?_getD, List.getElem?_append]
 split
 ·rw [← List.getD_eq_getElem?_getD]
  exact h k
 ·rw [← List.getD_eq_getElem?_getD, getD_rep]
  exact fitR_zero.mono hN
end
end Go.Proofs.YtcgfdfdcbamceaaGreatDoor
namespace Go.Proofs.YtcgfdfdcbamceaaGreatDoor
open Go.RowKit
def allD (p : Nat → Bool) (n k : Nat) : Bool := ((List.range n).drop k).all p
theorem allD_zero (p : Nat → Bool) (n : Nat) : allD p n 0 = (List.range n).all p := rfl
theorem allD_step {p : Nat → Bool} {n k : Nat} (hk : k < n) : allD p n k = (p k && allD p n (k + 1)) := by
 unfold allD
 rw [List.drop_eq_getElem_cons (by rw [List.length_range]; exact hk), List.all_cons, List.getElem_range]
theorem allD_end (p : Nat → Bool) (n : Nat) : allD p n n = true := by
 unfold allD
 rw [List.drop_of_length_le (by rw [List.length_range]; exact Nat.le_refl _)]
 rfl
theorem cmpQ_gtZ {x y : Rat} : decide (0 < cmpQ x y) = decide (y < x) := by
 rcases cmpQ_cases x y with h | h | h
 ·rw [h]
  have := (cmpQ_lt _ _).1 h
  exact (decide_eq_false (by decide)).trans (decide_eq_false fun k => absurd this (Rat.not_lt.2 (Rat.le_of_lt k))).symm
 ·rw [h]
  have := (cmpQ_eq _ _).1 h
  exact (decide_eq_false (by decide)).trans (decide_eq_false fun k => by rw [this] at k; exact absurd k (Rat.not_lt.2 Rat.le_refl)).symm
 ·rw [h]
  exact (decide_eq_true (by decide)).trans (decide_eq_true ((cmpQ_gt _ _).1 h)).symm
theorem cmpQ_ltZ {x y : Rat} : decide (cmpQ x y < 0) = decide (x < y) := by
 rcases cmpQ_cases x y with h | h | h
 ·rw [h]
  exact (decide_eq_true (by decide)).trans (decide_eq_true ((cmpQ_lt _ _).1 h)).symm
 ·rw [h]
  have := (cmpQ_eq _ _).1 h
  exact (decide_eq_false (by decide)).trans (decide_eq_false fun k => by rw [this] at k; exact absurd k (Rat.not_lt.2 Rat.le_refl)).symm
 ·rw [h]
  have := (cmpQ_gt _ _).1 h
  exact (decide_eq_false (by decide)).trans (decide_eq_false fun k => absurd this (Rat.not_lt.2 (Rat.le_of_lt k))).symm
theorem cmpQ_eqZ {x y : Rat} : (cmpQ x y == 0) = decide (x = y) := by
 by_cases h : x = y
 ·rw [decide_eq_true h, (cmpQ_eq _ _).2 h]
  rfl
 ·rw [decide_eq_false h]
  exact beq_eq_false_iff_ne.2 fun k => h ((cmpQ_eq _ _).1 k)
def feasP (a : MQ) (b x : List Rat) (i : Nat) : Bool := !decide (b.getD i 0 < dotQ (a.getD i []) x)
def feasQ (a : MQ) (b x : List Rat) : Bool := (List.range a.length).all (feasP a b x)
theorem dot_fitZ {n : Nat} {r x : List Rat} (hl : r.length ≤ n) (hn : n ≤ 40) (hr : ∀ i, FitR 1000 (r.getD i 0)) (hx : ∀ i, FitR 1000 (x.getD i 0)) : DotFit 200000 r x :=
 dotFit_gen (N := 1000) (K := 40) (by omega) (Nat.le_of_ble_eq_true rfl) (Nat.le_of_ble_eq_true rfl) (fun i _ => hr i) (fun i _ => hx i)
set_option maxRecDepth 100000 in
set_option maxHeartbeats 20000000 in
theorem feas_any (ga gx gb m ca nx cx cb n : Nat) (A Ax Ab : Option Addr) (a : MQ) (x b : List Rat) (w : World) (h1 : w.cell? ⟨ga, 0, none⟩ = some (.slice A m ca)) (h2 : w.cell? ⟨gx, 0, none⟩ = some (.slice Ax nx cx)) (h3 : w.cell? ⟨gb, 0, none⟩ = some (.slice Ab m cb))
  (hm : RM w A m a) (hr : ∀ r ∈ a, r.length = n) (hx : RV w Ax nx x) (hb : RV w Ab m b) (hn : n ≤ nx) (hn9 : n ≤ 40) (hm9 : m ≤ 40) (fa : ∀ i k, FitR 1000 (ent a i k)) (fx : ∀ i, FitR 1000 (x.getD i 0)) (fb : ∀ i, FitR 1000 (b.getD i 0)) :
  Calls Tryz.prog 72 #[.pointer (some ⟨ga, 0, none⟩), .pointer (some ⟨gx, 0, none⟩), .pointer (some ⟨gb, 0, none⟩)] w fun e w' => e = .returned (.bool (feasQ a b x)) ∧ Below w.heap.size w w' := by
 have hal := hm.len
 have hbl := hb.len
 have HAL := Lib.hid hal
 have HBL := Lib.hid hbl
 have HM := Lib.hid hm
 have HRL := Lib.hid hr
 have HXV := Lib.hid hx
 have HBV := Lib.hid hb
 have HFA := Lib.hid fa
 have HFX := Lib.hid fx
 have HFB := Lib.hid fb
 have H2 := Lib.hid h2
 have H3 := Lib.hid h3
 have HB := Lib.hid (Below.refl w.heap.size w)
 have HQ := Lib.hid (show feasQ a b x = allD (feasP a b x) m 0 by rw [allD_zero, feasQ, hal])
 clear hm hr hx hb fa fx fb h2 h3 hal hbl
 generalize feasQ a b x = R at *
 go_enter Tryz.func72, Tryz.ntmps72
 go_wp2
 go_loopg [8] (m - 0) (fun mm iv wr => ∃ i : Nat, mm = m - i ∧ iv = I i ∧ i ≤ m ∧ Hid (R = allD (feasP a b x) m i) ∧ Hid (Below w.heap.size w wr))
 case atStart => exact ⟨0, rfl, rfl, by omega, HQ, HB⟩
 case round =>
  clear HQ HB
  obtain ⟨i, rfl, rfl, hi, HQ, HB⟩ := hrel
  obtain ⟨wa, rfl⟩ : ∃ wa : World, wa = wr := ⟨_, rfl⟩
  by_cases hil : i < m
  ·obtain ⟨r, hr⟩ : ∃ r, a[i]? = some r := ⟨_, List.getElem?_eq_getElem (by rw [HAL.out]; exact hil)⟩
   have hge : a.getD i [] = r := by rw [List.getD_eq_getElem?_getD, hr]; rfl
   have HQS := Lib.hid (show R = (!decide (b.getD i 0 < dotQ r x) && allD (feasP a b x) m (i + 1)) by rw [HQ.out, allD_step hil, feasP, hge])
   have hrl : r.length = n := HRL.out r (List.mem_of_getElem? hr)
   have HDF := Lib.hid (dot_fitZ (r := r) (x := x) (Nat.le_of_eq hrl) hn9 (fun k => by have h := HFA.out i k; rw [ent, hge] at h; exact h) HFX.out)
   have HFD := Lib.hid (show FitR 200000 (dotQ r x) from HDF.out.sum r.length (Nat.le_refl _))
   obtain ⟨ba, oa, B, d, rfl, _, hc, hrx⟩ := (HM.out.below HB.out).at_ hil r hr
   rw [hrl] at hc hrx
   have HRW := Lib.hid hrx
   obtain ⟨bq, oq, nb, X1, x1, y1, X2, x2, y2, hAb, hbl, hC, hrt⟩ := (HBV.out.below HB.out).form hil (b.getD i 0) (by rw [List.getD_eq_getElem?_getD, List.getElem?_eq_getElem (by rw [HBL.out]; exact hil)]; rfl)
   subst hAb
   have CE := Lib.hid hC
   have RX := Lib.hid hrt
   have GX := Lib.hid (cell_below H2.out HB.out)
   have GB := Lib.hid (cell_below H3.out HB.out)
   have HXW := Lib.hid (HXV.out.below HB.out)
   have HFq := Lib.hid ((HFB.out i).mono (show 1000 ≤ 200000 from Nat.le_of_ble_eq_true rfl))
   clear HQ hge hr hrl hrx hC hrt hbl
   go_upto_region 4 with (fail)
   clear hc
   have hd := below_draw wa
   replace HB := Lib.hid (HB.out.trans (hd.mono HB.out.size))
   replace GX := Lib.hid (cell_below GX.out hd)
   replace GB := Lib.hid (cell_below GB.out hd)
   replace CE := Lib.hid (CE.out.below hd)
   replace RX := Lib.hid (RX.out.ext hd)
   replace HRW := Lib.hid (HRW.out.below hd)
   replace HXW := Lib.hid (HXW.out.below hd)
   clear hd
   refine wp_region_c (fun w' => w'.cell? ⟨gx, 0, none⟩ = some (.slice Ax nx cx) ∧ w'.cell? ⟨gb, 0, none⟩ = some (.slice (some ⟨bq, oq, none⟩) m cb) ∧ w'.cell? ⟨bq, oq + i * 4, none⟩ = some (.bool nb) ∧ w'.cell? ⟨bq, oq + i * 4 + 1, none⟩ = some (.slice X1 x1 y1) ∧ w'.cell? ⟨bq, oq + i * 4 + 2, none⟩ = some (.bool false) ∧ w'.cell? ⟨bq, oq + i * 4 + 3, none⟩ = some (.slice X2 x2 y2)) 8 (by kernel_rfl) ?_
   generalize wa.drew = wb at *
   refine tkS ⟨GX.out, GB.out, CE.out.c0, CE.out.c1, CE.out.c2, CE.out.c3⟩ fun hSS => ?_
   refine tq 0 (.slice B n d) rfl ?_ hSS ?_
   ·rintro w ⟨s0, s1, s2, s3, s4, s5⟩
    go_simp
   try simp only [Act.put, putA]
   refine tq 1 (.slice Ax nx cx) rfl ?_ hSS ?_
   ·rintro w ⟨s0, s1, s2, s3, s4, s5⟩
    go_simp
   try simp only [Act.put]
   refine tq 3 (.slice (some ⟨bq, oq, none⟩) m cb) rfl ?_ hSS ?_
   ·rintro w ⟨s0, s1, s2, s3, s4, s5⟩
    go_simp
   try simp only [Act.put]
   refine tq 4 (I i) rfl ?_ hSS ?_
   ·rintro w ⟨s0, s1, s2, s3, s4, s5⟩
    go_simp
   try simp only [Act.put]
   refine tq 5 (.pointer (some ⟨bq, oq + i * 4, none⟩)) rfl ?_ hSS ?_
   ·rintro w ⟨s0, s1, s2, s3, s4, s5⟩
    go_simp
   try simp only [Act.put]
   refine tq 6 (.agg #[.bool nb, .slice X1 x1 y1, .bool false, .slice X2 x2 y2]) rfl ?_ hSS ?_
   ·rintro w ⟨s0, s1, s2, s3, s4, s5⟩
    go_simp
   try simp only [Act.put]
   refine on1 2 fun K hK => ?_
   go_simp
   go_at_call 44
   refine (dot_any r x n B Ax d nx cx _ HRW.out HXW.out hn (by omega) (N := 200000) (Nat.le_of_ble_eq_true rfl) HDF.out).mono ?_
   rintro e wc ⟨vd, rfl, hv, hb⟩
   have HVD := Lib.hid hv
   clear hv
   replace HB := Lib.hid (HB.out.trans (hb.mono HB.out.size))
   replace GX := Lib.hid (cell_below GX.out hb)
   replace GB := Lib.hid (cell_below GB.out hb)
   replace CE := Lib.hid (CE.out.below hb)
   replace RX := Lib.hid (RX.out.ext hb)
   replace HRW := Lib.hid (HRW.out.below hb)
   replace HXW := Lib.hid (HXW.out.below hb)
   clear hb
   refine hK.out _ _ (fun _ => ⟨GX.out, GB.out, CE.out.c0, CE.out.c1, CE.out.c2, CE.out.c3⟩) ?_
   clear hK K
   try simp only [Act.put, putA, putZ, putC]
   refine on1 7 fun K hK => ?_
   go_simp
   go_at_call 49
   refine (rcmp_any _ _ (dotQ r x) (b.getD i 0) _ HVD.out RX.out (N := 200000) (Nat.le_of_ble_eq_true rfl) HFD.out HFq.out).mono ?_
   rintro e wd ⟨rfl, hb⟩
   replace HB := Lib.hid (HB.out.trans (hb.mono HB.out.size))
   replace GX := Lib.hid (cell_below GX.out hb)
   replace GB := Lib.hid (cell_below GB.out hb)
   replace CE := Lib.hid (CE.out.below hb)
   replace RX := Lib.hid (RX.out.ext hb)
   replace HRW := Lib.hid (HRW.out.below hb)
   replace HXW := Lib.hid (HXW.out.below hb)
   replace HVD := Lib.hid (HVD.out.ext hb)
   clear hb
   refine hK.out _ _ (fun _ => ⟨GX.out, GB.out, CE.out.c0, CE.out.c1, CE.out.c2, CE.out.c3⟩) ?_
   clear hK K
   try simp only [Act.put, putA, putZ, putC]
   rw [show ((dotQ r x).num * ((b.getD i 0).den : Int) - (b.getD i 0).num * ((dotQ r x).den : Int)).sign = cmpQ (dotQ r x) (b.getD i 0) from rfl]
   have HCM := Lib.hid (cmpQ_gtZ (x := dotQ r x) (y := b.getD i 0))
   generalize cmpQ (dotQ r x) (b.getD i 0) = cq at *
   refine on1 8 fun K hK => ?_
   go_simp
   refine hK.out _ _ (fun h => absurd h (by decide)) ?_
   clear hK K
   try simp only [Act.put, putA, putZ, putC]
   refine wpAnyC_done (by kernel_rfl) ?_ _
   rw [HCM.out]
   clear HCM
   clear HVD RX HRW HXW CE GX GB HDF HFD HFq
   by_cases hlt : b.getD i 0 < dotQ r x
   ·rw [decide_eq_true hlt] at HQS ⊢
    obtain rfl : R = false := HQS.out
    clear hlt HQS
    go_wp2
    go_ret
    exact ⟨rfl, HB.out⟩
   ·rw [decide_eq_false hlt] at HQS ⊢
    clear hlt
    have HQN := Lib.hid (show R = allD (feasP a b x) m (i + 1) from HQS.out)
    clear HQS
    go_wp2
    go_roundg (m - (i + 1))
    case measure => omega
    case rel => exact ⟨i + 1, rfl, by go_num, by omega, HQN, HB⟩
  ·obtain rfl : i = m := by omega
   obtain rfl : R = true := by rw [HQ.out, allD_end]
   clear HQ
   go_wp2
   go_ret
   exact ⟨rfl, HB.out⟩
end Go.Proofs.YtcgfdfdcbamceaaGreatDoor
