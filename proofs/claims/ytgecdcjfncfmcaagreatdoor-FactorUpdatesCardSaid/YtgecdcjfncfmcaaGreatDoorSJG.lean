/- A factor in memory; Side, Matrix, Det, check, Solve, New. Factor.Update. factorFact. -/
import Derived.Test.YtgecdcjfncfmcaaGreatDoorSJF
import Derived.Test.YtgecdcjfncfmcaaGreatDoorJY
namespace Go.Proofs.YtgecdcjfncfmcaaGreatDoor
open Go.RowKit

abbrev facT : TypeId := 142
/-- a cell of a block of another type is written: the matrix stays -/
theorem LM.setT {w : World} {base g o : Nat} {t : TypeId} {cs : Array Value} {v : Value} {vs : List Value} {m : MQ} (h : LM w base v vs m) (hB : Blk w g t cs) (h1 : rowT ≠ t) (h2 : ratT ≠ t) {old : Value} (hc : w.cell? ⟨g, o, none⟩ = some old) (hk : noWord old) (u : Value) : LM (w.setCell ⟨g, o, none⟩ u) base v vs m := by
 have k := kw_set hc hk u
 refine ⟨h.outer.keepO fun b hb => Below.heap_setCell w _ u b (own_ne h.outer hB h1 b hb), fun i x qs a b => ?_, h.apart⟩
 have hr := h.inner i x qs a b
 obtain ⟨⟨ys, hrow, _⟩, _⟩ := id hr
 exact hr.keep k fun b hb => Below.heap_setCell w _ u b (own_ne hrow hB h2 b hb)
/-- a factor in block g: its matrix, the inverse, the determinant -/
structure FS (w : World) (base g n : Nat) (M V : MQ) (d : Rat) : Prop where
 ge : base ≤ g
 ex : ∃ A c B k nb C1 l1 k1 C2 l2 k2 vs us, Blk w g facT #[.slice A n c, .slice B n k, .bool nb, .slice C1 l1 k1, .bool false, .slice C2 l2 k2] ∧ LM w base (.slice A n c) vs M ∧ LM w base (.slice B n k) us V ∧ Rt w (.agg #[.bool nb, .slice C1 l1 k1, .bool false, .slice C2 l2 k2]) d
theorem FS.call {w w' : World} {base g n : Nat} {M V : MQ} {d : Rat} (h : FS w base g n M V d) (hb : Below w.heap.size w w') : FS w' base g n M V d := by
 obtain ⟨A, c, B, k, nb, C1, l1, k1, C2, l2, k2, vs, us, h1, h2, h3, h4⟩ := h.ex
 exact ⟨h.ge, A, c, B, k, nb, C1, l1, k1, C2, l2, k2, vs, us, h1.below hb h1.lt, h2.call hb, h3.call hb, h4.ext hb⟩
theorem FS.below {w w' : World} {base g n : Nat} {M V : MQ} {d : Rat} (h : FS w base g n M V d) (hb : Below w.heap.size w w') : FS w' base g n M V d := h.call hb
theorem FS.lt {w : World} {base g n : Nat} {M V : MQ} {d : Rat} (h : FS w base g n M V d) : g < w.heap.size := by
 obtain ⟨A, c, B, k, nb, C1, l1, k1, C2, l2, k2, vs, us, h1, _⟩ := h.ex
 exact h1.lt
theorem FS.less {w : World} {base base' g n : Nat} {M V : MQ} {d : Rat} (h : FS w base g n M V d) (hb : base' ≤ base) : FS w base' g n M V d := by
 obtain ⟨A, c, B, k, nb, C1, l1, k1, C2, l2, k2, vs, us, h1, h2, h3, h4⟩ := h.ex
 exact ⟨Nat.le_trans hb h.ge, A, c, B, k, nb, C1, l1, k1, C2, l2, k2, vs, us, h1, h2.less hb, h3.less hb, h4⟩
/-- the determinant's cells are written -/
theorem put4_keep {w : World} {base g o : Nat} {t : TypeId} {cs : Array Value} {v : Value} {vs : List Value} {m : MQ} (h : LM w base v vs m) (hB : Blk w g t cs) (h1 : rowT ≠ t) (h2 : ratT ≠ t) {u0 u1 u2 u3 : Value} (k : Kw w (put4 w g o u0 u1 u2 u3)) : LM (put4 w g o u0 u1 u2 u3) base v vs m := by
 refine ⟨h.outer.keepO fun b hb => put4_other w _ _ _ _ _ (own_ne h.outer hB h1 b hb), fun i x qs a b => ?_, h.apart⟩
 have hr := h.inner i x qs a b
 obtain ⟨⟨ys, hrow, _⟩, _⟩ := id hr
 exact hr.keep k fun b hb => put4_other w _ _ _ _ _ (own_ne hrow hB h2 b hb)
theorem fac_noWord {A B C D : Option Addr} {n c k l a b e f : Nat} {p q : Bool} : ∀ u ∈ (#[Value.slice A n c, .slice B k l, .bool p, .slice C a b, .bool q, .slice D e f] : Array Value).toList, noWord u := by
 intro u hu
 simp only [List.mem_cons, List.not_mem_nil, or_false] at hu
 rcases hu with rfl | rfl | rfl | rfl | rfl | rfl
 ·exact noWord_slice _ _ _
 ·exact noWord_slice _ _ _
 ·exact noWord_bool _
 ·exact noWord_slice _ _ _
 ·exact noWord_bool _
 ·exact noWord_slice _ _ _
theorem Blk.det4 {w : World} {g : Nat} {s0 s1 x0 x1 x2 x3 : Value} (hB : Blk w g facT #[s0, s1, x0, x1, x2, x3]) (u0 u1 u2 u3 : Value) : Blk (put4 w g 2 u0 u1 u2 u3) g facT #[s0, s1, u0, u1, u2, u3] :=
 (((hB.set_ 2 u0).set_ 3 u1).set_ 4 u2).set_ 5 u3
/-- the cells of a factor -/
theorem FS.cells {w : World} {base g n : Nat} {M V : MQ} {d : Rat} (h : FS w base g n M V d) : ∃ A c B k nb C1 l1 k1 C2 l2 k2, w.cell? ⟨g, 0, none⟩ = some (.slice A n c) ∧ w.cell? ⟨g, 1, none⟩ = some (.slice B n k) ∧ El w g 2 (.bool nb) (.slice C1 l1 k1) (.bool false) (.slice C2 l2 k2) ∧
  RM w A n M ∧ RM w B n V ∧ Rt w (.agg #[.bool nb, .slice C1 l1 k1, .bool false, .slice C2 l2 k2]) d := by
 obtain ⟨A, c, B, k, nb, C1, l1, k1, C2, l2, k2, vs, us, h1, h2, h3, h4⟩ := h.ex
 exact ⟨A, c, B, k, nb, C1, l1, k1, C2, l2, k2, h1.cell 0, h1.cell 1, ⟨h1.cell 2, h1.cell 3, h1.cell 4, h1.cell 5, h1.frozen 2, h1.frozen 3, h1.frozen 4, h1.frozen 5⟩, h2.rm, h3.rm, h4⟩
theorem fit_fitR {q : Rat} (h : fitQ q = true) : FitR 210 q := by
 rw [fitQ, Bool.and_eq_true] at h
 refine ⟨?_, fits_fitM h.2⟩
 have h1 := fits_fitM h.1
 unfold Fits at h1 ⊢
 rw [Int.natAbs_natCast] at h1
 exact h1
theorem fit_all {M : MQ} (h : M.all (fun r => r.all fitQ) = true) : Fit2 M := fun r hr q hq => by
 rw [List.all_eq_true] at h
 have h1 := h r hr
 rw [List.all_eq_true] at h1
 exact fit_fitR (h1 q hq)
set_option maxRecDepth 100000 in
set_option maxHeartbeats 4000000 in
theorem fside_any (g n : Nat) (M V : MQ) (d : Rat) (base : Nat) (w : World) (h : FS w base g n M V d) : Calls Tryz.prog 41 #[.pointer (some ⟨g, 0, none⟩)] w fun e w' => e = .returned (I n) ∧ w' = w := by
 obtain ⟨A, c, B, k, nb, C1, l1, k1, C2, l2, k2, h0, h1, hE, hM, hV, hd⟩ := h.cells
 clear h h1 hE hM hV hd
 go_enter Tryz.func41, Tryz.ntmps41
 go_wp2
 go_ret
 exact ⟨rfl, rfl⟩
set_option maxRecDepth 100000 in
set_option maxHeartbeats 4000000 in
theorem fmatrix_any (g n : Nat) (M V : MQ) (d : Rat) (base : Nat) (w : World) (h : FS w base g n M V d) (hR : Rect M n n) (hn : n ≤ 1000) (htab : Tab w) : Calls Tryz.prog 35 #[.pointer (some ⟨g, 0, none⟩)] w (RetMT w (txM M)) := by
 obtain ⟨A, c, B, k, nb, C1, l1, k1, C2, l2, k2, h0, h1, hE, hM, hV, hd⟩ := h.cells
 have HT := Lib.hid (textM_any M n A c w hM (by omega) (fun r hr => by rw [hR.2 r hr]; omega) htab)
 clear h h1 hE hM hV hd htab
 go_enter Tryz.func35, Tryz.ntmps35
 go_wp2_with fail
 refine HT.out.mono ?_
 rintro e w4 hret
 have HQ := Lib.hid hret
 obtain ⟨A9, n9, c9, m9, rfl, -⟩ := hret
 clear HT
 go_wp2
 go_ret2
 exact HQ.out
set_option maxRecDepth 100000 in
set_option maxHeartbeats 4000000 in
theorem fdet_any (g n : Nat) (M V : MQ) (d : Rat) (base : Nat) (w : World) (h : FS w base g n M V d) (hf : fitQ d = true) (htab : Tab w) : Calls Tryz.prog 32 #[.pointer (some ⟨g, 0, none⟩)] w (RetTx w (qText d, 0)) := by
 obtain ⟨A, c, B, k, nb, C1, l1, k1, C2, l2, k2, h0, h1, hE, hM, hV, hd⟩ := h.cells
 have HT := Lib.hid (rtext_any _ d w hd htab)
 have z0 := hE.c0
 have z1 := hE.c1
 have z2 := hE.c2
 have z3 := hE.c3
 clear h h0 h1 hE hM hV hd htab
 go_enter Tryz.func32, Tryz.ntmps32
 go_wp2_with fail
 refine HT.out.mono ?_
 rintro e w4 ⟨s, rfl, hs, hb⟩
 have HQ := Lib.hid (show RetTx w (qText d, 0) (.returned (.tuple #[.string s, I 0])) w4 from ⟨by rw [hs hf], hb⟩)
 clear HT hs hb
 rw [hf]
 go_wp2
 go_ret2
 exact HQ.out
set_option maxRecDepth 100000 in
set_option maxHeartbeats 4000000 in
theorem fcheck_any (g n : Nat) (M V : MQ) (d : Rat) (base : Nat) (w : World) (h : FS w base g n M V d) (b : List ByteArray) (nb2 : Nat) (Ab : Option Addr) (cb : Nat) (hv : SV w Ab nb2 b) (hsb : Sh1 b) (htab : Tab w) : Calls Tryz.prog 84 #[.pointer (some ⟨g, 0, none⟩), .slice Ab nb2 cb] w fun e w' => e = .returned (I (fchk n (tx1 b))) ∧ Below w.heap.size w w' := by
 obtain ⟨A, c, B, k, nb, C1, l1, k1, C2, l2, k2, h0, h1, hE, hM, hV, hd⟩ := h.cells
 have HC := Lib.hid (chkV_any b nb2 Ab cb w hv hsb htab)
 have LB := Lib.hid (show (tx1 b).length = nb2 by rw [tx1, List.length_map]; exact hv.len)
 have H0 := Lib.hid h0
 clear h h0 h1 hE hM hV hd htab hv hsb
 by_cases e : chkV (tx1 b) = 0
 ·by_cases e2 : nb2 = n
  ·have HE := Lib.hid (show fchk n (tx1 b) = 0 by rw [fchk, if_neg (fun k => k e), if_neg (by rw [LB.out]; exact fun k => k e2)])
   subst e2
   have tn : ((nb2 : Int) != nb2) = false := by rw [bne_self_eq_false]
   rw [e] at HC
   clear e
   go_enter Tryz.func84, Tryz.ntmps84
   go_wp2_with fail
   refine HC.out.mono ?_
   rintro e w1 ⟨rfl, hb⟩
   have hc0 := cell_below H0.out hb
   have HB := Lib.hid hb
   clear HC hb H0
   go_wp2
   go_ret
   rw [HE.out]
   exact ⟨rfl, HB.out⟩
  ·have HE := Lib.hid (show fchk n (tx1 b) = 3 by rw [fchk, if_neg (fun k => k e), if_pos (by rw [LB.out]; exact e2)])
   have tn : ((nb2 : Int) != (n : Int)) = true := bne_iff_ne.2 (by omega)
   rw [e] at HC
   clear e
   go_enter Tryz.func84, Tryz.ntmps84
   go_wp2_with fail
   refine HC.out.mono ?_
   rintro e w1 ⟨rfl, hb⟩
   have hc0 := cell_below H0.out hb
   have HB := Lib.hid hb
   clear HC hb H0
   go_wp2
   go_ret
   rw [HE.out]
   exact ⟨rfl, HB.out⟩
 ·have HE := Lib.hid (show fchk n (tx1 b) = chkV (tx1 b) by rw [fchk, if_pos e])
  have tc : (chkV (tx1 b) != 0) = true := bne_iff_ne.2 e
  clear e
  generalize chkV (tx1 b) = cc at *
  go_enter Tryz.func84, Tryz.ntmps84
  go_wp2_with fail
  refine HC.out.mono ?_
  rintro e w1 ⟨rfl, hb⟩
  have HB := Lib.hid hb
  clear HC hb H0
  go_wp2
  go_ret
  rw [HE.out]
  exact ⟨rfl, HB.out⟩
set_option maxRecDepth 100000 in
set_option maxHeartbeats 4000000 in
theorem fsolve_any (g n : Nat) (M V : MQ) (d : Rat) (base : Nat) (w : World) (h : FS w base g n M V d) (b : List ByteArray) (nb2 : Nat) (Ab : Option Addr) (cb : Nat) (hv : SV w Ab nb2 b) (hsb : Sh1 b) (hVr : Rect V n n) (hVf : Fit2 V) (hn : n ≤ 40) (htab : Tab w) : Calls Tryz.prog 39 #[.pointer (some ⟨g, 0, none⟩), .slice Ab nb2 cb] w (RetVT w (fsolT V n (tx1 b))) := by
 have HC := Lib.hid (fcheck_any g n M V d base w h b nb2 Ab cb hv hsb htab)
 have HF := Lib.hid h
 have HTB := Lib.hid htab
 have HBV := Lib.hid hv
 have HSB := Lib.hid hsb
 have HVR := Lib.hid hVr
 have HVF := Lib.hid hVf
 have LB := Lib.hid (show (tx1 b).length = nb2 by rw [tx1, List.length_map]; exact hv.len)
 clear h htab hv hsb hVr hVf
 by_cases e : fchk n (tx1 b) = 0
 ·have hc1 : chkV (tx1 b) = 0 := by
   rw [fchk] at e
   split at e
   ·rename_i h; exact absurd e h
   ·rename_i h; exact Decidable.not_not.1 h
  have hnb : nb2 = n := by
   rw [fchk, if_neg (fun k => k hc1)] at e
   split at e
   ·cases e
   ·rename_i h; rw [LB.out] at h; omega
  subst hnb
  have HE := Lib.hid (show fsolT V nb2 (tx1 b) = txV (fsolQ V (valsV (tx1 b))) by rw [fsolT, if_neg (fun k => k e)])
  have HV1 := Lib.hid (val1_of hc1)
  have HOK := Lib.hid (fit1_of hc1)
  rw [e] at HC
  clear e hc1
  go_enter Tryz.func39, Tryz.ntmps39
  go_wp2_with fail
  refine HC.out.mono ?_
  rintro e w1 ⟨rfl, hb⟩
  have HB := Lib.hid hb
  clear HC hb
  have HP := Lib.hid (parseAll_any b nb2 Ab cb w1 (HBV.out.below HB.out) HSB.out HV1.out (by omega))
  go_wp2_with fail
  refine HP.out.mono ?_
  rintro e w2 ⟨v, rfl, hr, hb⟩
  replace HB := Lib.hid (HB.out.trans (hb.mono HB.out.size))
  obtain ⟨A1, c1, rfl⟩ := hr.val
  have hvl : (valsV (tx1 b)).length = nb2 := by rw [valsV, List.length_map, LB.out]
  rw [hvl] at hr ⊢
  have RV5 := Lib.hid hr.rv
  clear HP hb hr hvl
  obtain ⟨A, c, B, k, nb, C1, l1, k1, C2, l2, k2, h0, h1, hE, hM, hV, hd⟩ := (HF.out.call HB.out).cells
  have RM5 := Lib.hid hV
  clear h0 hE hM hV hd
  generalize hye : valsV (tx1 b) = y at *
  clear hye
  have HB2 := Lib.hid (Below.refl w2.heap.size w2)
  have HR0 := Lib.hid (RRow.nil w2 w2.heap.size)
  go_wp2
  clear h1
  go_loopg [8, 24] (nb2 - 0) (fun r o v wr => ∃ i : Nat, r = nb2 - i ∧ v = I i ∧ i ≤ nb2 ∧ Hid (RRow wr w2.heap.size o ((V.map fun r => dotQ r y).take i)) ∧ Hid (Below w2.heap.size w2 wr))
  case atStart => exact ⟨0, rfl, rfl, by omega, HR0, HB2⟩
  case round =>
   clear HR0 HB2
   obtain ⟨i, rfl, rfl, hi, HP, HB2⟩ := hrel
   obtain ⟨wa, rfl⟩ : ∃ wa : World, wa = wr := ⟨_, rfl⟩
   by_cases hlt : i < nb2
   ·obtain ⟨q, hq⟩ : ∃ q, V[i]? = some q := ⟨_, List.getElem?_eq_getElem (by rw [HVR.out.1]; exact hlt)⟩
    obtain ⟨b1, o1, B1, c2, rfl, _, hc, hrq⟩ := (RM5.out.below HB2.out).at_ hlt q hq
    have hqm := List.mem_of_getElem? hq
    have hql : q.length = nb2 := HVR.out.2 q hqm
    have hqf : Fit1 q := HVF.out q hqm
    have HD := Lib.hid (dot_any q y q.length B1 A1 c2 nb2 c1 wa hrq (RV5.out.below HB2.out) (by omega) (by omega) (N := 17000) (by decide) (dotFit40 (by omega) hqf HOK.out))
    have HX := Lib.hid (show ((V.map fun r => dotQ r y).take (i + 1)) = ((V.map fun r => dotQ r y).take i) ++ [dotQ q y] by rw [List.take_add_one, List.getElem?_map, hq]; rfl)
    have HLL := Lib.hid (show ((V.map fun r => dotQ r y).take i).length ≤ 1000000 by rw [List.length_take]; omega)
    clear hq hrq hqm hqf
    rw [hql] at hc HD
    clear hql
    go_wp2_with fail
    refine HD.out.mono ?_
    rintro e w6 ⟨v3, rfl, hv3, hb⟩
    obtain ⟨tb, t1, t2, t3, t4, t5, t6, rfl⟩ := hv3.bools
    have hb3 := below_new w6 (.cells #[.bool tb, .slice t1 t2 t3, .bool false, .slice t4 t5 t6] ratT)
    have HB6 := Lib.hid ((HB2.out.trans (hb.mono HB2.out.size)).trans (hb3.mono (HB2.out.trans (hb.mono HB2.out.size)).size))
    have HR6 := Lib.hid ((HP.out.call hb).call hb3)
    have HV6 := Lib.hid (hv3.ext hb3)
    have HBK := Lib.hid (Blk.new w6 ratT #[.bool tb, .slice t1 t2 t3, .bool false, .slice t4 t5 t6])
    unfold ratT at *
    clear hb hb3 hv3 HD HP HB2 hc
    go_wp2_with (at_builtin; refine wpList_app1 rfl _ _ rfl w2.heap.size _ _ rfl HR6.out w6.heap.size rfl HBK.out HV6.out HLL.out HB6.out.size ?_)
    intro v7 w7 hap
    have HN := Lib.hid (show RRow w7 w2.heap.size v7 ((V.map fun r => dotQ r y).take (i + 1)) by rw [HX.out]; exact hap.row)
    have HB7 := Lib.hid (HB6.out.trans (hap.below HR6.out HB6.out.size))
    obtain ⟨A7, c7, rfl⟩ := hap.row.val
    generalize (((V.map fun r => dotQ r y).take i) ++ [dotQ q y]).length = l7 at *
    clear hap HR6 HB6 HBK HV6 HX HLL
    go_wp2
    go_roundg (nb2 - (i + 1))
    case measure => omega
    case rel => exact ⟨i + 1, rfl, by go_num, by omega, HN, HB7⟩
   ·have hin : i = nb2 := by omega
    subst hin
    have hr := HP.out
    rw [List.take_of_length_le (by rw [List.length_map, HVR.out.1]; exact Nat.le_refl _)] at hr
    obtain ⟨A7, c7, rfl⟩ := hr.val
    have hll : (V.map fun r => dotQ r y).length = i := by rw [List.length_map, HVR.out.1]
    have hrv := hr.rv
    rw [hll] at hrv ⊢
    replace HB := Lib.hid (HB.out.trans (HB2.out.mono HB.out.size))
    have HT := Lib.hid (textVec_any _ i A7 c7 wa hrv (by omega) (tab_below HTB.out HB.out))
    clear hr hrv hll HP HB2
    go_wp2_with fail
    refine HT.out.mono ?_
    rintro e w9 hret
    have HQ := Lib.hid (hret.vt HB.out)
    obtain ⟨v9, rfl, -⟩ := hret
    clear HT HB
    go_wp2
    go_ret2
    rw [HE.out]
    exact HQ.out
 ·have HE := Lib.hid (show fsolT V n (tx1 b) = ([], fchk n (tx1 b)) by rw [fsolT, if_pos e])
  have tc : (fchk n (tx1 b) != 0) = true := bne_iff_ne.2 e
  clear e
  generalize fchk n (tx1 b) = cc at *
  go_enter Tryz.func39, Tryz.ntmps39
  go_wp2_with fail
  refine HC.out.mono ?_
  rintro e w1 ⟨rfl, hb⟩
  have HB := Lib.hid hb
  clear HC hb
  go_wp2
  go_ret2
  exact RetVT.none_ HE.out HB.out
/-- what factor.New returns -/
def RetFac (w : World) (m : MT) (e : Ending) (w' : World) : Prop :=
 (newT m ≠ 0 → e = .returned (.tuple #[.pointer none, I (newT m)])) ∧ (newT m = 0 → ∃ g, e = .returned (.tuple #[.pointer (some ⟨g, 0, none⟩), I 0]) ∧ FS w' w.heap.size g m.length (valsM m) (invQ (valsM m) m.length) (detR (valsM m) m.length)) ∧ Below w.heap.size w w'
set_option maxRecDepth 100000 in
set_option maxHeartbeats 4000000 in
theorem fnew_any (m : List (List ByteArray)) (n : Nat) (A : Option Addr) (c : Nat) (w : World) (hm : SMat w A n m) (hs : Sh2 m) (htab : Tab w) (h5 : squareT (tx2 m) = 0 → n ≤ 5 ∧ ∀ r ∈ valsM (tx2 m), ∀ x ∈ r, FitR 14 x) : Calls Tryz.prog 31 #[.slice A n c] w (RetFac w (tx2 m)) := by
 have hl : m.length = n := by obtain ⟨_, _, h, _⟩ := hm; exact h
 have HC := Lib.hid (sinverse_any m n A c w hm hs htab)
 have HM := Lib.hid hm
 have HS := Lib.hid hs
 have HTB := Lib.hid htab
 have LT := Lib.hid (show (tx2 m).length = n by rw [tx2, List.length_map, hl])
 have HLN := Lib.hid hl
 clear hm htab hl hs
 by_cases h0 : (invT (tx2 m)).2 = 0
 ·have hsq : squareT (tx2 m) = 0 := Decidable.byContradiction fun k => k (by have e := h0; rw [(invT_bad k).1] at e; exact e)
  have HSQ := Lib.hid (square_ok hsq)
  have HO := Lib.hid (chkM_mok HLN.out HSQ.out.2.2)
  have HF := Lib.hid (h5 hsq)
  have HR := Lib.hid (show Rect (valsM (tx2 m)) n n by have h := HSQ.out.1.vals; rw [LT.out] at h; exact h)
  have HNF := Lib.hid (show ¬ (redQ (extI (valsM (tx2 m)) n) n).2.length < n from fun k => by have e := h0; rw [invT, if_neg (fun q => q hsq), LT.out, if_pos k] at e; cases e)
  have HE := Lib.hid (show newT (tx2 m) = (detT (tx2 m)).2 by rw [newT, if_neg (fun k => k h0)])
  go_enter Tryz.func31, Tryz.ntmps31
  go_wp2_with fail
  refine HC.out.mono ?_
  rintro e w1 ⟨Ai, ni, ci, mi, rfl, -, -, -, hb⟩
  have HB := Lib.hid hb
  rw [h0]
  have HD := Lib.hid (sdet_any m n A c w1 (HM.out.below hb) HS.out (tab_below HTB.out hb) h5)
  clear HC hb h0 h5
  go_wp2_with fail
  refine HD.out.mono ?_
  rintro e w2 ⟨rfl, hb⟩
  replace HB := Lib.hid (HB.out.trans (hb.mono HB.out.size))
  clear HD hb
  by_cases h1 : (detT (tx2 m)).2 = 0
  ·rw [h1] at HE ⊢
   have HV := Lib.hid (values_any m n A c w2 (HM.out.below HB.out) HS.out HO.out.val2 (by have := HO.out.n40; omega))
   clear h1
   generalize (detT (tx2 m)).1 = dd at *
   go_wp2_with fail
   refine HV.out.mono ?_
   rintro e w3 ⟨v, vs, rfl, hLM, hb⟩
   have hbs := HB.out.size
   replace HB := Lib.hid (HB.out.trans (hb.mono HB.out.size))
   obtain ⟨A1, c1, rfl⟩ := hLM.val
   rw [HR.out.1] at hLM ⊢
   have HL := Lib.hid (hLM.less hbs)
   clear HV hb hLM hbs
   have hz := below_new w3 (.cells #[.slice A1 n c1, .slice none 0 0, .bool false, .slice none 0 0, .bool false, .slice none 0 0] facT)
   have HBK := Lib.hid (Blk.new w3 facT #[.slice A1 n c1, .slice none 0 0, .bool false, .slice none 0 0, .bool false, .slice none 0 0])
   replace HL := Lib.hid (HL.out.call hz)
   have hbs := HB.out.size
   replace HB := Lib.hid (HB.out.trans (hz.mono HB.out.size))
   clear hz
   unfold facT at *
   have HG := Lib.hid (show w.heap.size ≤ w3.heap.size from hbs)
   clear hbs
   have HI := Lib.hid (linv_any (valsM (tx2 m)) n A1 c1 (w3.alloc (.cells #[.slice A1 n c1, .slice none 0 0, .bool false, .slice none 0 0, .bool false, .slice none 0 0] 142)) HL.out.rm HR.out (by have := HO.out.n40; omega) (bnd_extI HR.out HO.out.n40 HO.out.fit))
   go_wp2_with fail
   refine HI.out.mono ?_
   rintro e w4 ⟨v, us, rfl, hLM, hb⟩
   clear HI
   have hreg : invR (valsM (tx2 m)) n = (invQ (valsM (tx2 m)) n, true) := by rw [invR, if_neg HNF.out]
   rw [hreg] at hLM ⊢
   clear hreg
   obtain ⟨Av, cv, rfl⟩ := hLM.val
   have hrl := (rect_inv HR.out).1
   rw [hrl] at hLM ⊢
   clear hrl
   have hbs := HB.out.size
   replace HB := Lib.hid (HB.out.trans (hb.mono HB.out.size))
   replace HL := Lib.hid (HL.out.call hb)
   have HK1 := Lib.hid (HBK.out.below hb HBK.out.lt)
   have HLV := Lib.hid (hLM.less hbs)
   clear hb hLM HBK hbs
   generalize hge : w3.heap.size = g at *
   have k1 := HK1.out.cell 1
   have f1 := HK1.out.frozen 1
   change w4.cell? ⟨g, 1, none⟩ = some (.slice none 0 0) at k1
   have hkw := kw_set k1 (noWord_slice _ _ _) (.slice Av n cv)
   have HL2 := Lib.hid (HL.out.setT HK1.out (by decide) (by decide) k1 (noWord_slice _ _ _) (.slice Av n cv))
   have HV2 := Lib.hid (HLV.out.setT HK1.out (by decide) (by decide) k1 (noWord_slice _ _ _) (.slice Av n cv))
   have HK2 := Lib.hid (show Blk (w4.setCell ⟨g, 1, none⟩ (.slice Av n cv)) g facT #[.slice A1 n c1, .slice Av n cv, .bool false, .slice none 0 0, .bool false, .slice none 0 0] from HK1.out.set_ 1 (.slice Av n cv))
   have HB2 := Lib.hid (HB.out.setCell (p := ⟨g, 1, none⟩) HG.out (.slice Av n cv))
   have HD := Lib.hid (ldet_any (valsM (tx2 m)) n A1 c1 _ HL2.out.rm HR.out (by have := HO.out.n40; omega) (N := 44531) (D := 29400) (by omega) (by omega) (bndD5 HR.out HF.out.1 HF.out.2))
   have k0 := HK2.out.cell 0
   change (w4.setCell ⟨g, 1, none⟩ (.slice Av n cv)).cell? ⟨g, 0, none⟩ = some (.slice A1 n c1) at k0
   clear HL HLV HK1 HB hkw
   go_wp2_with fail
   refine HD.out.mono ?_
   rintro e w6 ⟨v, rfl, hv, hb⟩
   clear HD k0 k1 f1
   obtain ⟨tb, T1, t1, u1, T2, t2, u2, rfl⟩ := hv.bools
   replace HL2 := Lib.hid (HL2.out.call hb)
   replace HV2 := Lib.hid (HV2.out.call hb)
   have HK3 := Lib.hid (HK2.out.below hb HK2.out.lt)
   have HB3 := Lib.hid (HB2.out.trans (hb.mono HB2.out.size))
   clear hb HK2 HB2
   have hkw := kw_put4 HK3.out fac_noWord 2 (noWord_bool tb) (noWord_slice T1 t1 u1) (noWord_bool false) (u3 := .slice T2 t2 u2)
   have HFS := Lib.hid (show FS (put4 w6 g 2 (.bool tb) (.slice T1 t1 u1) (.bool false) (.slice T2 t2 u2)) w.heap.size g n (valsM (tx2 m)) (invQ (valsM (tx2 m)) n) (detR (valsM (tx2 m)) n) from ⟨HG.out, A1, c1, Av, cv, tb, T1, t1, u1, T2, t2, u2, _, _, HK3.out.det4 (.bool tb) (.slice T1 t1 u1) (.bool false) (.slice T2 t2 u2), put4_keep HL2.out HK3.out (by decide) (by decide) hkw, put4_keep HV2.out HK3.out (by decide) (by decide) hkw, hv.kw hkw⟩)
   have HB4 := Lib.hid (put4_below (o := 2) HB3.out HG.out (.bool tb) (.slice T1 t1 u1) (.bool false) (.slice T2 t2 u2))
   unfold put4 at HFS HB4
   have z0 := HK3.out.cell 2
   have y0 := HK3.out.frozen 2
   have z1 := HK3.out.cell 3
   have y1 := HK3.out.frozen 3
   have z2 := HK3.out.cell 4
   have y2 := HK3.out.frozen 4
   have z3 := HK3.out.cell 5
   have y3 := HK3.out.frozen 5
   change w6.cell? ⟨g, 2, none⟩ = some (.bool false) at z0
   change w6.cell? ⟨g, 3, none⟩ = some (.slice none 0 0) at z1
   change w6.cell? ⟨g, 4, none⟩ = some (.bool false) at z2
   change w6.cell? ⟨g, 5, none⟩ = some (.slice none 0 0) at z3
   clear hv hkw HL2 HV2 HK3 HB3
   go_wp2
   go_ret2
   exact ⟨fun k => absurd HE.out k, fun _ => ⟨g, rfl, by rw [LT.out]; exact HFS.out⟩, HB4.out⟩
  ·have HE2 := Lib.hid (show newT (tx2 m) = (detT (tx2 m)).2 from HE.out)
   have tc : ((detT (tx2 m)).2 != 0) = true := bne_iff_ne.2 h1
   have HN := Lib.hid (show newT (tx2 m) ≠ 0 by rw [HE.out]; exact h1)
   clear HE h1
   generalize (detT (tx2 m)).1 = dd at *
   generalize (detT (tx2 m)).2 = de at *
   go_wp2
   go_ret2
   exact ⟨fun _ => by rw [HE2.out]; rfl, fun k => absurd k HN.out, HB.out⟩
 ·have HE := Lib.hid (show newT (tx2 m) = (invT (tx2 m)).2 by rw [newT, if_pos h0])
  have tc : ((invT (tx2 m)).2 != 0) = true := bne_iff_ne.2 h0
  have HN := Lib.hid (show newT (tx2 m) ≠ 0 by rw [HE.out]; exact h0)
  clear h0 h5
  go_enter Tryz.func31, Tryz.ntmps31
  go_wp2_with fail
  refine HC.out.mono ?_
  rintro e w1 ⟨Ai, ni, ci, mi, rfl, -, -, -, hb⟩
  have HB := Lib.hid hb
  clear HC hb
  generalize (invT (tx2 m)).2 = ie at *
  go_wp2
  go_ret2
  exact ⟨fun _ => by rw [HE.out]; rfl, fun k => absurd k HN.out, HB.out⟩
end Go.Proofs.YtgecdcjfncfmcaaGreatDoor
namespace Go.Proofs.YtgecdcjfncfmcaaGreatDoor
open Go.RowKit

/-- the row a of an update: its first k numbers are done -/
def rowU (x y : List Rat) (a k : Nat) (r : List Rat) : List Rat := r.mapIdx fun j q => if j < k then q + x.getD a 0 * y.getD j 0 else q
/-- an update in the making: rows before i are done, and k numbers of row i -/
def uM (M : MQ) (x y : List Rat) (n i k : Nat) : MQ := M.mapIdx fun a r => rowU x y a (if a < i then n else if a = i then k else 0) r
theorem rowU_len (x y : List Rat) (a k : Nat) (r : List Rat) : (rowU x y a k r).length = r.length := List.length_mapIdx
theorem rowU_zero (x y : List Rat) (a : Nat) (r : List Rat) : rowU x y a 0 r = r := mapIdx_id r _ fun _i _q _ => if_neg (Nat.not_lt_zero _)
theorem rect_uM {M : MQ} {n : Nat} (h : Rect M n n) (x y : List Rat) (i k : Nat) : Rect (uM M x y n i k) n n := by
 refine ⟨by unfold uM; rw [List.length_mapIdx]; exact h.1, fun r hr => ?_⟩
 obtain ⟨a, ha, rfl⟩ := List.mem_mapIdx.1 hr
 rw [rowU_len]
 exact h.2 _ (List.getElem_mem ha)
theorem uM_start {M : MQ} (x y : List Rat) (n : Nat) : uM M x y n 0 0 = M := mapIdx_id M _ fun a r _ => by
 rw [if_neg (Nat.not_lt_zero _)]
 split <;> exact rowU_zero x y a r
theorem uM_next {M : MQ} (x y : List Rat) (n i : Nat) : uM M x y n i n = uM M x y n (i + 1) 0 := by
 unfold uM
 congr 1
 funext a r
 by_cases h1 : a < i
 ·rw [if_pos h1, if_pos (by omega)]
 ·by_cases h2 : a = i
  ·rw [if_neg h1, if_pos h2, if_pos (by omega)]
  ·rw [if_neg h1, if_neg h2, if_neg (by omega), ite_self]
theorem uM_end {M : MQ} {n : Nat} (h : Rect M n n) (x y : List Rat) : uM M x y n n 0 = addOut M x y := by
 apply List.ext_getElem?
 intro a
 unfold uM addOut
 rw [List.getElem?_mapIdx, List.getElem?_mapIdx]
 by_cases ha : a < M.length
 ·rw [List.getElem?_eq_getElem ha]
  simp only [Option.map_some]
  rw [if_pos (by rw [← h.1]; exact ha)]
  congr 1
  apply List.ext_getElem?
  intro j
  unfold rowU
  rw [List.getElem?_mapIdx, List.getElem?_mapIdx]
  by_cases hj : j < (M[a]).length
  ·rw [List.getElem?_eq_getElem hj]
   simp only [Option.map_some]
   rw [if_pos (by rw [← h.2 _ (List.getElem_mem ha)]; exact hj)]
  ·rw [List.getElem?_eq_none (by omega)]; rfl
 ·rw [List.getElem?_eq_none (by omega)]; rfl
theorem uM_row {M : MQ} {n : Nat} (h : Rect M n n) (x y : List Rat) {i k : Nat} (hi : i < n) : (uM M x y n i k).getD i [] = rowU x y i k (M.getD i []) := by
 unfold uM
 rw [getD_mapIdx M _ i [] [] (by rw [h.1]; exact hi), if_neg (Nat.lt_irrefl _), if_pos rfl]
theorem uM_at {M : MQ} {n : Nat} (h : Rect M n n) (x y : List Rat) {i k : Nat} (hi : i < n) (hk : k < n) : at2 (uM M x y n i k) i k = at2 M i k := by
 unfold at2
 rw [uM_row h x y hi]
 unfold rowU
 rw [getD_mapIdx _ _ k 0 0 (by rw [rect_len h hi]; exact hk), if_neg (Nat.lt_irrefl _)]
theorem uM_set {M : MQ} {n : Nat} (h : Rect M n n) (x y : List Rat) {i k : Nat} (hi : i < n) (hk : k < n) :
  (uM M x y n i k).set i (((uM M x y n i k).getD i []).set k (at2 M i k + x.getD i 0 * y.getD k 0)) = uM M x y n i (k + 1) := by
 rw [uM_row h x y hi]
 have hr : (rowU x y i k (M.getD i [])).set k (at2 M i k + x.getD i 0 * y.getD k 0) = rowU x y i (k + 1) (M.getD i []) := by
  apply List.ext_getElem?
  intro j
  unfold rowU
  rw [List.getElem?_set, List.getElem?_mapIdx, List.getElem?_mapIdx, List.length_mapIdx]
  by_cases e : k = j
  ·subst e
   have hl : k < (M.getD i []).length := by rw [rect_len h hi]; exact hk
   rw [if_pos rfl, if_pos hl, List.getElem?_eq_getElem hl]
   simp only [Option.map_some]
   rw [if_pos (Nat.lt_succ_self _)]
   unfold at2
   rw [List.getD_eq_getElem?_getD (l := M.getD i []), List.getElem?_eq_getElem hl]
   rfl
  ·rw [if_neg e]
   cases (M.getD i [])[j]? with
   | none => rfl
   | some q =>
    simp only [Option.map_some]
    by_cases h1 : j < k
    ·rw [if_pos h1, if_pos (by omega)]
    ·rw [if_neg h1, if_neg (by omega)]
 rw [hr]
 apply List.ext_getElem?
 intro a
 unfold uM
 rw [List.getElem?_set, List.getElem?_mapIdx, List.getElem?_mapIdx, List.length_mapIdx]
 by_cases e : i = a
 ·subst e
  have hl : i < M.length := by rw [h.1]; exact hi
  rw [if_pos rfl, if_pos hl, List.getElem?_eq_getElem hl]
  simp only [Option.map_some]
  simp only [Nat.lt_irrefl, if_true, if_false]
  congr 2
  rw [List.getD_eq_getElem?_getD, List.getElem?_eq_getElem hl]
  rfl
 ·rw [if_neg e]
  cases M[a]? with
  | none => rfl
  | some r =>
   simp only [Option.map_some]
   by_cases h1 : a < i
   ·rw [if_pos h1, if_pos h1]
   ·rw [if_neg h1, if_neg h1, if_neg (Ne.symm e), if_neg (Ne.symm e)]
/-- the error of an update -/
def updT (M : MQ) (n : Nat) (u v : List (List UInt8)) : Int :=
 if fchk n u ≠ 0 then fchk n u else if fchk n v ≠ 0 then fchk n v else if (redQ (extI (addOut M (valsV u) (valsV v)) n) n).2.length < n then 10 else 0
/-- what an update needs: numbers that fit -/
structure UpdFit (M : MQ) (n : Nat) (x y : List Rat) : Prop where
 n4 : n ≤ 5
 ent : ∀ r ∈ addOut M x y, ∀ q ∈ r, FitR 14 q
 txt : (addOut M x y).all (fun r => r.all fitQ) = true
 inv : Reg (addOut M x y) n → (invQ (addOut M x y) n).all (fun r => r.all fitQ) = true
 det : fitQ (detR (addOut M x y) n) = true
/-- every block but g is as it was -/
def Oth (g : Nat) (w w' : World) : Prop := w.heap.size ≤ w'.heap.size ∧ ∀ b, b < w.heap.size → b ≠ g → w'.heap[b]? = w.heap[b]?
theorem Oth.of {w w' : World} (g : Nat) (hb : Below w.heap.size w w') : Oth g w w' := ⟨hb.size, fun b h _ => hb.block b h⟩
theorem Oth.set {w w' : World} {g : Nat} (h : Oth g w w') (o : Nat) (u : Value) : Oth g w (w'.setCell ⟨g, o, none⟩ u) := ⟨by simpa [World.setCell] using h.1, fun b hb hn => (Below.heap_setCell _ ⟨g, o, none⟩ _ _ hn).trans (h.2 b hb hn)⟩
theorem Oth.put {w w' : World} {g : Nat} (h : Oth g w w') (o : Nat) (u0 u1 u2 u3 : Value) : Oth g w (put4 w' g o u0 u1 u2 u3) := (((h.set o u0).set (o + 1) u1).set (o + 2) u2).set (o + 3) u3
/-- what an update returns -/
def RetUpd (w : World) (base g n : Nat) (M V : MQ) (d : Rat) (u v : List (List UInt8)) (e : Ending) (w' : World) : Prop :=
 e = .returned (I (updT M n u v)) ∧ (updT M n u v ≠ 0 → FS w' base g n M V d) ∧ (updT M n u v = 0 → FS w' base g n (addOut M (valsV u) (valsV v)) (invQ (addOut M (valsV u) (valsV v)) n) (detR (addOut M (valsV u) (valsV v)) n)) ∧ Below g w w' ∧ Oth g w w'
theorem RetUpd.err {w w' : World} {base g n : Nat} {M V : MQ} {d : Rat} {u v : List (List UInt8)} {c : Int} (h : updT M n u v = c) (hc : c ≠ 0) (hF : FS w base g n M V d) (hb : Below w.heap.size w w') : RetUpd w base g n M V d u v (.returned (I c)) w' :=
 ⟨by rw [h], fun _ => hF.call hb, fun k => absurd (h.symm.trans k) hc, hb.mono (Nat.le_of_lt hF.lt), Oth.of g hb⟩
theorem rat_at {M : MQ} {n : Nat} (hR : Rect M n n) (hM : Fit2 M) {i : Nat} (hi : i < n) (k : Nat) : FitR 210 (at2 M i k) := by
 unfold at2
 rw [List.getD_eq_getElem?_getD (l := M), List.getElem?_eq_getElem (by rw [hR.1]; exact hi)]
 exact Fit1.at_ (hM _ (List.getElem_mem _)) k
theorem cell_oth {w : World} {p q : Addr} {v : Value} (h : w.cell? q = some v) (hn : q.block ≠ p.block) (u : Value) : (w.setCell p u).cell? q = some v := (World.cell?_of_block (a := q) (Below.heap_setCell w p u q.block hn)).trans h
theorem Vr.oth {w : World} {gd : Nat} {x0 x1 x2 x3 : Value} (h : Vr w gd x0 x1 x2 x3) (p : Addr) (hn : gd ≠ p.block) (u : Value) : Vr (w.setCell p u) gd x0 x1 x2 x3 := Vr.keepB h (Below.heap_setCell w p u gd hn)
theorem bad_of {c : Int} (h : c ≠ 0) : (c != 0) = true := bne_iff_ne.2 h
theorem fchk_ok {n : Nat} {b : List (List UInt8)} (h : fchk n b = 0) : chkV b = 0 ∧ b.length = n := by
 unfold fchk at h
 split at h
 ·rename_i k; exact absurd h k
 ·rename_i k
  split at h
  ·cases h
  ·rename_i k2; exact ⟨Decidable.not_not.1 k, Decidable.not_not.1 k2⟩
set_option maxRecDepth 100000 in
set_option maxHeartbeats 16000000 in
theorem fupdate_any (g n : Nat) (M V : MQ) (d : Rat) (base : Nat) (w : World) (h : FS w base g n M V d) (bu : List ByteArray) (nu : Nat) (Au : Option Addr) (cu : Nat) (hu : SV w Au nu bu) (hsu : Sh1 bu) (bv : List ByteArray) (nv : Nat) (Aw : Option Addr) (cw : Nat) (hv : SV w Aw nv bv) (hsv : Sh1 bv) (hR : Rect M n n) (hMf : Fit2 M) (hup : fchk n (tx1 bu) = 0 → fchk n (tx1 bv) = 0 → UpdFit M n (valsV (tx1 bu)) (valsV (tx1 bv))) (htab : Tab w) : Calls Tryz.prog 33 #[.pointer (some ⟨g, 0, none⟩), .slice Au nu cu, .slice Aw nv cw] w (RetUpd w base g n M V d (tx1 bu) (tx1 bv)) := by
 have HF := Lib.hid h
 have HTB := Lib.hid htab
 have HU := Lib.hid hu
 have HSU := Lib.hid hsu
 have HV := Lib.hid hv
 have HSV := Lib.hid hsv
 have HR := Lib.hid hR
 have HMF := Lib.hid hMf
 have HUP := Lib.hid hup
 have LU := Lib.hid (show (tx1 bu).length = nu by rw [tx1, List.length_map]; exact hu.len)
 have LV := Lib.hid (show (tx1 bv).length = nv by rw [tx1, List.length_map]; exact hv.len)
 have hz := below_new w (.cells #[.slice Au nu cu, .slice Aw nv cw] vecT)
 have HBK := Lib.hid (Blk.new w vecT #[.slice Au nu cu, .slice Aw nv cw])
 have HB := Lib.hid hz
 have HC := Lib.hid (fcheck_any g n M V d base (w.alloc (.cells #[.slice Au nu cu, .slice Aw nv cw] vecT)) (h.call hz) bu nu Au cu (hu.below hz) hsu (tab_below htab hz))
 clear h htab hu hsu hv hsv hR hMf hup hz
 have k0 := HBK.out.cell 0
 have k1 := HBK.out.cell 1
 change World.cell? _ _ = some (Value.slice Au nu cu) at k0
 change World.cell? _ _ = some (Value.slice Aw nv cw) at k1
 unfold vecT at *
 go_enter Tryz.func33, Tryz.ntmps33
 go_wp2
 refine wp_loop_rounds 3 ?_
 rw [rounds_succ]
 go_wp2_with fail
 refine HC.out.mono ?_
 rintro e w2 ⟨rfl, hb⟩
 clear HC k0 k1
 replace HBK := Lib.hid (HBK.out.below hb HBK.out.lt)
 replace HB := Lib.hid (HB.out.trans (hb.mono HB.out.size))
 clear hb
 have k1 := HBK.out.cell 1
 change w2.cell? ⟨w.heap.size, 1, none⟩ = some (.slice Aw nv cw) at k1
 by_cases e1 : fchk n (tx1 bu) = 0
 ·rw [e1]
  have HC := Lib.hid (fcheck_any g n M V d base w2 (HF.out.call HB.out) bv nv Aw cw (HV.out.below HB.out) HSV.out (tab_below HTB.out HB.out))
  have E1 := Lib.hid e1
  clear e1
  go_wp2
  rw [rounds_succ]
  go_wp2_with fail
  refine HC.out.mono ?_
  rintro e w3 ⟨rfl, hb⟩
  clear HC k1 HBK
  replace HB := Lib.hid (HB.out.trans (hb.mono HB.out.size))
  clear hb
  by_cases e2 : fchk n (tx1 bv) = 0
  ·have HUF := Lib.hid (HUP.out E1.out e2)
   have HE := Lib.hid (show updT M n (tx1 bu) (tx1 bv) = if (redQ (extI (addOut M (valsV (tx1 bu)) (valsV (tx1 bv))) n) n).2.length < n then 10 else 0 by rw [updT, if_neg (fun k => k E1.out), if_neg (fun k => k e2)])
   have P1 := Lib.hid (fchk_ok E1.out)
   have P2 := Lib.hid (fchk_ok e2)
   rw [e2]
   clear e2 E1
   have hn1 : nu = n := by rw [← LU.out]; exact P1.out.2
   have hn2 : nv = n := by rw [← LV.out]; exact P2.out.2
   have FU := Lib.hid (fit1_of P1.out.1)
   have FV := Lib.hid (fit1_of P2.out.1)
   subst hn1
   subst hn2
   have hn5 : nv ≤ 5 := HUF.out.n4
   have HP := Lib.hid (parseAll_any bu nv Au cu w3 (HU.out.below HB.out) HSU.out (val1_of P1.out.1) (by have := HUF.out.n4; omega))
   go_wp2
   rw [rounds_succ]
   go_wp2_with fail
   refine HP.out.mono ?_
   rintro e w4 ⟨v, rfl, hr, hb⟩
   replace HB := Lib.hid (HB.out.trans (hb.mono HB.out.size))
   obtain ⟨A1, c1, rfl⟩ := hr.val
   have hvl : (valsV (tx1 bu)).length = nv := by rw [valsV, List.length_map, LU.out]
   rw [hvl] at hr ⊢
   have RX := Lib.hid hr.rv
   have LX := Lib.hid hvl
   clear HP hb hr hvl
   have HP := Lib.hid (parseAll_any bv nv Aw cw w4 (HV.out.below HB.out) HSV.out (val1_of P2.out.1) (by have := HUF.out.n4; omega))
   go_wp2_with fail
   refine HP.out.mono ?_
   rintro e w5 ⟨v, rfl, hr, hb⟩
   replace HB := Lib.hid (HB.out.trans (hb.mono HB.out.size))
   replace RX := Lib.hid (RX.out.below hb)
   obtain ⟨A2, c2, rfl⟩ := hr.val
   have hvl : (valsV (tx1 bv)).length = nv := by rw [valsV, List.length_map, LV.out]
   rw [hvl] at hr ⊢
   have RY := Lib.hid hr.rv
   have LY := Lib.hid hvl
   clear HP hb hr hvl P1 P2 HU HSU HV HSV LU LV HUP
   generalize hx : valsV (tx1 bu) = x at *
   generalize hy : valsV (tx1 bv) = y at *
   have HX := Lib.hid hx
   have HY := Lib.hid hy
   clear hx hy
   obtain ⟨Am, cm, Bm, km, nb0, C1, l1, k1, C2, l2, k2, h0, h1, hE, hM, hV, hd⟩ := (HF.out.call HB.out).cells
   have HC := Lib.hid (copyL_any M nv Am cm w5 hM (fun r h => by have := HUF.out.n4; rw [HR.out.2 r h]; omega) (by have := HUF.out.n4; omega))
   clear h1 hE hM hV hd
   go_wp2_with fail
   refine HC.out.mono ?_
   rintro e w6 ⟨v, vs, rfl, hLM, hb⟩
   clear HC h0
   obtain ⟨A3, c3, rfl⟩ := hLM.val
   rw [HR.out.1] at hLM ⊢
   have HL := Lib.hid hLM
   have HB2 := Lib.hid hb
   clear hLM hb
   have HL0 := Lib.hid (show LM w6 w5.heap.size (.slice A3 nv c3) vs (uM M x y nv 0 0) by rw [uM_start]; exact HL.out)
   clear HL
   go_wp2
   go_loopg [50] (nv - 0) (fun r v wr => ∃ i : Nat, r = nv - i ∧ v = I i ∧ i ≤ nv ∧ Hid (LM wr w5.heap.size (.slice A3 nv c3) vs (uM M x y nv i 0)) ∧ Hid (Below w5.heap.size w5 wr))
   case atStart => exact ⟨0, rfl, rfl, by omega, HL0, HB2⟩
   case round =>
    clear HL0 HB2
    obtain ⟨i, rfl, rfl, hi, HL, HB2⟩ := hrel
    obtain ⟨wa, rfl⟩ : ∃ wa : World, wa = wr := ⟨_, rfl⟩
    by_cases hin : i < nv
    ·obtain ⟨g0, off, cap, Bh, ch, ez, _, _, _, _, _, _⟩ := HL.out.at_ (i := i) (by rw [(rect_uM HR.out x y i 0).1]; exact hin)
     have hA : A3 = some ⟨g0, off, none⟩ := sl_addr ez
     subst hA
     clear ez
     go_wp2
     go_loopg [55] (nv - 0) (fun r v wr => ∃ k : Nat, r = nv - k ∧ v = I k ∧ k ≤ nv ∧ Hid (LM wr w5.heap.size (.slice (some ⟨g0, off, none⟩) nv c3) vs (uM M x y nv i k)) ∧ Hid (Below w5.heap.size w5 wr))
     case atStart => exact ⟨0, rfl, rfl, by omega, HL, HB2⟩
     case round =>
      clear HL HB2
      obtain ⟨k, rfl, rfl, hk, HL, HB2⟩ := hrel
      obtain ⟨wb, rfl⟩ : ∃ wb : World, wb = wr := ⟨_, rfl⟩
      by_cases hkn : k < nv
      ·have HRU := Lib.hid (rect_uM HR.out x y i k)
       obtain ⟨b, o, c9, nb, E1, l1, d2, E2, l2, d3, hu, hc, hE, hrt, _, _⟩ := HL.out.el HRU.out hin hkn
       rw [uM_at HR.out x y hin hkn] at hrt
       have hxe : x[i]? = some (x.getD i 0) := by rw [List.getD_eq_getElem?_getD, List.getElem?_eq_getElem (by have := LX.out; omega)]; rfl
       have hye : y[k]? = some (y.getD k 0) := by rw [List.getD_eq_getElem?_getD, List.getElem?_eq_getElem (by have := LY.out; omega)]; rfl
       obtain ⟨bx, ox, x0, x1, x2, x3, ax, _, hcx, hrx⟩ := (RX.out.below HB2.out).at_ hin _ hxe
       obtain ⟨by_, oy, y0, y1, y2, y3, ay, _, hcy, hry⟩ := (RY.out.below HB2.out).at_ hkn _ hye
       subst ax
       subst ay
       clear hxe hye
       have CI := Lib.hid (hc)
       have EI := Lib.hid (hE)
       have RXI := Lib.hid (hrt)
       have XC := Lib.hid (hcx)
       have XR := Lib.hid (hrx)
       have YC := Lib.hid (hcy)
       have YR := Lib.hid (hry)
       have HU1 := Lib.hid hu
       have HXX := Lib.hid (uM_set HR.out x y hin hkn)
       clear hc hE hrt hcx hrx hcy hry hu
       have hd := below_draw wb
       replace CI := Lib.hid (cell_below CI.out hd)
       replace EI := Lib.hid (EI.out.below hd)
       replace RXI := Lib.hid (RXI.out.ext hd)
       replace XC := Lib.hid (XC.out.below hd)
       replace XR := Lib.hid (XR.out.ext hd)
       replace YC := Lib.hid (YC.out.below hd)
       replace YR := Lib.hid (YR.out.ext hd)
       replace HL := Lib.hid (HL.out.call hd)
       replace HB2 := Lib.hid (HB2.out.trans (hd.mono HB2.out.size))
       clear hd
       have hin5 : ¬ nv ≤ i := by omega
       have hkn5 : ¬ nv ≤ k := by omega
       go_upto_region 16 with (fail)
       refine wp_region_c (fun w' => w'.cell? ⟨g0, off + i, none⟩ = some (.slice (some ⟨b, o, none⟩) nv c9) ∧ w'.cell? ⟨b, o + k * 4, none⟩ = some (.bool nb) ∧ w'.cell? ⟨b, o + k * 4 + 1, none⟩ = some (.slice E1 l1 d2) ∧ w'.cell? ⟨b, o + k * 4 + 2, none⟩ = some (.bool false) ∧ w'.cell? ⟨b, o + k * 4 + 3, none⟩ = some (.slice E2 l2 d3) ∧ w'.cell? ⟨bx, ox + i * 4, none⟩ = some x0 ∧ w'.cell? ⟨bx, ox + i * 4 + 1, none⟩ = some x1 ∧ w'.cell? ⟨bx, ox + i * 4 + 2, none⟩ = some x2 ∧ w'.cell? ⟨bx, ox + i * 4 + 3, none⟩ = some x3 ∧ w'.cell? ⟨by_, oy + k * 4, none⟩ = some y0 ∧ w'.cell? ⟨by_, oy + k * 4 + 1, none⟩ = some y1 ∧ w'.cell? ⟨by_, oy + k * 4 + 2, none⟩ = some y2 ∧ w'.cell? ⟨by_, oy + k * 4 + 3, none⟩ = some y3) 23 (by kernel_rfl) ?_
       generalize wb.drew = W1 at *
       refine wpAnyC_take8 (i := 0) (oi := _) (v := .slice (some ⟨g0, off, none⟩) nv c3) rfl (by kernel_rfl) (by kernel_rfl) (by kernel_rfl) (by kernel_rfl) (by kernel_rfl) (by kernel_rfl) (fun _ _ _ h => h) (Or.inl ⟨by rfl, ?_⟩) ⟨CI.out, EI.out.c0, EI.out.c1, EI.out.c2, EI.out.c3, XC.out.c0, XC.out.c1, XC.out.c2, XC.out.c3, YC.out.c0, YC.out.c1, YC.out.c2, YC.out.c3⟩ ?_
       ·intro w hSw
        obtain ⟨s0, s1, s2, s3, s4, s5, s6, s7, s8, s9, s10, s11, s12⟩ := hSw
        go_simp
       try simp only [Act.put, List.setIfInBounds_toArray]
       refine wpAnyC_take8 (i := 1) (oi := _) (v := I i) rfl (by kernel_rfl) (by kernel_rfl) (by kernel_rfl) (by kernel_rfl) (by kernel_rfl) (by kernel_rfl) (fun _ _ _ h => h) (Or.inl ⟨by rfl, ?_⟩) ⟨CI.out, EI.out.c0, EI.out.c1, EI.out.c2, EI.out.c3, XC.out.c0, XC.out.c1, XC.out.c2, XC.out.c3, YC.out.c0, YC.out.c1, YC.out.c2, YC.out.c3⟩ ?_
       ·intro w hSw
        obtain ⟨s0, s1, s2, s3, s4, s5, s6, s7, s8, s9, s10, s11, s12⟩ := hSw
        go_simp
       try simp only [Act.put]
       refine wpAnyC_take8 (i := 2) (oi := _) (v := .pointer (some ⟨g0, off + i, none⟩)) rfl (by kernel_rfl) (by kernel_rfl) (by kernel_rfl) (by kernel_rfl) (by kernel_rfl) (by kernel_rfl) (fun _ _ _ h => h) (Or.inl ⟨by rfl, ?_⟩) ⟨CI.out, EI.out.c0, EI.out.c1, EI.out.c2, EI.out.c3, XC.out.c0, XC.out.c1, XC.out.c2, XC.out.c3, YC.out.c0, YC.out.c1, YC.out.c2, YC.out.c3⟩ ?_
       ·intro w hSw
        obtain ⟨s0, s1, s2, s3, s4, s5, s6, s7, s8, s9, s10, s11, s12⟩ := hSw
        go_simp
       try simp only [Act.put]
       refine wpAnyC_take8 (i := 3) (oi := _) (v := .slice (some ⟨b, o, none⟩) nv c9) rfl (by kernel_rfl) (by kernel_rfl) (by kernel_rfl) (by kernel_rfl) (by kernel_rfl) (by kernel_rfl) (fun _ _ _ h => h) (Or.inl ⟨by rfl, ?_⟩) ⟨CI.out, EI.out.c0, EI.out.c1, EI.out.c2, EI.out.c3, XC.out.c0, XC.out.c1, XC.out.c2, XC.out.c3, YC.out.c0, YC.out.c1, YC.out.c2, YC.out.c3⟩ ?_
       ·intro w hSw
        obtain ⟨s0, s1, s2, s3, s4, s5, s6, s7, s8, s9, s10, s11, s12⟩ := hSw
        go_simp
       try simp only [Act.put]
       refine wpAnyC_take8 (i := 4) (oi := _) (v := I k) rfl (by kernel_rfl) (by kernel_rfl) (by kernel_rfl) (by kernel_rfl) (by kernel_rfl) (by kernel_rfl) (fun _ _ _ h => h) (Or.inl ⟨by rfl, ?_⟩) ⟨CI.out, EI.out.c0, EI.out.c1, EI.out.c2, EI.out.c3, XC.out.c0, XC.out.c1, XC.out.c2, XC.out.c3, YC.out.c0, YC.out.c1, YC.out.c2, YC.out.c3⟩ ?_
       ·intro w hSw
        obtain ⟨s0, s1, s2, s3, s4, s5, s6, s7, s8, s9, s10, s11, s12⟩ := hSw
        go_simp
       try simp only [Act.put]
       refine wpAnyC_take8 (i := 5) (oi := _) (v := .slice (some ⟨g0, off, none⟩) nv c3) rfl (by kernel_rfl) (by kernel_rfl) (by kernel_rfl) (by kernel_rfl) (by kernel_rfl) (by kernel_rfl) (fun _ _ _ h => h) (Or.inl ⟨by rfl, ?_⟩) ⟨CI.out, EI.out.c0, EI.out.c1, EI.out.c2, EI.out.c3, XC.out.c0, XC.out.c1, XC.out.c2, XC.out.c3, YC.out.c0, YC.out.c1, YC.out.c2, YC.out.c3⟩ ?_
       ·intro w hSw
        obtain ⟨s0, s1, s2, s3, s4, s5, s6, s7, s8, s9, s10, s11, s12⟩ := hSw
        go_simp
       try simp only [Act.put]
       refine wpAnyC_take8 (i := 6) (oi := _) (v := I i) rfl (by kernel_rfl) (by kernel_rfl) (by kernel_rfl) (by kernel_rfl) (by kernel_rfl) (by kernel_rfl) (fun _ _ _ h => h) (Or.inl ⟨by rfl, ?_⟩) ⟨CI.out, EI.out.c0, EI.out.c1, EI.out.c2, EI.out.c3, XC.out.c0, XC.out.c1, XC.out.c2, XC.out.c3, YC.out.c0, YC.out.c1, YC.out.c2, YC.out.c3⟩ ?_
       ·intro w hSw
        obtain ⟨s0, s1, s2, s3, s4, s5, s6, s7, s8, s9, s10, s11, s12⟩ := hSw
        go_simp
       try simp only [Act.put]
       refine wpAnyC_take8 (i := 7) (oi := _) (v := .pointer (some ⟨g0, off + i, none⟩)) rfl (by kernel_rfl) (by kernel_rfl) (by kernel_rfl) (by kernel_rfl) (by kernel_rfl) (by kernel_rfl) (fun _ _ _ h => h) (Or.inl ⟨by rfl, ?_⟩) ⟨CI.out, EI.out.c0, EI.out.c1, EI.out.c2, EI.out.c3, XC.out.c0, XC.out.c1, XC.out.c2, XC.out.c3, YC.out.c0, YC.out.c1, YC.out.c2, YC.out.c3⟩ ?_
       ·intro w hSw
        obtain ⟨s0, s1, s2, s3, s4, s5, s6, s7, s8, s9, s10, s11, s12⟩ := hSw
        go_simp
       try simp only [Act.put]
       refine wpAnyC_take8 (i := 8) (oi := _) (v := .slice (some ⟨b, o, none⟩) nv c9) rfl (by kernel_rfl) (by kernel_rfl) (by kernel_rfl) (by kernel_rfl) (by kernel_rfl) (by kernel_rfl) (fun _ _ _ h => h) (Or.inl ⟨by rfl, ?_⟩) ⟨CI.out, EI.out.c0, EI.out.c1, EI.out.c2, EI.out.c3, XC.out.c0, XC.out.c1, XC.out.c2, XC.out.c3, YC.out.c0, YC.out.c1, YC.out.c2, YC.out.c3⟩ ?_
       ·intro w hSw
        obtain ⟨s0, s1, s2, s3, s4, s5, s6, s7, s8, s9, s10, s11, s12⟩ := hSw
        go_simp
       try simp only [Act.put]
       refine wpAnyC_take8 (i := 9) (oi := _) (v := I k) rfl (by kernel_rfl) (by kernel_rfl) (by kernel_rfl) (by kernel_rfl) (by kernel_rfl) (by kernel_rfl) (fun _ _ _ h => h) (Or.inl ⟨by rfl, ?_⟩) ⟨CI.out, EI.out.c0, EI.out.c1, EI.out.c2, EI.out.c3, XC.out.c0, XC.out.c1, XC.out.c2, XC.out.c3, YC.out.c0, YC.out.c1, YC.out.c2, YC.out.c3⟩ ?_
       ·intro w hSw
        obtain ⟨s0, s1, s2, s3, s4, s5, s6, s7, s8, s9, s10, s11, s12⟩ := hSw
        go_simp
       try simp only [Act.put]
       refine wpAnyC_take8 (i := 10) (oi := _) (v := .pointer (some ⟨b, o + k * 4, none⟩)) rfl (by kernel_rfl) (by kernel_rfl) (by kernel_rfl) (by kernel_rfl) (by kernel_rfl) (by kernel_rfl) (fun _ _ _ h => h) (Or.inl ⟨by rfl, ?_⟩) ⟨CI.out, EI.out.c0, EI.out.c1, EI.out.c2, EI.out.c3, XC.out.c0, XC.out.c1, XC.out.c2, XC.out.c3, YC.out.c0, YC.out.c1, YC.out.c2, YC.out.c3⟩ ?_
       ·intro w hSw
        obtain ⟨s0, s1, s2, s3, s4, s5, s6, s7, s8, s9, s10, s11, s12⟩ := hSw
        go_simp
       try simp only [Act.put]
       refine wpAnyC_take8 (i := 11) (oi := _) (v := .agg #[.bool nb, .slice E1 l1 d2, .bool false, .slice E2 l2 d3]) rfl (by kernel_rfl) (by kernel_rfl) (by kernel_rfl) (by kernel_rfl) (by kernel_rfl) (by kernel_rfl) (fun _ _ _ h => h) (Or.inl ⟨by rfl, ?_⟩) ⟨CI.out, EI.out.c0, EI.out.c1, EI.out.c2, EI.out.c3, XC.out.c0, XC.out.c1, XC.out.c2, XC.out.c3, YC.out.c0, YC.out.c1, YC.out.c2, YC.out.c3⟩ ?_
       ·intro w hSw
        obtain ⟨s0, s1, s2, s3, s4, s5, s6, s7, s8, s9, s10, s11, s12⟩ := hSw
        go_simp
       try simp only [Act.put]
       refine wpAnyC_take8 (i := 12) (oi := _) (v := .slice (some ⟨bx, ox, none⟩) nv c1) rfl (by kernel_rfl) (by kernel_rfl) (by kernel_rfl) (by kernel_rfl) (by kernel_rfl) (by kernel_rfl) (fun _ _ _ h => h) (Or.inl ⟨by rfl, ?_⟩) ⟨CI.out, EI.out.c0, EI.out.c1, EI.out.c2, EI.out.c3, XC.out.c0, XC.out.c1, XC.out.c2, XC.out.c3, YC.out.c0, YC.out.c1, YC.out.c2, YC.out.c3⟩ ?_
       ·intro w hSw
        obtain ⟨s0, s1, s2, s3, s4, s5, s6, s7, s8, s9, s10, s11, s12⟩ := hSw
        go_simp
       try simp only [Act.put]
       refine wpAnyC_take8 (i := 13) (oi := _) (v := I i) rfl (by kernel_rfl) (by kernel_rfl) (by kernel_rfl) (by kernel_rfl) (by kernel_rfl) (by kernel_rfl) (fun _ _ _ h => h) (Or.inl ⟨by rfl, ?_⟩) ⟨CI.out, EI.out.c0, EI.out.c1, EI.out.c2, EI.out.c3, XC.out.c0, XC.out.c1, XC.out.c2, XC.out.c3, YC.out.c0, YC.out.c1, YC.out.c2, YC.out.c3⟩ ?_
       ·intro w hSw
        obtain ⟨s0, s1, s2, s3, s4, s5, s6, s7, s8, s9, s10, s11, s12⟩ := hSw
        go_simp
       try simp only [Act.put]
       refine wpAnyC_take8 (i := 14) (oi := _) (v := .pointer (some ⟨bx, ox + i * 4, none⟩)) rfl (by kernel_rfl) (by kernel_rfl) (by kernel_rfl) (by kernel_rfl) (by kernel_rfl) (by kernel_rfl) (fun _ _ _ h => h) (Or.inl ⟨by rfl, ?_⟩) ⟨CI.out, EI.out.c0, EI.out.c1, EI.out.c2, EI.out.c3, XC.out.c0, XC.out.c1, XC.out.c2, XC.out.c3, YC.out.c0, YC.out.c1, YC.out.c2, YC.out.c3⟩ ?_
       ·intro w hSw
        obtain ⟨s0, s1, s2, s3, s4, s5, s6, s7, s8, s9, s10, s11, s12⟩ := hSw
        go_simp
       try simp only [Act.put]
       refine wpAnyC_take8 (i := 15) (oi := _) (v := .agg #[x0, x1, x2, x3]) rfl (by kernel_rfl) (by kernel_rfl) (by kernel_rfl) (by kernel_rfl) (by kernel_rfl) (by kernel_rfl) (fun _ _ _ h => h) (Or.inl ⟨by rfl, ?_⟩) ⟨CI.out, EI.out.c0, EI.out.c1, EI.out.c2, EI.out.c3, XC.out.c0, XC.out.c1, XC.out.c2, XC.out.c3, YC.out.c0, YC.out.c1, YC.out.c2, YC.out.c3⟩ ?_
       ·intro w hSw
        obtain ⟨s0, s1, s2, s3, s4, s5, s6, s7, s8, s9, s10, s11, s12⟩ := hSw
        go_simp
       try simp only [Act.put]
       refine wpAnyC_take8 (i := 16) (oi := _) (v := .slice (some ⟨by_, oy, none⟩) nv c2) rfl (by kernel_rfl) (by kernel_rfl) (by kernel_rfl) (by kernel_rfl) (by kernel_rfl) (by kernel_rfl) (fun _ _ _ h => h) (Or.inl ⟨by rfl, ?_⟩) ⟨CI.out, EI.out.c0, EI.out.c1, EI.out.c2, EI.out.c3, XC.out.c0, XC.out.c1, XC.out.c2, XC.out.c3, YC.out.c0, YC.out.c1, YC.out.c2, YC.out.c3⟩ ?_
       ·intro w hSw
        obtain ⟨s0, s1, s2, s3, s4, s5, s6, s7, s8, s9, s10, s11, s12⟩ := hSw
        go_simp
       try simp only [Act.put]
       refine wpAnyC_take8 (i := 17) (oi := _) (v := I k) rfl (by kernel_rfl) (by kernel_rfl) (by kernel_rfl) (by kernel_rfl) (by kernel_rfl) (by kernel_rfl) (fun _ _ _ h => h) (Or.inl ⟨by rfl, ?_⟩) ⟨CI.out, EI.out.c0, EI.out.c1, EI.out.c2, EI.out.c3, XC.out.c0, XC.out.c1, XC.out.c2, XC.out.c3, YC.out.c0, YC.out.c1, YC.out.c2, YC.out.c3⟩ ?_
       ·intro w hSw
        obtain ⟨s0, s1, s2, s3, s4, s5, s6, s7, s8, s9, s10, s11, s12⟩ := hSw
        go_simp
       try simp only [Act.put]
       refine wpAnyC_take8 (i := 18) (oi := _) (v := .pointer (some ⟨by_, oy + k * 4, none⟩)) rfl (by kernel_rfl) (by kernel_rfl) (by kernel_rfl) (by kernel_rfl) (by kernel_rfl) (by kernel_rfl) (fun _ _ _ h => h) (Or.inl ⟨by rfl, ?_⟩) ⟨CI.out, EI.out.c0, EI.out.c1, EI.out.c2, EI.out.c3, XC.out.c0, XC.out.c1, XC.out.c2, XC.out.c3, YC.out.c0, YC.out.c1, YC.out.c2, YC.out.c3⟩ ?_
       ·intro w hSw
        obtain ⟨s0, s1, s2, s3, s4, s5, s6, s7, s8, s9, s10, s11, s12⟩ := hSw
        go_simp
       try simp only [Act.put]
       refine wpAnyC_take8 (i := 19) (oi := _) (v := .agg #[y0, y1, y2, y3]) rfl (by kernel_rfl) (by kernel_rfl) (by kernel_rfl) (by kernel_rfl) (by kernel_rfl) (by kernel_rfl) (fun _ _ _ h => h) (Or.inl ⟨by rfl, ?_⟩) ⟨CI.out, EI.out.c0, EI.out.c1, EI.out.c2, EI.out.c3, XC.out.c0, XC.out.c1, XC.out.c2, XC.out.c3, YC.out.c0, YC.out.c1, YC.out.c2, YC.out.c3⟩ ?_
       ·intro w hSw
        obtain ⟨s0, s1, s2, s3, s4, s5, s6, s7, s8, s9, s10, s11, s12⟩ := hSw
        go_simp
       try simp only [Act.put]
       refine wpAnyC_one (i := 20) (by kernel_rfl) rfl (fun K hK => ?_)
       go_simp
       go_at_call 88
       refine (rmul_any _ _ (x.getD i 0) (y.getD k 0) _ XR.out YR.out (N := 210) (by omega) (FU.out.at_ i) (FV.out.at_ k)).mono ?_
       rintro e w9 ⟨v9, rfl, hv, hb⟩
       replace CI := Lib.hid (cell_below CI.out hb)
       replace EI := Lib.hid (EI.out.below hb)
       replace RXI := Lib.hid (RXI.out.ext hb)
       replace XC := Lib.hid (XC.out.below hb)
       replace XR := Lib.hid (XR.out.ext hb)
       replace YC := Lib.hid (YC.out.below hb)
       replace YR := Lib.hid (YR.out.ext hb)
       replace HL := Lib.hid (HL.out.call hb)
       replace HB2 := Lib.hid (HB2.out.trans (hb.mono HB2.out.size))
       clear hb
       refine hK.out _ _ (fun _ => ⟨CI.out, EI.out.c0, EI.out.c1, EI.out.c2, EI.out.c3, XC.out.c0, XC.out.c1, XC.out.c2, XC.out.c3, YC.out.c0, YC.out.c1, YC.out.c2, YC.out.c3⟩) ?_
       clear hK K
       try simp only [Act.put, List.setIfInBounds_toArray, List.set_cons_zero, List.set_cons_succ]
       have RM9 := Lib.hid (hv)
       clear hv
       refine wpAnyC_one (i := 21) (by kernel_rfl) rfl (fun K hK => ?_)
       go_simp
       go_at_call 87
       refine (radd_any _ _ (at2 M i k) (x.getD i 0 * y.getD k 0) _ RXI.out RM9.out (N := 210 + 210) (by omega) ((rat_at HR.out HMF.out hin k).mono (by omega)) (fitR_mul (FU.out.at_ i) (FV.out.at_ k))).mono ?_
       rintro e w10 ⟨v10, rfl, hv, hb⟩
       replace CI := Lib.hid (cell_below CI.out hb)
       replace EI := Lib.hid (EI.out.below hb)
       replace RXI := Lib.hid (RXI.out.ext hb)
       replace XC := Lib.hid (XC.out.below hb)
       replace XR := Lib.hid (XR.out.ext hb)
       replace YC := Lib.hid (YC.out.below hb)
       replace YR := Lib.hid (YR.out.ext hb)
       replace HL := Lib.hid (HL.out.call hb)
       replace HB2 := Lib.hid (HB2.out.trans (hb.mono HB2.out.size))
       replace RM9 := Lib.hid (RM9.out.ext hb)
       clear hb
       refine hK.out _ _ (fun _ => ⟨CI.out, EI.out.c0, EI.out.c1, EI.out.c2, EI.out.c3, XC.out.c0, XC.out.c1, XC.out.c2, XC.out.c3, YC.out.c0, YC.out.c1, YC.out.c2, YC.out.c3⟩) ?_
       clear hK K
       try simp only [Act.put, List.setIfInBounds_toArray, List.set_cons_zero, List.set_cons_succ]
       refine wpAnyC_take8 (i := 22) (oi := _) (v := .pointer (some ⟨b, o + k * 4, none⟩)) rfl (by kernel_rfl) (by kernel_rfl) (by kernel_rfl) (by kernel_rfl) (by kernel_rfl) (by kernel_rfl) (fun _ _ _ h => h) (Or.inl ⟨by rfl, ?_⟩) ⟨CI.out, EI.out.c0, EI.out.c1, EI.out.c2, EI.out.c3, XC.out.c0, XC.out.c1, XC.out.c2, XC.out.c3, YC.out.c0, YC.out.c1, YC.out.c2, YC.out.c3⟩ ?_
       ·intro w hSw
        obtain ⟨s0, s1, s2, s3, s4, s5, s6, s7, s8, s9, s10, s11, s12⟩ := hSw
        go_simp
       try simp only [Act.put, List.setIfInBounds_toArray]
       obtain ⟨tb, T1, t1, u1, T2, t2, u2, rfl⟩ := hv.bools
       obtain ⟨hl, _, _, hbb⟩ := HL.out.wr HRU.out hin HU1.out hkn hv (NRow.nil w10 0 intT) (by decide)
       rw [HXX.out] at hl
       have HLN := Lib.hid hl
       have HBN := Lib.hid (put4_below (o := o + k * 4) HB2.out hbb (.bool tb) (.slice T1 t1 u1) (.bool false) (.slice T2 t2 u2))
       clear hl hbb
       unfold put4 at HLN HBN
       have z0 := EI.out.c0
       have r0 := EI.out.f0
       have z1 := EI.out.c1
       have r1 := EI.out.f1
       have z2 := EI.out.c2
       have r2 := EI.out.f2
       have z3 := EI.out.c3
       have r3 := EI.out.f3
       clear CI EI RXI XC XR YC YR HL HB2 RM9 hv HU1 HXX HRU
       refine wpAnyC_one (i := 23) (by kernel_rfl) rfl (fun K hK => ?_)
       go_simp
       refine hK.out _ _ (fun h => absurd h (by decide)) ?_
       clear hK K z0 z1 z2 z3 r0 r1 r2 r3
       refine wpAnyC_done (by kernel_rfl) ?_ _
       go_wp2
       go_roundg (nv - (k + 1))
       case measure => omega
       case rel => exact ⟨k + 1, rfl, by go_num, by omega, HLN, HBN⟩
      ·have hkk : k = nv := by omega
       have HLN := Lib.hid (show LM wb w5.heap.size (.slice (some ⟨g0, off, none⟩) nv c3) vs (uM M x y nv (i + 1) 0) by rw [← uM_next]; have h := HL.out; rw [hkk] at h; exact h)
       have hk5 : ¬ k < nv := by omega
       clear hkk HL
       go_wp2
       go_roundg (nv - (i + 1))
       case measure => omega
       case rel => exact ⟨i + 1, rfl, by go_num, by omega, HLN, HB2⟩
    ·have hii : i = nv := by omega
     have HS := Lib.hid (show LM wa w5.heap.size (.slice A3 nv c3) vs (addOut M x y) by rw [← uM_end HR.out]; have h := HL.out; rw [hii] at h; exact h)
     have hi5 : ¬ i < nv := by omega
     have HRS := Lib.hid (rect_addOut HR.out x y)
     have HB5 := Lib.hid HB.out.size
     replace HB := Lib.hid (HB.out.trans (HB2.out.mono HB.out.size))
     clear hii HL HB2 FU FV RX RY HMF
     have UN := Lib.hid HUF.out.n4
     have UE := Lib.hid HUF.out.ent
     have UT := Lib.hid (txM_fit HUF.out.txt)
     have UI := Lib.hid HUF.out.inv
     have UD := Lib.hid HUF.out.det
     clear HUF
     generalize hse : addOut M x y = SS at *
     have HSE := Lib.hid hse
     clear hse
     have HI := Lib.hid (linv_any SS nv A3 c3 wa HS.out.rm HRS.out (by have := UN.out; omega) (bnd_extI HRS.out (by have := UN.out; omega) (fun r hr q hq => (UE.out r hr q hq).mono (by omega))))
     by_cases hreg : (redQ (extI SS nv) nv).2.length < nv
     ·have hri : invR SS nv = ([], false) := if_pos hreg
      rw [if_pos hreg] at HE
      rw [hri] at HI
      clear hri hreg
      go_wp2_with fail
      refine HI.out.mono ?_
      rintro e w7 ⟨v, us, rfl, hLM, hb⟩
      obtain ⟨Av, cv, rfl⟩ := hLM.val
      replace HB := Lib.hid (HB.out.trans (hb.mono HB.out.size))
      clear hb HI hLM
      go_wp2
      go_ret
      exact RetUpd.err HE.out (by decide) HF.out HB.out
     ·have HREG := Lib.hid (show Reg SS nv from ⟨HRS.out, hreg⟩)
      have hri : invR SS nv = (invQ SS nv, true) := if_neg hreg
      rw [if_neg hreg] at HE
      rw [hri] at HI
      clear hri hreg
      have UI2 := Lib.hid (txM_fit (UI.out HREG.out))
      go_wp2_with fail
      refine HI.out.mono ?_
      rintro e w7 ⟨v, us, rfl, hLM, hb⟩
      obtain ⟨Av, cv, rfl⟩ := hLM.val
      have hrl := (rect_inv HRS.out).1
      rw [hrl] at hLM ⊢
      clear hrl HI
      have HV := Lib.hid (hLM.less HB.out.size)
      clear hLM
      replace HS := Lib.hid (HS.out.call hb)
      replace HB := Lib.hid (HB.out.trans (hb.mono HB.out.size))
      clear hb
      have HD := Lib.hid (ldet_any SS nv A3 c3 w7 HS.out.rm HRS.out (by have := UN.out; omega) (N := 44531) (D := 29400) (by omega) (by omega) (bndD5 HRS.out UN.out UE.out))
      go_wp2_with fail
      refine HD.out.mono ?_
      rintro e w8 ⟨v, rfl, hv, hb⟩
      clear HD
      obtain ⟨tb, T1, t1, u1, T2, t2, u2, rfl⟩ := hv.bools
      replace HS := Lib.hid (HS.out.call hb)
      replace HB := Lib.hid (HB.out.trans (hb.mono HB.out.size))
      replace HV := Lib.hid (HV.out.call hb)
      clear hb
      have HGD := Lib.hid (show g ≠ w8.heap.size from by have h1 := HF.out.lt; have h2 := HB.out.size; omega)
      obtain ⟨hvr, hb⟩ := boxes1 w8 (.bool tb) (.slice T1 t1 u1) (.bool false) (.slice T2 t2 u2)
      have DT := Lib.hid (hv)
      clear hv
      replace HS := Lib.hid (HS.out.call hb)
      replace HB := Lib.hid (HB.out.trans (hb.mono HB.out.size))
      replace HV := Lib.hid (HV.out.call hb)
      replace DT := Lib.hid (DT.out.ext hb)
      have DV := Lib.hid (hvr)
      clear hvr hb
      have HT := Lib.hid (textM_any SS nv A3 c3 (w8.alloc (.cells #[.bool tb, .slice T1 t1 u1, .bool false, .slice T2 t2 u2] ratT)) HS.out.rm (by have := UN.out; omega) (fun r h => by have := UN.out; rw [HRS.out.2 r h]; omega) (tab_below HTB.out HB.out))
      rw [UT.out] at HT
      unfold ratT at *
      go_wp2_with fail
      refine HT.out.mono ?_
      rintro e w10 ⟨A9, n9, c9, m9, rfl, -, -, -, hb⟩
      clear HT
      replace HS := Lib.hid (HS.out.call hb)
      replace HB := Lib.hid (HB.out.trans (hb.mono HB.out.size))
      replace HV := Lib.hid (HV.out.call hb)
      replace DT := Lib.hid (DT.out.ext hb)
      replace DV := Lib.hid (DV.out.below hb)
      clear hb
      have HT := Lib.hid (textM_any (invQ SS nv) nv Av cv w10 HV.out.rm (by have := UN.out; omega) (fun r h => by have := UN.out; rw [(rect_inv HRS.out).2 r h]; omega) (tab_below HTB.out HB.out))
      rw [UI2.out] at HT
      go_wp2_with fail
      refine HT.out.mono ?_
      rintro e w11 ⟨A8, n8, c8, m8, rfl, -, -, -, hb⟩
      clear HT
      replace HS := Lib.hid (HS.out.call hb)
      replace HB := Lib.hid (HB.out.trans (hb.mono HB.out.size))
      replace HV := Lib.hid (HV.out.call hb)
      replace DT := Lib.hid (DT.out.ext hb)
      replace DV := Lib.hid (DV.out.below hb)
      clear hb
      have HT := Lib.hid (rtext_any _ _ w11 DT.out (tab_below HTB.out HB.out))
      have z0 := DV.out.c0
      have z1 := DV.out.c1
      have z2 := DV.out.c2
      have z3 := DV.out.c3
      go_wp2_with fail
      refine HT.out.mono ?_
      rintro e w12 ⟨s, rfl, -, hb⟩
      rw [UD.out]
      clear HT z0 z1 z2 z3
      replace HS := Lib.hid (HS.out.call hb)
      replace HB := Lib.hid (HB.out.trans (hb.mono HB.out.size))
      replace HV := Lib.hid (HV.out.call hb)
      replace DT := Lib.hid (DT.out.ext hb)
      replace DV := Lib.hid (DV.out.below hb)
      clear hb
      have hd := below_draw w12
      replace HS := Lib.hid (HS.out.call hd)
      replace HB := Lib.hid (HB.out.trans (hd.mono HB.out.size))
      replace HV := Lib.hid (HV.out.call hd)
      replace DT := Lib.hid (DT.out.ext hd)
      replace DV := Lib.hid (DV.out.below hd)
      clear hd
      go_upto_region 28 with (fail)
      refine wp_region_c (fun w' => w'.cell? ⟨w8.heap.size, 0, none⟩ = some (.bool tb) ∧ w'.cell? ⟨w8.heap.size, 1, none⟩ = some (.slice T1 t1 u1) ∧ w'.cell? ⟨w8.heap.size, 2, none⟩ = some (.bool false) ∧ w'.cell? ⟨w8.heap.size, 3, none⟩ = some (.slice T2 t2 u2)) 14 (by kernel_rfl) ?_
      generalize w12.drew = W1 at *
      refine wpAnyC_takeP (i := 0) (oi := _) (v := .pointer (some ⟨g, 0, none⟩)) rfl (by kernel_rfl) (by kernel_rfl) (by kernel_rfl) (by kernel_rfl) (fun _ _ _ h => h) (Or.inl ⟨by rfl, ?_⟩) ⟨DV.out.c0, DV.out.c1, DV.out.c2, DV.out.c3⟩ ?_
      ·intro w _
       go_simp
      try simp only [Act.put, List.setIfInBounds_toArray]
      refine wpAnyC_takeP (i := 1) (oi := _) (v := .pointer (some ⟨g, 0, none⟩)) rfl (by kernel_rfl) (by kernel_rfl) (by kernel_rfl) (by kernel_rfl) (fun _ _ _ h => h) (Or.inl ⟨by rfl, ?_⟩) ⟨DV.out.c0, DV.out.c1, DV.out.c2, DV.out.c3⟩ ?_
      ·intro w _
       go_simp
      try simp only [Act.put]
      refine wpAnyC_takeP (i := 2) (oi := _) (v := .pointer (some ⟨g, 0, none⟩)) rfl (by kernel_rfl) (by kernel_rfl) (by kernel_rfl) (by kernel_rfl) (fun _ _ _ h => h) (Or.inl ⟨by rfl, ?_⟩) ⟨DV.out.c0, DV.out.c1, DV.out.c2, DV.out.c3⟩ ?_
      ·intro w _
       go_simp
      try simp only [Act.put]
      refine wpAnyC_take8 (i := 3) (oi := _) (v := .slice A3 nv c3) rfl (by kernel_rfl) (by kernel_rfl) (by kernel_rfl) (by kernel_rfl) (by kernel_rfl) (by kernel_rfl) (fun _ _ _ h => h) (Or.inl ⟨by rfl, ?_⟩) ⟨DV.out.c0, DV.out.c1, DV.out.c2, DV.out.c3⟩ ?_
      ·intro w hSw
       obtain ⟨s0, s1, s2, s3⟩ := hSw
       go_simp
      try simp only [Act.put]
      refine wpAnyC_takeP (i := 4) (oi := _) (v := .slice Av nv cv) rfl (by kernel_rfl) (by kernel_rfl) (by kernel_rfl) (by kernel_rfl) (fun _ _ _ h => h) (Or.inl ⟨by rfl, ?_⟩) ⟨DV.out.c0, DV.out.c1, DV.out.c2, DV.out.c3⟩ ?_
      ·intro w _
       go_simp
      try simp only [Act.put]
      refine wpAnyC_take8 (i := 5) (oi := _) (v := .agg #[.bool tb, .slice T1 t1 u1, .bool false, .slice T2 t2 u2]) rfl (by kernel_rfl) (by kernel_rfl) (by kernel_rfl) (by kernel_rfl) (by kernel_rfl) (by kernel_rfl) (fun _ _ _ h => h) (Or.inl ⟨by rfl, ?_⟩) ⟨DV.out.c0, DV.out.c1, DV.out.c2, DV.out.c3⟩ ?_
      ·intro w hSw
       obtain ⟨s0, s1, s2, s3⟩ := hSw
       go_simp
      try simp only [Act.put]
      refine wpAnyC_take8 (i := 6) (oi := _) (v := .pointer (some ⟨g, 0, none⟩)) rfl (by kernel_rfl) (by kernel_rfl) (by kernel_rfl) (by kernel_rfl) (by kernel_rfl) (by kernel_rfl) (fun _ _ _ h => h) (Or.inl ⟨by rfl, ?_⟩) ⟨DV.out.c0, DV.out.c1, DV.out.c2, DV.out.c3⟩ ?_
      ·intro w hSw
       obtain ⟨s0, s1, s2, s3⟩ := hSw
       go_simp
      try simp only [Act.put]
      refine wpAnyC_take8 (i := 7) (oi := _) (v := .pointer (some ⟨g, 0, none⟩)) rfl (by kernel_rfl) (by kernel_rfl) (by kernel_rfl) (by kernel_rfl) (by kernel_rfl) (by kernel_rfl) (fun _ _ _ h => h) (Or.inl ⟨by rfl, ?_⟩) ⟨DV.out.c0, DV.out.c1, DV.out.c2, DV.out.c3⟩ ?_
      ·intro w hSw
       obtain ⟨s0, s1, s2, s3⟩ := hSw
       go_simp
      try simp only [Act.put]
      obtain ⟨A0, c0, B0, k0_, nb1, D1, m1, j1, D2, m2, j2, vs0, us0, HK, -, -, -⟩ := (HF.out.call HB.out).ex
      have K0 := Lib.hid HK
      have OT := Lib.hid (Oth.of g HB.out)
      have HBG := Lib.hid (HB.out.mono (Nat.le_of_lt HF.out.lt))
      have HL1 := Lib.hid (HS.out.less HB5.out)
      clear HK HS HB
      have q0 := K0.out.cell 0
      have q1 := K0.out.frozen 0
      change W1.cell? ⟨g, 0, none⟩ = some (.slice A0 nv c0) at q0
      change W1.frozen? ⟨g, 0, none⟩ = false at q1
      have hkw := kw_set q0 (noWord_slice _ _ _) (.slice A3 nv c3)
      replace HL1 := Lib.hid (HL1.out.setT K0.out (by decide) (by decide) q0 (noWord_slice _ _ _) (.slice A3 nv c3))
      replace HV := Lib.hid (HV.out.setT K0.out (by decide) (by decide) q0 (noWord_slice _ _ _) (.slice A3 nv c3))
      replace DT := Lib.hid (DT.out.kw hkw)
      replace DV := Lib.hid (DV.out.oth ⟨g, 0, none⟩ (Ne.symm HGD.out) (.slice A3 nv c3))
      replace HBG := Lib.hid (HBG.out.setCell (p := ⟨g, 0, none⟩) (Nat.le_refl g) (.slice A3 nv c3))
      replace OT := Lib.hid (OT.out.set 0 (.slice A3 nv c3))
      replace K0 := Lib.hid (show Blk (W1.setCell ⟨g, 0, none⟩ (.slice A3 nv c3)) g facT #[.slice A3 nv c3, .slice B0 nv k0_, .bool nb1, .slice D1 m1 j1, .bool false, .slice D2 m2 j2] from K0.out.set_ 0 (.slice A3 nv c3))
      clear hkw
      refine wpAnyC_one (i := 8) (by kernel_rfl) rfl (fun K hK => ?_)
      go_simp
      refine hK.out _ _ (fun _ => ⟨DV.out.c0, DV.out.c1, DV.out.c2, DV.out.c3⟩) ?_
      clear hK K q0 q1
      try simp only [Act.put, List.setIfInBounds_toArray, List.set_cons_zero, List.set_cons_succ]
      generalize W1.setCell ⟨g, 0, none⟩ (.slice A3 nv c3) = W2 at *
      refine wpAnyC_take8 (i := 9) (oi := _) (v := .pointer (some ⟨g, 0, none⟩)) rfl (by kernel_rfl) (by kernel_rfl) (by kernel_rfl) (by kernel_rfl) (by kernel_rfl) (by kernel_rfl) (fun _ _ _ h => h) (Or.inl ⟨by rfl, ?_⟩) ⟨DV.out.c0, DV.out.c1, DV.out.c2, DV.out.c3⟩ ?_
      ·intro w hSw
       obtain ⟨s0, s1, s2, s3⟩ := hSw
       go_simp
      try simp only [Act.put, List.setIfInBounds_toArray]
      refine wpAnyC_take8 (i := 10) (oi := _) (v := .pointer (some ⟨g, 1, none⟩)) rfl (by kernel_rfl) (by kernel_rfl) (by kernel_rfl) (by kernel_rfl) (by kernel_rfl) (by kernel_rfl) (fun _ _ _ h => h) (Or.inl ⟨by rfl, ?_⟩) ⟨DV.out.c0, DV.out.c1, DV.out.c2, DV.out.c3⟩ ?_
      ·intro w hSw
       obtain ⟨s0, s1, s2, s3⟩ := hSw
       go_simp
      try simp only [Act.put]
      have q0 := K0.out.cell 1
      have q1 := K0.out.frozen 1
      change W2.cell? ⟨g, 1, none⟩ = some (.slice B0 nv k0_) at q0
      change W2.frozen? ⟨g, 1, none⟩ = false at q1
      have hkw := kw_set q0 (noWord_slice _ _ _) (.slice Av nv cv)
      replace HL1 := Lib.hid (HL1.out.setT K0.out (by decide) (by decide) q0 (noWord_slice _ _ _) (.slice Av nv cv))
      replace HV := Lib.hid (HV.out.setT K0.out (by decide) (by decide) q0 (noWord_slice _ _ _) (.slice Av nv cv))
      replace DT := Lib.hid (DT.out.kw hkw)
      replace DV := Lib.hid (DV.out.oth ⟨g, 1, none⟩ (Ne.symm HGD.out) (.slice Av nv cv))
      replace HBG := Lib.hid (HBG.out.setCell (p := ⟨g, 1, none⟩) (Nat.le_refl g) (.slice Av nv cv))
      replace OT := Lib.hid (OT.out.set 1 (.slice Av nv cv))
      replace K0 := Lib.hid (show Blk (W2.setCell ⟨g, 1, none⟩ (.slice Av nv cv)) g facT #[.slice A3 nv c3, .slice Av nv cv, .bool nb1, .slice D1 m1 j1, .bool false, .slice D2 m2 j2] from K0.out.set_ 1 (.slice Av nv cv))
      clear hkw
      refine wpAnyC_one (i := 11) (by kernel_rfl) rfl (fun K hK => ?_)
      go_simp
      refine hK.out _ _ (fun _ => ⟨DV.out.c0, DV.out.c1, DV.out.c2, DV.out.c3⟩) ?_
      clear hK K q0 q1
      try simp only [Act.put, List.setIfInBounds_toArray, List.set_cons_zero, List.set_cons_succ]
      generalize W2.setCell ⟨g, 1, none⟩ (.slice Av nv cv) = W3 at *
      refine wpAnyC_take8 (i := 12) (oi := _) (v := .pointer (some ⟨g, 0, none⟩)) rfl (by kernel_rfl) (by kernel_rfl) (by kernel_rfl) (by kernel_rfl) (by kernel_rfl) (by kernel_rfl) (fun _ _ _ h => h) (Or.inl ⟨by rfl, ?_⟩) ⟨DV.out.c0, DV.out.c1, DV.out.c2, DV.out.c3⟩ ?_
      ·intro w hSw
       obtain ⟨s0, s1, s2, s3⟩ := hSw
       go_simp
      try simp only [Act.put, List.setIfInBounds_toArray]
      refine wpAnyC_take8 (i := 13) (oi := _) (v := .pointer (some ⟨g, 2, none⟩)) rfl (by kernel_rfl) (by kernel_rfl) (by kernel_rfl) (by kernel_rfl) (by kernel_rfl) (by kernel_rfl) (fun _ _ _ h => h) (Or.inl ⟨by rfl, ?_⟩) ⟨DV.out.c0, DV.out.c1, DV.out.c2, DV.out.c3⟩ ?_
      ·intro w hSw
       obtain ⟨s0, s1, s2, s3⟩ := hSw
       go_simp
      try simp only [Act.put]
      have hkw := kw_put4 K0.out fac_noWord 2 (noWord_bool tb) (noWord_slice T1 t1 u1) (noWord_bool false) (u3 := .slice T2 t2 u2)
      have HFS := Lib.hid (show FS (put4 W3 g 2 (.bool tb) (.slice T1 t1 u1) (.bool false) (.slice T2 t2 u2)) base g nv SS (invQ SS nv) (detR SS nv) from ⟨HF.out.ge, A3, c3, Av, cv, tb, T1, t1, u1, T2, t2, u2, _, _, K0.out.det4 (.bool tb) (.slice T1 t1 u1) (.bool false) (.slice T2 t2 u2), put4_keep (HL1.out.less (Nat.le_trans HF.out.ge (Nat.le_of_lt HF.out.lt))) K0.out (by decide) (by decide) hkw, put4_keep (HV.out.less (Nat.le_trans HF.out.ge (Nat.le_of_lt HF.out.lt))) K0.out (by decide) (by decide) hkw, DT.out.kw hkw⟩)
      replace HBG := Lib.hid (put4_below (o := 2) HBG.out (Nat.le_refl g) (.bool tb) (.slice T1 t1 u1) (.bool false) (.slice T2 t2 u2))
      replace OT := Lib.hid (OT.out.put 2 (.bool tb) (.slice T1 t1 u1) (.bool false) (.slice T2 t2 u2))
      unfold put4 at HFS HBG OT
      have z0 := K0.out.cell 2
      have r0 := K0.out.frozen 2
      change W3.cell? ⟨g, 2, none⟩ = some (.bool nb1) at z0
      change W3.frozen? ⟨g, 2, none⟩ = false at r0
      have z1 := K0.out.cell 3
      have r1 := K0.out.frozen 3
      change W3.cell? ⟨g, 3, none⟩ = some (.slice D1 m1 j1) at z1
      change W3.frozen? ⟨g, 3, none⟩ = false at r1
      have z2 := K0.out.cell 4
      have r2 := K0.out.frozen 4
      change W3.cell? ⟨g, 4, none⟩ = some (.bool false) at z2
      change W3.frozen? ⟨g, 4, none⟩ = false at r2
      have z3 := K0.out.cell 5
      have r3 := K0.out.frozen 5
      change W3.cell? ⟨g, 5, none⟩ = some (.slice D2 m2 j2) at z3
      change W3.frozen? ⟨g, 5, none⟩ = false at r3
      clear hkw HL1 HV DT K0
      refine wpAnyC_one (i := 14) (by kernel_rfl) rfl (fun K hK => ?_)
      go_simp
      refine hK.out _ _ (fun h => absurd h (by decide)) ?_
      clear hK K z0 z1 z2 z3 r0 r1 r2 r3
      refine wpAnyC_done (by kernel_rfl) ?_ _
      go_wp2
      go_ret
      refine ⟨by rw [HE.out]; rfl, fun k => absurd HE.out k, fun _ => ?_, HBG.out, OT.out⟩
      rw [HX.out, HY.out, HSE.out]
      exact HFS.out
  ·have HE := Lib.hid (show updT M n (tx1 bu) (tx1 bv) = fchk n (tx1 bv) by rw [updT, if_neg (fun k => k E1.out), if_pos e2])
   have tc := bad_of e2
   have HN := Lib.hid e2
   clear e2 E1
   generalize fchk n (tx1 bv) = cc at *
   go_wp2
   go_ret
   exact RetUpd.err HE.out HN.out HF.out HB.out
 ·have HE := Lib.hid (show updT M n (tx1 bu) (tx1 bv) = fchk n (tx1 bu) by rw [updT, if_pos e1])
  have tc := bad_of e1
  have HN := Lib.hid e1
  clear e1 HUP
  generalize fchk n (tx1 bu) = cc at *
  go_wp2
  go_ret
  exact RetUpd.err HE.out HN.out HF.out HB.out
end Go.Proofs.YtgecdcjfncfmcaaGreatDoor
namespace Go.Proofs.YtgecdcjfncfmcaaGreatDoor
open Go.RowKit

theorem svN (w : World) (t : TypeId) (l : List ByteArray) : SV (w.alloc (.cells (l.map Sv).toArray t)) (some ⟨w.heap.size, 0, none⟩) l.length l := by
 have := reads_lits w t (l.map Sv)
 unfold SV
 rw [World.size_alloc]
 rw [List.length_map] at this
 exact this
theorem small_h5 {m : List (List ByteArray)} {n : Nat} (hs : smallB 5 (tx2 m) = true) (hn : m.length = n) : squareT (tx2 m) = 0 → n ≤ 5 ∧ ∀ r ∈ valsM (tx2 m), ∀ x ∈ r, FitR 14 x := fun h => by
 refine ⟨?_, fun r hr x hx => (small_fit hs (square_ok h).2.2 r hr x hx).mono (by omega)⟩
 have := (small_len hs).1
 rw [tx2, List.length_map] at this
 omega
theorem matL1 (w : World) (a00 : ByteArray) : SMat ((w.alloc (.cells #[.string a00] strT)).alloc (.cells #[.slice (some ⟨w.heap.size, 0, none⟩) 1 1] vecT)) (some ⟨w.heap.size + 1, 0, none⟩) 1 [[a00]] ∧ Below w.heap.size w ((w.alloc (.cells #[.string a00] strT)).alloc (.cells #[.slice (some ⟨w.heap.size, 0, none⟩) 1 1] vecT)) := by
 have h0 : SV (w.alloc (.cells #[.string a00] strT)) (some ⟨w.heap.size, 0, none⟩) 1 [a00] := by
  have h := svN w strT [a00]
  exact h
 replace h0 : SV ((w.alloc (.cells #[.string a00] strT)).alloc (.cells #[.slice (some ⟨w.heap.size, 0, none⟩) 1 1] vecT)) (some ⟨w.heap.size, 0, none⟩) 1 [a00] := h0.below (below_new _ _)
 have hr := reads_lits (w.alloc (.cells #[.string a00] strT)) vecT [.slice (some ⟨w.heap.size, 0, none⟩) 1 1]
 simp only [World.size_alloc] at hr
 refine ⟨⟨[.slice (some ⟨w.heap.size, 0, none⟩) 1 1], ?_, rfl, fun i u l hu hl => ?_⟩, ((Below.refl _ _).alloc (Nat.le_refl _) _).alloc (by simp; try omega) _⟩
 ·simp only [World.size_alloc]
  exact hr
 ·match i with
  | 0 =>
   simp at hu hl
   subst hu hl
   exact ss_of h0
  | i + 1 => simp at hl
/-- texts stay where only another block changes -/
theorem SV.oth {w w' : World} {g n : Nat} {A : Option Addr} {l : List ByteArray} {t : TypeId} {cs : Array Value} (h : SV w A n l) (hB : Blk w g t cs) (hk : ∀ u ∈ cs.toList, ∀ s, u ≠ Sv s) (ho : Oth g w w') : SV w' A n l := by
 refine ⟨h.1, fun hn => ?_⟩
 obtain ⟨b, off, e, hb, hc⟩ := h.2 hn
 refine ⟨b, off, e, Nat.lt_of_lt_of_le hb ho.1, fun j u hu => ?_⟩
 have h1 := hc j u hu
 have hne : b ≠ g := by
  rintro rfl
  rw [hB.cell] at h1
  obtain ⟨s, _, rfl⟩ := List.mem_map.1 (List.mem_of_getElem? hu)
  exact hk _ (Array.mem_toList_iff.2 (Array.mem_of_getElem? h1)) s rfl
 rw [World.cell?_of_block (ho.2 b hb hne)]
 exact h1
theorem fac_noStr {A B C D : Option Addr} {n c k l a b e f : Nat} {p q : Bool} : ∀ u ∈ (#[Value.slice A n c, .slice B k l, .bool p, .slice C a b, .bool q, .slice D e f] : Array Value).toList, ∀ s, u ≠ Sv s := by
 intro u hu s
 simp only [List.mem_cons, List.not_mem_nil, or_false] at hu
 rcases hu with rfl | rfl | rfl | rfl | rfl | rfl <;> (intro h; cases h)
theorem SV.fac {w w' : World} {base g m n : Nat} {M V : MQ} {d : Rat} {A : Option Addr} {l : List ByteArray} (h : SV w A n l) (hF : FS w base g m M V d) (ho : Oth g w w') : SV w' A n l := by
 obtain ⟨_, _, _, _, _, _, _, _, _, _, _, _, _, h1, _⟩ := hF.ex
 exact h.oth h1 fac_noStr ho
def ff2 : List (List ByteArray) := [[⟨#[50]⟩]]
def ff5 : List (List ByteArray) := [[⟨#[53]⟩]]
theorem ff_new : newT (tx2 ff2) = 0 := by decide +kernel
theorem ff_vals : valsM (tx2 ff2) = [[2]] := by decide +kernel
theorem ff_inv : invQ [[2]] 1 = [[1 / 2]] := by decide +kernel
theorem ff_det : detR [[2]] 1 = 2 := by decide +kernel
theorem ff_sol : fsolT [[1 / 2]] 1 (tx1 [⟨#[51]⟩]) = (tx1 [⟨#[51, 47, 50]⟩], 0) := by decide +kernel
theorem ff_up : updT [[2]] 1 (tx1 [⟨#[49]⟩]) (tx1 [⟨#[51]⟩]) = 0 := by decide +kernel
theorem ff_add : addOut [[2]] (valsV (tx1 [⟨#[49]⟩])) (valsV (tx1 [⟨#[51]⟩])) = [[5]] := by decide +kernel
theorem ff_inv5 : invQ [[5]] 1 = [[1 / 5]] := by decide +kernel
theorem ff_det5 : detR [[5]] 1 = 5 := by decide +kernel
theorem ff_txt5 : txM [[5]] = (tx2 ff5, 0) := by decide +kernel
theorem ff_q5 : qText 5 = [53] := by decide +kernel
theorem ff_up0 : updT [[5]] 1 (tx1 [⟨#[49]⟩]) (tx1 [⟨#[45, 53]⟩]) = 10 := by decide +kernel
theorem ff_add0 : addOut [[5]] (valsV (tx1 [⟨#[49]⟩])) (valsV (tx1 [⟨#[45, 53]⟩])) = [[0]] := by decide +kernel
theorem ff_det0 : detR [[0]] 1 = 0 := by decide +kernel
theorem rect11 (q : Rat) : Rect [[q]] 1 1 := ⟨rfl, fun r hr => by obtain rfl := List.mem_singleton.1 hr; rfl⟩
theorem ff_fit (q : Rat) (h : (q.num.natAbs : Int) < P32 14 ∧ ((q.den : Int).natAbs : Int) < P32 14) : ∀ r ∈ [[q]], ∀ x ∈ r, FitR 14 x := fun r hr x hx => by
 obtain rfl := List.mem_singleton.1 hr
 obtain rfl := List.mem_singleton.1 hx
 exact ⟨h.1, h.2⟩
theorem ff_upd : UpdFit [[2]] 1 (valsV (tx1 [⟨#[49]⟩])) (valsV (tx1 [⟨#[51]⟩])) := by
 refine ⟨by decide, ?_, ?_, fun _ => ?_, ?_⟩ <;> rw [ff_add]
 ·exact ff_fit 5 (by decide +kernel)
 ·decide +kernel
 ·rw [ff_inv5]; decide +kernel
 ·rw [ff_det5]; decide +kernel
theorem ff_upd0 : UpdFit [[5]] 1 (valsV (tx1 [⟨#[49]⟩])) (valsV (tx1 [⟨#[45, 53]⟩])) := by
 refine ⟨by decide, ?_, ?_, fun k => ?_, ?_⟩ <;> rw [ff_add0] at *
 ·exact ff_fit 0 (by decide +kernel)
 ·decide +kernel
 ·exact absurd ((inv_det k.rect).2 (show det 1 (at2 [[0]]) = 0 by decide +kernel)) k.full
 ·rw [ff_det0]; decide +kernel
set_option maxRecDepth 100000 in
set_option maxHeartbeats 8000000 in
theorem factorFact_any (w : World) (htab : Tab w) : Calls Tryz.prog 29 #[] w fun e w' => e = .returned (.bool true) ∧ Below w.heap.size w w' := by
 have HTB := Lib.hid htab
 clear htab
 have HB := Lib.hid (Below.refl w.heap.size w)
 go_enter Tryz.func29, Tryz.ntmps29
 obtain ⟨hq, hb⟩ := matL1 w ⟨#[50]⟩
 replace HB := Lib.hid (HB.out.trans (hb.mono HB.out.size))
 have Hq := Lib.hid hq
 clear hq hb
 unfold strT vecT at *
 have HC := Lib.hid (fnew_any ff2 1 _ 1 _ Hq.out (sh2_of (by decide)) (tab_below HTB.out HB.out) (small_h5 (by decide +kernel) rfl))
 go_wp2_with fail
 refine HC.out.mono ?_
 rintro e w1 ⟨-, hn, hb⟩
 obtain ⟨g, rfl, hf⟩ := hn ff_new
 clear HC hn Hq
 rw [show (tx2 ff2).length = 1 from rfl, ff_vals, ff_inv, ff_det] at hf
 have HG := Lib.hid (Nat.le_trans HB.out.size hf.ge)
 have HF := Lib.hid (hf.less (Nat.zero_le _))
 clear hf
 replace HB := Lib.hid (HB.out.trans (hb.mono HB.out.size))
 clear hb
 have hv := svN w1 strT [⟨#[51]⟩]
 have hb := below_new w1 (.cells ([⟨#[51]⟩].map Sv).toArray strT)
 replace HB := Lib.hid (HB.out.trans (hb.mono HB.out.size))
 replace HF := Lib.hid (HF.out.call hb)
 clear hb
 simp only [List.map_cons, List.map_nil] at hv
 unfold strT at *
 have HC := Lib.hid (fsolve_any g 1 [[2]] [[1 / 2]] 2 0 _ HF.out [⟨#[51]⟩] 1 _ 1 hv (sh1_of (by decide)) (rect11 _) (fit_all (by decide +kernel)) (by omega) (tab_below HTB.out HB.out))
 clear hv
 go_wp2_with fail
 refine HC.out.mono ?_
 rintro e w2 h
 clear HC
 obtain ⟨Ax, nx, cx, rfl, hx, hxn, hb⟩ := h.lit ff_sol
 clear h
 replace HB := Lib.hid (HB.out.trans (hb.mono HB.out.size))
 replace HF := Lib.hid (HF.out.call hb)
 have Hx := Lib.hid hx
 have hx2 : nx = 1 := hxn.symm
 subst hx2
 clear hx hxn hb
 have hu := svN w2 strT [⟨#[49]⟩]
 have hb := below_new w2 (.cells ([⟨#[49]⟩].map Sv).toArray strT)
 replace HB := Lib.hid (HB.out.trans (hb.mono HB.out.size))
 replace HF := Lib.hid (HF.out.call hb)
 replace Hx := Lib.hid (Hx.out.below hb)
 clear hb
 have hv := svN (w2.alloc (.cells ([⟨#[49]⟩].map Sv).toArray strT)) strT [⟨#[51]⟩]
 have hb := below_new (w2.alloc (.cells ([⟨#[49]⟩].map Sv).toArray strT)) (.cells ([⟨#[51]⟩].map Sv).toArray strT)
 replace hu := hu.below hb
 replace HB := Lib.hid (HB.out.trans (hb.mono HB.out.size))
 replace HF := Lib.hid (HF.out.call hb)
 replace Hx := Lib.hid (Hx.out.below hb)
 clear hb
 simp only [List.map_cons, List.map_nil, World.size_alloc] at hu hv
 unfold strT at *
 have HC := Lib.hid (fupdate_any g 1 [[2]] [[1 / 2]] 2 0 _ HF.out [⟨#[49]⟩] 1 _ 1 hu (sh1_of (by decide)) [⟨#[51]⟩] 1 _ 1 hv (sh1_of (by decide)) (rect11 _) (fit_all (by decide +kernel)) (fun _ _ => ff_upd) (tab_below HTB.out HB.out))
 clear hu hv
 go_wp2_with fail
 refine HC.out.mono ?_
 rintro e w3 ⟨h1, h2, h3, hb, ho⟩
 clear HC
 rw [ff_up] at h1
 have hf := h3 ff_up
 obtain rfl := h1
 rw [ff_add, ff_inv5, ff_det5] at hf
 replace Hx := Lib.hid (Hx.out.fac HF.out ho)
 replace HF := Lib.hid hf
 replace HB := Lib.hid (HB.out.trans (hb.mono HG.out))
 clear h2 h3 hb ho hf
 have HC := Lib.hid (fmatrix_any g 1 [[5]] [[1 / 5]] 5 0 w3 HF.out (rect11 _) (by omega) (tab_below HTB.out HB.out))
 rw [ff_txt5] at HC
 go_wp2_with fail
 refine HC.out.mono ?_
 rintro e w4 ⟨Am, nm, cm, m4, rfl, hm, hm2, hm3, hb⟩
 clear HC
 obtain rfl := tx2_inj hm2
 replace HB := Lib.hid (HB.out.trans (hb.mono HB.out.size))
 replace HF := Lib.hid (HF.out.call hb)
 replace Hx := Lib.hid (Hx.out.below hb)
 have Hm := Lib.hid hm
 have hm4 : nm = 1 := by obtain ⟨_, _, h, _⟩ := hm; exact h.symm
 subst hm4
 clear hm hm2 hm3 hb
 have HC := Lib.hid (fdet_any g 1 [[5]] [[1 / 5]] 5 0 w4 HF.out (by decide +kernel) (tab_below HTB.out HB.out))
 go_wp2_with fail
 refine HC.out.mono ?_
 rintro e w5 ⟨rfl, hb⟩
 clear HC
 rw [ff_q5]
 replace HB := Lib.hid (HB.out.trans (hb.mono HB.out.size))
 replace HF := Lib.hid (HF.out.call hb)
 replace Hx := Lib.hid (Hx.out.below hb)
 replace Hm := Lib.hid (Hm.out.below hb)
 clear hb
 have HX := Lib.hid (fine_any [0, 0, 0, 0] 4 (some ⟨w5.heap.size, 0, none⟩) 4 (w5.alloc (.cells #[I 0, I 0, I 0, I 0] 34)) _ (reads_lits w5 _ [I 0, I 0, I 0, I 0]) (by omega))
 rw [show fineB [0, 0, 0, 0] = true from rfl] at HX
 have hb := below_new w5 (.cells #[I 0, I 0, I 0, I 0] 34)
 replace HB := Lib.hid (HB.out.trans (hb.mono HB.out.size))
 replace HF := Lib.hid (HF.out.call hb)
 replace Hx := Lib.hid (Hx.out.below hb)
 replace Hm := Lib.hid (Hm.out.below hb)
 clear hb
 go_wp2_with fail
 refine HX.out.mono ?_
 rintro e w6 ⟨rfl, rfl⟩
 clear HX
 generalize w5.alloc (.cells #[I 0, I 0, I 0, I 0] 34) = w6 at *
 have hv := svN w6 strT [⟨#[51, 47, 50]⟩]
 have hb := below_new w6 (.cells ([⟨#[51, 47, 50]⟩].map Sv).toArray strT)
 replace HB := Lib.hid (HB.out.trans (hb.mono HB.out.size))
 replace HF := Lib.hid (HF.out.call hb)
 replace Hx := Lib.hid (Hx.out.below hb)
 replace Hm := Lib.hid (Hm.out.below hb)
 clear hb
 simp only [List.map_cons, List.map_nil] at hv
 unfold strT at *
 have HC := Lib.hid (equalV_any [⟨#[51, 47, 50]⟩] [⟨#[51, 47, 50]⟩] 1 1 Ax _ cx 1 _ Hx.out hv (by decide))
 go_wp2_with fail
 refine HC.out.mono ?_
 rintro e w7 ⟨rfl, hb⟩
 clear HC
 simp only [decide_true]
 replace HB := Lib.hid (HB.out.trans (hb.mono HB.out.size))
 replace HF := Lib.hid (HF.out.call hb)
 replace Hx := Lib.hid (Hx.out.below hb)
 replace Hm := Lib.hid (Hm.out.below hb)
 clear hb
 clear hv Hx
 obtain ⟨hq, hb⟩ := matL1 w7 ⟨#[53]⟩
 replace HB := Lib.hid (HB.out.trans (hb.mono HB.out.size))
 replace HF := Lib.hid (HF.out.call hb)
 replace Hm := Lib.hid (Hm.out.below hb)
 have Hq := Lib.hid hq
 clear hq hb
 unfold strT vecT at *
 have HC := Lib.hid (same_any ff5 ff5 1 1 Am _ cm 1 _ Hm.out Hq.out (by decide) (by decide))
 go_wp2_with fail
 refine HC.out.mono ?_
 rintro e w8 ⟨rfl, hb⟩
 clear HC
 simp only [decide_true]
 replace HB := Lib.hid (HB.out.trans (hb.mono HB.out.size))
 replace HF := Lib.hid (HF.out.call hb)
 replace Hm := Lib.hid (Hm.out.below hb)
 clear hb
 clear Hq Hm
 have HC := Lib.hid (fside_any g 1 [[5]] [[1 / 5]] 5 0 w8 HF.out)
 go_wp2_with fail
 refine HC.out.mono ?_
 rintro e w9 ⟨rfl, rfl⟩
 clear HC
 skip
 have hu := svN w9 strT [⟨#[49]⟩]
 have hb := below_new w9 (.cells ([⟨#[49]⟩].map Sv).toArray strT)
 replace HB := Lib.hid (HB.out.trans (hb.mono HB.out.size))
 replace HF := Lib.hid (HF.out.call hb)
 clear hb
 have hv := svN (w9.alloc (.cells ([⟨#[49]⟩].map Sv).toArray strT)) strT [⟨#[45, 53]⟩]
 have hb := below_new (w9.alloc (.cells ([⟨#[49]⟩].map Sv).toArray strT)) (.cells ([⟨#[45, 53]⟩].map Sv).toArray strT)
 replace hu := hu.below hb
 replace HB := Lib.hid (HB.out.trans (hb.mono HB.out.size))
 replace HF := Lib.hid (HF.out.call hb)
 clear hb
 simp only [List.map_cons, List.map_nil, World.size_alloc] at hu hv
 unfold strT at *
 have HC := Lib.hid (fupdate_any g 1 [[5]] [[1 / 5]] 5 0 _ HF.out [⟨#[49]⟩] 1 _ 1 hu (sh1_of (by decide)) [⟨#[45, 53]⟩] 1 _ 1 hv (sh1_of (by decide)) (rect11 _) (fit_all (by decide +kernel)) (fun _ _ => ff_upd0) (tab_below HTB.out HB.out))
 clear hu hv
 go_wp2_with fail
 refine HC.out.mono ?_
 rintro e w10 ⟨h1, h2, h3, hb, ho⟩
 clear HC
 rw [ff_up0] at h1
 obtain rfl := h1
 replace HB := Lib.hid (HB.out.trans (hb.mono HG.out))
 clear h2 h3 hb ho
 go_wp2
 go_ret
 exact ⟨rfl, HB.out⟩
end Go.Proofs.YtgecdcjfncfmcaaGreatDoor
