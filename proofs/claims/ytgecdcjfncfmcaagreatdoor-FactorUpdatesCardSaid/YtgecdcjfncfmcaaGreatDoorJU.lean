/- matrix.Mul. -/
import Derived.Test.YtgecdcjfncfmcaaGreatDoorJT
import Derived.Test.YtgecdcjfncfmcaaGreatDoorJS
import Derived.Test.YtgecdcjfncfmcaaGreatDoorJR
import Derived.Test.YtgecdcjfncfmcaaGreatDoorJP
namespace Go.Proofs.YtgecdcjfncfmcaaGreatDoor
open Go.RowKit

/-! ### sizes -/
theorem fitR_add {N M : Nat} {x y : Rat} (hx : FitR N x) (hy : FitR M y) : FitR (N + M + 1) (x + y) := by
  have h := divInt_add x y
  have h1 := divInt_le (x.num * (y.den : Int) + y.num * (x.den : Int)) ((x.den : Int) * (y.den : Int))
  rw [h] at h1
  have f1 := (hx.1.mul hy.2).add (show Fits (N + M) (y.num * (x.den : Int)) by rw [Nat.add_comm]; exact hy.1.mul hx.2)
  have f2 := (hx.2.mul hy.2).mono (show N + M ≤ N + M + 1 by omega)
  unfold FitR Fits at *
  have hd : (1 : Int) ≤ ((x.den : Int) * (y.den : Int)).natAbs := by
    have := mul_ne (den_ne x) (den_ne y)
    omega
  exact ⟨by omega, by omega⟩
theorem fitR_zero : FitR 1 0 := ⟨fits_zero 1, by unfold Fits; decide⟩
theorem fitR_sum {N : Nat} {f : Nat → Rat} : ∀ (n : Nat), (∀ i, i < n → FitR N (f i)) → FitR (n * (N + 1) + 1) (sm n f)
  | 0, _ => fitR_zero.mono (by omega)
  | n + 1, h => by
    rw [sm]
    exact (fitR_add (fitR_sum n fun i hi => h i (by omega)) (h n (by omega))).mono (by rw [Nat.succ_mul]; omega)
theorem dotFit_gen {N M K : Nat} {a b : List Rat} (hl : a.length ≤ K) (hM : K * (N + N + 1) + 1 ≤ M) (hN : N ≤ M) (ha : ∀ i, i < a.length → FitR N (a.getD i 0)) (hb : ∀ i, i < a.length → FitR N (b.getD i 0)) : DotFit M a b :=
  ⟨fun i hi => (ha i hi).mono hN, fun i hi => (hb i hi).mono hN, fun k hk => (fitR_sum k fun i hi => fitR_mul (ha i (by omega)) (hb i (by omega))).mono
    (Nat.le_trans (Nat.add_le_add_right (Nat.mul_le_mul_right _ (Nat.le_trans hk hl)) 1) hM)⟩
/-- all numbers of a row have at most 210 words -/
def Fit1 (l : List Rat) : Prop := ∀ q ∈ l, FitR 210 q
def Fit2 (m : List (List Rat)) : Prop := ∀ r ∈ m, Fit1 r
theorem Fit1.at_ {l : List Rat} (h : Fit1 l) (i : Nat) : FitR 210 (l.getD i 0) := by
  rw [List.getD_eq_getElem?_getD]
  cases e : l[i]? with
  | none => exact fitR_zero.mono (by decide)
  | some q => exact h q (List.mem_of_getElem? e)
theorem Fit2.at_ {m : List (List Rat)} (h : Fit2 m) (i : Nat) : Fit1 (m.getD i []) := by
  rw [List.getD_eq_getElem?_getD]
  cases e : m[i]? with
  | none => intro q hq; cases hq
  | some q => exact h q (List.mem_of_getElem? e)
theorem fit_vals1 {l : List (List UInt8)} (h : ∀ s ∈ l, rchk s = 0) : Fit1 (valsV l) := by
  intro q hq
  obtain ⟨s, hs, rfl⟩ := List.mem_map.1 hq
  exact val_fit (rchk_val s (h s hs))
theorem fit_vals2 {m : MT} {n k : Nat} (h : VM m n k) : Fit2 (valsM m) := by
  intro r hr
  obtain ⟨l, hl, rfl⟩ := List.mem_map.1 hr
  exact fit_vals1 (h.ok l hl)
theorem fit_tr {m : List (List Rat)} (h : Fit2 m) (k : Nat) : Fit2 (trQ m k) := by
  intro r hr
  obtain ⟨j, _, rfl⟩ := List.mem_map.1 hr
  intro q hq
  obtain ⟨s, hs, rfl⟩ := List.mem_map.1 hq
  exact (h s hs).at_ j
theorem val2_of {m : List (List ByteArray)} {n k : Nat} (h : VM (tx2 m) n k) : Val2 m := by
  intro l hl
  have hm : tx1 l ∈ tx2 m := List.mem_map.2 ⟨l, hl, rfl⟩
  refine ⟨fun s hs => h.ok _ hm _ (List.mem_map.2 ⟨s, hs, rfl⟩), ?_⟩
  have h1 := h.rect.row _ hm
  rw [tx1, List.length_map] at h1
  rcases h.hk with h2 | h2
  · omega
  · have := h.rect.len
    rw [h2] at this
    rw [List.eq_nil_of_length_eq_zero this] at hm
    cases hm
theorem firstE2 (a b : Int) : firstE [a, b] = if a ≠ 0 then a else b := by
  simp only [firstE]
  split
  · rfl
  · split
    · rfl
    · rename_i h; exact (Decidable.not_not.1 h).symm
theorem wdQ_vals (m : MT) : wdQ (valsM m) = wd m := by
  cases m with
  | nil => rfl
  | cons r m => simp [wdQ, valsM, valsV, wd]
/-- a product in the making: i rows are laid, and k numbers of row i -/
def rowsP (m : List (List Rat)) (i k : Nat) : List (List Rat) := (List.range m.length).map fun r => if r < i then m.getD r [] else if r = i then (m.getD i []).take k else []
theorem rowsP_len (m : List (List Rat)) (i k : Nat) : (rowsP m i k).length = m.length := by simp [rowsP]
theorem rowsP_get (m : List (List Rat)) {i : Nat} (k : Nat) (hi : i < m.length) : (rowsP m i k)[i]? = some ((m.getD i []).take k) := by
  unfold rowsP
  rw [List.getElem?_map, List.getElem?_range hi, Option.map_some, if_neg (by omega), if_pos rfl]
theorem rowsP_set (m : List (List Rat)) {i k : Nat} (hi : i < m.length) {q : Rat} (hq : (m.getD i [])[k]? = some q) : (rowsP m i k).set i ((m.getD i []).take k ++ [q]) = rowsP m i (k + 1) := by
  apply List.ext_getElem?
  intro j
  by_cases hj : j = i
  · subst hj
    rw [List.getElem?_set_self (by rw [rowsP_len]; exact hi), rowsP_get m _ hi, List.take_add_one, hq]
    rfl
  · rw [List.getElem?_set_ne (Ne.symm hj)]
    unfold rowsP
    rw [List.getElem?_map, List.getElem?_map]
    by_cases h : j < m.length
    · rw [List.getElem?_range h, Option.map_some, Option.map_some, if_neg hj, if_neg hj]
    · rw [List.getElem?_eq_none (by simp; omega)]
      rfl
theorem rowsP_next (m : List (List Rat)) {i k : Nat} (hk : (m.getD i []).length ≤ k) : rowsP m i k = rowsP m (i + 1) 0 := by
  unfold rowsP
  refine List.map_congr_left fun r hr => ?_
  by_cases h1 : r < i
  · rw [if_pos h1, if_pos (by omega)]
  · by_cases h2 : r = i
    · rw [if_neg h1, if_pos h2, if_pos (by omega), List.take_of_length_le hk, h2]
    · rw [if_neg h1, if_neg h2, if_neg (by omega)]
      split
      · rw [List.take_zero]
      · rfl
theorem rowsP_start (m : List (List Rat)) : rowsP m 0 0 = List.replicate m.length [] := by
  apply List.ext_getElem
  · simp [rowsP]
  · intro j h1 h2
    simp [rowsP]
theorem rowsP_end (m : List (List Rat)) : rowsP m m.length 0 = m := by
  apply List.ext_getElem
  · simp [rowsP]
  · intro j h1 h2
    simp [rowsP, h2]
theorem reads_e2 (w : World) (t : TypeId) (a b : Int) : Reads (w.alloc (.cells #[I a, I b] t)) (w.alloc (.cells #[I a, I b] t)).heap.size 1 (some ⟨w.heap.size, 0, none⟩) 2 ([a, b].map I) := by
  have := reads_lits w t ([a, b].map I)
  rw [World.size_alloc]
  exact this
abbrev errT : TypeId := 34
theorem err2_first (a b : Int) (r : MT × Int) (h : firstE [a, b] ≠ 0) : err2 a b r = ([], firstE [a, b]) := by
  rw [firstE2] at h ⊢
  unfold err2
  by_cases ha : a ≠ 0
  · rw [if_pos ha, if_pos ha]
  · rw [if_neg ha] at h ⊢
    rw [if_neg ha, if_pos h]
theorem first_zero {a b : Int} (h : firstE [a, b] = 0) : a = 0 ∧ b = 0 := by
  rw [firstE2] at h
  split at h
  · rename_i h1; exact absurd h h1
  · rename_i h1; exact ⟨Decidable.not_not.1 h1, h⟩
/-- the loops of a product: the factors as they are read, the product in the making -/
structure MulC (w : World) (A B : Option Addr) (n k l : Nat) (x y : List (List Rat)) : Prop where
  rx : RM w A n x
  ry : RM w B k y
  lx : Rect x n l
  ly : Rect y k l
  fx : Fit2 x
  fy : Fit2 y
  hn : n ≤ 40
  hk : k ≤ 40
  hl : l ≤ 40
def prodQ (x y : List (List Rat)) : List (List Rat) := x.map fun r => y.map fun c => dotQ r c
theorem prodQ_row {x y : List (List Rat)} {i : Nat} (hi : i < x.length) : (prodQ x y).getD i [] = y.map fun c => dotQ (x.getD i []) c := by
  unfold prodQ
  rw [List.getD_eq_getElem?_getD, List.getD_eq_getElem?_getD, List.getElem?_map, List.getElem?_eq_getElem hi]
  rfl
set_option maxRecDepth 100000 in
set_option maxHeartbeats 4000000 in
theorem mul_bad1 (a b : List (List ByteArray)) (na nb : Nat) (A B : Option Addr) (ca cb : Nat) (w : World) (ha : SMat w A na a) (hb : SMat w B nb b) (sa : Sh2 a) (sb : Sh2 b) (htab : Tab w) (h0 : firstE [chkM (tx2 a), chkM (tx2 b)] ≠ 0) :
    Calls Tryz.prog 44 #[.slice A na ca, .slice B nb cb] w (RetMT w (mulM (tx2 a) (tx2 b))) := by
  have HCA := Lib.hid (chkM_any a na A ca w ha sa htab)
  have HB := Lib.hid hb
  have HTB := Lib.hid htab
  have HSB := Lib.hid sb
  have HE := Lib.hid (err2_first (chkM (tx2 a)) (chkM (tx2 b)) (if wd (tx2 a) ≠ (tx2 b).length then ([], 3) else txM (mulQ (valsM (tx2 a)) (valsM (tx2 b)) (wd (tx2 b)))) h0)
  clear ha hb htab sa sb
  go_enter Tryz.func44, Tryz.ntmps44
  go_wp2_with fail
  refine HCA.out.mono ?_
  rintro e w1 ⟨rfl, hb1⟩
  have HB1 := Lib.hid hb1
  have HCB := Lib.hid (chkM_any b nb B cb w1 (HB.out.below hb1) HSB.out (tab_below HTB.out hb1))
  clear hb1 HCA HB
  go_wp2_with fail
  refine HCB.out.mono ?_
  rintro e w2 ⟨rfl, hb2⟩
  have HB2 := Lib.hid (HB1.out.trans (hb2.mono HB1.out.size))
  have HF := Lib.hid (first_any [chkM (tx2 a), chkM (tx2 b)] 2 (some ⟨w2.heap.size, 0, none⟩) 2 (w2.alloc (.cells #[I (chkM (tx2 a)), I (chkM (tx2 b))] errT)) (reads_e2 w2 errT _ _) (by omega))
  have HB3 := Lib.hid (HB2.out.alloc HB2.out.size (.cells #[I (chkM (tx2 a)), I (chkM (tx2 b))] errT))
  have tc : (firstE [chkM (tx2 a), chkM (tx2 b)] != 0) = true := bne_iff_ne.2 h0
  have HQ := Lib.hid (RetMT.none_ (w := w) (r := mulM (tx2 a) (tx2 b)) HE.out HB3.out)
  unfold errT at *
  clear hb2 HB1 HB2 HCB h0 HE
  generalize firstE [chkM (tx2 a), chkM (tx2 b)] = fe at *
  go_wp2_with fail
  refine HF.out.mono ?_
  rintro e w3 ⟨rfl, rfl⟩
  clear HF
  go_wp2
  go_ret2
  exact HQ.out
set_option maxRecDepth 100000 in
set_option maxHeartbeats 4000000 in
theorem mul_good (a b : List (List ByteArray)) (na nb : Nat) (A B : Option Addr) (ca cb : Nat) (w : World) (ha : SMat w A na a) (hb : SMat w B nb b) (sa : Sh2 a) (sb : Sh2 b) (htab : Tab w) (h1 : chkM (tx2 a) = 0) (h2 : chkM (tx2 b) = 0) :
    Calls Tryz.prog 44 #[.slice A na ca, .slice B nb cb] w (RetMT w (mulM (tx2 a) (tx2 b))) := by
  have la : a.length = na := by obtain ⟨_, _, h, _⟩ := ha; exact h
  have lb : b.length = nb := by obtain ⟨_, _, h, _⟩ := hb; exact h
  have va := chkM_ok h1
  have vb := chkM_ok h2
  have hna : na ≤ 40 := by have := va.hn; simp [tx2] at this; omega
  have hnb : nb ≤ 40 := by have := vb.hn; simp [tx2] at this; omega
  have HCA := Lib.hid (chkM_any a na A ca w ha sa htab)
  rw [h1] at HCA
  have HA := Lib.hid ha
  have HB := Lib.hid hb
  have HTB := Lib.hid htab
  have HSA := Lib.hid sa
  have HSB := Lib.hid sb
  have VA := Lib.hid va
  have VB := Lib.hid vb
  have LA := Lib.hid (show (tx2 a).length = na by rw [tx2, List.length_map, la])
  have LB := Lib.hid (show (tx2 b).length = nb by rw [tx2, List.length_map, lb])
  have H1 := Lib.hid h1
  have H2 := Lib.hid h2
  clear ha hb htab sa sb va vb h1 h2 la lb
  go_enter Tryz.func44, Tryz.ntmps44
  go_wp2_with fail
  refine HCA.out.mono ?_
  rintro e w1 ⟨rfl, hb1⟩
  have HB1 := Lib.hid hb1
  have hcb := chkM_any b nb B cb w1 (HB.out.below hb1) HSB.out (tab_below HTB.out hb1)
  rw [H2.out] at hcb
  have HCB := Lib.hid hcb
  clear hb1 HCA hcb
  go_wp2_with fail
  refine HCB.out.mono ?_
  rintro e w2 ⟨rfl, hb2⟩
  have HB2 := Lib.hid (HB1.out.trans (hb2.mono HB1.out.size))
  have HF := Lib.hid (first_any [0, 0] 2 (some ⟨w2.heap.size, 0, none⟩) 2 (w2.alloc (.cells #[I 0, I 0] errT)) (reads_e2 w2 errT _ _) (by omega))
  rw [show firstE [0, 0] = 0 from rfl] at HF
  have HB3 := Lib.hid (HB2.out.alloc HB2.out.size (.cells #[I 0, I 0] errT))
  unfold errT at *
  clear hb2 HB1 HB2 HCB
  go_wp2_with fail
  refine HF.out.mono ?_
  rintro e w3 ⟨rfl, rfl⟩
  generalize w2.alloc (.cells #[I 0, I 0] 34) = w3 at *
  have HW := Lib.hid (width_any a na A ca w3 (HA.out.below HB3.out))
  clear HF
  go_wp2_with fail
  refine HW.out.mono ?_
  rintro e w4 ⟨rfl, rfl⟩
  clear HW
  by_cases hw : wd (tx2 a) = nb
  · have tw : ((wd (tx2 a) : Int) != (nb : Int)) = false := by rw [hw]; simp
    have HX := Lib.hid (values_any a na A ca w4 (HA.out.below HB3.out) HSA.out (val2_of VA.out) (by omega))
    have HWE := Lib.hid hw
    clear hw
    generalize hE : wd (tx2 a) = wda at *
    have HEE := Lib.hid hE
    clear hE
    go_wp2_with fail
    refine HX.out.mono ?_
    rintro e w5 ⟨vx, vxs, rfl, hx, hb5⟩
    have HB5 := Lib.hid (HB3.out.trans (hb5.mono HB3.out.size))
    have HXX := Lib.hid hx
    have HVB := Lib.hid (values_any b nb B cb w5 (HB.out.below HB5.out) HSB.out (val2_of VB.out) (by omega))
    clear hb5 hx HX HB3
    go_wp2_with fail
    refine HVB.out.mono ?_
    rintro e w6 ⟨vy, vys, rfl, hy, hb6⟩
    have HB6 := Lib.hid (HB5.out.trans (hb6.mono HB5.out.size))
    have HX6 := Lib.hid (HXX.out.call hb6)
    obtain ⟨Ay, cy, rfl⟩ := hy.val
    have hly : (valsM (tx2 b)).length = nb := by rw [valsM, List.length_map, LB.out]
    rw [hly] at hy ⊢
    have hwb : wd (tx2 b) ≤ 40 := by
      rcases VB.out.hk with h | h
      · exact h
      · rw [wd_nil h]; omega
    have hrb := VB.out.vals
    rw [LB.out] at hrb
    have HTR := Lib.hid (transposed_any (valsM (tx2 b)) nb (wd (tx2 b)) Ay cy w6 hy.rm hrb (wdQ_vals _) (by omega) (by omega))
    clear hb6 hy HVB HXX HB5 hly hrb
    go_wp2_with fail
    refine HTR.out.mono ?_
    rintro e w0 ⟨vz, vzs, rfl, hz, hb7⟩
    have HB7 := Lib.hid (HB6.out.trans (hb7.mono HB6.out.size))
    have hx7 := HX6.out.call hb7
    obtain ⟨Ax, cx, rfl⟩ := hx7.val
    obtain ⟨Az, cz, rfl⟩ := hz.val
    have HC := Lib.hid (show MulC w0 Ax Az na (wd (tx2 b)) nb (valsM (tx2 a)) (trQ (valsM (tx2 b)) (wd (tx2 b))) from by
      have r1 := VA.out.vals
      have r2 := VB.out.vals
      rw [LA.out, HWE.out] at r1
      rw [LB.out] at r2
      have l1 := r1.len
      have l2 := (rect_tr (k := wd (tx2 b)) r2.len).len
      have e1 := hx7.rm
      have e2 := hz.rm
      rw [l1] at e1
      rw [l2] at e2
      exact ⟨e1, e2, r1, rect_tr r2.len, fit_vals2 VA.out, fit_tr (fit_vals2 VB.out) _, hna, hwb, hnb⟩)
    have HRES := Lib.hid (show mulM (tx2 a) (tx2 b) = txM (prodQ (valsM (tx2 a)) (trQ (valsM (tx2 b)) (wd (tx2 b)))) by
      unfold mulM err2
      rw [H1.out, H2.out, if_neg (by decide), if_neg (by decide), if_neg (fun h => h (by rw [HEE.out, HWE.out, LB.out]))]
      rfl)
    have hlx : (valsM (tx2 a)).length = na := by rw [valsM, List.length_map, LA.out]
    have hlz : (trQ (valsM (tx2 b)) (wd (tx2 b))).length = wd (tx2 b) := by simp [trQ]
    rw [hlx, hlz]
    clear hb7 hx7 hz HTR HX6 HB6 hlx hlz H1 H2 VA VB HA HB HSA HSB LA LB HWE
    generalize trQ (valsM (tx2 b)) (wd (tx2 b)) = y at *
    generalize valsM (tx2 a) = x at *
    generalize wd (tx2 b) = kk at *
    have hmk := make_mat na (by omega)
    have hfl : (prodQ x y).length = na := by rw [prodQ, List.length_map, HC.out.lx.len]
    have HP := Lib.hid (show ∃ vs, LM (w0.alloc (.cells (Array.replicate na (Value.slice none 0 0)) rowT)) w0.heap.size (.slice (some ⟨w0.heap.size, 0, none⟩) na na) vs (rowsP (prodQ x y) 0 0) from ⟨_, by rw [rowsP_start, hfl]; exact LM.start w0 na (by unfold maxLen; omega)⟩)
    have HBL := Lib.hid (below_new w0 (.cells (Array.replicate na (Value.slice none 0 0)) rowT))
    have HFL2 := Lib.hid hfl
    unfold rowT at hmk
    clear hfl
    go_wp2
    clear hmk
    go_loopg [36] (na - 0) (fun r v wr => ∃ i : Nat, r = na - i ∧ v = I i ∧ i ≤ na ∧ Hid (∃ vs, LM wr w0.heap.size (.slice (some ⟨w0.heap.size, 0, none⟩) na na) vs (rowsP (prodQ x y) i 0)) ∧ Hid (Below w0.heap.size w0 wr))
    case atStart => exact ⟨0, rfl, rfl, by omega, HP, HBL⟩
    case round =>
      clear HP HBL
      obtain ⟨i, rfl, rfl, hi, HP, HBL⟩ := hrel
      obtain ⟨wa, rfl⟩ : ∃ wa : World, wa = wr := ⟨_, rfl⟩
      by_cases hlt : i < na
      · go_wp2
        go_loopg [41] (kk - 0) (fun r v wr => ∃ k : Nat, r = kk - k ∧ v = I k ∧ k ≤ kk ∧ Hid (∃ vs, LM wr w0.heap.size (.slice (some ⟨w0.heap.size, 0, none⟩) na na) vs (rowsP (prodQ x y) i k)) ∧ Hid (Below w0.heap.size w0 wr))
        case atStart => exact ⟨0, rfl, rfl, by omega, HP, HBL⟩
        case round =>
          clear HP HBL
          obtain ⟨k, rfl, rfl, hk, HP, HBL⟩ := hrel
          obtain ⟨wb, rfl⟩ : ∃ wb : World, wb = wr := ⟨_, rfl⟩
          have hrl : ((prodQ x y).getD i []).length = kk := by rw [prodQ_row (by rw [HC.out.lx.len]; exact hlt), List.length_map, HC.out.ly.len]
          by_cases hkl : k < kk
          · obtain ⟨bx, ox, Bx, c1, rfl, hbx, hcx, hrx⟩ := HC.out.rx.at_ hlt (x.getD i []) (by rw [List.getD_eq_getElem?_getD, List.getElem?_eq_getElem (by rw [HC.out.lx.len]; exact hlt)]; rfl)
            obtain ⟨by_, oy, By_, c2, rfl, hby, hcy, hry⟩ := HC.out.ry.at_ hkl (y.getD k []) (by rw [List.getD_eq_getElem?_getD, List.getElem?_eq_getElem (by rw [HC.out.ly.len]; exact hkl)]; rfl)
            have lxi := HC.out.lx.rowlen hlt
            have lyk := HC.out.ly.rowlen hkl
            rw [lxi] at hcx hrx
            rw [lyk] at hcy hry
            have hd := below_draw wb
            have hbw := HBL.out.trans (hd.mono HBL.out.size)
            have HBX := Lib.hid hbx
            have HBY := Lib.hid hby
            have CX0 := Lib.hid (cell_below hcx hbw)
            have CY0 := Lib.hid (cell_below hcy hbw)
            have HQ := Lib.hid (show ((prodQ x y).getD i [])[k]? = some (dotQ (x.getD i []) (y.getD k [])) by
              rw [prodQ_row (by rw [HC.out.lx.len]; exact hlt), List.getElem?_map, List.getElem?_eq_getElem (by rw [HC.out.ly.len]; exact hkl), List.getD_eq_getElem?_getD (l := y), List.getElem?_eq_getElem (by rw [HC.out.ly.len]; exact hkl)]
              rfl)
            have HDOT := Lib.hid (dot_any (x.getD i []) (y.getD k []) nb Bx By_ c1 nb c2 wb.drew (hrx.below hbw) (hry.below hbw) (Nat.le_refl _) (by omega) (N := 17000) (by decide) (dotFit_gen (N := 210) (M := 17000) (K := 40) (by rw [lxi]; exact hnb) (by decide) (by decide) (fun j _ => (HC.out.fx.at_ i).at_ j) (fun j _ => (HC.out.fy.at_ k).at_ j)))
            obtain ⟨vs, hLM⟩ := HP.out
            have hL1 := hLM.call hd
            have hFL : (rowsP (prodQ x y) i k).length = na := by rw [rowsP_len, HFL2.out]
            obtain ⟨g, o3, cap, Bu, cu, e3, _, _, hu, hcell, _, _⟩ := hL1.at_ (i := i) (by rw [hFL]; exact hlt)
            obtain ⟨rfl, rfl⟩ := sl_inj e3
            rw [Nat.zero_add] at hcell
            have hget := rowsP_get (prodQ x y) (i := i) k (by rw [HFL2.out]; exact hlt)
            have hlu : (((prodQ x y).getD i []).take k).length = k := by rw [List.length_take, hrl]; omega
            rw [List.getD_eq_getElem?_getD, hget, Option.getD_some, hlu] at hu hcell
            have CO0 := Lib.hid hcell
            have HU := Lib.hid hu
            have HG := Lib.hid hget
            have HLU := Lib.hid hlu
            have HFL := Lib.hid hFL
            have HL1 := Lib.hid hL1
            have HB1 := Lib.hid hbw
            have HRL := Lib.hid hrl
            clear e3 hcell hu hget hlu hFL hL1 hLM hbw hd hcx hcy hrx hry hbx hby lxi lyk HP HBL hrl
            go_upto_region 14 with (fail)
            refine wp_region_c (fun w' => w'.cell? ⟨w0.heap.size, i, none⟩ = some (.slice Bu k cu) ∧ w'.cell? ⟨bx, ox + i, none⟩ = some (.slice Bx nb c1) ∧ w'.cell? ⟨by_, oy + k, none⟩ = some (.slice By_ nb c2)) 18 (by kernel_rfl) ?_
            generalize wb.drew = W1 at *
            refine wpAnyC_take8 (i := 0) (oi := _) (v := .slice (some ⟨w0.heap.size, 0, none⟩) na na) rfl (by kernel_rfl) (by kernel_rfl) (by kernel_rfl) (by kernel_rfl) (by kernel_rfl) (by kernel_rfl) (fun _ _ _ h => h) (Or.inl ⟨by rfl, ?_⟩) ⟨CO0.out, CX0.out, CY0.out⟩ ?_
            · intro w hSw
              obtain ⟨s0, s1, s2⟩ := hSw
              go_simp
            try simp only [Act.put, List.setIfInBounds_toArray]
            refine wpAnyC_take8 (i := 1) (oi := _) (v := I i) rfl (by kernel_rfl) (by kernel_rfl) (by kernel_rfl) (by kernel_rfl) (by kernel_rfl) (by kernel_rfl) (fun _ _ _ h => h) (Or.inl ⟨by rfl, ?_⟩) ⟨CO0.out, CX0.out, CY0.out⟩ ?_
            · intro w hSw
              obtain ⟨s0, s1, s2⟩ := hSw
              go_simp
            try simp only [Act.put]
            refine wpAnyC_take8 (i := 2) (oi := _) (v := .slice (some ⟨w0.heap.size, 0, none⟩) na na) rfl (by kernel_rfl) (by kernel_rfl) (by kernel_rfl) (by kernel_rfl) (by kernel_rfl) (by kernel_rfl) (fun _ _ _ h => h) (Or.inl ⟨by rfl, ?_⟩) ⟨CO0.out, CX0.out, CY0.out⟩ ?_
            · intro w hSw
              obtain ⟨s0, s1, s2⟩ := hSw
              go_simp
            try simp only [Act.put]
            refine wpAnyC_take8 (i := 3) (oi := _) (v := I i) rfl (by kernel_rfl) (by kernel_rfl) (by kernel_rfl) (by kernel_rfl) (by kernel_rfl) (by kernel_rfl) (fun _ _ _ h => h) (Or.inl ⟨by rfl, ?_⟩) ⟨CO0.out, CX0.out, CY0.out⟩ ?_
            · intro w hSw
              obtain ⟨s0, s1, s2⟩ := hSw
              go_simp
            try simp only [Act.put]
            refine wpAnyC_take8 (i := 4) (oi := _) (v := .pointer (some ⟨w0.heap.size, i, none⟩)) rfl (by kernel_rfl) (by kernel_rfl) (by kernel_rfl) (by kernel_rfl) (by kernel_rfl) (by kernel_rfl) (fun _ _ _ h => h) (Or.inl ⟨by rfl, ?_⟩) ⟨CO0.out, CX0.out, CY0.out⟩ ?_
            · intro w hSw
              obtain ⟨s0, s1, s2⟩ := hSw
              go_simp
            try simp only [Act.put]
            refine wpAnyC_take8 (i := 5) (oi := _) (v := .slice Bu k cu) rfl (by kernel_rfl) (by kernel_rfl) (by kernel_rfl) (by kernel_rfl) (by kernel_rfl) (by kernel_rfl) (fun _ _ _ h => h) (Or.inl ⟨by rfl, ?_⟩) ⟨CO0.out, CX0.out, CY0.out⟩ ?_
            · intro w hSw
              obtain ⟨s0, s1, s2⟩ := hSw
              go_simp
            try simp only [Act.put]
            refine wpAnyC_take8 (i := 6) (oi := _) (v := .slice (some ⟨bx, ox, none⟩) na cx) rfl (by kernel_rfl) (by kernel_rfl) (by kernel_rfl) (by kernel_rfl) (by kernel_rfl) (by kernel_rfl) (fun _ _ _ h => h) (Or.inl ⟨by rfl, ?_⟩) ⟨CO0.out, CX0.out, CY0.out⟩ ?_
            · intro w hSw
              obtain ⟨s0, s1, s2⟩ := hSw
              go_simp
            try simp only [Act.put]
            refine wpAnyC_take8 (i := 7) (oi := _) (v := I i) rfl (by kernel_rfl) (by kernel_rfl) (by kernel_rfl) (by kernel_rfl) (by kernel_rfl) (by kernel_rfl) (fun _ _ _ h => h) (Or.inl ⟨by rfl, ?_⟩) ⟨CO0.out, CX0.out, CY0.out⟩ ?_
            · intro w hSw
              obtain ⟨s0, s1, s2⟩ := hSw
              go_simp
            try simp only [Act.put]
            refine wpAnyC_take8 (i := 8) (oi := _) (v := .pointer (some ⟨bx, ox + i, none⟩)) rfl (by kernel_rfl) (by kernel_rfl) (by kernel_rfl) (by kernel_rfl) (by kernel_rfl) (by kernel_rfl) (fun _ _ _ h => h) (Or.inl ⟨by rfl, ?_⟩) ⟨CO0.out, CX0.out, CY0.out⟩ ?_
            · intro w hSw
              obtain ⟨s0, s1, s2⟩ := hSw
              go_simp
            try simp only [Act.put]
            refine wpAnyC_take8 (i := 9) (oi := _) (v := .slice Bx nb c1) rfl (by kernel_rfl) (by kernel_rfl) (by kernel_rfl) (by kernel_rfl) (by kernel_rfl) (by kernel_rfl) (fun _ _ _ h => h) (Or.inl ⟨by rfl, ?_⟩) ⟨CO0.out, CX0.out, CY0.out⟩ ?_
            · intro w hSw
              obtain ⟨s0, s1, s2⟩ := hSw
              go_simp
            try simp only [Act.put]
            refine wpAnyC_take8 (i := 10) (oi := _) (v := .slice (some ⟨by_, oy, none⟩) kk cz) rfl (by kernel_rfl) (by kernel_rfl) (by kernel_rfl) (by kernel_rfl) (by kernel_rfl) (by kernel_rfl) (fun _ _ _ h => h) (Or.inl ⟨by rfl, ?_⟩) ⟨CO0.out, CX0.out, CY0.out⟩ ?_
            · intro w hSw
              obtain ⟨s0, s1, s2⟩ := hSw
              go_simp
            try simp only [Act.put]
            refine wpAnyC_take8 (i := 11) (oi := _) (v := I k) rfl (by kernel_rfl) (by kernel_rfl) (by kernel_rfl) (by kernel_rfl) (by kernel_rfl) (by kernel_rfl) (fun _ _ _ h => h) (Or.inl ⟨by rfl, ?_⟩) ⟨CO0.out, CX0.out, CY0.out⟩ ?_
            · intro w hSw
              obtain ⟨s0, s1, s2⟩ := hSw
              go_simp
            try simp only [Act.put]
            refine wpAnyC_take8 (i := 12) (oi := _) (v := .pointer (some ⟨by_, oy + k, none⟩)) rfl (by kernel_rfl) (by kernel_rfl) (by kernel_rfl) (by kernel_rfl) (by kernel_rfl) (by kernel_rfl) (fun _ _ _ h => h) (Or.inl ⟨by rfl, ?_⟩) ⟨CO0.out, CX0.out, CY0.out⟩ ?_
            · intro w hSw
              obtain ⟨s0, s1, s2⟩ := hSw
              go_simp
            try simp only [Act.put]
            refine wpAnyC_take8 (i := 13) (oi := _) (v := .slice By_ nb c2) rfl (by kernel_rfl) (by kernel_rfl) (by kernel_rfl) (by kernel_rfl) (by kernel_rfl) (by kernel_rfl) (fun _ _ _ h => h) (Or.inl ⟨by rfl, ?_⟩) ⟨CO0.out, CX0.out, CY0.out⟩ ?_
            · intro w hSw
              obtain ⟨s0, s1, s2⟩ := hSw
              go_simp
            try simp only [Act.put]
            refine wpAnyC_one (i := 14) (by kernel_rfl) rfl (fun K hK => ?_)
            go_simp
            go_at_call 96
            refine (HDOT.out).mono ?_
            rintro e W2 ⟨vq, rfl, hv, hb⟩
            obtain ⟨tb, t1, t2, t3, t4, t5, t6, rfl⟩ := hv.bools
            have CO1 := Lib.hid (cell_below CO0.out hb)
            have CX1 := Lib.hid (cell_below CX0.out hb)
            have CY1 := Lib.hid (cell_below CY0.out hb)
            have HL2 := Lib.hid (HL1.out.call hb)
            have HB2 := Lib.hid (HB1.out.trans (hb.mono HB1.out.size))
            have HV := Lib.hid hv
            clear hb hv
            refine hK.out _ _ (fun _ => ⟨CO1.out, CX1.out, CY1.out⟩) ?_
            clear hK K
            try simp only [Act.put, List.setIfInBounds_toArray, List.set_cons_zero, List.set_cons_succ]
            clear HDOT CO0 CX0 CY0 HL1 HB1
            refine wpAnyC_one (i := 15) (by kernel_rfl) rfl (fun K hK => ?_)
            go_simp
            have hb3 := below_new W2 (.cells #[.bool tb, .slice t1 t2 t3, .bool false, .slice t4 t5 t6] 121)
            have CO2 := Lib.hid (cell_below CO1.out hb3)
            have CX2 := Lib.hid (cell_below CX1.out hb3)
            have CY2 := Lib.hid (cell_below CY1.out hb3)
            have HL3 := Lib.hid (HL2.out.call hb3)
            have HB3 := Lib.hid (HB2.out.trans (hb3.mono HB2.out.size))
            have HV3 := Lib.hid (HV.out.ext hb3)
            have hBlk := Blk.new W2 121 #[.bool tb, .slice t1 t2 t3, .bool false, .slice t4 t5 t6]
            refine hK.out _ _ (fun _ => ⟨CO2.out, CX2.out, CY2.out⟩) ?_
            clear hK K hb3 CO1 CX1 CY1 HL2 HB2 HV
            try simp only [Act.put, List.setIfInBounds_toArray, List.set_cons_zero, List.set_cons_succ]
            generalize hgx : W2.heap.size = gx at *
            generalize W2.alloc (.cells #[.bool tb, .slice t1 t2 t3, .bool false, .slice t4 t5 t6] 121) = W3 at *
            have hru := HL3.out.inner i _ _ HU.out HG.out
            refine wpAnyC_one (i := 16) (by kernel_rfl) rfl (fun K hK => ?_)
            refine step_app1 (by rfl) _ _ (by rfl) w0.heap.size (.slice Bu k cu) _ (by kernel_rfl) hru gx (by kernel_rfl) hBlk HV3.out (by rw [HLU.out]; omega) HB3.out.size ?_
            intro v4 W4 hap
            obtain ⟨h1, h2, h3, h4, h5⟩ := HL3.out.app HFL.out hlt HU.out HG.out hap HB3.out.size
            rw [Nat.zero_add] at h1 h3 h4
            have CX3 := Lib.hid ((h2.cell (p := ⟨bx, ox + i, none⟩) HBX.out).trans CX2.out)
            have CY3 := Lib.hid ((h2.cell (p := ⟨by_, oy + k, none⟩) HBY.out).trans CY2.out)
            refine hK.out _ _ (fun _ => ⟨h3, CX3.out, CY3.out⟩) ?_
            clear hK K
            try simp only [Act.put, List.setIfInBounds_toArray]
            refine wpAnyC_one (i := 17) (by kernel_rfl) rfl (fun K hK => ?_)
            go_simp
            refine hK.out _ _ (fun _ => ⟨h3, CX3.out, CY3.out⟩) ?_
            clear hK K CX3 CY3 CX2 CY2 CO2
            have hN := rowsP_set (prodQ x y) (i := i) (k := k) (by rw [HFL2.out]; exact hlt) HQ.out
            rw [hN] at h1
            obtain ⟨A5, c5, rfl⟩ := hap.row.val
            have HN := Lib.hid (show ∃ vs, LM (W4.setCell ⟨w0.heap.size, i, none⟩ _) w0.heap.size (.slice (some ⟨w0.heap.size, 0, none⟩) na na) vs (rowsP (prodQ x y) i (k + 1)) from ⟨_, h1⟩)
            have HB4 := Lib.hid ((HB3.out.trans h2).setCell (p := ⟨w0.heap.size, i, none⟩) (Nat.le_refl _) (.slice A5 ((((prodQ x y).getD i []).take k) ++ [dotQ (x.getD i []) (y.getD k [])]).length c5))
            generalize ((((prodQ x y).getD i []).take k) ++ [dotQ (x.getD i []) (y.getD k [])]).length = l3 at *
            clear h1 h2 h5 hap hru hN hBlk HL3 HB3 HV3 HU HG HLU HQ HBX HBY HFL HFL2
            try simp only [Act.put, List.setIfInBounds_toArray, List.set_cons_zero, List.set_cons_succ]
            refine wpAnyC_one (i := 18) (by kernel_rfl) rfl (fun K hK => ?_)
            go_simp
            refine hK.out _ _ (fun h => absurd h (by decide)) ?_
            clear hK K
            refine wpAnyC_done (by kernel_rfl) ?_ _
            go_wp2
            go_roundg (kk - (k + 1))
            case measure => omega
            case rel => exact ⟨k + 1, rfl, by go_num, by omega, HN, HB4⟩
          · have hkn : k = kk := by omega
            subst hkn
            have HN := Lib.hid (show ∃ vs, LM wb w0.heap.size (.slice (some ⟨w0.heap.size, 0, none⟩) na na) vs (rowsP (prodQ x y) (i + 1) 0) by
              have := HP.out
              rwa [rowsP_next (prodQ x y) (by rw [hrl]; exact Nat.le_refl _)] at this)
            clear HP hrl
            go_wp2
            go_roundg (na - (i + 1))
            case measure => omega
            case rel => exact ⟨i + 1, rfl, by go_num, by omega, HN, HBL⟩
      · have hin : i = na := by omega
        subst hin
        obtain ⟨vs, hLM⟩ := HP.out
        have he := rowsP_end (prodQ x y)
        rw [HFL2.out] at he
        rw [he] at hLM
        have hrm := hLM.rm
        have hrowl : ∀ r ∈ prodQ x y, r.length ≤ 1000000 := fun r hr => by
          obtain ⟨s, _, rfl⟩ := List.mem_map.1 hr
          rw [List.length_map, HC.out.ly.len]; omega
        have HBT := Lib.hid (HB7.out.trans (HBL.out.mono HB7.out.size))
        have HT := Lib.hid (textM_any (prodQ x y) i _ i wa hrm (by omega) hrowl (tab_below HTB.out HBT.out))
        clear hLM HP he hrm hrowl HBL
        go_wp2_with fail
        refine HT.out.mono ?_
        rintro e w9 ⟨A9, n9, c9, m9, rfl, h1, h2, h3, hb⟩
        have HQ := Lib.hid (show RetMT w (txM (prodQ x y)) (.returned (.tuple #[.slice A9 n9 c9, I (txM (prodQ x y)).2])) w9 from ⟨A9, n9, c9, m9, rfl, h1, h2, h3, HBT.out.trans (hb.mono HBT.out.size)⟩)
        clear h1 h2 h3 hb HT HBT
        go_wp2
        go_ret2
        rw [HRES.out]
        exact HQ.out
  · have tw : ((wd (tx2 a) : Int) != (nb : Int)) = true := bne_iff_ne.2 (by omega)
    have HQ := Lib.hid (RetMT.none_ (w := w) (c := 3) (r := mulM (tx2 a) (tx2 b)) (by
      unfold mulM err2
      rw [H1.out, H2.out, if_neg (by decide), if_neg (by decide), if_pos (by rw [LB.out]; exact hw)]) HB3.out)
    clear hw
    generalize wd (tx2 a) = wda at *
    go_wp2
    go_ret2
    exact HQ.out
theorem mulM_any (a b : List (List ByteArray)) (na nb : Nat) (A B : Option Addr) (ca cb : Nat) (w : World) (ha : SMat w A na a) (hb : SMat w B nb b) (sa : Sh2 a) (sb : Sh2 b) (htab : Tab w) :
    Calls Tryz.prog 44 #[.slice A na ca, .slice B nb cb] w (RetMT w (mulM (tx2 a) (tx2 b))) := by
  by_cases h : firstE [chkM (tx2 a), chkM (tx2 b)] = 0
  · obtain ⟨h1, h2⟩ := first_zero h
    exact mul_good a b na nb A B ca cb w ha hb sa sb htab h1 h2
  · exact mul_bad1 a b na nb A B ca cb w ha hb sa sb htab h
end Go.Proofs.YtgecdcjfncfmcaaGreatDoor
