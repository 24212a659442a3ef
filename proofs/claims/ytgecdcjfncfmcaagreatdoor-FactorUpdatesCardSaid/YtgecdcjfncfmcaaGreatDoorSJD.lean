/- lin.Det. -/
import Derived.Test.YtgecdcjfncfmcaaGreatDoorSJC
import Derived.Test.YtgecdcjfncfmcaaGreatDoorSJA
import Derived.Test.YtgecdcjfncfmcaaGreatDoorJR
import Derived.Deep.DeepCutAuto
namespace Go.Proofs.YtgecdcjfncfmcaaGreatDoor
open Go.RowKit

/-- what a walk asks of the numbers -/
structure BndD (N D : Nat) (m : MQ) (n : Nat) : Prop where
 ent : ∀ k X d, k ≤ n → dtQ m k = some (X, d) → ∀ i j, i < n → FitR N (at2 X i j)
 acc : ∀ k X d, k ≤ n → dtQ m k = some (X, d) → FitR D d
/-- no block of the matrix is gd or newer -/
structure Old (g gd : Nat) (vs : List Value) : Prop where
 outer : g < gd
 rows : ∀ (i : Nat) (u : Value) (b : Nat), vs[i]? = some u → u.ownBlock = some b → b < gd
theorem LM.old {w : World} {base g off n cap : Nat} {vs : List Value} {m : MQ} (h : LM w base (.slice (some ⟨g, off, none⟩) n cap) vs m) (hn : 0 < m.length) : Old g w.heap.size vs := by
 obtain ⟨cs, hB⟩ := h.outerBlk hn
 refine ⟨hB.lt, fun i u b hu hb => ?_⟩
 have hi : i < m.length := by have := (List.getElem?_eq_some_iff.1 hu).1; have := h.len; omega
 exact ((h.inner i _ m[i] hu (List.getElem?_eq_getElem hi)).lt hb).2
theorem kw_setV {w : World} {g : Nat} {b b2 : Bool} {A A2 : Option Addr} {n c n2 c2 : Nat} (hv : Vr w g (.bool b) (.slice A n c) (.bool b2) (.slice A2 n2 c2)) (u0 u1 u2 u3 : Value) : Kw w (set4 w g u0 u1 u2 u3) := by
 refine ⟨by simp [set4, World.setCell], fun q n e => ?_⟩
 have ne : ∀ (j : Nat) (old : Value), w.cell? ⟨g, j, none⟩ = some old → noWord old → ⟨g, j, none⟩ ≠ q := fun j old h hk hq => by
  rw [← hq] at e
  rw [e] at h
  exact hk n (Option.some.inj h)
 unfold set4
 rw [World.cell?_setCell_other _ _ _ _ (ne 3 _ hv.c3 (noWord_slice _ _ _)), World.cell?_setCell_other _ _ _ _ (ne 2 _ hv.c2 (noWord_bool _)), World.cell?_setCell_other _ _ _ _ (ne 1 _ hv.c1 (noWord_slice _ _ _)), World.cell?_setCell_other _ _ _ _ (ne 0 _ hv.c0 (noWord_bool _))]
 exact e
theorem set4_farV (w : World) {g k : Nat} (u0 u1 u2 u3 : Value) (h : k ≠ g) : (set4 w g u0 u1 u2 u3).heap[k]? = w.heap[k]? := by
 unfold set4
 rw [Below.heap_setCell _ _ _ _ h, Below.heap_setCell _ _ _ _ h, Below.heap_setCell _ _ _ _ h, Below.heap_setCell _ _ _ _ h]
/-- a variable that is newer than the matrix is written -/
theorem LM.set4N {w : World} {base g off n cap gd : Nat} {vs : List Value} {m : MQ} (h : LM w base (.slice (some ⟨g, off, none⟩) n cap) vs m) (ho : Old g gd vs) {q : Rat} (hv : Vq w gd q) (u0 u1 u2 u3 : Value) : LM (set4 w gd u0 u1 u2 u3) base (.slice (some ⟨g, off, none⟩) n cap) vs m := by
 obtain ⟨nb, A, l, c, B, m', d, h1, h2⟩ := hv
 have hk := kw_setV h1 u0 u1 u2 u3
 refine ⟨h.outer.keepO fun b hb => set4_farV w _ _ _ _ ?_, fun i u qs a b => (h.inner i u qs a b).keep hk fun x hx => set4_farV w _ _ _ _ ?_, h.apart⟩
 ·have hb : g = b := by simpa [Value.ownBlock] using hb
  have := ho.outer; omega
 ·have := ho.rows i u x a hx
  omega
theorem LM.set4V {w : World} {base g off n cap gd : Nat} {vs : List Value} {m : MQ} (h : LM w base (.slice (some ⟨g, off, none⟩) n cap) vs m) (ho : Old g gd vs) {b b2 : Bool} {A A2 : Option Addr} {n1 c1 n2 c2 : Nat} (hv : Vr w gd (.bool b) (.slice A n1 c1) (.bool b2) (.slice A2 n2 c2)) (u0 u1 u2 u3 : Value) : LM (set4 w gd u0 u1 u2 u3) base (.slice (some ⟨g, off, none⟩) n cap) vs m := by
 have hk := kw_setV hv u0 u1 u2 u3
 refine ⟨h.outer.keepO fun b hb => set4_farV w _ _ _ _ ?_, fun i u qs a b => (h.inner i u qs a b).keep hk fun x hx => set4_farV w _ _ _ _ ?_, h.apart⟩
 ·have hb : g = b := by simpa [Value.ownBlock] using hb
  have := ho.outer; omega
 ·have := ho.rows i u x a hx
  omega
theorem Old.mono {g gd gf : Nat} {vs : List Value} (h : Old g gd vs) (hl : gd ≤ gf) : Old g gf vs := ⟨by have := h.outer; omega, fun i u b h1 h2 => by have := h.rows i u b h1 h2; omega⟩
theorem Vq.farV {w : World} {g gf : Nat} {q : Rat} (h : Vq w g q) {b b2 : Bool} {A A2 : Option Addr} {n1 c1 n2 c2 : Nat} (hv : Vr w gf (.bool b) (.slice A n1 c1) (.bool b2) (.slice A2 n2 c2)) (hne : gf ≠ g) (u0 u1 u2 u3 : Value) : Vq (set4 w gf u0 u1 u2 u3) g q := by
 obtain ⟨nb, A', l, c, B, m', d, h1, h2⟩ := h
 exact ⟨nb, A', l, c, B, m', d, h1.far hne _ _ _ _, h2.set4 hv _ _ _ _⟩
section
variable {P : Program} {ops : Array Oper} {Q : Exit → Act → World → Prop} {md : Region.Mode} {S : World → Prop} {c : Nat}
/-- one of two comes up -/
theorem wpAnyC_twoD {i j : Nat} {o1 o2 : Oper} {fuel : Nat} {listed : Array Bool} {a : Act} {w : World} (hr : Region.ready md ops listed = [i, j]) (h1 : ops[i]? = some o1) (h2 : ops[j]? = some o2)
  (k1 : ∀ K' : Act → World → Prop, Shut (∀ a w, ((listed.setIfInBounds i true).getD c true = false → S w) → wpAnyC P md ops Q S c fuel (listed.setIfInBounds i true) a w → K' a w) → if Region.wanted o1 (yielded ops a.tmps) = true then Oper.wp P o1 a w K' Q else K' (a.put o1.dst undef) w)
  (k2 : ∀ K' : Act → World → Prop, Shut (∀ a w, ((listed.setIfInBounds j true).getD c true = false → S w) → wpAnyC P md ops Q S c fuel (listed.setIfInBounds j true) a w → K' a w) → if Region.wanted o2 (yielded ops a.tmps) = true then Oper.wp P o2 a w K' Q else K' (a.put o2.dst undef) w) : wpAnyC P md ops Q S c (fuel + 1) listed a w := by
 refine ⟨fun h0 => (by rw [hr] at h0; cases h0), fun x hx => ?_⟩
 rw [hr] at hx
 rcases List.mem_cons.1 hx with rfl | hx
 ·exact wpOp_step h1 (fun K' hK => k1 K' (fun a w hS hW => hK a w ⟨hS, hW⟩))
 ·obtain rfl : x = j := by simpa using hx
  exact wpOp_step h2 (fun K' hK => k2 K' (fun a w hS hW => hK a w ⟨hS, hW⟩))
end
theorem fitR_div {N : Nat} {x y : Rat} (hx : FitR N x) (hy : FitR N y) : FitR (N + N) (x / y) := by
 have h := divInt_div x y
 have hl := divInt_le (x.num * (y.den : Int)) ((x.den : Int) * y.num)
 rw [h] at hl
 have h1 := hx.1.mul hy.2
 have h2 := hx.2.mul hy.1
 have h3 := P32_pos (N + N)
 have h4 : Fits N 1 := by
  have h5 := hx.2
  unfold Fits at *
  have := x.den_pos
  show ((1 : Nat) : Int) < P32 N
  rw [Int.natAbs_natCast] at h5
  omega
 have h5 : Fits (N + N) 1 := h4.mono (by omega)
 unfold FitR Fits at *
 refine ⟨by omega, ?_⟩
 rw [Int.natAbs_natCast]
 have h6 : ((1 : Int).natAbs : Int) = 1 := rfl
 omega
theorem Vq.setCell {w : World} {g b o : Nat} {q : Rat} {u : Value} (h : Vq w g q) (hk : Kw w (w.setCell ⟨b, o, none⟩ u)) (hne : g ≠ b) : Vq (w.setCell ⟨b, o, none⟩ u) g q := by
 obtain ⟨nb, A, l, c, B, m, d, h1, h2⟩ := h
 exact ⟨nb, A, l, c, B, m, d, h1.keepB (Below.heap_setCell _ _ _ _ hne), h2.kw hk⟩
theorem dtM_start (k : Nat) (m : MQ) : dtM k (k + 1) m = m := mapIdx_id m _ fun a x _ => if_neg (by omega)
theorem dtM_row (k i : Nat) (m : MQ) (a : Nat) (ha : i ≤ a ∨ a ≤ k) : (dtM k i m).getD a [] = m.getD a [] := by
 unfold dtM
 by_cases h : a < m.length
 ·rw [getD_mapIdx m _ a [] [] h, if_neg (by omega)]
 ·rw [getD_mapIdx_ge _ _ _ _ (by omega), getD_ge m a [] (by omega)]
theorem elD_zero {k : Nat} {pr r : List Rat} (h0 : r.getD k 0 = 0) : elD k pr r = r := by
 unfold elD elP
 rw [h0, zero_div_]
 refine mapIdx_id r _ fun i x _ => ?_
 split
 ·grind
 ·rfl
theorem dtM_set {k i : Nat} (m : MQ) (hi : i < m.length) (hk : k < i) : (dtM k i m).set i (elD k (m.getD k []) (m.getD i [])) = dtM k (i + 1) m := by
 apply List.ext_getElem?
 intro a
 unfold dtM
 rw [List.getElem?_set, List.getElem?_mapIdx, List.getElem?_mapIdx, List.length_mapIdx]
 by_cases e : i = a
 ·subst e
  have hx : m.getD i [] = m[i] := by rw [List.getD_eq_getElem?_getD, List.getElem?_eq_getElem hi]; rfl
  rw [if_pos rfl, if_pos hi, List.getElem?_eq_getElem hi, hx]
  simp only [Option.map_some]
  rw [if_pos ⟨hk, by omega⟩]
 ·rw [if_neg e]
  cases m[a]? with
  | none => rfl
  | some x =>
   simp only [Option.map_some]
   by_cases h : k < a ∧ a < i
   ·rw [if_pos h, if_pos ⟨h.1, by omega⟩]
   ·rw [if_neg h, if_neg (by omega)]
theorem dtM_skip {k i : Nat} (m : MQ) (hi : i < m.length) (hk : k < i) (h : (m.getD i []).getD k 0 = 0) : dtM k (i + 1) m = dtM k i m := by
 rw [← dtM_set m hi hk, elD_zero h, ← dtM_row k i m i (.inl (Nat.le_refl _)), set_getD_self]
theorem swQ_self {m : MQ} (k : Nat) (_hk : k < m.length) : swQ m k k = m := by
 unfold swQ
 rw [List.set_set, set_getD_self]
theorem swQ_comm (m : MQ) {r p : Nat} (h : r ≠ p) : swQ m r p = swQ m p r := by
 unfold swQ
 rw [List.set_comm _ _ h]
theorem dtQ_step {m X : MQ} {k p : Nat} {d : Rat} (h : dtQ m k = some (X, d)) (hp : nzAt k (X.drop k) k = p) (hl : p < X.length) : dtQ m (k + 1) = some (dtM k X.length (swQ X k p), (if p = k then d else -d) * at2 (swQ X k p) k k) := by
 rw [dtQ, h]
 simp only
 rw [hp, if_neg (by omega)]
theorem dtQ_stop {m X : MQ} {k : Nat} {d : Rat} (h : dtQ m k = some (X, d)) (hp : X.length ≤ nzAt k (X.drop k) k) : dtQ m (k + 1) = none := by
 rw [dtQ, h]
 simp only
 rw [if_pos hp]
theorem dtQ_none {m : MQ} {k : Nat} (h : dtQ m k = none) : ∀ d, dtQ m (k + d) = none
 | 0 => h
 | d + 1 => by rw [← Nat.add_assoc, dtQ, dtQ_none h d]
def zV (w : World) (g : Nat) : Prop := Vr w g (.bool false) (.slice none 0 0) (.bool false) (.slice none 0 0)
/-- behind the exchange of rows -/
def DetC (w : World) (base gR gd : Nat) (A1 : Option Addr) (n c : Nat) (X : MQ) (d : Rat) (wx : World) : Prop := ∃ vs, LM wx base (.slice A1 n c) vs X ∧ (0 < n → ∀ g off, A1 = some ⟨g, off, none⟩ → Old g gd vs) ∧ Vq wx gd d ∧ zV wx gR ∧ Below w.heap.size w wx
/-- behind the quotient of a row -/
def DetF (w : World) (base gR gd : Nat) (A1 : Option Addr) (n c : Nat) (VS : List Value) (X : MQ) (d f : Rat) (fv : Value) (wx : World) : Prop := ∃ gf, fv = .pointer (some ⟨gf, 0, none⟩) ∧ LM wx base (.slice A1 n c) VS X ∧ Vq wx gd d ∧ zV wx gR ∧ Below w.heap.size w wx ∧ Vq wx gf f ∧ gd < gf
set_option maxRecDepth 100000 in
set_option maxHeartbeats 40000000 in
theorem ldet_any (m : MQ) (n : Nat) (A : Option Addr) (c : Nat) (w : World) (hm : RM w A n m) (hr : Rect m n n) (hn : n ≤ 1000) {N D : Nat} (hN : N ≤ 3000000) (hD : D ≤ 20000000) (hB : BndD N D m n) :
  Calls Tryz.prog 82 #[.slice A n c] w (RetRt w (detR m n)) := by
 obtain ⟨vz, hb0⟩ := boxes1 w (.bool false) (.slice none 0 0) (.bool false) (.slice none 0 0)
 have HC := Lib.hid (copyL_any m n A c _ (hm.below hb0) (fun r h => by rw [hr.2 r h]; omega) (by omega))
 have HR := Lib.hid hr
 have HBN := Lib.hid hB
 have HZV := Lib.hid (show zV _ w.heap.size from vz)
 have HB := Lib.hid hb0
 clear hm hr hB vz hb0
 unfold ratT at *
 go_enter Tryz.func82, Tryz.ntmps82
 go_wp2_with fail
 refine HC.out.mono ?_
 rintro e w1 ⟨v, vs, rfl, hLM, hb⟩
 clear HC
 rw [World.size_alloc] at hLM
 obtain ⟨A1, c1, rfl⟩ := hLM.val
 rw [HR.out.1] at hLM ⊢
 replace HB := Lib.hid (HB.out.trans (hb.mono HB.out.size))
 replace HZV := Lib.hid (Vr.below HZV.out hb)
 have HL := Lib.hid hLM
 clear hLM hb
 have HC := Lib.hid (rwhole_any 1 w1 (by decide) (by decide))
 go_wp2_with fail
 refine HC.out.mono ?_
 rintro e w2 ⟨v, rfl, hv, hb⟩
 clear HC
 obtain ⟨nb0, A0, l0, c0, B0, m0, d0, rfl⟩ := hv.bools
 replace HB := Lib.hid (HB.out.trans (hb.mono HB.out.size))
 replace HZV := Lib.hid (Vr.below HZV.out hb)
 replace HL := Lib.hid (HL.out.call hb)
 clear hb
 obtain ⟨vs1, hb⟩ := boxes1 w2 (.bool nb0) (.slice A0 l0 c0) (.bool false) (.slice B0 m0 d0)
 unfold ratT at vs1 hb
 have HOL := Lib.hid (show 0 < n → ∀ g off, A1 = some ⟨g, off, none⟩ → Old g w2.heap.size vs from fun h g off e => by
  have h1 := HL.out
  rw [e] at h1
  exact h1.old (by rw [HR.out.1]; exact h))
 replace HB := Lib.hid (HB.out.trans (hb.mono HB.out.size))
 replace HZV := Lib.hid (Vr.below HZV.out hb)
 replace HL := Lib.hid (HL.out.call hb)
 have HV := Lib.hid (show Vq _ w2.heap.size 1 from ⟨_, _, _, _, _, _, _, vs1, hv.ext hb⟩)
 have HV := Lib.hid (show Vq _ w2.heap.size 1 from ⟨_, _, _, _, _, _, _, vs1, hv.ext hb⟩)
 clear hb hv vs1
 have HS := Lib.hid (show DetC w (w.heap.size + 1) w.heap.size w2.heap.size A1 n c1 m 1 _ from ⟨vs, HL.out, HOL.out, HV.out, HZV.out, HB.out⟩)
 clear HL HOL HV HZV HB
 have HQ0 := Lib.hid (show dtQ m 0 = some (m, 1) from rfl)
 generalize hgd : w2.heap.size = gd at *
 go_wp2
 go_loopg [14] (n - 0) (fun mm v wr => ∃ (k : Nat) (X : MQ) (d : Rat), mm = n - k ∧ v = I k ∧ k ≤ n ∧ Hid (dtQ m k = some (X, d)) ∧ Hid (DetC w (w.heap.size + 1) w.heap.size gd A1 n c1 X d wr))
 case atStart => exact ⟨0, m, 1, rfl, rfl, by omega, HQ0, HS⟩
 case round =>
  clear HQ0 HS
  obtain ⟨k, X, d, rfl, rfl, hk, HQ, HS⟩ := hrel
  obtain ⟨wa, rfl⟩ : ∃ wa : World, wa = wr := ⟨_, rfl⟩
  have HI := Lib.hid ((dtQ_inv HR.out k hk).1 _ HQ.out)
  have HRX := Lib.hid HI.out.1
  clear HI
  obtain ⟨vs, hLM, hO, hV, hZ, hb⟩ := HS.out
  by_cases hkn : k < n
  ·obtain ⟨g, off, cap0, B0, cc0, e0, hgb, -⟩ := hLM.at_ (i := 0) (by rw [HRX.out.1]; omega)
   injection e0 with e1 e2 e3
   subst e1 e3
   clear e2
   have HL := Lib.hid hLM
   have HO := Lib.hid (hO (by omega) g off rfl)
   have HV := Lib.hid hV
   have HZ := Lib.hid hZ
   have HB := Lib.hid hb
   clear hLM hO hV hZ hb HS
   have HF := Lib.hid (show ∀ i j, i < n → FitR N (at2 X i j) from HBN.out.ent k X d hk HQ.out)
   have HFD := Lib.hid (show FitR D d from HBN.out.acc k X d hk HQ.out)
   have HB2 := Lib.hid (Below.refl wa.heap.size wa)
   go_wp2
   go_loopg [5] (n - k) (fun mm v wr => ∃ p : Nat, mm = n - p ∧ v = I p ∧ k ≤ p ∧ p ≤ n ∧ Hid (nzAt k (X.drop k) k = nzAt k (X.drop p) p) ∧ Hid (Below wa.heap.size wa wr))
   case atStart => exact ⟨k, rfl, rfl, by omega, by omega, rfl, HB2⟩
   case round =>
    clear HB2
    obtain ⟨p, rfl, rfl, hrp, hpn, HZN, HB2⟩ := hrel
    obtain ⟨wb, rfl⟩ : ∃ wb : World, wb = wr := ⟨_, rfl⟩
    by_cases hlt : p < n
    ·obtain ⟨b, o, c9, nb, B1, l1, c2, B2, l2, c3, hu, hc, hE, hrt, hgl, hbl⟩ := (HL.out.call HB2.out).el HRX.out hlt hkn
     have HC := Lib.hid (rsign_any _ _ wb hrt)
     have e0 := hE.c0
     have e1 := hE.c1
     have e2 := hE.c2
     have e3 := hE.c3
     have HST := Lib.hid (nzAt_step (k := k) (p := p) (A := X) (by rw [HRX.out.1]; exact hlt))
     clear hu hE hrt
     by_cases hz : at2 X p k = 0
     ·have tz : ((at2 X p k).num.sign == 0) = true := by rw [sign_zero.2 hz]; rfl
      have HZN2 := Lib.hid (show nzAt k (X.drop k) k = nzAt k (X.drop (p + 1)) (p + 1) by rw [HZN.out, HST.out, if_pos hz])
      clear hz HST HZN
      go_wp2_with fail
      refine HC.out.mono ?_
      rintro e w5 ⟨rfl, hb⟩
      clear HC hc e0 e1 e2 e3
      replace HB2 := Lib.hid (HB2.out.trans (hb.mono HB2.out.size))
      clear hb
      go_wp2
      go_roundg (n - (p + 1))
      case measure => omega
      case rel => exact ⟨p + 1, rfl, by go_num, by omega, by omega, HZN2, HB2⟩
     ·have tz : ((at2 X p k).num.sign == 0) = false := by
       refine beq_eq_false_iff_ne.2 fun e => hz (sign_zero.1 e)
      have HPV := Lib.hid (show nzAt k (X.drop k) k = p by rw [HZN.out, HST.out, if_neg hz])
      have HNE := Lib.hid hz
      clear hz HST HZN
      go_wp2_with fail
      refine HC.out.mono ?_
      rintro e w5 ⟨rfl, hb⟩
      clear HC hc e0 e1 e2 e3
      replace HB2 := Lib.hid (HB2.out.trans (hb.mono HB2.out.size))
      clear hb
      generalize (at2 X p k).num.sign = sg at *
      have tpn : ((p : Int) == (n : Int)) = false := beq_eq_false_iff_ne.2 (by omega)
      have HSTEP := Lib.hid (dtQ_step HQ.out HPV.out (by rw [HRX.out.1]; exact hlt))
      replace HL := Lib.hid (HL.out.call HB2.out)
      replace HV := Lib.hid (HV.out.below HB2.out)
      replace HZ := Lib.hid (Vr.below HZ.out HB2.out)
      replace HB := Lib.hid (HB.out.trans (HB2.out.mono HB.out.size))
      clear HB2
      clear tpn
      go_upto_if 42 with (fail)
      have hkn4 : ¬ n ≤ k := by omega
      have hpn4 : ¬ n ≤ p := by omega
      have HSWR := Lib.hid (rect_swQ HRX.out hkn hlt)
      go_cut [5] (fun pv wx => pv = I p ∧ DetC w (w.heap.size + 1) w.heap.size gd (some ⟨g, off, none⟩) n c1 (swQ X k p) (if p = k then d else -d) wx)
      case first =>
       by_cases hpk : p = k
       ·have tpk : ((p : Int) != (k : Int)) = false := by rw [hpk]; simp
        have HDC := Lib.hid (show DetC w (w.heap.size + 1) w.heap.size gd (some ⟨g, off, none⟩) n c1 (swQ X k p) (if p = k then d else -d) w5 from ⟨vs, by rw [hpk, swQ_self k (by rw [HRX.out.1]; exact hkn)]; exact HL.out, fun _ g2 o2 e => by injection e with e; injection e with e1 e2; subst e1; exact HO.out, by rw [if_pos hpk]; exact HV.out, HZ.out, HB.out⟩)
        clear hpk
        go_wp2_with fail
        go_meet
        exact ⟨rfl, HDC.out⟩
       ·have tpk : ((p : Int) != (k : Int)) = true := bne_iff_ne.2 (by omega)
        have hd := below_draw w5
        have HLd := Lib.hid (HL.out.call hd)
        have HVd := Lib.hid (HV.out.below hd)
        have HZd := Lib.hid (Vr.below HZ.out hd)
        have HBd := Lib.hid (HB.out.trans (hd.mono HB.out.size))
        clear HL HV HZ HB hd
        obtain ⟨Br, cr, hur, hcr, hfr, hgl, hgb2⟩ := HLd.out.ro HRX.out hkn
        obtain ⟨Bp, cp, hup, hcp, hfp, _, _⟩ := HLd.out.ro HRX.out hlt
        obtain ⟨hsw, hk1⟩ := HLd.out.swap HRX.out.1 hlt hkn hup hur
        rw [swQ_comm X hpk] at hsw
        have kr : Kw w5.drew (w5.drew.setCell ⟨g, off + p, none⟩ (.slice Br n cr)) := kw_set hcp (noWord_slice _ _ _) _
        have hc2 : (w5.drew.setCell ⟨g, off + p, none⟩ (.slice Br n cr)).cell? ⟨g, off + k, none⟩ = some (.slice Br n cr) := by
         rw [World.cell?_setCell_other _ _ _ _ (by intro h2; injection h2 with _ h2; omega)]; exact hcr
        have kp : Kw (w5.drew.setCell ⟨g, off + p, none⟩ (.slice Br n cr)) ((w5.drew.setCell ⟨g, off + p, none⟩ (.slice Br n cr)).setCell ⟨g, off + k, none⟩ (.slice Bp n cp)) := kw_set hc2 (noWord_slice _ _ _) _
        have hgd2 : g < gd := HO.out.outer
        have hne : gd ≠ g := by omega
        have hne0 : w.heap.size ≠ g := by omega
        have HVS := Lib.hid ((HVd.out.setCell kr hne).setCell kp hne)
        have HZS := Lib.hid (show zV ((w5.drew.setCell ⟨g, off + p, none⟩ (.slice Br n cr)).setCell ⟨g, off + k, none⟩ (.slice Bp n cp)) w.heap.size from Vr.keepB (Vr.keepB HZd.out (Below.heap_setCell _ _ _ _ hne0)) (Below.heap_setCell _ _ _ _ hne0))
        have HBS := Lib.hid ((HBd.out.setCell (p := ⟨g, off + p, none⟩) (by show w.heap.size ≤ g; omega) (.slice Br n cr)).setCell (p := ⟨g, off + k, none⟩) (by show w.heap.size ≤ g; omega) (.slice Bp n cp))
        have HSW := Lib.hid hsw
        have HOS := Lib.hid (show Old g gd ((vs.set p (.slice Br n cr)).set k (.slice Bp n cp)) from ⟨hgd2, fun i u b h1 h2 => by
         rcases List.mem_or_eq_of_mem_set (List.mem_of_getElem? h1) with h3 | h3
         ·rcases List.mem_or_eq_of_mem_set h3 with h4 | h4
          ·obtain ⟨j, hj⟩ := List.mem_iff_getElem?.1 h4
           exact HO.out.rows j u b hj h2
          ·exact HO.out.rows k _ b hur (by rw [← h4]; exact h2)
         ·exact HO.out.rows p _ b hup (by rw [← h3]; exact h2)⟩)
        have HC2 := Lib.hid hc2
        have HF2 := Lib.hid (show (w5.drew.setCell ⟨g, off + p, none⟩ (.slice Br n cr)).frozen? ⟨g, off + k, none⟩ = false by simp; exact hfr)
        have CR := Lib.hid hcr
        have CP := Lib.hid hcp
        have FP := Lib.hid hfp
        clear HLd HVd HZd HBd hur hup hcr hcp hfr hfp hsw hk1 kr kp hc2
        go_upto_region 12 with (fail)
        clear tpk
        refine wp_region_c (fun w' => w'.cell? ⟨g, off + k, none⟩ = some (.slice Br n cr) ∧ w'.cell? ⟨g, off + p, none⟩ = some (.slice Bp n cp)) 13 (by kernel_rfl) ?_
        generalize w5.drew = W1 at *
        refine wpAnyC_takeP (i := 2) (oi := _) (v := .slice (some ⟨g, off, none⟩) n c1) rfl (by kernel_rfl) (by kernel_rfl) (by kernel_rfl) (by kernel_rfl) (fun _ _ _ h => h) (Or.inl ⟨by rfl, ?_⟩) ⟨CR.out, CP.out⟩ ?_
        ·intro w _
         go_simp
        try simp only [Act.put, List.setIfInBounds_toArray]
        refine wpAnyC_takeP (i := 3) (oi := _) (v := I k) rfl (by kernel_rfl) (by kernel_rfl) (by kernel_rfl) (by kernel_rfl) (fun _ _ _ h => h) (Or.inl ⟨by rfl, ?_⟩) ⟨CR.out, CP.out⟩ ?_
        ·intro w _
         go_simp
        try simp only [Act.put]
        refine wpAnyC_take8 (i := 0) (oi := _) (v := .slice (some ⟨g, off, none⟩) n c1) rfl (by kernel_rfl) (by kernel_rfl) (by kernel_rfl) (by kernel_rfl) (by kernel_rfl) (by kernel_rfl) (fun _ _ _ h => h) (Or.inl ⟨by rfl, ?_⟩) ⟨CR.out, CP.out⟩ ?_
        ·intro w hSw
         obtain ⟨s0, s1⟩ := hSw
         go_simp
        try simp only [Act.put]
        refine wpAnyC_take8 (i := 1) (oi := _) (v := I p) rfl (by kernel_rfl) (by kernel_rfl) (by kernel_rfl) (by kernel_rfl) (by kernel_rfl) (by kernel_rfl) (fun _ _ _ h => h) (Or.inl ⟨by rfl, ?_⟩) ⟨CR.out, CP.out⟩ ?_
        ·intro w hSw
         obtain ⟨s0, s1⟩ := hSw
         go_simp
        try simp only [Act.put]
        refine wpAnyC_take8 (i := 4) (oi := _) (v := .slice (some ⟨g, off, none⟩) n c1) rfl (by kernel_rfl) (by kernel_rfl) (by kernel_rfl) (by kernel_rfl) (by kernel_rfl) (by kernel_rfl) (fun _ _ _ h => h) (Or.inl ⟨by rfl, ?_⟩) ⟨CR.out, CP.out⟩ ?_
        ·intro w hSw
         obtain ⟨s0, s1⟩ := hSw
         go_simp
        try simp only [Act.put]
        refine wpAnyC_take8 (i := 5) (oi := _) (v := I k) rfl (by kernel_rfl) (by kernel_rfl) (by kernel_rfl) (by kernel_rfl) (by kernel_rfl) (by kernel_rfl) (fun _ _ _ h => h) (Or.inl ⟨by rfl, ?_⟩) ⟨CR.out, CP.out⟩ ?_
        ·intro w hSw
         obtain ⟨s0, s1⟩ := hSw
         go_simp
        try simp only [Act.put]
        refine wpAnyC_take8 (i := 6) (oi := _) (v := .pointer (some ⟨g, off + k, none⟩)) rfl (by kernel_rfl) (by kernel_rfl) (by kernel_rfl) (by kernel_rfl) (by kernel_rfl) (by kernel_rfl) (fun _ _ _ h => h) (Or.inl ⟨by rfl, ?_⟩) ⟨CR.out, CP.out⟩ ?_
        ·intro w hSw
         obtain ⟨s0, s1⟩ := hSw
         go_simp
        try simp only [Act.put]
        refine wpAnyC_take8 (i := 7) (oi := _) (v := .slice Br n cr) rfl (by kernel_rfl) (by kernel_rfl) (by kernel_rfl) (by kernel_rfl) (by kernel_rfl) (by kernel_rfl) (fun _ _ _ h => h) (Or.inl ⟨by rfl, ?_⟩) ⟨CR.out, CP.out⟩ ?_
        ·intro w hSw
         obtain ⟨s0, s1⟩ := hSw
         go_simp
        try simp only [Act.put]
        refine wpAnyC_take8 (i := 8) (oi := _) (v := .slice (some ⟨g, off, none⟩) n c1) rfl (by kernel_rfl) (by kernel_rfl) (by kernel_rfl) (by kernel_rfl) (by kernel_rfl) (by kernel_rfl) (fun _ _ _ h => h) (Or.inl ⟨by rfl, ?_⟩) ⟨CR.out, CP.out⟩ ?_
        ·intro w hSw
         obtain ⟨s0, s1⟩ := hSw
         go_simp
        try simp only [Act.put]
        refine wpAnyC_take8 (i := 9) (oi := _) (v := I p) rfl (by kernel_rfl) (by kernel_rfl) (by kernel_rfl) (by kernel_rfl) (by kernel_rfl) (by kernel_rfl) (fun _ _ _ h => h) (Or.inl ⟨by rfl, ?_⟩) ⟨CR.out, CP.out⟩ ?_
        ·intro w hSw
         obtain ⟨s0, s1⟩ := hSw
         go_simp
        try simp only [Act.put]
        refine wpAnyC_take8 (i := 10) (oi := _) (v := .pointer (some ⟨g, off + p, none⟩)) rfl (by kernel_rfl) (by kernel_rfl) (by kernel_rfl) (by kernel_rfl) (by kernel_rfl) (by kernel_rfl) (fun _ _ _ h => h) (Or.inl ⟨by rfl, ?_⟩) ⟨CR.out, CP.out⟩ ?_
        ·intro w hSw
         obtain ⟨s0, s1⟩ := hSw
         go_simp
        try simp only [Act.put]
        refine wpAnyC_take8 (i := 11) (oi := _) (v := .slice Bp n cp) rfl (by kernel_rfl) (by kernel_rfl) (by kernel_rfl) (by kernel_rfl) (by kernel_rfl) (by kernel_rfl) (fun _ _ _ h => h) (Or.inl ⟨by rfl, ?_⟩) ⟨CR.out, CP.out⟩ ?_
        ·intro w hSw
         obtain ⟨s0, s1⟩ := hSw
         go_simp
        try simp only [Act.put]
        refine wpAnyC_take8 (i := 12) (oi := _) (v := .pointer (some ⟨g, off + p, none⟩)) rfl (by kernel_rfl) (by kernel_rfl) (by kernel_rfl) (by kernel_rfl) (by kernel_rfl) (by kernel_rfl) (fun _ _ _ h => h) (Or.inl ⟨by rfl, ?_⟩) ⟨CR.out, CP.out⟩ ?_
        ·intro w hSw
         obtain ⟨s0, s1⟩ := hSw
         go_simp
        try simp only [Act.put]
        have q0 := CP.out
        have q1 := FP.out
        refine wpAnyC_one (i := 13) (by kernel_rfl) rfl (fun K hK => ?_)
        go_simp
        refine hK.out _ _ (fun h => absurd h (by decide)) ?_
        clear hK K
        try simp only [Act.put, List.setIfInBounds_toArray, List.set_cons_zero, List.set_cons_succ]
        clear q0 q1
        generalize W1.setCell ⟨g, off + p, none⟩ (.slice Br n cr) = W2 at *
        refine wpAnyC_one (i := 14) (by kernel_rfl) rfl (fun K hK => ?_)
        go_simp
        refine hK.out _ _ (fun h => absurd h (by decide)) ?_
        clear hK K
        try simp only [Act.put, List.setIfInBounds_toArray, List.set_cons_zero, List.set_cons_succ]
        have q0 := HC2.out
        have q1 := HF2.out
        refine wpAnyC_one (i := 15) (by kernel_rfl) rfl (fun K hK => ?_)
        go_simp
        refine hK.out _ _ (fun h => absurd h (by decide)) ?_
        clear hK K
        try simp only [Act.put, List.setIfInBounds_toArray, List.set_cons_zero, List.set_cons_succ]
        clear q0 q1 HC2 HF2 CR CP FP
        generalize W2.setCell ⟨g, off + k, none⟩ (.slice Bp n cp) = W3 at *
        refine wpAnyC_done (by kernel_rfl) ?_ _
        generalize (vs.set p (Value.slice Br n cr)).set k (Value.slice Bp n cp) = VS at *
        obtain ⟨tb, T1, t1, u1, T2, t2, u2, hvd, hv⟩ := HVS.out
        have HC := Lib.hid (rneg_any _ d W3 hv)
        have d0 := hvd.c0
        have d1 := hvd.c1
        have d2 := hvd.c2
        have d3 := hvd.c3
        clear hvd hv
        go_wp2_with fail
        refine HC.out.mono ?_
        rintro e w6 ⟨v6, rfl, hv, hb⟩
        clear HC d0 d1 d2 d3
        replace HSW := Lib.hid (HSW.out.call hb)
        replace HVS := Lib.hid (HVS.out.below hb)
        replace HZS := Lib.hid (Vr.below HZS.out hb)
        replace HBS := Lib.hid (HBS.out.trans (hb.mono HBS.out.size))
        clear hb
        obtain ⟨nb6, N1, n1, j1, N2, n2, j2, rfl⟩ := hv.bools
        obtain ⟨tb, T1, t1, u1, T2, t2, u2, hvd, _⟩ := HVS.out
        have HDC := Lib.hid (show DetC w (w.heap.size + 1) w.heap.size gd (some ⟨g, off, none⟩) n c1 (swQ X k p) (if p = k then d else -d) (set4 w6 gd (.bool nb6) (.slice N1 n1 j1) (.bool false) (.slice N2 n2 j2)) from ⟨VS, HSW.out.set4N HOS.out HVS.out _ _ _ _, fun _ g2 o2 e => by injection e with e; injection e with e1 e2; subst e1; exact HOS.out, by rw [if_neg hpk]; exact ⟨_, _, _, _, _, _, _, hvd.set (.bool nb6) (.slice N1 n1 j1) (.bool false) (.slice N2 n2 j2), hv.set4 hvd (.bool nb6) (.slice N1 n1 j1) (.bool false) (.slice N2 n2 j2)⟩, Vr.far HZS.out (by have := HOS.out.outer; omega) (.bool nb6) (.slice N1 n1 j1) (.bool false) (.slice N2 n2 j2), below_set4 HBS.out (by have := HOS.out.outer; omega) (.bool nb6) (.slice N1 n1 j1) (.bool false) (.slice N2 n2 j2)⟩)
        unfold set4 at HDC
        have d0 := hvd.c0
        have q0 := hvd.f0
        have d1 := hvd.c1
        have q1 := hvd.f1
        have d2 := hvd.c2
        have q2 := hvd.f2
        have d3 := hvd.c3
        have q3 := hvd.f3
        clear hvd hv HSW HVS HZS HBS HOS hpk
        go_wp2_with fail
        go_meet
        exact ⟨rfl, HDC.out⟩
      case rest =>
       obtain ⟨rfl, HS2⟩ := hcut
       obtain ⟨VS, hLM, hO2, hV2, hZ2, hb2⟩ := HS2
       have HAT := Lib.hid (show ∀ i j, at2 (swQ X k p) i j = at2 X (tau k p i) j from fun i j => by unfold at2; rw [swQ_at (by rw [HRX.out.1]; exact hkn) (by rw [HRX.out.1]; exact hlt)])
       have HFA := Lib.hid (show ∀ i j, i < n → FitR N (at2 (swQ X k p) i j) from fun i j hi => by rw [HAT.out]; exact HF.out _ _ (tau_lt hkn hlt hi))
       have HNZ := Lib.hid (show at2 (swQ X k p) k k ≠ 0 by rw [HAT.out, tau, if_pos rfl]; exact HNE.out)
       have HFD1 := Lib.hid (show FitR D (if p = k then d else -d) by split; exact HFD.out; exact ⟨by have := HFD.out.1; unfold Fits at *; rw [Rat.neg_num, Int.natAbs_neg]; exact this, by have := HFD.out.2; unfold Fits at *; rw [Rat.neg_den]; exact this⟩)
       have HO2 := Lib.hid (hO2 (by omega) g off rfl)
       rw [HRX.out.1] at HSTEP
       clear HAT HNE HF HFD HPV HL HV HZ HB HO hO2
       generalize swQ X k p = X1 at *
       generalize (if p = k then d else -d) = d1 at *
       obtain ⟨_, _, _, _, _, _, hgb3⟩ := hLM.ro HSWR.out hkn
       obtain ⟨b, o, c9, nb, E1, l1, c2, E2, l2, c3, hu, hc, hE, hrt, hgl, hbl⟩ := hLM.el HSWR.out hkn hkn
       obtain ⟨db, P1, p1, q1, P2, p2, q2, hvd, hds⟩ := hV2
       have hd := below_draw wc
       have CR := Lib.hid (cell_below hc hd)
       have EL := Lib.hid (hE.below hd)
       have RX := Lib.hid (hrt.ext hd)
       have VD := Lib.hid (hvd.below hd)
       have RD := Lib.hid (hds.ext hd)
       have HL := Lib.hid (hLM.call hd)
       have HZ := Lib.hid (Vr.below hZ2 hd)
       have HB := Lib.hid (hb2.trans (hd.mono hb2.size))
       clear hLM hZ2 hb2 hu hE hrt hvd hds hd
       go_upto_region 14 with (fail)
       clear hc hbl hgl
       refine wp_region_c (fun w' => w'.cell? ⟨gd, 0, none⟩ = some (.bool db) ∧ w'.cell? ⟨gd, 1, none⟩ = some (.slice P1 p1 q1) ∧ w'.cell? ⟨gd, 2, none⟩ = some (.bool false) ∧ w'.cell? ⟨gd, 3, none⟩ = some (.slice P2 p2 q2) ∧ w'.cell? ⟨g, off + k, none⟩ = some (.slice (some ⟨b, o, none⟩) n c9) ∧ w'.cell? ⟨b, o + k * 4, none⟩ = some (.bool nb) ∧ w'.cell? ⟨b, o + k * 4 + 1, none⟩ = some (.slice E1 l1 c2) ∧ w'.cell? ⟨b, o + k * 4 + 2, none⟩ = some (.bool false) ∧ w'.cell? ⟨b, o + k * 4 + 3, none⟩ = some (.slice E2 l2 c3)) 9 (by kernel_rfl) ?_
       generalize wc.drew = W1 at *
       refine wpAnyC_take8 (i := 0) (oi := _) (v := .agg #[.bool db, .slice P1 p1 q1, .bool false, .slice P2 p2 q2]) rfl (by kernel_rfl) (by kernel_rfl) (by kernel_rfl) (by kernel_rfl) (by kernel_rfl) (by kernel_rfl) (fun _ _ _ h => h) (Or.inl ⟨by rfl, ?_⟩) ⟨VD.out.c0, VD.out.c1, VD.out.c2, VD.out.c3, CR.out, EL.out.c0, EL.out.c1, EL.out.c2, EL.out.c3⟩ ?_
       ·intro w hSw
        obtain ⟨s0, s1, s2, s3, s4, s5, s6, s7, s8⟩ := hSw
        go_simp
       try simp only [Act.put, List.setIfInBounds_toArray]
       refine wpAnyC_take8 (i := 1) (oi := _) (v := .slice (some ⟨g, off, none⟩) n c1) rfl (by kernel_rfl) (by kernel_rfl) (by kernel_rfl) (by kernel_rfl) (by kernel_rfl) (by kernel_rfl) (fun _ _ _ h => h) (Or.inl ⟨by rfl, ?_⟩) ⟨VD.out.c0, VD.out.c1, VD.out.c2, VD.out.c3, CR.out, EL.out.c0, EL.out.c1, EL.out.c2, EL.out.c3⟩ ?_
       ·intro w hSw
        obtain ⟨s0, s1, s2, s3, s4, s5, s6, s7, s8⟩ := hSw
        go_simp
       try simp only [Act.put]
       refine wpAnyC_take8 (i := 2) (oi := _) (v := I k) rfl (by kernel_rfl) (by kernel_rfl) (by kernel_rfl) (by kernel_rfl) (by kernel_rfl) (by kernel_rfl) (fun _ _ _ h => h) (Or.inl ⟨by rfl, ?_⟩) ⟨VD.out.c0, VD.out.c1, VD.out.c2, VD.out.c3, CR.out, EL.out.c0, EL.out.c1, EL.out.c2, EL.out.c3⟩ ?_
       ·intro w hSw
        obtain ⟨s0, s1, s2, s3, s4, s5, s6, s7, s8⟩ := hSw
        go_simp
       try simp only [Act.put]
       refine wpAnyC_take8 (i := 3) (oi := _) (v := .pointer (some ⟨g, off + k, none⟩)) rfl (by kernel_rfl) (by kernel_rfl) (by kernel_rfl) (by kernel_rfl) (by kernel_rfl) (by kernel_rfl) (fun _ _ _ h => h) (Or.inl ⟨by rfl, ?_⟩) ⟨VD.out.c0, VD.out.c1, VD.out.c2, VD.out.c3, CR.out, EL.out.c0, EL.out.c1, EL.out.c2, EL.out.c3⟩ ?_
       ·intro w hSw
        obtain ⟨s0, s1, s2, s3, s4, s5, s6, s7, s8⟩ := hSw
        go_simp
       try simp only [Act.put]
       refine wpAnyC_take8 (i := 4) (oi := _) (v := .slice (some ⟨b, o, none⟩) n c9) rfl (by kernel_rfl) (by kernel_rfl) (by kernel_rfl) (by kernel_rfl) (by kernel_rfl) (by kernel_rfl) (fun _ _ _ h => h) (Or.inl ⟨by rfl, ?_⟩) ⟨VD.out.c0, VD.out.c1, VD.out.c2, VD.out.c3, CR.out, EL.out.c0, EL.out.c1, EL.out.c2, EL.out.c3⟩ ?_
       ·intro w hSw
        obtain ⟨s0, s1, s2, s3, s4, s5, s6, s7, s8⟩ := hSw
        go_simp
       try simp only [Act.put]
       refine wpAnyC_take8 (i := 5) (oi := _) (v := I k) rfl (by kernel_rfl) (by kernel_rfl) (by kernel_rfl) (by kernel_rfl) (by kernel_rfl) (by kernel_rfl) (fun _ _ _ h => h) (Or.inl ⟨by rfl, ?_⟩) ⟨VD.out.c0, VD.out.c1, VD.out.c2, VD.out.c3, CR.out, EL.out.c0, EL.out.c1, EL.out.c2, EL.out.c3⟩ ?_
       ·intro w hSw
        obtain ⟨s0, s1, s2, s3, s4, s5, s6, s7, s8⟩ := hSw
        go_simp
       try simp only [Act.put]
       refine wpAnyC_take8 (i := 6) (oi := _) (v := .pointer (some ⟨b, o + k * 4, none⟩)) rfl (by kernel_rfl) (by kernel_rfl) (by kernel_rfl) (by kernel_rfl) (by kernel_rfl) (by kernel_rfl) (fun _ _ _ h => h) (Or.inl ⟨by rfl, ?_⟩) ⟨VD.out.c0, VD.out.c1, VD.out.c2, VD.out.c3, CR.out, EL.out.c0, EL.out.c1, EL.out.c2, EL.out.c3⟩ ?_
       ·intro w hSw
        obtain ⟨s0, s1, s2, s3, s4, s5, s6, s7, s8⟩ := hSw
        go_simp
       try simp only [Act.put]
       refine wpAnyC_take8 (i := 7) (oi := _) (v := .agg #[.bool nb, .slice E1 l1 c2, .bool false, .slice E2 l2 c3]) rfl (by kernel_rfl) (by kernel_rfl) (by kernel_rfl) (by kernel_rfl) (by kernel_rfl) (by kernel_rfl) (fun _ _ _ h => h) (Or.inl ⟨by rfl, ?_⟩) ⟨VD.out.c0, VD.out.c1, VD.out.c2, VD.out.c3, CR.out, EL.out.c0, EL.out.c1, EL.out.c2, EL.out.c3⟩ ?_
       ·intro w hSw
        obtain ⟨s0, s1, s2, s3, s4, s5, s6, s7, s8⟩ := hSw
        go_simp
       try simp only [Act.put]
       refine wpAnyC_one (i := 8) (by kernel_rfl) rfl (fun K hK => ?_)
       go_simp
       go_at_call 88
       refine (rmul_any _ _ d1 (at2 X1 k k) _ RD.out RX.out (N := 20000000) (Nat.le_of_ble_eq_true rfl) (HFD1.out.mono hD) ((HFA.out k k hkn).mono (Nat.le_trans hN (Nat.le_of_ble_eq_true rfl)))).mono ?_
       rintro e w6 ⟨v6, rfl, hv, hb⟩
       replace HZ := Lib.hid (Vr.below HZ.out hb)
       replace CR := Lib.hid (cell_below CR.out hb)
       replace EL := Lib.hid (EL.out.below hb)
       replace RX := Lib.hid (RX.out.ext hb)
       replace VD := Lib.hid (VD.out.below hb)
       replace RD := Lib.hid (RD.out.ext hb)
       replace HL := Lib.hid (HL.out.call hb)
       replace HB := Lib.hid (HB.out.trans (hb.mono HB.out.size))
       clear hb
       refine hK.out _ _ (fun _ => ⟨VD.out.c0, VD.out.c1, VD.out.c2, VD.out.c3, CR.out, EL.out.c0, EL.out.c1, EL.out.c2, EL.out.c3⟩) ?_
       clear hK K
       try simp only [Act.put, List.setIfInBounds_toArray, List.set_cons_zero, List.set_cons_succ]
       obtain ⟨tb, T1, t1, u1, T2, t2, u2, rfl⟩ := hv.bools
       have HLN := Lib.hid (HL.out.set4N HO2.out (show Vq _ gd d1 from ⟨_, _, _, _, _, _, _, VD.out, RD.out⟩) (.bool tb) (.slice T1 t1 u1) (.bool false) (.slice T2 t2 u2))
       have HVN := Lib.hid (show Vq _ gd (d1 * at2 X1 k k) from ⟨_, _, _, _, _, _, _, VD.out.set (.bool tb) (.slice T1 t1 u1) (.bool false) (.slice T2 t2 u2), hv.set4 VD.out (.bool tb) (.slice T1 t1 u1) (.bool false) (.slice T2 t2 u2)⟩)
       have HZN2 := Lib.hid (show zV _ w.heap.size from Vr.far (g' := gd) HZ.out (show gd ≠ w.heap.size by have := HO2.out.outer; omega) (.bool tb) (.slice T1 t1 u1) (.bool false) (.slice T2 t2 u2))
       have HBN2 := Lib.hid (below_set4 HB.out (show w.heap.size ≤ gd by have := HO2.out.outer; omega) (.bool tb) (.slice T1 t1 u1) (.bool false) (.slice T2 t2 u2))
       unfold set4 at HLN HVN HZN2 HBN2
       have z0 := VD.out.c0
       have y0 := VD.out.f0
       have z1 := VD.out.c1
       have y1 := VD.out.f1
       have z2 := VD.out.c2
       have y2 := VD.out.f2
       have z3 := VD.out.c3
       have y3 := VD.out.f3
       clear hv CR EL RX VD RD HL HZ HB
       refine wpAnyC_one (i := 9) (by kernel_rfl) rfl (fun K hK => ?_)
       go_simp
       refine hK.out _ _ (fun h => absurd h (by decide)) ?_
       clear hK K z0 z1 z2 z3 y0 y1 y2 y3
       refine wpAnyC_done (by kernel_rfl) ?_ _
       generalize (((w6.setCell ⟨gd, 0, none⟩ (.bool tb)).setCell ⟨gd, 1, none⟩ (.slice T1 t1 u1)).setCell ⟨gd, 2, none⟩ (.bool false)).setCell ⟨gd, 3, none⟩ (.slice T2 t2 u2) = W7 at *
       generalize d1 * at2 X1 k k = d2 at *
       have HL5 := Lib.hid (show LM W7 (w.heap.size + 1) (.slice (some ⟨g, off, none⟩) n c1) VS (dtM k (k + 1) X1) by rw [dtM_start]; exact HLN.out)
       clear HLN HFD1 HQ HRX
       go_wp2
       go_loopg [6] (n - (k + 1)) (fun mm v wr => ∃ i : Nat, mm = n - i ∧ v = I i ∧ k + 1 ≤ i ∧ i ≤ n ∧ Hid (LM wr (w.heap.size + 1) (.slice (some ⟨g, off, none⟩) n c1) VS (dtM k i X1)) ∧ Hid (Vq wr gd d2) ∧ Hid (zV wr w.heap.size) ∧ Hid (Below w.heap.size w wr))
       case atStart => exact ⟨k + 1, rfl, by go_num, by omega, by omega, HL5, HVN, HZN2, HBN2⟩
       case round =>
        clear HL5 HVN HZN2 HBN2
        obtain ⟨i, rfl, rfl, hki, hin0, HL5, HVN, HZN2, HBN2⟩ := hrel
        obtain ⟨we, rfl⟩ : ∃ we : World, we = wr := ⟨_, rfl⟩
        have HRE := Lib.hid (rect_dtM (k := k) (i := i) HSWR.out)
        by_cases hin : i < n
        ·have HROI := Lib.hid (show (dtM k i X1).getD i [] = X1.getD i [] from dtM_row k i X1 i (.inl (Nat.le_refl _)))
         have HROK := Lib.hid (show (dtM k i X1).getD k [] = X1.getD k [] from dtM_row k i X1 k (.inr (Nat.le_refl _)))
         have HSK := Lib.hid (show (X1.getD i []).getD k 0 = 0 → dtM k (i + 1) X1 = dtM k i X1 from dtM_skip X1 (by rw [HSWR.out.1]; exact hin) (by omega))
         have HNX := Lib.hid (show (dtM k i X1).set i (elD k (X1.getD k []) (X1.getD i [])) = dtM k (i + 1) X1 from dtM_set X1 (by rw [HSWR.out.1]; exact hin) (by omega))
         have HFI := Lib.hid (show ∀ a, FitR N ((X1.getD i []).getD a 0) from fun a => HFA.out i a hin)
         have HFK := Lib.hid (show ∀ a, FitR N ((X1.getD k []).getD a 0) from fun a => HFA.out k a hkn)
         have HLI := Lib.hid (rect_len HSWR.out hin)
         have HLK := Lib.hid (rect_len HSWR.out hkn)
         have HNZK := Lib.hid (show (X1.getD k []).getD k 0 ≠ 0 from HNZ.out)
         generalize X1.getD i [] = RI at *
         generalize X1.getD k [] = PK at *
         obtain ⟨b, o, c9, nb, E1, l1, c2, E2, l2, c3, hu, hc, hE, hrt, hgl, hbl⟩ := HL5.out.el HRE.out hin hkn
         have hval : at2 (dtM k i X1) i k = RI.getD k 0 := by unfold at2; rw [HROI.out]
         rw [hval] at hrt
         have HC := Lib.hid (rsign_any _ _ we hrt)
         have e0 := hE.c0
         have e1 := hE.c1
         have e2 := hE.c2
         have e3 := hE.c3
         clear hval hu hE hrt
         go_wp2_with fail
         refine HC.out.mono ?_
         rintro e w8 ⟨rfl, hb⟩
         clear HC hc e0 e1 e2 e3 hbl hgl
         replace HL5 := Lib.hid (HL5.out.call hb)
         replace HVN := Lib.hid (HVN.out.below hb)
         replace HZN2 := Lib.hid (Vr.below HZN2.out hb)
         replace HBN2 := Lib.hid (HBN2.out.trans (hb.mono HBN2.out.size))
         clear hb
         by_cases hz : RI.getD k 0 = 0
         ·have tz : ((RI.getD k 0).num.sign == 0) = true := by rw [sign_zero.2 hz]; rfl
          have HLN := Lib.hid (show LM w8 (w.heap.size + 1) (.slice (some ⟨g, off, none⟩) n c1) VS (dtM k (i + 1) X1) by rw [HSK.out hz]; exact HL5.out)
          generalize (RI.getD k 0).num.sign = sg2 at *
          clear hz HL5 HSK HNX
          go_wp2
          go_roundg (n - (i + 1))
          case measure => omega
          case rel => exact ⟨i + 1, rfl, by go_num, by omega, by omega, HLN, HVN, HZN2, HBN2⟩
         ·have tz : ((RI.getD k 0).num.sign == 0) = false := beq_eq_false_iff_ne.2 fun e => hz (sign_zero.1 e)
          generalize (RI.getD k 0).num.sign = sg2 at *
          clear hz HSK
          go_upto_region 19 with (fail)
          go_cut [7] (fun fv wx => DetF w (w.heap.size + 1) w.heap.size gd (some ⟨g, off, none⟩) n c1 VS (dtM k i X1) d2 (RI.getD k 0 / PK.getD k 0) fv wx)
          case first =>
           obtain ⟨b, o, c9, nb, E1, l1, c2, E2, l2, c3, _, hc, hE, hrt, _, _⟩ := HL5.out.el HRE.out hin hkn
           obtain ⟨b2, o2, c8, mb, G1, m1, d2_, G2, m2, d3, _, hc2, hE2, hrt2, _, _⟩ := HL5.out.el HRE.out hkn hkn
           have hv1 : at2 (dtM k i X1) i k = RI.getD k 0 := by unfold at2; rw [HROI.out]
           have hv2 : at2 (dtM k i X1) k k = PK.getD k 0 := by unfold at2; rw [HROK.out]
           rw [hv1] at hrt
           rw [hv2] at hrt2
           have hd := below_draw w8
           have CI := Lib.hid hc
           have EI := Lib.hid hE
           have RXI := Lib.hid hrt
           have CK := Lib.hid hc2
           have EK := Lib.hid hE2
           have RXK := Lib.hid hrt2
           clear hc hc2 hE hE2 hrt hrt2 hv1 hv2
           replace HZN2 := Lib.hid (Vr.below HZN2.out hd)
           replace CI := Lib.hid (cell_below CI.out hd)
           replace EI := Lib.hid (EI.out.below hd)
           replace RXI := Lib.hid (RXI.out.ext hd)
           replace CK := Lib.hid (cell_below CK.out hd)
           replace EK := Lib.hid (EK.out.below hd)
           replace RXK := Lib.hid (RXK.out.ext hd)
           replace HL5 := Lib.hid (HL5.out.call hd)
           replace HVN := Lib.hid (HVN.out.below hd)
           replace HBN2 := Lib.hid (HBN2.out.trans (hd.mono HBN2.out.size))
           clear hd
           have hkn5 : ¬ n ≤ k := by omega
           have hin5 : ¬ n ≤ i := by omega
           refine wp_region_c (fun w' => w'.cell? ⟨g, off + i, none⟩ = some (.slice (some ⟨b, o, none⟩) n c9) ∧ w'.cell? ⟨b, o + k * 4, none⟩ = some (.bool nb) ∧ w'.cell? ⟨b, o + k * 4 + 1, none⟩ = some (.slice E1 l1 c2) ∧ w'.cell? ⟨b, o + k * 4 + 2, none⟩ = some (.bool false) ∧ w'.cell? ⟨b, o + k * 4 + 3, none⟩ = some (.slice E2 l2 c3) ∧ w'.cell? ⟨g, off + k, none⟩ = some (.slice (some ⟨b2, o2, none⟩) n c8) ∧ w'.cell? ⟨b2, o2 + k * 4, none⟩ = some (.bool mb) ∧ w'.cell? ⟨b2, o2 + k * 4 + 1, none⟩ = some (.slice G1 m1 d2_) ∧ w'.cell? ⟨b2, o2 + k * 4 + 2, none⟩ = some (.bool false) ∧ w'.cell? ⟨b2, o2 + k * 4 + 3, none⟩ = some (.slice G2 m2 d3)) 16 (by kernel_rfl) ?_
           generalize w8.drew = W1 at *
           refine wpAnyC_take8 (i := 0) (oi := _) (v := .slice (some ⟨g, off, none⟩) n c1) rfl (by kernel_rfl) (by kernel_rfl) (by kernel_rfl) (by kernel_rfl) (by kernel_rfl) (by kernel_rfl) (fun _ _ _ h => h) (Or.inl ⟨by rfl, ?_⟩) ⟨CI.out, EI.out.c0, EI.out.c1, EI.out.c2, EI.out.c3, CK.out, EK.out.c0, EK.out.c1, EK.out.c2, EK.out.c3⟩ ?_
           ·intro w hSw
            obtain ⟨s0, s1, s2, s3, s4, s5, s6, s7, s8, s9⟩ := hSw
            go_simp
           try simp only [Act.put, List.setIfInBounds_toArray]
           refine wpAnyC_take8 (i := 1) (oi := _) (v := I i) rfl (by kernel_rfl) (by kernel_rfl) (by kernel_rfl) (by kernel_rfl) (by kernel_rfl) (by kernel_rfl) (fun _ _ _ h => h) (Or.inl ⟨by rfl, ?_⟩) ⟨CI.out, EI.out.c0, EI.out.c1, EI.out.c2, EI.out.c3, CK.out, EK.out.c0, EK.out.c1, EK.out.c2, EK.out.c3⟩ ?_
           ·intro w hSw
            obtain ⟨s0, s1, s2, s3, s4, s5, s6, s7, s8, s9⟩ := hSw
            go_simp
           try simp only [Act.put]
           refine wpAnyC_take8 (i := 2) (oi := _) (v := .pointer (some ⟨g, off + i, none⟩)) rfl (by kernel_rfl) (by kernel_rfl) (by kernel_rfl) (by kernel_rfl) (by kernel_rfl) (by kernel_rfl) (fun _ _ _ h => h) (Or.inl ⟨by rfl, ?_⟩) ⟨CI.out, EI.out.c0, EI.out.c1, EI.out.c2, EI.out.c3, CK.out, EK.out.c0, EK.out.c1, EK.out.c2, EK.out.c3⟩ ?_
           ·intro w hSw
            obtain ⟨s0, s1, s2, s3, s4, s5, s6, s7, s8, s9⟩ := hSw
            go_simp
           try simp only [Act.put]
           refine wpAnyC_take8 (i := 3) (oi := _) (v := .slice (some ⟨b, o, none⟩) n c9) rfl (by kernel_rfl) (by kernel_rfl) (by kernel_rfl) (by kernel_rfl) (by kernel_rfl) (by kernel_rfl) (fun _ _ _ h => h) (Or.inl ⟨by rfl, ?_⟩) ⟨CI.out, EI.out.c0, EI.out.c1, EI.out.c2, EI.out.c3, CK.out, EK.out.c0, EK.out.c1, EK.out.c2, EK.out.c3⟩ ?_
           ·intro w hSw
            obtain ⟨s0, s1, s2, s3, s4, s5, s6, s7, s8, s9⟩ := hSw
            go_simp
           try simp only [Act.put]
           refine wpAnyC_take8 (i := 4) (oi := _) (v := I k) rfl (by kernel_rfl) (by kernel_rfl) (by kernel_rfl) (by kernel_rfl) (by kernel_rfl) (by kernel_rfl) (fun _ _ _ h => h) (Or.inl ⟨by rfl, ?_⟩) ⟨CI.out, EI.out.c0, EI.out.c1, EI.out.c2, EI.out.c3, CK.out, EK.out.c0, EK.out.c1, EK.out.c2, EK.out.c3⟩ ?_
           ·intro w hSw
            obtain ⟨s0, s1, s2, s3, s4, s5, s6, s7, s8, s9⟩ := hSw
            go_simp
           try simp only [Act.put]
           refine wpAnyC_take8 (i := 5) (oi := _) (v := .pointer (some ⟨b, o + k * 4, none⟩)) rfl (by kernel_rfl) (by kernel_rfl) (by kernel_rfl) (by kernel_rfl) (by kernel_rfl) (by kernel_rfl) (fun _ _ _ h => h) (Or.inl ⟨by rfl, ?_⟩) ⟨CI.out, EI.out.c0, EI.out.c1, EI.out.c2, EI.out.c3, CK.out, EK.out.c0, EK.out.c1, EK.out.c2, EK.out.c3⟩ ?_
           ·intro w hSw
            obtain ⟨s0, s1, s2, s3, s4, s5, s6, s7, s8, s9⟩ := hSw
            go_simp
           try simp only [Act.put]
           refine wpAnyC_take8 (i := 6) (oi := _) (v := .agg #[.bool nb, .slice E1 l1 c2, .bool false, .slice E2 l2 c3]) rfl (by kernel_rfl) (by kernel_rfl) (by kernel_rfl) (by kernel_rfl) (by kernel_rfl) (by kernel_rfl) (fun _ _ _ h => h) (Or.inl ⟨by rfl, ?_⟩) ⟨CI.out, EI.out.c0, EI.out.c1, EI.out.c2, EI.out.c3, CK.out, EK.out.c0, EK.out.c1, EK.out.c2, EK.out.c3⟩ ?_
           ·intro w hSw
            obtain ⟨s0, s1, s2, s3, s4, s5, s6, s7, s8, s9⟩ := hSw
            go_simp
           try simp only [Act.put]
           refine wpAnyC_take8 (i := 7) (oi := _) (v := .slice (some ⟨g, off, none⟩) n c1) rfl (by kernel_rfl) (by kernel_rfl) (by kernel_rfl) (by kernel_rfl) (by kernel_rfl) (by kernel_rfl) (fun _ _ _ h => h) (Or.inl ⟨by rfl, ?_⟩) ⟨CI.out, EI.out.c0, EI.out.c1, EI.out.c2, EI.out.c3, CK.out, EK.out.c0, EK.out.c1, EK.out.c2, EK.out.c3⟩ ?_
           ·intro w hSw
            obtain ⟨s0, s1, s2, s3, s4, s5, s6, s7, s8, s9⟩ := hSw
            go_simp
           try simp only [Act.put]
           refine wpAnyC_take8 (i := 8) (oi := _) (v := I k) rfl (by kernel_rfl) (by kernel_rfl) (by kernel_rfl) (by kernel_rfl) (by kernel_rfl) (by kernel_rfl) (fun _ _ _ h => h) (Or.inl ⟨by rfl, ?_⟩) ⟨CI.out, EI.out.c0, EI.out.c1, EI.out.c2, EI.out.c3, CK.out, EK.out.c0, EK.out.c1, EK.out.c2, EK.out.c3⟩ ?_
           ·intro w hSw
            obtain ⟨s0, s1, s2, s3, s4, s5, s6, s7, s8, s9⟩ := hSw
            go_simp
           try simp only [Act.put]
           refine wpAnyC_take8 (i := 9) (oi := _) (v := .pointer (some ⟨g, off + k, none⟩)) rfl (by kernel_rfl) (by kernel_rfl) (by kernel_rfl) (by kernel_rfl) (by kernel_rfl) (by kernel_rfl) (fun _ _ _ h => h) (Or.inl ⟨by rfl, ?_⟩) ⟨CI.out, EI.out.c0, EI.out.c1, EI.out.c2, EI.out.c3, CK.out, EK.out.c0, EK.out.c1, EK.out.c2, EK.out.c3⟩ ?_
           ·intro w hSw
            obtain ⟨s0, s1, s2, s3, s4, s5, s6, s7, s8, s9⟩ := hSw
            go_simp
           try simp only [Act.put]
           refine wpAnyC_take8 (i := 10) (oi := _) (v := .slice (some ⟨b2, o2, none⟩) n c8) rfl (by kernel_rfl) (by kernel_rfl) (by kernel_rfl) (by kernel_rfl) (by kernel_rfl) (by kernel_rfl) (fun _ _ _ h => h) (Or.inl ⟨by rfl, ?_⟩) ⟨CI.out, EI.out.c0, EI.out.c1, EI.out.c2, EI.out.c3, CK.out, EK.out.c0, EK.out.c1, EK.out.c2, EK.out.c3⟩ ?_
           ·intro w hSw
            obtain ⟨s0, s1, s2, s3, s4, s5, s6, s7, s8, s9⟩ := hSw
            go_simp
           try simp only [Act.put]
           refine wpAnyC_take8 (i := 11) (oi := _) (v := I k) rfl (by kernel_rfl) (by kernel_rfl) (by kernel_rfl) (by kernel_rfl) (by kernel_rfl) (by kernel_rfl) (fun _ _ _ h => h) (Or.inl ⟨by rfl, ?_⟩) ⟨CI.out, EI.out.c0, EI.out.c1, EI.out.c2, EI.out.c3, CK.out, EK.out.c0, EK.out.c1, EK.out.c2, EK.out.c3⟩ ?_
           ·intro w hSw
            obtain ⟨s0, s1, s2, s3, s4, s5, s6, s7, s8, s9⟩ := hSw
            go_simp
           try simp only [Act.put]
           refine wpAnyC_take8 (i := 12) (oi := _) (v := .pointer (some ⟨b2, o2 + k * 4, none⟩)) rfl (by kernel_rfl) (by kernel_rfl) (by kernel_rfl) (by kernel_rfl) (by kernel_rfl) (by kernel_rfl) (fun _ _ _ h => h) (Or.inl ⟨by rfl, ?_⟩) ⟨CI.out, EI.out.c0, EI.out.c1, EI.out.c2, EI.out.c3, CK.out, EK.out.c0, EK.out.c1, EK.out.c2, EK.out.c3⟩ ?_
           ·intro w hSw
            obtain ⟨s0, s1, s2, s3, s4, s5, s6, s7, s8, s9⟩ := hSw
            go_simp
           try simp only [Act.put]
           refine wpAnyC_take8 (i := 13) (oi := _) (v := .agg #[.bool mb, .slice G1 m1 d2_, .bool false, .slice G2 m2 d3]) rfl (by kernel_rfl) (by kernel_rfl) (by kernel_rfl) (by kernel_rfl) (by kernel_rfl) (by kernel_rfl) (fun _ _ _ h => h) (Or.inl ⟨by rfl, ?_⟩) ⟨CI.out, EI.out.c0, EI.out.c1, EI.out.c2, EI.out.c3, CK.out, EK.out.c0, EK.out.c1, EK.out.c2, EK.out.c3⟩ ?_
           ·intro w hSw
            obtain ⟨s0, s1, s2, s3, s4, s5, s6, s7, s8, s9⟩ := hSw
            go_simp
           try simp only [Act.put]
           refine wpAnyC_twoD (i := 14) (j := 15) (by kernel_rfl) rfl rfl (fun K hK => ?_) (fun K hK => ?_)
           ·skip
            go_simp
            go_at_call 145
            refine (rdiv_any _ _ (RI.getD k 0) (PK.getD k 0) _ RXI.out RXK.out (fun e => HNZK.out (Rat.num_eq_zero.1 e)) (N := N) (by omega) (HFI.out k) (HFK.out k)).mono ?_
            rintro e W5 ⟨v5, rfl, hv, hb⟩
            replace HZN2 := Lib.hid (Vr.below HZN2.out hb)
            replace CI := Lib.hid (cell_below CI.out hb)
            replace EI := Lib.hid (EI.out.below hb)
            replace RXI := Lib.hid (RXI.out.ext hb)
            replace CK := Lib.hid (cell_below CK.out hb)
            replace EK := Lib.hid (EK.out.below hb)
            replace RXK := Lib.hid (RXK.out.ext hb)
            replace HL5 := Lib.hid (HL5.out.call hb)
            replace HVN := Lib.hid (HVN.out.below hb)
            replace HBN2 := Lib.hid (HBN2.out.trans (hb.mono HBN2.out.size))
            clear hb
            have HQV := Lib.hid hv
            clear hv
            refine hK.out _ _ (fun _ => ⟨CI.out, EI.out.c0, EI.out.c1, EI.out.c2, EI.out.c3, CK.out, EK.out.c0, EK.out.c1, EK.out.c2, EK.out.c3⟩) ?_
            clear hK K
            try simp only [Act.put, List.setIfInBounds_toArray, List.set_cons_zero, List.set_cons_succ]
            have hz := below_new W5 (.cells #[.bool false, .slice none 0 0, .bool false, .slice none 0 0] 121)
            have VF := Lib.hid ((Blk.new W5 121 #[.bool false, .slice none 0 0, .bool false, .slice none 0 0]).vr)
            have hgf : gd < W5.heap.size := by obtain ⟨_, _, _, _, _, _, _, h, _⟩ := HVN.out; exact h.lt
            replace HZN2 := Lib.hid (Vr.below HZN2.out hz)
            replace CI := Lib.hid (cell_below CI.out hz)
            replace EI := Lib.hid (EI.out.below hz)
            replace RXI := Lib.hid (RXI.out.ext hz)
            replace CK := Lib.hid (cell_below CK.out hz)
            replace EK := Lib.hid (EK.out.below hz)
            replace RXK := Lib.hid (RXK.out.ext hz)
            replace HL5 := Lib.hid (HL5.out.call hz)
            replace HVN := Lib.hid (HVN.out.below hz)
            replace HBN2 := Lib.hid (HBN2.out.trans (hz.mono HBN2.out.size))
            replace HQV := Lib.hid (HQV.out.ext hz)
            clear hz
            refine wpAnyC_one (i := 15) (by kernel_rfl) rfl (fun K hK => ?_)
            go_simp
            refine hK.out _ _ (fun _ => ⟨CI.out, EI.out.c0, EI.out.c1, EI.out.c2, EI.out.c3, CK.out, EK.out.c0, EK.out.c1, EK.out.c2, EK.out.c3⟩) ?_
            clear hK K
            try simp only [Act.put, List.setIfInBounds_toArray, List.set_cons_zero, List.set_cons_succ]
            generalize W5.alloc (.cells #[.bool false, .slice none 0 0, .bool false, .slice none 0 0] 121) = W6 at *
            generalize W5.heap.size = gf at *
            obtain ⟨tb, T1, t1, u1, T2, t2, u2, rfl⟩ := HQV.out.bools
            have HF := Lib.hid (show DetF w (w.heap.size + 1) w.heap.size gd (some ⟨g, off, none⟩) n c1 VS (dtM k i X1) d2 (RI.getD k 0 / PK.getD k 0) (.pointer (some ⟨gf, 0, none⟩)) (set4 W6 gf (.bool tb) (.slice T1 t1 u1) (.bool false) (.slice T2 t2 u2)) from ⟨gf, rfl, HL5.out.set4V (HO2.out.mono (Nat.le_of_lt hgf)) VF.out (.bool tb) (.slice T1 t1 u1) (.bool false) (.slice T2 t2 u2), HVN.out.farV VF.out (by omega) (.bool tb) (.slice T1 t1 u1) (.bool false) (.slice T2 t2 u2), Vr.far (g' := gf) HZN2.out (show gf ≠ w.heap.size by have := HO2.out.outer; omega) (.bool tb) (.slice T1 t1 u1) (.bool false) (.slice T2 t2 u2), below_set4 HBN2.out (show w.heap.size ≤ gf by have := HO2.out.outer; omega) (.bool tb) (.slice T1 t1 u1) (.bool false) (.slice T2 t2 u2), ⟨_, _, _, _, _, _, _, VF.out.set (.bool tb) (.slice T1 t1 u1) (.bool false) (.slice T2 t2 u2), HQV.out.set4 VF.out (.bool tb) (.slice T1 t1 u1) (.bool false) (.slice T2 t2 u2)⟩, hgf⟩)
            unfold set4 at HF
            have r0 := VF.out.c0
            have q0 := VF.out.f0
            have r1 := VF.out.c1
            have q1 := VF.out.f1
            have r2 := VF.out.c2
            have q2 := VF.out.f2
            have r3 := VF.out.c3
            have q3 := VF.out.f3
            clear VF HQV HL5 HVN HZN2 HBN2 CI EI RXI CK EK RXK
            refine wpAnyC_one (i := 16) (by kernel_rfl) rfl (fun K hK => ?_)
            go_simp
            refine hK.out _ _ (fun h => absurd h (by decide)) ?_
            clear hK K r0 r1 r2 r3 q0 q1 q2 q3
            refine wpAnyC_done (by kernel_rfl) ?_ _
            go_wp2_with fail
            go_meet
            exact HF.out
           ·skip
            go_simp
            have hz := below_new W1 (.cells #[.bool false, .slice none 0 0, .bool false, .slice none 0 0] 121)
            have VF := Lib.hid ((Blk.new W1 121 #[.bool false, .slice none 0 0, .bool false, .slice none 0 0]).vr)
            have hgf : gd < W1.heap.size := by obtain ⟨_, _, _, _, _, _, _, h, _⟩ := HVN.out; exact h.lt
            replace HZN2 := Lib.hid (Vr.below HZN2.out hz)
            replace CI := Lib.hid (cell_below CI.out hz)
            replace EI := Lib.hid (EI.out.below hz)
            replace RXI := Lib.hid (RXI.out.ext hz)
            replace CK := Lib.hid (cell_below CK.out hz)
            replace EK := Lib.hid (EK.out.below hz)
            replace RXK := Lib.hid (RXK.out.ext hz)
            replace HL5 := Lib.hid (HL5.out.call hz)
            replace HVN := Lib.hid (HVN.out.below hz)
            replace HBN2 := Lib.hid (HBN2.out.trans (hz.mono HBN2.out.size))
            clear hz
            refine hK.out _ _ (fun _ => ⟨CI.out, EI.out.c0, EI.out.c1, EI.out.c2, EI.out.c3, CK.out, EK.out.c0, EK.out.c1, EK.out.c2, EK.out.c3⟩) ?_
            clear hK K
            try simp only [Act.put, List.setIfInBounds_toArray, List.set_cons_zero, List.set_cons_succ]
            generalize W1.alloc (.cells #[.bool false, .slice none 0 0, .bool false, .slice none 0 0] 121) = W4 at *
            generalize W1.heap.size = gf at *
            refine wpAnyC_one (i := 14) (by kernel_rfl) rfl (fun K hK => ?_)
            go_simp
            go_at_call 145
            refine (rdiv_any _ _ (RI.getD k 0) (PK.getD k 0) _ RXI.out RXK.out (fun e => HNZK.out (Rat.num_eq_zero.1 e)) (N := N) (by omega) (HFI.out k) (HFK.out k)).mono ?_
            rintro e W5 ⟨v5, rfl, hv, hb⟩
            replace HZN2 := Lib.hid (Vr.below HZN2.out hb)
            replace CI := Lib.hid (cell_below CI.out hb)
            replace EI := Lib.hid (EI.out.below hb)
            replace RXI := Lib.hid (RXI.out.ext hb)
            replace CK := Lib.hid (cell_below CK.out hb)
            replace EK := Lib.hid (EK.out.below hb)
            replace RXK := Lib.hid (RXK.out.ext hb)
            replace HL5 := Lib.hid (HL5.out.call hb)
            replace HVN := Lib.hid (HVN.out.below hb)
            replace HBN2 := Lib.hid (HBN2.out.trans (hb.mono HBN2.out.size))
            replace VF := Lib.hid (VF.out.below hb)
            clear hb
            have HQV := Lib.hid hv
            clear hv
            refine hK.out _ _ (fun _ => ⟨CI.out, EI.out.c0, EI.out.c1, EI.out.c2, EI.out.c3, CK.out, EK.out.c0, EK.out.c1, EK.out.c2, EK.out.c3⟩) ?_
            clear hK K
            try simp only [Act.put, List.setIfInBounds_toArray, List.set_cons_zero, List.set_cons_succ]
            generalize W5 = W6 at *
            obtain ⟨tb, T1, t1, u1, T2, t2, u2, rfl⟩ := HQV.out.bools
            have HF := Lib.hid (show DetF w (w.heap.size + 1) w.heap.size gd (some ⟨g, off, none⟩) n c1 VS (dtM k i X1) d2 (RI.getD k 0 / PK.getD k 0) (.pointer (some ⟨gf, 0, none⟩)) (set4 W6 gf (.bool tb) (.slice T1 t1 u1) (.bool false) (.slice T2 t2 u2)) from ⟨gf, rfl, HL5.out.set4V (HO2.out.mono (Nat.le_of_lt hgf)) VF.out (.bool tb) (.slice T1 t1 u1) (.bool false) (.slice T2 t2 u2), HVN.out.farV VF.out (by omega) (.bool tb) (.slice T1 t1 u1) (.bool false) (.slice T2 t2 u2), Vr.far (g' := gf) HZN2.out (show gf ≠ w.heap.size by have := HO2.out.outer; omega) (.bool tb) (.slice T1 t1 u1) (.bool false) (.slice T2 t2 u2), below_set4 HBN2.out (show w.heap.size ≤ gf by have := HO2.out.outer; omega) (.bool tb) (.slice T1 t1 u1) (.bool false) (.slice T2 t2 u2), ⟨_, _, _, _, _, _, _, VF.out.set (.bool tb) (.slice T1 t1 u1) (.bool false) (.slice T2 t2 u2), HQV.out.set4 VF.out (.bool tb) (.slice T1 t1 u1) (.bool false) (.slice T2 t2 u2)⟩, hgf⟩)
            unfold set4 at HF
            have r0 := VF.out.c0
            have q0 := VF.out.f0
            have r1 := VF.out.c1
            have q1 := VF.out.f1
            have r2 := VF.out.c2
            have q2 := VF.out.f2
            have r3 := VF.out.c3
            have q3 := VF.out.f3
            clear VF HQV HL5 HVN HZN2 HBN2 CI EI RXI CK EK RXK
            refine wpAnyC_one (i := 16) (by kernel_rfl) rfl (fun K hK => ?_)
            go_simp
            refine hK.out _ _ (fun h => absurd h (by decide)) ?_
            clear hK K r0 r1 r2 r3 q0 q1 q2 q3
            refine wpAnyC_done (by kernel_rfl) ?_ _
            go_wp2_with fail
            go_meet
            exact HF.out
          case rest =>
           clear HL5 HVN HZN2 HBN2
           obtain ⟨gf, rfl, hl5, hvn, hzn, hbn, hvf, hgf⟩ := hcut
           have HEND := Lib.hid (show (dtM k i X1).set i (elP k n (RI.getD k 0 / PK.getD k 0) PK RI) = dtM k (i + 1) X1 by rw [← HNX.out, elD, HLI.out])
           have HFF := Lib.hid (fitR_div (HFI.out k) (HFK.out k))
           have HL6 := Lib.hid (show LM wc (w.heap.size + 1) (.slice (some ⟨g, off, none⟩) n c1) VS ((dtM k i X1).set i (elP k k (RI.getD k 0 / PK.getD k 0) PK RI)) by rw [elP_start, ← HROI.out, set_getD_self]; exact hl5)
           have HVD := Lib.hid hvn
           have HZD := Lib.hid hzn
           have HBD := Lib.hid hbn
           have HVF := Lib.hid hvf
           clear hl5 hvn hzn hbn hvf HNX
           generalize RI.getD k 0 / PK.getD k 0 = f at *
           go_wp2
           go_loopg [8] (n - k) (fun mm v wr => ∃ j : Nat, mm = n - j ∧ v = I j ∧ k ≤ j ∧ j ≤ n ∧ Hid (LM wr (w.heap.size + 1) (.slice (some ⟨g, off, none⟩) n c1) VS ((dtM k i X1).set i (elP k j f PK RI))) ∧ Hid (Vq wr gd d2) ∧ Hid (zV wr w.heap.size) ∧ Hid (Below w.heap.size w wr) ∧ Hid (Vq wr gf f))
           case atStart => exact ⟨k, rfl, rfl, by omega, by omega, HL6, HVD, HZD, HBD, HVF⟩
           case round =>
            clear HL6 HVD HZD HBD HVF
            obtain ⟨j, rfl, rfl, hkj, hjn, HL6, HVD, HZD, HBD, HVF⟩ := hrel
            obtain ⟨wg, rfl⟩ : ∃ wg : World, wg = wr := ⟨_, rfl⟩
            have HRS := Lib.hid (rect_set (i := i) HRE.out (show (elP k j f PK RI).length = n by rw [elP_len, HLI.out]))
            by_cases hjl : j < n
            ·obtain ⟨b, o, c9, nb, E1, l1, c2, E2, l2, c3, hu, hc, hE, hrt, _, _⟩ := HL6.out.el HRS.out hin hjl
             obtain ⟨b2, o2, c8, mb, G1, m1, d2_, G2, m2, d3, _, hc2, hE2, hrt2, _, _⟩ := HL6.out.el HRS.out hkn hjl
             have HRI2 := Lib.hid (show ((dtM k i X1).set i (elP k j f PK RI)).getD i [] = elP k j f PK RI from getD_set_self (by rw [HRE.out.1]; exact hin))
             have hv1 : at2 ((dtM k i X1).set i (elP k j f PK RI)) i j = RI.getD j 0 := by unfold at2; rw [HRI2.out, elP_at _ _ _ _ _ _ (Nat.le_refl _)]
             have hv2 : at2 ((dtM k i X1).set i (elP k j f PK RI)) k j = PK.getD j 0 := by unfold at2; rw [getD_setn (by omega), HROK.out]
             rw [hv1] at hrt
             rw [hv2] at hrt2
             have HXX := Lib.hid (show ((dtM k i X1).set i (elP k j f PK RI)).set i ((((dtM k i X1).set i (elP k j f PK RI)).getD i []).set j (RI.getD j 0 - f * PK.getD j 0)) = (dtM k i X1).set i (elP k (j + 1) f PK RI) by rw [HRI2.out, elP_set f PK RI hkj (by rw [HLI.out]; exact hjl), List.set_set])
             have HU := Lib.hid hu
             have HBG := Lib.hid (HO2.out.rows i _ b hu rfl)
             have HFXJ := Lib.hid (HFI.out j)
             have HFPJ := Lib.hid (HFK.out j)
             have hd := below_draw wg
             have CI := Lib.hid hc
             have EI := Lib.hid hE
             have RXI := Lib.hid hrt
             have CK := Lib.hid hc2
             have EK := Lib.hid hE2
             have RXK := Lib.hid hrt2
             clear hc hc2 hE hE2 hrt hrt2 hv1 hv2 hu
             obtain ⟨fb, P1, p1, q1, P2, p2, q2, hvf, hfs⟩ := HVF.out
             have VF := Lib.hid hvf
             have RF := Lib.hid hfs
             clear hvf hfs
             replace HZD := Lib.hid (Vr.below HZD.out hd)
             replace CI := Lib.hid (cell_below CI.out hd)
             replace EI := Lib.hid (EI.out.below hd)
             replace RXI := Lib.hid (RXI.out.ext hd)
             replace CK := Lib.hid (cell_below CK.out hd)
             replace EK := Lib.hid (EK.out.below hd)
             replace RXK := Lib.hid (RXK.out.ext hd)
             replace HL6 := Lib.hid (HL6.out.call hd)
             replace HVD := Lib.hid (HVD.out.below hd)
             replace HBD := Lib.hid (HBD.out.trans (hd.mono HBD.out.size))
             replace HVF := Lib.hid (HVF.out.below hd)
             replace VF := Lib.hid (VF.out.below hd)
             replace RF := Lib.hid (RF.out.ext hd)
             clear hd
             have hkn5 : ¬ n ≤ k := by omega
             have hin5 : ¬ n ≤ i := by omega
             have hjn5 : ¬ n ≤ j := by omega
             go_upto_region 23 with (fail)
             refine wp_region_c (fun w' => w'.cell? ⟨g, off + i, none⟩ = some (.slice (some ⟨b, o, none⟩) n c9) ∧ w'.cell? ⟨b, o + j * 4, none⟩ = some (.bool nb) ∧ w'.cell? ⟨b, o + j * 4 + 1, none⟩ = some (.slice E1 l1 c2) ∧ w'.cell? ⟨b, o + j * 4 + 2, none⟩ = some (.bool false) ∧ w'.cell? ⟨b, o + j * 4 + 3, none⟩ = some (.slice E2 l2 c3) ∧ w'.cell? ⟨g, off + k, none⟩ = some (.slice (some ⟨b2, o2, none⟩) n c8) ∧ w'.cell? ⟨b2, o2 + j * 4, none⟩ = some (.bool mb) ∧ w'.cell? ⟨b2, o2 + j * 4 + 1, none⟩ = some (.slice G1 m1 d2_) ∧ w'.cell? ⟨b2, o2 + j * 4 + 2, none⟩ = some (.bool false) ∧ w'.cell? ⟨b2, o2 + j * 4 + 3, none⟩ = some (.slice G2 m2 d3) ∧ w'.cell? ⟨gf, 0, none⟩ = some (.bool fb) ∧ w'.cell? ⟨gf, 1, none⟩ = some (.slice P1 p1 q1) ∧ w'.cell? ⟨gf, 2, none⟩ = some (.bool false) ∧ w'.cell? ⟨gf, 3, none⟩ = some (.slice P2 p2 q2)) 23 (by kernel_rfl) ?_
             generalize wg.drew = W1 at *
             refine wpAnyC_take8 (i := 0) (oi := _) (v := .slice (some ⟨g, off, none⟩) n c1) rfl (by kernel_rfl) (by kernel_rfl) (by kernel_rfl) (by kernel_rfl) (by kernel_rfl) (by kernel_rfl) (fun _ _ _ h => h) (Or.inl ⟨by rfl, ?_⟩) ⟨CI.out, EI.out.c0, EI.out.c1, EI.out.c2, EI.out.c3, CK.out, EK.out.c0, EK.out.c1, EK.out.c2, EK.out.c3, VF.out.c0, VF.out.c1, VF.out.c2, VF.out.c3⟩ ?_
             ·intro w hSw
              obtain ⟨s0, s1, s2, s3, s4, s5, s6, s7, s8, s9, s10, s11, s12, s13⟩ := hSw
              go_simp
             try simp only [Act.put, List.setIfInBounds_toArray]
             refine wpAnyC_take8 (i := 1) (oi := _) (v := I i) rfl (by kernel_rfl) (by kernel_rfl) (by kernel_rfl) (by kernel_rfl) (by kernel_rfl) (by kernel_rfl) (fun _ _ _ h => h) (Or.inl ⟨by rfl, ?_⟩) ⟨CI.out, EI.out.c0, EI.out.c1, EI.out.c2, EI.out.c3, CK.out, EK.out.c0, EK.out.c1, EK.out.c2, EK.out.c3, VF.out.c0, VF.out.c1, VF.out.c2, VF.out.c3⟩ ?_
             ·intro w hSw
              obtain ⟨s0, s1, s2, s3, s4, s5, s6, s7, s8, s9, s10, s11, s12, s13⟩ := hSw
              go_simp
             try simp only [Act.put]
             refine wpAnyC_take8 (i := 2) (oi := _) (v := .pointer (some ⟨g, off + i, none⟩)) rfl (by kernel_rfl) (by kernel_rfl) (by kernel_rfl) (by kernel_rfl) (by kernel_rfl) (by kernel_rfl) (fun _ _ _ h => h) (Or.inl ⟨by rfl, ?_⟩) ⟨CI.out, EI.out.c0, EI.out.c1, EI.out.c2, EI.out.c3, CK.out, EK.out.c0, EK.out.c1, EK.out.c2, EK.out.c3, VF.out.c0, VF.out.c1, VF.out.c2, VF.out.c3⟩ ?_
             ·intro w hSw
              obtain ⟨s0, s1, s2, s3, s4, s5, s6, s7, s8, s9, s10, s11, s12, s13⟩ := hSw
              go_simp
             try simp only [Act.put]
             refine wpAnyC_take8 (i := 3) (oi := _) (v := .slice (some ⟨b, o, none⟩) n c9) rfl (by kernel_rfl) (by kernel_rfl) (by kernel_rfl) (by kernel_rfl) (by kernel_rfl) (by kernel_rfl) (fun _ _ _ h => h) (Or.inl ⟨by rfl, ?_⟩) ⟨CI.out, EI.out.c0, EI.out.c1, EI.out.c2, EI.out.c3, CK.out, EK.out.c0, EK.out.c1, EK.out.c2, EK.out.c3, VF.out.c0, VF.out.c1, VF.out.c2, VF.out.c3⟩ ?_
             ·intro w hSw
              obtain ⟨s0, s1, s2, s3, s4, s5, s6, s7, s8, s9, s10, s11, s12, s13⟩ := hSw
              go_simp
             try simp only [Act.put]
             refine wpAnyC_take8 (i := 4) (oi := _) (v := I j) rfl (by kernel_rfl) (by kernel_rfl) (by kernel_rfl) (by kernel_rfl) (by kernel_rfl) (by kernel_rfl) (fun _ _ _ h => h) (Or.inl ⟨by rfl, ?_⟩) ⟨CI.out, EI.out.c0, EI.out.c1, EI.out.c2, EI.out.c3, CK.out, EK.out.c0, EK.out.c1, EK.out.c2, EK.out.c3, VF.out.c0, VF.out.c1, VF.out.c2, VF.out.c3⟩ ?_
             ·intro w hSw
              obtain ⟨s0, s1, s2, s3, s4, s5, s6, s7, s8, s9, s10, s11, s12, s13⟩ := hSw
              go_simp
             try simp only [Act.put]
             refine wpAnyC_take8 (i := 5) (oi := _) (v := .slice (some ⟨g, off, none⟩) n c1) rfl (by kernel_rfl) (by kernel_rfl) (by kernel_rfl) (by kernel_rfl) (by kernel_rfl) (by kernel_rfl) (fun _ _ _ h => h) (Or.inl ⟨by rfl, ?_⟩) ⟨CI.out, EI.out.c0, EI.out.c1, EI.out.c2, EI.out.c3, CK.out, EK.out.c0, EK.out.c1, EK.out.c2, EK.out.c3, VF.out.c0, VF.out.c1, VF.out.c2, VF.out.c3⟩ ?_
             ·intro w hSw
              obtain ⟨s0, s1, s2, s3, s4, s5, s6, s7, s8, s9, s10, s11, s12, s13⟩ := hSw
              go_simp
             try simp only [Act.put]
             refine wpAnyC_take8 (i := 6) (oi := _) (v := I i) rfl (by kernel_rfl) (by kernel_rfl) (by kernel_rfl) (by kernel_rfl) (by kernel_rfl) (by kernel_rfl) (fun _ _ _ h => h) (Or.inl ⟨by rfl, ?_⟩) ⟨CI.out, EI.out.c0, EI.out.c1, EI.out.c2, EI.out.c3, CK.out, EK.out.c0, EK.out.c1, EK.out.c2, EK.out.c3, VF.out.c0, VF.out.c1, VF.out.c2, VF.out.c3⟩ ?_
             ·intro w hSw
              obtain ⟨s0, s1, s2, s3, s4, s5, s6, s7, s8, s9, s10, s11, s12, s13⟩ := hSw
              go_simp
             try simp only [Act.put]
             refine wpAnyC_take8 (i := 7) (oi := _) (v := .pointer (some ⟨g, off + i, none⟩)) rfl (by kernel_rfl) (by kernel_rfl) (by kernel_rfl) (by kernel_rfl) (by kernel_rfl) (by kernel_rfl) (fun _ _ _ h => h) (Or.inl ⟨by rfl, ?_⟩) ⟨CI.out, EI.out.c0, EI.out.c1, EI.out.c2, EI.out.c3, CK.out, EK.out.c0, EK.out.c1, EK.out.c2, EK.out.c3, VF.out.c0, VF.out.c1, VF.out.c2, VF.out.c3⟩ ?_
             ·intro w hSw
              obtain ⟨s0, s1, s2, s3, s4, s5, s6, s7, s8, s9, s10, s11, s12, s13⟩ := hSw
              go_simp
             try simp only [Act.put]
             refine wpAnyC_take8 (i := 8) (oi := _) (v := .slice (some ⟨b, o, none⟩) n c9) rfl (by kernel_rfl) (by kernel_rfl) (by kernel_rfl) (by kernel_rfl) (by kernel_rfl) (by kernel_rfl) (fun _ _ _ h => h) (Or.inl ⟨by rfl, ?_⟩) ⟨CI.out, EI.out.c0, EI.out.c1, EI.out.c2, EI.out.c3, CK.out, EK.out.c0, EK.out.c1, EK.out.c2, EK.out.c3, VF.out.c0, VF.out.c1, VF.out.c2, VF.out.c3⟩ ?_
             ·intro w hSw
              obtain ⟨s0, s1, s2, s3, s4, s5, s6, s7, s8, s9, s10, s11, s12, s13⟩ := hSw
              go_simp
             try simp only [Act.put]
             refine wpAnyC_take8 (i := 9) (oi := _) (v := I j) rfl (by kernel_rfl) (by kernel_rfl) (by kernel_rfl) (by kernel_rfl) (by kernel_rfl) (by kernel_rfl) (fun _ _ _ h => h) (Or.inl ⟨by rfl, ?_⟩) ⟨CI.out, EI.out.c0, EI.out.c1, EI.out.c2, EI.out.c3, CK.out, EK.out.c0, EK.out.c1, EK.out.c2, EK.out.c3, VF.out.c0, VF.out.c1, VF.out.c2, VF.out.c3⟩ ?_
             ·intro w hSw
              obtain ⟨s0, s1, s2, s3, s4, s5, s6, s7, s8, s9, s10, s11, s12, s13⟩ := hSw
              go_simp
             try simp only [Act.put]
             refine wpAnyC_take8 (i := 10) (oi := _) (v := .pointer (some ⟨b, o + j * 4, none⟩)) rfl (by kernel_rfl) (by kernel_rfl) (by kernel_rfl) (by kernel_rfl) (by kernel_rfl) (by kernel_rfl) (fun _ _ _ h => h) (Or.inl ⟨by rfl, ?_⟩) ⟨CI.out, EI.out.c0, EI.out.c1, EI.out.c2, EI.out.c3, CK.out, EK.out.c0, EK.out.c1, EK.out.c2, EK.out.c3, VF.out.c0, VF.out.c1, VF.out.c2, VF.out.c3⟩ ?_
             ·intro w hSw
              obtain ⟨s0, s1, s2, s3, s4, s5, s6, s7, s8, s9, s10, s11, s12, s13⟩ := hSw
              go_simp
             try simp only [Act.put]
             refine wpAnyC_take8 (i := 11) (oi := _) (v := .agg #[.bool nb, .slice E1 l1 c2, .bool false, .slice E2 l2 c3]) rfl (by kernel_rfl) (by kernel_rfl) (by kernel_rfl) (by kernel_rfl) (by kernel_rfl) (by kernel_rfl) (fun _ _ _ h => h) (Or.inl ⟨by rfl, ?_⟩) ⟨CI.out, EI.out.c0, EI.out.c1, EI.out.c2, EI.out.c3, CK.out, EK.out.c0, EK.out.c1, EK.out.c2, EK.out.c3, VF.out.c0, VF.out.c1, VF.out.c2, VF.out.c3⟩ ?_
             ·intro w hSw
              obtain ⟨s0, s1, s2, s3, s4, s5, s6, s7, s8, s9, s10, s11, s12, s13⟩ := hSw
              go_simp
             try simp only [Act.put]
             refine wpAnyC_take8 (i := 12) (oi := _) (v := .agg #[.bool fb, .slice P1 p1 q1, .bool false, .slice P2 p2 q2]) rfl (by kernel_rfl) (by kernel_rfl) (by kernel_rfl) (by kernel_rfl) (by kernel_rfl) (by kernel_rfl) (fun _ _ _ h => h) (Or.inl ⟨by rfl, ?_⟩) ⟨CI.out, EI.out.c0, EI.out.c1, EI.out.c2, EI.out.c3, CK.out, EK.out.c0, EK.out.c1, EK.out.c2, EK.out.c3, VF.out.c0, VF.out.c1, VF.out.c2, VF.out.c3⟩ ?_
             ·intro w hSw
              obtain ⟨s0, s1, s2, s3, s4, s5, s6, s7, s8, s9, s10, s11, s12, s13⟩ := hSw
              go_simp
             try simp only [Act.put]
             refine wpAnyC_take8 (i := 13) (oi := _) (v := .slice (some ⟨g, off, none⟩) n c1) rfl (by kernel_rfl) (by kernel_rfl) (by kernel_rfl) (by kernel_rfl) (by kernel_rfl) (by kernel_rfl) (fun _ _ _ h => h) (Or.inl ⟨by rfl, ?_⟩) ⟨CI.out, EI.out.c0, EI.out.c1, EI.out.c2, EI.out.c3, CK.out, EK.out.c0, EK.out.c1, EK.out.c2, EK.out.c3, VF.out.c0, VF.out.c1, VF.out.c2, VF.out.c3⟩ ?_
             ·intro w hSw
              obtain ⟨s0, s1, s2, s3, s4, s5, s6, s7, s8, s9, s10, s11, s12, s13⟩ := hSw
              go_simp
             try simp only [Act.put]
             refine wpAnyC_take8 (i := 14) (oi := _) (v := I k) rfl (by kernel_rfl) (by kernel_rfl) (by kernel_rfl) (by kernel_rfl) (by kernel_rfl) (by kernel_rfl) (fun _ _ _ h => h) (Or.inl ⟨by rfl, ?_⟩) ⟨CI.out, EI.out.c0, EI.out.c1, EI.out.c2, EI.out.c3, CK.out, EK.out.c0, EK.out.c1, EK.out.c2, EK.out.c3, VF.out.c0, VF.out.c1, VF.out.c2, VF.out.c3⟩ ?_
             ·intro w hSw
              obtain ⟨s0, s1, s2, s3, s4, s5, s6, s7, s8, s9, s10, s11, s12, s13⟩ := hSw
              go_simp
             try simp only [Act.put]
             refine wpAnyC_take8 (i := 15) (oi := _) (v := .pointer (some ⟨g, off + k, none⟩)) rfl (by kernel_rfl) (by kernel_rfl) (by kernel_rfl) (by kernel_rfl) (by kernel_rfl) (by kernel_rfl) (fun _ _ _ h => h) (Or.inl ⟨by rfl, ?_⟩) ⟨CI.out, EI.out.c0, EI.out.c1, EI.out.c2, EI.out.c3, CK.out, EK.out.c0, EK.out.c1, EK.out.c2, EK.out.c3, VF.out.c0, VF.out.c1, VF.out.c2, VF.out.c3⟩ ?_
             ·intro w hSw
              obtain ⟨s0, s1, s2, s3, s4, s5, s6, s7, s8, s9, s10, s11, s12, s13⟩ := hSw
              go_simp
             try simp only [Act.put]
             refine wpAnyC_take8 (i := 16) (oi := _) (v := .slice (some ⟨b2, o2, none⟩) n c8) rfl (by kernel_rfl) (by kernel_rfl) (by kernel_rfl) (by kernel_rfl) (by kernel_rfl) (by kernel_rfl) (fun _ _ _ h => h) (Or.inl ⟨by rfl, ?_⟩) ⟨CI.out, EI.out.c0, EI.out.c1, EI.out.c2, EI.out.c3, CK.out, EK.out.c0, EK.out.c1, EK.out.c2, EK.out.c3, VF.out.c0, VF.out.c1, VF.out.c2, VF.out.c3⟩ ?_
             ·intro w hSw
              obtain ⟨s0, s1, s2, s3, s4, s5, s6, s7, s8, s9, s10, s11, s12, s13⟩ := hSw
              go_simp
             try simp only [Act.put]
             refine wpAnyC_take8 (i := 17) (oi := _) (v := I j) rfl (by kernel_rfl) (by kernel_rfl) (by kernel_rfl) (by kernel_rfl) (by kernel_rfl) (by kernel_rfl) (fun _ _ _ h => h) (Or.inl ⟨by rfl, ?_⟩) ⟨CI.out, EI.out.c0, EI.out.c1, EI.out.c2, EI.out.c3, CK.out, EK.out.c0, EK.out.c1, EK.out.c2, EK.out.c3, VF.out.c0, VF.out.c1, VF.out.c2, VF.out.c3⟩ ?_
             ·intro w hSw
              obtain ⟨s0, s1, s2, s3, s4, s5, s6, s7, s8, s9, s10, s11, s12, s13⟩ := hSw
              go_simp
             try simp only [Act.put]
             refine wpAnyC_take8 (i := 18) (oi := _) (v := .pointer (some ⟨b2, o2 + j * 4, none⟩)) rfl (by kernel_rfl) (by kernel_rfl) (by kernel_rfl) (by kernel_rfl) (by kernel_rfl) (by kernel_rfl) (fun _ _ _ h => h) (Or.inl ⟨by rfl, ?_⟩) ⟨CI.out, EI.out.c0, EI.out.c1, EI.out.c2, EI.out.c3, CK.out, EK.out.c0, EK.out.c1, EK.out.c2, EK.out.c3, VF.out.c0, VF.out.c1, VF.out.c2, VF.out.c3⟩ ?_
             ·intro w hSw
              obtain ⟨s0, s1, s2, s3, s4, s5, s6, s7, s8, s9, s10, s11, s12, s13⟩ := hSw
              go_simp
             try simp only [Act.put]
             refine wpAnyC_take8 (i := 19) (oi := _) (v := .agg #[.bool mb, .slice G1 m1 d2_, .bool false, .slice G2 m2 d3]) rfl (by kernel_rfl) (by kernel_rfl) (by kernel_rfl) (by kernel_rfl) (by kernel_rfl) (by kernel_rfl) (fun _ _ _ h => h) (Or.inl ⟨by rfl, ?_⟩) ⟨CI.out, EI.out.c0, EI.out.c1, EI.out.c2, EI.out.c3, CK.out, EK.out.c0, EK.out.c1, EK.out.c2, EK.out.c3, VF.out.c0, VF.out.c1, VF.out.c2, VF.out.c3⟩ ?_
             ·intro w hSw
              obtain ⟨s0, s1, s2, s3, s4, s5, s6, s7, s8, s9, s10, s11, s12, s13⟩ := hSw
              go_simp
             try simp only [Act.put]
             refine wpAnyC_one (i := 20) (by kernel_rfl) rfl (fun K hK => ?_)
             go_simp
             go_at_call 88
             refine (rmul_any _ _ f (PK.getD j 0) _ RF.out RXK.out (N := N + N) (by omega) HFF.out (HFPJ.out.mono (by omega))).mono ?_
             rintro e w9 ⟨v9, rfl, hv, hb⟩
             replace HZD := Lib.hid (Vr.below HZD.out hb)
             replace CI := Lib.hid (cell_below CI.out hb)
             replace EI := Lib.hid (EI.out.below hb)
             replace RXI := Lib.hid (RXI.out.ext hb)
             replace CK := Lib.hid (cell_below CK.out hb)
             replace EK := Lib.hid (EK.out.below hb)
             replace RXK := Lib.hid (RXK.out.ext hb)
             replace HL6 := Lib.hid (HL6.out.call hb)
             replace HVD := Lib.hid (HVD.out.below hb)
             replace HBD := Lib.hid (HBD.out.trans (hb.mono HBD.out.size))
             replace HVF := Lib.hid (HVF.out.below hb)
             replace VF := Lib.hid (VF.out.below hb)
             replace RF := Lib.hid (RF.out.ext hb)
             clear hb
             refine hK.out _ _ (fun _ => ⟨CI.out, EI.out.c0, EI.out.c1, EI.out.c2, EI.out.c3, CK.out, EK.out.c0, EK.out.c1, EK.out.c2, EK.out.c3, VF.out.c0, VF.out.c1, VF.out.c2, VF.out.c3⟩) ?_
             clear hK K
             try simp only [Act.put, List.setIfInBounds_toArray, List.set_cons_zero, List.set_cons_succ]
             have RM9 := Lib.hid (hv)
             clear hv
             refine wpAnyC_one (i := 21) (by kernel_rfl) rfl (fun K hK => ?_)
             go_simp
             go_at_call 146
             refine (rsub_any _ _ (RI.getD j 0) (f * PK.getD j 0) _ RXI.out RM9.out (N := N + N + (N + N)) (by omega) (HFXJ.out.mono (by omega)) (fitR_mul HFF.out (HFPJ.out.mono (by omega)))).mono ?_
             rintro e w10 ⟨v10, rfl, hv, hb⟩
             replace HZD := Lib.hid (Vr.below HZD.out hb)
             replace CI := Lib.hid (cell_below CI.out hb)
             replace EI := Lib.hid (EI.out.below hb)
             replace RXI := Lib.hid (RXI.out.ext hb)
             replace CK := Lib.hid (cell_below CK.out hb)
             replace EK := Lib.hid (EK.out.below hb)
             replace RXK := Lib.hid (RXK.out.ext hb)
             replace HL6 := Lib.hid (HL6.out.call hb)
             replace HVD := Lib.hid (HVD.out.below hb)
             replace HBD := Lib.hid (HBD.out.trans (hb.mono HBD.out.size))
             replace HVF := Lib.hid (HVF.out.below hb)
             replace VF := Lib.hid (VF.out.below hb)
             replace RF := Lib.hid (RF.out.ext hb)
             replace RM9 := Lib.hid (RM9.out.ext hb)
             clear hb
             refine hK.out _ _ (fun _ => ⟨CI.out, EI.out.c0, EI.out.c1, EI.out.c2, EI.out.c3, CK.out, EK.out.c0, EK.out.c1, EK.out.c2, EK.out.c3, VF.out.c0, VF.out.c1, VF.out.c2, VF.out.c3⟩) ?_
             clear hK K
             try simp only [Act.put, List.setIfInBounds_toArray, List.set_cons_zero, List.set_cons_succ]
             refine wpAnyC_take8 (i := 22) (oi := _) (v := .pointer (some ⟨b, o + j * 4, none⟩)) rfl (by kernel_rfl) (by kernel_rfl) (by kernel_rfl) (by kernel_rfl) (by kernel_rfl) (by kernel_rfl) (fun _ _ _ h => h) (Or.inl ⟨by rfl, ?_⟩) ⟨CI.out, EI.out.c0, EI.out.c1, EI.out.c2, EI.out.c3, CK.out, EK.out.c0, EK.out.c1, EK.out.c2, EK.out.c3, VF.out.c0, VF.out.c1, VF.out.c2, VF.out.c3⟩ ?_
             ·intro w hSw
              obtain ⟨s0, s1, s2, s3, s4, s5, s6, s7, s8, s9, s10, s11, s12, s13⟩ := hSw
              go_simp
             try simp only [Act.put, List.setIfInBounds_toArray]
             obtain ⟨tb, T1, t1, u1, T2, t2, u2, rfl⟩ := hv.bools
             obtain ⟨hl, hkw2, _, hbb⟩ := HL6.out.wr HRS.out hin HU.out hjl hv (NRow.nil w10 0 intT) (by decide)
             rw [HXX.out] at hl
             have HLN := Lib.hid hl
             have HVN := Lib.hid (HVD.out.put4 hkw2 (by have := HBG.out; omega))
             have HVFN := Lib.hid (HVF.out.put4 hkw2 (by have := HBG.out; omega))
             have HZN := Lib.hid (show zV (put4 w10 b (o + j * 4) (.bool tb) (.slice T1 t1 u1) (.bool false) (.slice T2 t2 u2)) w.heap.size from Vr.keepB HZD.out (put4_other w10 _ _ _ _ _ (by omega)))
             have HBN2 := Lib.hid (put4_below (o := o + j * 4) HBD.out (show w.heap.size ≤ b by omega) (.bool tb) (.slice T1 t1 u1) (.bool false) (.slice T2 t2 u2))
             clear hl hkw2 hbb
             unfold put4 at HLN HVN HVFN HZN HBN2
             have z0 := EI.out.c0
             have y0 := EI.out.f0
             have z1 := EI.out.c1
             have y1 := EI.out.f1
             have z2 := EI.out.c2
             have y2 := EI.out.f2
             have z3 := EI.out.c3
             have y3 := EI.out.f3
             clear CI EI RXI CK EK RXK HL6 HVD HBD HVF VF RF RM9
             clear hv HXX HU HFXJ HFPJ HRS HRI2 HZD
             refine wpAnyC_one (i := 23) (by kernel_rfl) rfl (fun K hK => ?_)
             go_simp
             refine hK.out _ _ (fun h => absurd h (by decide)) ?_
             clear hK K z0 z1 z2 z3 y0 y1 y2 y3
             refine wpAnyC_done (by kernel_rfl) ?_ _
             go_wp2
             go_roundg (n - (j + 1))
             case measure => omega
             case rel => exact ⟨j + 1, rfl, by go_num, by omega, by omega, HLN, HVN, HZN, HBN2, HVFN⟩
            ·have hjj : j = n := by omega
             have HLN := Lib.hid (show LM wg (w.heap.size + 1) (.slice (some ⟨g, off, none⟩) n c1) VS (dtM k (i + 1) X1) by have h := HL6.out; rw [hjj] at h; rw [← HEND.out]; exact h)
             have hjn5 : ¬ j < n := by omega
             clear hjj HL6 HVF HRS
             go_wp2
             go_roundg (n - (i + 1))
             case measure => omega
             case rel => exact ⟨i + 1, rfl, by go_num, by omega, by omega, HLN, HVD, HZD, HBD⟩
        ·have hni : n = i := by omega
         subst hni
         have HSN := Lib.hid (show DetC w (w.heap.size + 1) w.heap.size gd (some ⟨g, off, none⟩) n c1 (dtM k n X1) d2 we from ⟨VS, HL5.out, fun _ g2 o2 e => by injection e with e; injection e with e1 e2; subst e1; exact HO2.out, HVN.out, HZN2.out, HBN2.out⟩)
         clear HL5 HVN HZN2 HBN2 HRE
         go_wp2
         go_roundg (n - (k + 1))
         case measure => omega
         case rel => exact ⟨k + 1, _, _, rfl, by go_num, by omega, HSTEP, HSN⟩
    ·have hpn2 : n = p := by omega
     subst hpn2
     have HNO := Lib.hid (show dtQ m n = none by
      have h := dtQ_none (dtQ_stop HQ.out (by rw [HZN.out]; have h2 := HRX.out.1; rw [← h2, nzAt_end]; exact Nat.le_refl _)) (n - (k + 1))
      rw [show k + 1 + (n - (k + 1)) = n by omega] at h
      exact h)
     have HE := Lib.hid (show detR m n = ((0 : Int) : Rat) by rw [detR, HNO.out]; rfl)
     replace HZ := Lib.hid (Vr.below HZ.out HB2.out)
     replace HB := Lib.hid (HB.out.trans (HB2.out.mono HB.out.size))
     clear HB2 HL HV HO HNO HZN HF HFD
     have HC := Lib.hid (rwhole_any 0 wb (by decide) (by decide))
     go_wp2_with fail
     refine HC.out.mono ?_
     rintro e w5 ⟨v, rfl, hv, hb⟩
     clear HC
     obtain ⟨tb, T1, t1, u1, T2, t2, u2, rfl⟩ := hv.bools
     replace HZ := Lib.hid (Vr.below HZ.out hb)
     replace HB := Lib.hid (HB.out.trans (hb.mono HB.out.size))
     clear hb
     have HRR := Lib.hid (ret_rat_set (g := w.heap.size) HB.out (by omega) HZ.out hv)
     have HZZ := Lib.hid (Vr.set HZ.out (.bool tb) (.slice T1 t1 u1) (.bool false) (.slice T2 t2 u2))
     unfold set4 at HRR HZZ
     have r0 := HZ.out.c0
     have q0 := HZ.out.f0
     have r1 := HZ.out.c1
     have q1 := HZ.out.f1
     have r2 := HZ.out.c2
     have q2 := HZ.out.f2
     have r3 := HZ.out.c3
     have q3 := HZ.out.f3
     clear hv HB HZ
     go_wp2
     have z0 := HZZ.out.c0
     have z1 := HZZ.out.c1
     have z2 := HZZ.out.c2
     have z3 := HZZ.out.c3
     exact bodyPost_ret (v := .agg #[.bool tb, .slice T1 t1 u1, .bool false, .slice T2 t2 u2]) (by simp [results, Tryz.results82, go_sem, z0, z1, z2, z3]) rfl (by rw [HE.out]; exact HRR.out)
  ·have hkk : n = k := by omega
   subst hkk
   have HE := Lib.hid (show detR m n = d by rw [detR, HQ.out])
   obtain ⟨tb, T1, t1, u1, T2, t2, u2, hvd, hv⟩ := hV
   have HZ := Lib.hid hZ
   have HB := Lib.hid hb
   have d0 := hvd.c0
   have d1 := hvd.c1
   have d2 := hvd.c2
   have d3 := hvd.c3
   clear hLM hO hvd hZ hb HS HQ HRX
   have HRR := Lib.hid (ret_rat_set (g := w.heap.size) HB.out (by omega) HZ.out hv)
   have HZZ := Lib.hid (Vr.set HZ.out (.bool tb) (.slice T1 t1 u1) (.bool false) (.slice T2 t2 u2))
   unfold set4 at HRR HZZ
   have r0 := HZ.out.c0
   have q0 := HZ.out.f0
   have r1 := HZ.out.c1
   have q1 := HZ.out.f1
   have r2 := HZ.out.c2
   have q2 := HZ.out.f2
   have r3 := HZ.out.c3
   have q3 := HZ.out.f3
   clear hv HB HZ
   go_wp2
   have z0 := HZZ.out.c0
   have z1 := HZZ.out.c1
   have z2 := HZZ.out.c2
   have z3 := HZZ.out.c3
   exact bodyPost_ret (v := .agg #[.bool tb, .slice T1 t1 u1, .bool false, .slice T2 t2 u2]) (by simp [results, Tryz.results82, go_sem, z0, z1, z2, z3]) rfl (by rw [HE.out]; exact HRR.out)
end Go.Proofs.YtgecdcjfncfmcaaGreatDoor
