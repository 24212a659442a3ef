/- outage.Single: the flows without one branch, as texts. outage.All: what the outages of all branches do. outage.Secure. outageFact. -/
import Derived.Test.YtenbglfkdldheaaGreatDoorOXG
set_option maxRecDepth 100000
set_option maxHeartbeats 16000000
namespace Go.Proofs.YtenbglfkdldheaaGreatDoor
open Go.RowKit
def pT (n : NetD) (inj : List Int) (k : Int) : List Rat × Int :=
 if aM n inj ≠ 0 then ([], aM n inj) else if k < 0 ∨ (n.branches.length : Int) ≤ k then ([], 4) else if nW n [k.toNat] = false then ([], 15)
 else if (dY n inj [k.toNat]).all fI = true then (dY n inj [k.toNat], 0) else ([], 2)
theorem qJ {k nb : Nat} (h : k < nb) : IncG [k] nb := fun j x hx => by
 match j, hx with
 | 0, hx =>
  obtain rfl : k = x := by simpa using hx
  simp
  omega
theorem aCk (nb : Nat) : IncG [] nb := fun j x hx => by simp at hx
theorem sL (w : World) (z : Int) : Reads (w.alloc (.cells #[I z] 3)) (w.alloc (.cells #[I z] 3)).heap.size 1 (some ⟨w.heap.size, 0, none⟩) 1 ([z].map I) := cD (n := 1) (sz := 1) (Blk.new w 3 #[I z]) rfl
theorem aAp (n : NetD) (v : NetV) (inj : List Int) (m : Nat) (A : Option Addr) (c : Nat) (k : Int) (w : World) (hN : Net w n v) (hj : Reads w w.heap.size 1 A m (inj.map I)) (hm : m ≤ 9223372036854775807) (htab : Tab w) : Calls Tryz.prog 31 #[v.val n, .slice A m c, I k] w (aCj w (pT n inj k)) := by
 have hln : inj.length = m := by have := hj.1; simpa using this
 have HLN := aH hln
 clear hln
 have hz := aD w (Obj.cells (v.parts n) 29)
 have HN := aH (hN.below hz)
 have HG := aH (Blk.new w 29 (v.parts n))
 have HB := aH hz
 have HJ := aH ((hj.below hz).more hz.size)
 have HTB := aH htab
 clear hz hN hj htab
 obtain ⟨na, nc, sa, sc, bra, brc, ga, gac, la, lc, ta, tc⟩ := v
 unfold NetV.val NetV.parts at *
 simp only at HG HB HN HJ ⊢
 go_enter Tryz.func31, Tryz.ntmps31
 go_upto_region 1 with (fail)
 generalize w.alloc (Obj.cells #[.slice na n.nodes.length nc, .slice sa n.switches.length sc, .slice bra n.branches.length brc, .slice ga n.gens.length gac, .slice la n.loads.length lc, .slice ta n.stores.length tc] 29) = w0 at *
 have x0 := HG.out.cell 0
 have x1 := HG.out.cell 1
 have x2 := HG.out.cell 2
 have x3 := HG.out.cell 3
 have x4 := HG.out.cell 4
 have x5 := HG.out.cell 5
 have HC := aH (lT n _ inj m A c w0 HN.out HJ.out hm)
 unfold NetV.val NetV.parts at HC
 simp only at HC
 go_wp2_with fail
 refine HC.out.mono ?_
 rintro e w1 ⟨rfl, hb⟩
 clear HC
 clear x0 x1 x2 x3 x4 x5
 have hbs := HB.out.size
 replace HB := aH (HB.out.trans (hb.mono hbs))
 clear hbs
 replace HN := aH (HN.out.below hb)
 replace HG := bL HG hb
 replace HJ := aH ((HJ.out.below hb).more hb.size)
 clear hb
 by_cases hc : aM n inj = 0
 rotate_left
 ·have tc0 : (aM n inj != 0) = true := bne_iff_ne.2 hc
  have HZ := aH (show pT n inj k = ([], aM n inj) by rw [pT, if_pos hc])
  have hcc := hc
  clear hc
  generalize aM n inj = fc at *
  go_wp2
  go_ret2
  exact lK HZ.out hcc HB.out
 obtain ⟨hck, hl, hbd⟩ := gY hc
 have HCK := aH hck
 have HBD := aH hbd
 have HFC := aH hc
 obtain rfl : m = n.nodes.length := HLN.out.symm.trans hl
 have HV := aH (oN hck)
 rw [hc]
 clear hck hl hbd hc
 have x2 := HG.out.cell 2
 by_cases hk0 : k < 0
 ·have t0 : decide (k < 0) = true := decide_eq_true hk0
  have HZ := aH (show pT n inj k = ([], 4) by rw [pT, if_neg (fun c => c HFC.out), if_pos (.inl hk0)])
  go_wp2
  go_ret2
  exact lK HZ.out (by decide) HB.out
 ·have t0 : decide (k < 0) = false := decide_eq_false hk0
  by_cases hkl : (n.branches.length : Int) ≤ k
  ·have t1 : decide ((n.branches.length : Int) ≤ k) = true := decide_eq_true hkl
   have HZ := aH (show pT n inj k = ([], 4) by rw [pT, if_neg (fun c => c HFC.out), if_pos (.inr hkl)])
   go_wp2
   go_ret2
   exact lK HZ.out (by decide) HB.out
  ·have t1 : decide ((n.branches.length : Int) ≤ k) = false := decide_eq_false hkl
   obtain ⟨k, rfl⟩ : ∃ j : Nat, k = j := Int.eq_ofNat_of_zero_le (by omega)
   have hk : k < n.branches.length := by omega
   have HSF := aH (show pT n inj k = if nW n [k] = false then ([], 15) else if (dY n inj [k]).all fI = true then (dY n inj [k], 0) else ([], 2) by rw [pT, if_neg (fun c => c HFC.out), if_neg (by omega), Int.toNat_natCast])
   have HLL := aH (oZ (qJ hk) inj)
   have HIN := aH (qJ hk)
   have hbl := HV.out.hb
   go_upto_region 6 with (fail)
   clear x2 t0 t1 hk0 hkl
   have x0 := HG.out.cell 0
   have x1 := HG.out.cell 1
   have x2 := HG.out.cell 2
   have x3 := HG.out.cell 3
   have x4 := HG.out.cell 4
   have x5 := HG.out.cell 5
   have hb := aD w1 (.cells #[I k] 3)
   have hrd := sL w1 k
   have hbs := HB.out.size
   replace HB := aH (HB.out.trans (hb.mono hbs))
   clear hbs
   replace HN := aH (HN.out.below hb)
   replace HG := bL HG hb
   replace HJ := aH ((HJ.out.below hb).more hb.size)
   clear hb
   have HC := aH (sK n _ inj [k] A c (some ⟨w1.heap.size, 0, none⟩) 1 1 (w1.alloc (.cells #[I k] 3)) HN.out.net HJ.out hrd HCK.out HBD.out HIN.out)
   unfold NetV.val NetV.parts at HC
   simp only at HC
   clear hrd
   go_wp2_with fail
   refine HC.out.mono ?_
   rintro e w3 ⟨v3, rfl, h1, h2, hb⟩
   clear HC
   clear x0 x1 x2 x3 x4 x5
   have hsz := HB.out.size
   have hbs := HB.out.size
   replace HB := aH (HB.out.trans (hb.mono hbs))
   clear hbs
   replace HN := aH (HN.out.below hb)
   replace HG := bL HG hb
   replace HJ := aH ((HJ.out.below hb).more hb.size)
   clear hb
   cases hi : nW n [k] with
   | false =>
    have hv := h2 hi
    subst hv
    have HZ := aH (show pT n inj k = ([], 15) by rw [HSF.out, if_pos hi])
    clear h1 h2 hi
    go_wp2
    go_ret2
    exact lK HZ.out (by decide) HB.out
   | true =>
    have HQ := aH (show pT n inj k = if (dY n inj [k]).all fI = true then (dY n inj [k], 0) else ([], 2) by rw [HSF.out, if_neg (by rw [hi]; decide)])
    have hr7 := h1 hi
    clear h1 h2 hi
    obtain ⟨A7, c7, rfl⟩ := hr7.val
    have hll := HLL.out
    generalize dY n inj [k] = LQ at *
    have hlb : LQ.length ≤ 1000 := by omega
    clear hll
    have HC := aH (xW LQ LQ.length A7 c7 w3 hr7.rv (by omega) (fA HTB.out HB.out))
    go_wp2_with fail
    refine HC.out.mono ?_
    rintro e w8 ⟨v8, rfl, h1, h2, hb⟩
    clear HC
    have HR := aH (aEx ⟨v8, rfl, h1, h2, hb⟩ HB.out)
    rw [← HQ.out] at HR
    clear h1 h2 hb hr7 HQ
    go_wp2
    go_ret2
    exact HR.out
def eC (e : Int × Bool × Value) : List Value := [I e.1, .bool e.2.1, e.2.2]
theorem aAq (e : Int × Bool × Value) : (eC e).length = 3 := rfl
structure ResO (w : World) (base : Nat) (u : Value) (es : List (Int × Bool × Value)) (rs : List (Bool × List Int)) : Prop where
 len : es.length = rs.length
 row : Row w base 59 3 u rs.length (aF eC es)
 inn : ∀ (i : Nat) (e : Int × Bool × Value) (r : Bool × List Int), es[i]? = some e → rs[i]? = some r → e.1 = i ∧ e.2.1 = r.1 ∧ Row w base 3 1 e.2.2 r.2.length (r.2.map I)
theorem ResO.nil (w : World) (base : Nat) : ResO w base (.slice none 0 0) [] [] := ⟨rfl, Row.nil _ _ _ _, fun i e r h => by simp at h⟩
theorem ResO.call {w w' : World} {base : Nat} {u : Value} {es : List (Int × Bool × Value)} {rs : List (Bool × List Int)} (h : ResO w base u es rs) (hb : Below w.heap.size w w') : ResO w' base u es rs :=
 ⟨h.len, h.row.call hb, fun i e r h1 h2 => by obtain ⟨k1, k2, k3⟩ := h.inn i e r h1 h2; exact ⟨k1, k2, k3.call hb⟩⟩
theorem ResO.less {w : World} {base b2 : Nat} {u : Value} {es : List (Int × Bool × Value)} {rs : List (Bool × List Int)} (h : ResO w base u es rs) (hb : b2 ≤ base) : ResO w b2 u es rs :=
 ⟨h.len, h.row.less hb, fun i e r h1 h2 => by obtain ⟨k1, k2, k3⟩ := h.inn i e r h1 h2; exact ⟨k1, k2, k3.less hb⟩⟩
theorem ResO.snoc {w w' : World} {base : Nat} {u u' : Value} {es : List (Int × Bool × Value)} {rs : List (Bool × List Int)} (h : ResO w base u es rs) {b : Bool} {v : Value} {l : List Int} (hv : Row w base 3 1 v l.length (l.map I))
  (hr : Row w' base 59 3 u' (rs.length + 1) (aF eC es ++ [I rs.length, .bool b, v])) (hg : w.grownBy w' u.ownBlock) : ResO w' base u' (es ++ [((rs.length : Int), b, v)]) (rs ++ [(b, l)]) := by
 refine ⟨by simp [h.len], ?_, fun i e r h1 h2 => ?_⟩
 ·rw [List.length_append, List.length_singleton]
  have e : aF eC (es ++ [((rs.length : Int), b, v)]) = aF eC es ++ [I rs.length, .bool b, v] := by
   unfold aF
   rw [List.flatMap_append]
   rfl
  rw [e]
  exact hr
 ·have hl := h.len
  by_cases hi : i < rs.length
  ·rw [List.getElem?_append_left (by omega)] at h1 h2
   obtain ⟨k1, k2, k3⟩ := h.inn i e r h1 h2
   exact ⟨k1, k2, k3.apart h.row (by decide) hg⟩
  ·rw [List.getElem?_append_right (by omega)] at h1 h2
   have hi2 : i = rs.length := by
    by_cases h3 : i = rs.length
    ·exact h3
    ·rw [List.getElem?_eq_none (by simp; omega)] at h2
     cases h2
   subst hi2
   rw [hl, Nat.sub_self] at h1
   rw [Nat.sub_self] at h2
   obtain rfl := Option.some.inj h1
   obtain rfl := Option.some.inj h2
   exact ⟨rfl, rfl, hv.apart h.row (by decide) hg⟩
theorem yW {w : World} {base g : Nat} {T e : TypeId} {sz m : Nat} {cs : Array Value} {v : Value} {xs : List Value} (h : Row w base e sz v m xs) (hB : Blk w g T cs) (hne : e ≠ T) (i : Nat) (u : Value) : Row (w.setCell ⟨g, i, none⟩ u) base e sz v m xs :=
 h.set_away (p := ⟨g, i, none⟩) (fun b hb e => by
  obtain ⟨_, _, cur, hc⟩ := own_lt h hb
  exact kH hc hB hne e) u
theorem ResO.setO {w : World} {base g : Nat} {u : Value} {es : List (Int × Bool × Value)} {rs : List (Bool × List Int)} {cs : Array Value} (h : ResO w base u es rs) (hB : Blk w g 59 cs) (hne : u.ownBlock ≠ some g) (i : Nat) (x : Value) : ResO (w.setCell ⟨g, i, none⟩ x) base u es rs :=
 ⟨h.len, h.row.set_away (p := ⟨g, i, none⟩) (fun b hb e => hne (by rw [hb]; exact congrArg some e)) x, fun j e r h1 h2 => by
  obtain ⟨k1, k2, k3⟩ := h.inn j e r h1 h2
  exact ⟨k1, k2, yW k3 hB (by decide) i x⟩⟩
theorem aAr {n : NetD} (h : VNet n) {b : BranchD} (hb : b ∈ n.branches) : 0 ≤ b.limit ∧ b.limit ≤ 100000 := by
 have h1 := (h.br b hb).2.2.2
 unfold aT cV at h1
 simp only [Bool.not_eq_true', Bool.or_eq_false_iff, decide_eq_false_iff_not] at h1
 omega
def kY (n : NetD) (inj : List Int) (k : Nat) : Bool × List Int := if nW n [k] = true then (false, ovN n (dY n inj [k])) else (true, [])
def fS (n : NetD) (inj : List Int) (k : Nat) : List (Bool × List Int) := (List.range k).map (kY n inj)
theorem aFb (n : NetD) (inj : List Int) (k : Nat) : fS n inj (k + 1) = fS n inj k ++ [kY n inj k] := by
 unfold fS
 rw [List.range_succ, List.map_append]
 rfl
theorem jG (n : NetD) (inj : List Int) (k : Nat) : (fS n inj k).length = k := by simp [fS]
def uO (w : World) (n : NetD) (inj : List Int) (e : Ending) (w' : World) : Prop :=
 ∃ u, e = .returned (.tuple #[u, I (aM n inj)]) ∧ (aM n inj = 0 → ∃ es, ResO w' w.heap.size u es (fS n inj n.branches.length)) ∧ (aM n inj ≠ 0 → u = .slice none 0 0) ∧ Below w.heap.size w w'
theorem aJt {N : Nat} {x : Rat} (h : FitR N x) : FitR N (-x) := ⟨by have := h.1; unfold Fits at *; rw [Rat.neg_num, Int.natAbs_neg]; exact this, by have := h.2; unfold Fits at *; rw [Rat.neg_den]; exact this⟩
theorem aJu {n : NetD} (h : VNet n) {th : List Rat} (hf : FitL 200000 th) : ∀ q ∈ flN n th, FitR 1000000 q := fun q hq => by
 obtain ⟨i, _, rfl⟩ := List.mem_map.1 hq
 have h1 := eR (hf ((cF n).getD i 0).toNat) (aJt (hf ((toL n).getD i 0).toNat))
 have h2 := iZ (((wV h) i).mono (show 2 ≤ 200000 + 200000 + 1 by omega)) h1
 have h3 := eR h2 ((qA h) i)
 unfold aKy
 rw [Rat.sub_eq_add_neg]
 exact h3.mono (by omega)
theorem pA {l : List Rat} {N : Nat} (h : ∀ q ∈ l, FitR N q) (h0 : FitR N 0) (gone : List Nat) : ∀ i, ∀ q ∈ nV l gone i, FitR N q
 | 0, q, hq => h q hq
 | i + 1, q, hq => by
  rw [nV, insQ, List.mem_append] at hq
  rcases hq with hq | hq
  ·exact pA h h0 gone i q (List.mem_of_mem_take hq)
  ·rcases List.mem_cons.1 hq with rfl | hq
   ·exact h0
   ·exact pA h h0 gone i q (List.mem_of_mem_drop hq)
theorem uP {n : NetD} {gone : List Nat} (h : VNet (cG n gone)) {inj : List Int} (hi : ∀ i, -100000 ≤ inj.getD i 0 ∧ inj.getD i 0 ≤ 100000) : FitL 1000000 (dY n inj gone) :=
 wU (pA (aJu h (aBk h (zI h (aBl h hi)))) ((yT (z := 0) (by decide) (by decide)).mono (by decide)) gone _) (by decide)
theorem aOy : (Tryz.prog.info? 59).map (fun i => (i.zero, i.size, i.bytes)) = some (some (.agg #[.int .i64 0, .bool false, .slice none 0 0]), 3, 40) := by kernel_rfl
theorem jW (n : NetD) (v : NetV) (inj : List Int) (m : Nat) (A : Option Addr) (c : Nat) (w : World) (hN : Net w n v) (hj : Reads w w.heap.size 1 A m (inj.map I)) (hm : m ≤ 9223372036854775807) : Calls Tryz.prog 23 #[v.val n, .slice A m c] w (uO w n inj) := by
 have hln : inj.length = m := by have := hj.1; simpa using this
 have HLN := aH hln
 clear hln
 have hz := aD w (Obj.cells (v.parts n) 29)
 have HN := aH (hN.below hz)
 have HG := aH (Blk.new w 29 (v.parts n))
 have HB := aH hz
 have HJ := aH ((hj.below hz).more hz.size)
 clear hz hN hj
 obtain ⟨na, nc, sa, sc, bra, brc, ga, gac, la, lc, ta, tc⟩ := v
 unfold NetV.val NetV.parts at *
 simp only at HG HB HN HJ ⊢
 go_enter Tryz.func23, Tryz.ntmps23
 go_upto_region 1 with (fail)
 generalize w.alloc (Obj.cells #[.slice na n.nodes.length nc, .slice sa n.switches.length sc, .slice bra n.branches.length brc, .slice ga n.gens.length gac, .slice la n.loads.length lc, .slice ta n.stores.length tc] 29) = w0 at *
 have x0 := HG.out.cell 0
 have x1 := HG.out.cell 1
 have x2 := HG.out.cell 2
 have x3 := HG.out.cell 3
 have x4 := HG.out.cell 4
 have x5 := HG.out.cell 5
 have HC := aH (lT n _ inj m A c w0 HN.out HJ.out hm)
 unfold NetV.val NetV.parts at HC
 simp only at HC
 go_wp2_with fail
 refine HC.out.mono ?_
 rintro e w1 ⟨rfl, hb⟩
 clear HC
 clear x0 x1 x2 x3 x4 x5
 have hbs := HB.out.size
 replace HB := aH (HB.out.trans (hb.mono hbs))
 clear hbs
 replace HN := aH (HN.out.below hb)
 replace HG := bL HG hb
 replace HJ := aH ((HJ.out.below hb).more hb.size)
 clear hb
 by_cases hc : aM n inj = 0
 rotate_left
 ·have tc0 : (aM n inj != 0) = true := bne_iff_ne.2 hc
  have HEND := aH (show uO w n inj (.returned (.tuple #[.slice none 0 0, I (aM n inj)])) w1 from ⟨_, rfl, fun k => absurd k hc, fun _ => rfl, HB.out⟩)
  clear hc
  generalize aM n inj = fc at *
  go_wp2
  go_ret2
  exact HEND.out
 obtain ⟨hck, hl, hbd⟩ := gY hc
 have HCK := aH hck
 have HBD := aH hbd
 have HFC := aH hc
 obtain rfl : m = n.nodes.length := HLN.out.symm.trans hl
 have HV := aH (oN hck)
 rw [hc]
 have hbl := (oN hck).hb
 clear hck hl hbd hc
 have x2 := HG.out.cell 2
 have HR0 := aH (show ResO w1 w1.heap.size (.slice none 0 0) [] (fS n inj 0) from ResO.nil _ _)
 have HB0 := aH (Below.refl w1.heap.size w1)
 obtain ⟨i0, hi0, hz0, hz1, hz2⟩ := info_parts aOy
 have HI0 := aH hi0
 have HZ0 := aH hz0
 have HZ1 := aH hz1
 have HZ2 := aH hz2
 clear hi0 hz0 hz1 hz2
 obtain ⟨nb, hnb⟩ : ∃ q, n.branches.length = q := ⟨_, rfl⟩
 have HNB := aH hnb
 rw [hnb] at x2 hbl
 clear hnb
 go_wp2
 clear x2
 go_loopg [7, 21] (nb - 0) (fun r o lv wr => ∃ k : Nat, ∃ vo : Value, ∃ es, o = vo ∧ r = nb - k ∧ lv = I k ∧ k ≤ nb ∧ Hid (ResO wr w1.heap.size vo es (fS n inj k)) ∧ Hid (Below w1.heap.size w1 wr))
 case atStart => exact ⟨0, _, _, rfl, rfl, rfl, Nat.zero_le _, HR0, HB0⟩
 case round =>
  clear HR0 HB0
  obtain ⟨k, vo, es, hvo, rfl, rfl, hk, HR0, HB0⟩ := hrel
  replace hvo := hvo.symm
  subst hvo
  obtain ⟨wa, rfl⟩ := wE wr
  by_cases hlt : k < nb
  ·have hkn : k < n.branches.length := by rw [HNB.out]; exact hlt
   have HS := aH (aFb n inj k)
   have HRO := HR0
   have HSZ := aH HB0.out.size
   have HLN2 := aH (jG n inj k)
   go_upto_region 9 with (fail)
   have hz := aD wa (.cells #[I k, .bool false, .slice none 0 0] 59)
   have HX := aH (Blk.new wa 59 #[I k, .bool false, .slice none 0 0])
   replace HR0 := aH (HR0.out.call hz)
   replace HB0 := bT HB0 hz
   skip
   clear hz
   have HXN := aH (show vo.ownBlock ≠ some wa.heap.size from fun e => by have := (own_lt HRO.out.row e).2.1; omega)
   generalize hwb : wa.alloc (.cells #[I k, .bool false, .slice none 0 0] 59) = wb at *
   clear hwb
   have hg9 : w1.heap.size ≤ wa.heap.size := HSZ.out
   generalize wa.heap.size = g9 at *
   have hn := HN.out.below HB0.out
   have HNb := aH hn
   have HGb := aH (HG.out.below HB0.out HG.out.lt)
   clear hn
   have x0 := HGb.out.cell 0
   have x1 := HGb.out.cell 1
   have x2 := HGb.out.cell 2
   have x3 := HGb.out.cell 3
   have x4 := HGb.out.cell 4
   have x5 := HGb.out.cell 5
   have hb := aD wb (.cells #[I k] 3)
   have hrd := sL wb k
   have hj2 := (((HJ.out.below HB0.out).more HB0.out.size).below hb).more hb.size
   have HC := aH (sK n _ inj [k] A c (some ⟨wb.heap.size, 0, none⟩) 1 1 (wb.alloc (.cells #[I k] 3)) (HNb.out.below hb).net hj2 hrd HCK.out HBD.out (qJ hkn))
   unfold NetV.val NetV.parts at HC
   simp only at HC
   clear hrd hj2
   replace HR0 := aH (HR0.out.call hb)
   replace HB0 := bT HB0 hb
   replace HX := bL HX hb
   replace HNb := aH (HNb.out.below hb)
   replace HGb := bL HGb hb
   clear hb
   go_wp2_with fail
   refine HC.out.mono ?_
   rintro e wc2 ⟨v3, rfl, h1, h2, hb⟩
   clear HC
   clear x0 x1 x2 x3 x4 x5
   have hsz := HB0.out.size
   replace HR0 := aH (HR0.out.call hb)
   replace HB0 := aH (HB0.out.trans (hb.mono hsz))
   replace HX := bL HX hb
   replace HNb := aH (HNb.out.below hb)
   replace HGb := bL HGb hb
   clear hb
   cases hi : nW n [k] with
   | true =>
    have hr7 := h1 hi
    have HOF := aH (show kY n inj k = (false, ovN n (dY n inj [k])) by rw [kY, if_pos hi])
    clear h1 h2 hi
    obtain ⟨A7, c7, rfl⟩ := hr7.val
    have hll := oZ (qJ hkn) inj
    rw [hll] at hr7 ⊢
    have HR7 := aH hr7.rv
    clear hr7 hll
    have x0 := HGb.out.cell 0
    have x1 := HGb.out.cell 1
    have x2 := HGb.out.cell 2
    have x3 := HGb.out.cell 3
    have x4 := HGb.out.cell 4
    have x5 := HGb.out.cell 5
    have HOV := aH (yV n _ (dY n inj [k]) A7 c7 wc2 HNb.out.net HR7.out (uP (oN (jV HCK.out [k])) HBD.out) (by decide) (by decide) (by rw [HNB.out]; omega) (fun b hb => aAr HV.out hb))
    unfold NetV.val NetV.parts at HOV
    simp only at HOV
    go_wp2_with fail
    refine HOV.out.mono ?_
    rintro e wd ⟨OB, om, oc, rfl, hor, hom, hb⟩
    clear HOV HR7
    clear x0 x1 x2 x3 x4 x5
    have hsz2 := HB0.out.size
    have HRW0 := aH hor.row
    replace HR0 := aH (HR0.out.call hb)
    replace HB0 := aH (HB0.out.trans (hb.mono hsz2))
    replace HX := bL HX hb
    clear hb hor HNb HGb
    have HRW := aH (show Row wd w1.heap.size 3 1 (.slice OB om oc) (ovN n (dY n inj [k])).length ((ovN n (dY n inj [k])).map I) by have h := HRW0.out.less hsz2; rw [List.length_map] at h; exact h)
    clear HRW0 hom hsz hsz2
    have z2 := HX.out.cell 2
    have f2 := HX.out.frozen 2
    have HX2 := aH (HX.out.set_ 2 (.slice OB om oc))
    simp only [List.setIfInBounds_toArray, List.set_cons_zero, List.set_cons_succ] at HX2
    have HRW2 := aH (yW HRW.out HX.out (by decide) 2 (.slice OB om oc))
    have HR2 := aH (HR0.out.setO HX.out (HXN.out) 2 (.slice OB om oc))
    have HB2 := aH (HB0.out.setCell (p := ⟨g9, 2, none⟩) hg9 (.slice OB om oc))
    go_upto_region 13 with (fail)
    clear z2 f2 HX HRW HR0 HB0
    generalize wd.setCell ⟨g9, 2, none⟩ (.slice OB om oc) = we at *
    have HX := HX2
    have HRW := HRW2
    have HR0 := HR2
    have HB0 := HB2
    clear HX2 HRW2 HR2 HB2
    have y0 := HX.out.cell 0
    have y1 := HX.out.cell 1
    have y2 := HX.out.cell 2
    have hz := aD we (.cells #[I k, .bool false, (.slice OB om oc)] 59)
    have hrd := cD (n := 1) (sz := 3) (Blk.new we 59 #[I k, .bool false, (.slice OB om oc)]) rfl
    replace HR0 := aH (HR0.out.call hz)
    replace HRW := aH (HRW.out.call hz)
    replace HB0 := bT HB0 hz
    clear hz
    have hrow := HR0.out.row
    rw [HLN2.out] at hrow
    have HROW := aH hrow
    have hbs := HB0.out.size
    have HRD := aH hrd
    clear hrow hrd
    go_wp2_with (at_builtin; refine dJ rfl _ _ 53 rfl w1.heap.size 59 i0 _ 3 40 Tryz.underlying53 HI0.out HZ0.out HZ1.out HZ2.out rfl (by decide) vo k (aF eC es) rfl HROW.out _ (some ⟨we.heap.size, 0, none⟩) 1 1 _ rfl HRD.out (fun u hu => by simp at hu; rcases hu with rfl | rfl | rfl <;> rfl) (by unfold maxLen; omega) (by omega) hbs ?_)
    intro v' w9 hr3 hg3
    have hsn := HR0.out.snoc (v := (.slice OB om oc)) (b := false) HRW.out (by rw [HLN2.out]; exact hr3) hg3
    rw [HLN2.out] at hsn
    have HBN := aH (HB0.out.trans (HROW.out.belowG hg3 hbs))
    have HRN := aH (show ResO w9 w1.heap.size v' _ (fS n inj (k + 1)) by rw [HS.out, HOF.out]; exact hsn)
    clear hsn hr3 hg3 HROW HR0 HB0 HRW HRD HX HS HOF y0 y1 y2
    go_wp2
    go_roundg (nb - (k + 1))
    case measure => omega
    case rel => exact ⟨k + 1, _, _, rfl, rfl, by go_num, by omega, HRN, HBN⟩
   | false =>
    have hv := h2 hi
    subst hv
    have HOF := aH (show kY n inj k = (true, []) by rw [kY, if_neg (by rw [hi]; decide)])
    clear h1 h2 hi hsz HNb HGb
    have z2 := HX.out.cell 1
    have f2 := HX.out.frozen 1
    have HX2 := aH (HX.out.set_ 1 (.bool true))
    simp only [List.setIfInBounds_toArray, List.set_cons_zero, List.set_cons_succ] at HX2
    have HR2 := aH (HR0.out.setO HX.out (HXN.out) 1 (.bool true))
    have HB2 := aH (HB0.out.setCell (p := ⟨g9, 1, none⟩) hg9 (.bool true))
    go_upto_region 13 with (fail)
    clear z2 f2 HX HR0 HB0
    generalize wc2.setCell ⟨g9, 1, none⟩ (.bool true) = we at *
    have HX := HX2
    have HR0 := HR2
    have HB0 := HB2
    clear HX2 HR2 HB2
    have HRW := aH (show Row we w1.heap.size 3 1 (.slice none 0 0) ([] : List Int).length (([] : List Int).map I) from Row.nil _ _ _ _)
    have y0 := HX.out.cell 0
    have y1 := HX.out.cell 1
    have y2 := HX.out.cell 2
    have hz := aD we (.cells #[I k, .bool true, (.slice none 0 0)] 59)
    have hrd := cD (n := 1) (sz := 3) (Blk.new we 59 #[I k, .bool true, (.slice none 0 0)]) rfl
    replace HR0 := aH (HR0.out.call hz)
    replace HRW := aH (HRW.out.call hz)
    replace HB0 := bT HB0 hz
    clear hz
    have hrow := HR0.out.row
    rw [HLN2.out] at hrow
    have HROW := aH hrow
    have hbs := HB0.out.size
    have HRD := aH hrd
    clear hrow hrd
    go_wp2_with (at_builtin; refine dJ rfl _ _ 53 rfl w1.heap.size 59 i0 _ 3 40 Tryz.underlying53 HI0.out HZ0.out HZ1.out HZ2.out rfl (by decide) vo k (aF eC es) rfl HROW.out _ (some ⟨we.heap.size, 0, none⟩) 1 1 _ rfl HRD.out (fun u hu => by simp at hu; rcases hu with rfl | rfl | rfl <;> rfl) (by unfold maxLen; omega) (by omega) hbs ?_)
    intro v' w9 hr3 hg3
    have hsn := HR0.out.snoc (v := (.slice none 0 0)) (b := true) HRW.out (by rw [HLN2.out]; exact hr3) hg3
    rw [HLN2.out] at hsn
    have HBN := aH (HB0.out.trans (HROW.out.belowG hg3 hbs))
    have HRN := aH (show ResO w9 w1.heap.size v' _ (fS n inj (k + 1)) by rw [HS.out, HOF.out]; exact hsn)
    clear hsn hr3 hg3 HROW HR0 HB0 HRW HRD HX HS HOF y0 y1 y2
    go_wp2
    go_roundg (nb - (k + 1))
    case measure => omega
    case rel => exact ⟨k + 1, _, _, rfl, rfl, by go_num, by omega, HRN, HBN⟩
  ·obtain rfl : k = nb := by omega
   have hr := HR0.out.row
   obtain ⟨A9, c9, hv9⟩ := hr.val
   subst hv9
   have HEND := aH (show uO w n inj (.returned (.tuple #[.slice A9 (fS n inj k).length c9, I 0])) wa from ⟨_, by rw [HFC.out], fun _ => ⟨es, by rw [HNB.out]; exact HR0.out.less HB.out.size⟩, fun h => absurd HFC.out h, HB.out.trans (HB0.out.mono HB.out.size)⟩)
   clear hr HR0
   generalize (fS n inj k).length = m9 at *
   go_wp2
   go_ret2
   exact HEND.out
def aCl (r : Bool × List Int) : Bool := r.1 || decide (0 < r.2.length)
def nX (rs : List (Bool × List Int)) : Bool := rs.any aCl
theorem aJv (i : Int) (b : Bool) (B : Option Addr) (m c : Nat) (w : World) : Calls Tryz.prog 138 #[.agg #[I i, .bool b, .slice B m c]] w fun e w' => e = .returned (.bool (b || decide (0 < m))) ∧ Below w.heap.size w w' := by
 have hz := aD w (.cells #[I i, .bool b, .slice B m c] 59)
 have hB := Blk.new w 59 #[I i, .bool b, .slice B m c]
 have x1 := hB.cell 1
 have x2 := hB.cell 2
 have HB := aH hz
 clear hz hB
 go_enter Tryz.func138, Tryz.ntmps138
 go_upto_region 1 with (fail)
 generalize w.alloc (.cells #[I i, .bool b, .slice B m c] 59) = w1 at *
 cases b with
 | true =>
  change _ = some (Value.bool true) at x1
  go_wp2
  go_ret
  exact ⟨rfl, HB.out⟩
 | false =>
  change _ = some (Value.bool false) at x1
  change _ = some (Value.slice B m c) at x2
  go_wp2
  go_ret
  exact ⟨congrArg (fun b => Ending.returned (Value.bool b)) (show decide (0 < m) = (false || decide (0 < m)) by rw [Bool.false_or]), HB.out⟩
theorem aAs (es : List (Int × Bool × Value)) (rs : List (Bool × List Int)) (n : Nat) (A : Option Addr) (c base : Nat) (w : World) (hr : ResO w base (.slice A n c) es rs) (hl : rs.length = n) (hn : n ≤ 1000000) :
  Calls Tryz.prog 169 #[.slice A n c, .func (.func 138) #[] #[]] w fun e w' => (∃ r, e = .returned (I r) ∧ decide (0 ≤ r) = nX rs) ∧ Below w.heap.size w w' := by
 have HR := aH hr
 have HL := aH hl
 have HB := aH (Below.refl w.heap.size w)
 clear hr hl
 go_enter Tryz.func169, Tryz.ntmps169
 go_wp2
 go_loopg [8] (n - 0) (fun r v wr => ∃ k : Nat, r = n - k ∧ v = I k ∧ k ≤ n ∧ Hid (Below w.heap.size w wr) ∧ Hid (nX rs = nX (rs.drop k)))
 case atStart => exact ⟨0, rfl, rfl, by omega, HB, rfl⟩
 case round =>
  clear HB
  obtain ⟨k, rfl, rfl, hk, HB, HO⟩ := hrel
  obtain ⟨wa, rfl⟩ := wE wr
  by_cases hlt : k < n
  ·have hr := HR.out.call HB.out
   have hel := hr.len
   have hkr : k < rs.length := by rw [HL.out]; exact hlt
   have hke : k < es.length := by rw [hel]; exact hkr
   have hrow := hr.row
   rw [HL.out] at hrow
   obtain ⟨b, off, e1, _, hc⟩ := dN (f := eC) (sz := 3) aAq (by decide) hrow.reads (k := k) hke
   obtain ⟨k1, k2, k3⟩ := hr.inn k _ _ (gE hke) (gE hkr)
   obtain ⟨B, cc, k4⟩ := k3.val
   have c0 := hc 0 _ rfl
   have c1 := hc 1 _ rfl
   have c2 := hc 2 _ rfl
   rw [k1] at c0
   rw [k2] at c1
   rw [k4] at c2
   simp only [← Nat.add_assoc, Nat.add_zero] at c0 c1 c2
   subst e1
   have HO2 := aH (show nX rs = (aCl rs[k] || nX (rs.drop (k + 1))) by rw [HO.out, List.drop_eq_getElem_cons hkr]; rfl)
   have hh : aCl rs[k] = (rs[k].1 || decide (0 < rs[k].2.length)) := rfl
   obtain ⟨r, hrk⟩ : ∃ r, rs[k] = r := ⟨_, rfl⟩
   rw [hrk] at c1 c2 HO2 hh
   obtain ⟨rb, rl⟩ := r
   simp only at c1 c2 hh
   generalize rl.length = rn at *
   have HC := aH (aJv (k : Int) rb B rn cc wa)
   rw [← hh] at HC
   clear hr hrow hel hkr hke hc k1 k2 k3 k4 hh hrk HO
   generalize aCl (rb, rl) = hb1 at *
   cases hb1 with
   | false =>
    have HO3 := aH (show nX rs = nX (rs.drop (k + 1)) by rw [HO2.out]; rfl)
    go_wp2_with fail
    refine HC.out.mono ?_
    rintro e wb ⟨rfl, hb⟩
    have HBN := aH (HB.out.trans (hb.mono HB.out.size))
    clear HC c0 c1 c2 hb
    go_wp2
    go_roundg (n - (k + 1))
    case measure => omega
    case rel => exact ⟨k + 1, rfl, by go_num, by omega, HBN, HO3⟩
   | true =>
    have HF := aH (show decide (0 ≤ (k : Int)) = nX rs by rw [HO2.out, decide_eq_true (by omega)]; rfl)
    go_wp2_with fail
    refine HC.out.mono ?_
    rintro e wb ⟨rfl, hb⟩
    have HBN := aH (HB.out.trans (hb.mono HB.out.size))
    clear HC c0 c1 c2 hb
    go_wp2
    go_ret
    exact ⟨⟨_, rfl, HF.out⟩, HBN.out⟩
  ·have HF := aH (show decide (0 ≤ (-1 : Int)) = nX rs by rw [HO.out, List.drop_of_length_le (by rw [HL.out]; omega)]; rfl)
   clear HO
   go_wp2
   go_ret
   exact ⟨⟨_, rfl, HF.out⟩, HB.out⟩
theorem aAt (es : List (Int × Bool × Value)) (rs : List (Bool × List Int)) (n : Nat) (A : Option Addr) (c base : Nat) (w : World) (hr : ResO w base (.slice A n c) es rs) (hl : rs.length = n) (hn : n ≤ 1000000) :
  Calls Tryz.prog 137 #[.slice A n c, .func (.func 138) #[] #[]] w fun e w' => e = .returned (.bool (nX rs)) ∧ Below w.heap.size w w' := by
 have HX := aH (aAs es rs n A c base w hr hl hn)
 clear hr hl
 go_enter Tryz.func137, Tryz.ntmps137
 go_wp2_with fail
 refine HX.out.mono ?_
 rintro e w1 ⟨⟨r, rfl, hr⟩, hb⟩
 have HR := aH hr
 have HB := aH hb
 clear hr HX hb
 go_wp2
 go_ret
 exact ⟨congrArg (fun b => Ending.returned (.bool b)) HR.out, HB.out⟩
def sY (n : NetD) (inj : List Int) : Bool × Int := if aM n inj ≠ 0 then (false, aM n inj) else (((ovN n (dY n inj [])).length == 0) && !nX (fS n inj n.branches.length), 0)
theorem sM (n : NetD) (v : NetV) (inj : List Int) (m : Nat) (A : Option Addr) (c : Nat) (w : World) (hN : Net w n v) (hj : Reads w w.heap.size 1 A m (inj.map I)) (hm : m ≤ 9223372036854775807) : Calls Tryz.prog 66 #[v.val n, .slice A m c] w fun e w' => e = .returned (.tuple #[.bool (sY n inj).1, I (sY n inj).2]) ∧ Below w.heap.size w w' := by
 have hln : inj.length = m := by have := hj.1; simpa using this
 have HLN := aH hln
 clear hln
 have hz := aD w (Obj.cells (v.parts n) 29)
 have HN := aH (hN.below hz)
 have HG := aH (Blk.new w 29 (v.parts n))
 have HB := aH hz
 have HJ := aH ((hj.below hz).more hz.size)
 clear hz hN hj
 obtain ⟨na, nc, sa, sc, bra, brc, ga, gac, la, lc, ta, tc⟩ := v
 unfold NetV.val NetV.parts at *
 simp only at HG HB HN HJ ⊢
 go_enter Tryz.func66, Tryz.ntmps66
 go_upto_region 1 with (fail)
 generalize w.alloc (Obj.cells #[.slice na n.nodes.length nc, .slice sa n.switches.length sc, .slice bra n.branches.length brc, .slice ga n.gens.length gac, .slice la n.loads.length lc, .slice ta n.stores.length tc] 29) = w0 at *
 have x0 := HG.out.cell 0
 have x1 := HG.out.cell 1
 have x2 := HG.out.cell 2
 have x3 := HG.out.cell 3
 have x4 := HG.out.cell 4
 have x5 := HG.out.cell 5
 have HC := aH (jW n _ inj m A c w0 HN.out HJ.out hm)
 unfold NetV.val NetV.parts at HC
 simp only at HC
 go_wp2_with fail
 refine HC.out.mono ?_
 rintro e w1 ⟨u, rfl, h1, h2, hb⟩
 clear HC
 clear x0 x1 x2 x3 x4 x5
 skip
 have hbs := HB.out.size
 replace HB := aH (HB.out.trans (hb.mono hbs))
 clear hbs
 replace HN := aH (HN.out.below hb)
 replace HG := bL HG hb
 replace HJ := aH ((HJ.out.below hb).more hb.size)
 clear hb
 by_cases hc : aM n inj = 0
 rotate_left
 ·have tc0 : (aM n inj != 0) = true := bne_iff_ne.2 hc
  have hv := h2 hc
  subst hv
  have HS2 := aH (show sY n inj = (false, aM n inj) by rw [sY, if_pos hc])
  clear hc h1 h2
  generalize aM n inj = fc at *
  go_wp2
  go_ret2
  exact ⟨congrArg (fun r : Bool × Int => Ending.returned (Value.tuple #[.bool r.1, I r.2])) HS2.out.symm, HB.out⟩
 obtain ⟨es, hres⟩ := h1 hc
 obtain ⟨hck, hl, hbd⟩ := gY hc
 have HCK := aH hck
 have HBD := aH hbd
 obtain rfl : m = n.nodes.length := HLN.out.symm.trans hl
 have HV := aH (oN hck)
 have hbl := (oN hck).hb
 have HSF := aH (show sY n inj = (((ovN n (dY n inj [])).length == 0) && !nX (fS n inj n.branches.length), 0) by rw [sY, if_neg (fun k => k hc)])
 rw [hc]
 clear hck hl hbd h1 h2 hc
 obtain ⟨AU, cu, hu⟩ := hres.row.val
 subst hu
 have HRES := aH hres
 clear hres
 have x0 := HG.out.cell 0
 have x1 := HG.out.cell 1
 have x2 := HG.out.cell 2
 have x3 := HG.out.cell 3
 have x4 := HG.out.cell 4
 have x5 := HG.out.cell 5
 have hisl : nW n [] = true := rfl
 have HC := aH (sK n _ inj [] A c none 0 0 w1 HN.out.net HJ.out Reads.nil HCK.out HBD.out (aCk _))
 unfold NetV.val NetV.parts at HC
 simp only at HC
 go_wp2_with fail
 refine HC.out.mono ?_
 rintro e w2 ⟨v3, rfl, h1, h2, hb⟩
 clear HC
 clear x0 x1 x2 x3 x4 x5
 rw [hisl]
 have hr7 := h1 hisl
 clear h1 h2 hisl
 obtain ⟨A7, c7, hv7⟩ := hr7.val
 subst hv7
 have hll := oZ (aCk n.branches.length) inj
 rw [hll] at hr7 ⊢
 have HR7 := aH hr7.rv
 clear hr7 hll
 have hbs := HB.out.size
 replace HB := aH (HB.out.trans (hb.mono hbs))
 clear hbs
 replace HN := aH (HN.out.below hb)
 replace HG := bL HG hb
 replace HJ := aH ((HJ.out.below hb).more hb.size)
 replace HRES := aH (HRES.out.call hb)
 clear hb
 have x0 := HG.out.cell 0
 have x1 := HG.out.cell 1
 have x2 := HG.out.cell 2
 have x3 := HG.out.cell 3
 have x4 := HG.out.cell 4
 have x5 := HG.out.cell 5
 have HC := aH (yV n _ (dY n inj []) A7 c7 w2 HN.out.net HR7.out (uP (oN (jV HCK.out [])) HBD.out) (by decide) (by decide) (by omega) (fun b hb => aAr HV.out hb))
 unfold NetV.val NetV.parts at HC
 simp only at HC
 go_wp2_with fail
 refine HC.out.mono ?_
 rintro e w3 ⟨OB, om, oc, rfl, hor, hom, hb⟩
 clear HC
 clear x0 x1 x2 x3 x4 x5
 clear HR7 hor
 have hbs := HB.out.size
 replace HB := aH (HB.out.trans (hb.mono hbs))
 clear hbs
 replace HN := aH (HN.out.below hb)
 replace HG := bL HG hb
 replace HJ := aH ((HJ.out.below hb).more hb.size)
 replace HRES := aH (HRES.out.call hb)
 clear hb
 have hal := jG n inj n.branches.length
 have HHM := aH hom
 clear hom
 by_cases h0 : om = 0
 ·have t0 : ((om : Int) == 0) = true := by rw [h0]; rfl
  have hrl : (fS n inj n.branches.length).length ≤ 1000000 := by omega
  have HC := aH (aAt es (fS n inj n.branches.length) (fS n inj n.branches.length).length AU cu _ w3 HRES.out rfl hrl)
  have HS2 := aH (show sY n inj = (!nX (fS n inj n.branches.length), 0) by rw [HSF.out, ← HHM.out, h0]; rfl)
  clear hal h0
  generalize nX (fS n inj n.branches.length) = bb at *
  generalize (fS n inj n.branches.length).length = m9 at *
  go_wp2_with fail
  refine HC.out.mono ?_
  rintro e w4 ⟨rfl, hb⟩
  clear HC HRES
  have hbs := HB.out.size
  replace HB := aH (HB.out.trans (hb.mono hbs))
  clear hbs
  replace HN := aH (HN.out.below hb)
  replace HG := bL HG hb
  replace HJ := aH ((HJ.out.below hb).more hb.size)
  clear hb
  go_wp2
  go_ret2
  exact ⟨congrArg (fun r : Bool × Int => Ending.returned (Value.tuple #[.bool r.1, I r.2])) HS2.out.symm, HB.out⟩
 ·have t0 : ((om : Int) == 0) = false := beq_eq_false_iff_ne.2 (by omega)
  have HS2 := aH (show sY n inj = (false, 0) by rw [HSF.out, ← HHM.out, beq_eq_false_iff_ne.2 h0]; rfl)
  clear hal h0 HSF HHM
  go_wp2
  go_ret2
  exact ⟨congrArg (fun r : Bool × Int => Ending.returned (Value.tuple #[.bool r.1, I r.2])) HS2.out.symm, HB.out⟩
theorem aOz : pT (cY false) [0, 8, -8] 0 = ([0, 8], 0) := by decide +kernel
theorem aQb : mkS ([(0 : Rat), 8].map gC) = [⟨#[48]⟩, ⟨#[56]⟩] := by decide +kernel
theorem aPa : fS (cY false) [0, 8, -8] 2 = [(false, []), (false, [])] := by decide +kernel
theorem aJw : aM (cY false) [0, 8, -8] = 0 := by decide +kernel
theorem aPb : sY (cY false) [0, 8, -8] = (true, 0) := by decide +kernel
theorem aQc : sY (cY false) [0, 11, -11] = (false, 0) := by decide +kernel
theorem aPc {w : World} {r : List Rat × Int} {e : Ending} {w' : World} {q : List Rat} {l : List ByteArray} {n : Nat} (h : aCj w r e w') (hr : r = (q, 0)) (hq : mkS (q.map gC) = l) (hn : q.length = n) :
  ∃ A c, e = .returned (.tuple #[.slice A n c, I 0]) ∧ Row w' w.heap.size 51 1 (.slice A n c) n (l.map Sv) ∧ Below w.heap.size w w' := by
 subst hr hq hn
 obtain ⟨v, h1, h2, _, h4⟩ := h
 obtain ⟨_, h5⟩ := h2 rfl
 obtain ⟨A, c, rfl⟩ := h5.val
 exact ⟨A, c, h1, h5, h4⟩
theorem aPd {w : World} {e : Ending} {w' : World} (h : uO w (cY false) [0, 8, -8] e w') : ∃ b off c, e = .returned (.tuple #[.slice (some ⟨b, off, none⟩) 2 c, I 0]) ∧ w'.cell? ⟨b, off + 3, none⟩ = some (I 1) ∧ w'.cell? ⟨b, off + 4, none⟩ = some (.bool false) ∧ (∃ B k, w'.cell? ⟨b, off + 5, none⟩ = some (.slice B 0 k)) ∧ Below w.heap.size w w' := by
 obtain ⟨u, h1, h2, _, h4⟩ := h
 obtain ⟨es, hr⟩ := h2 aJw
 rw [show (cY false).branches.length = 2 from rfl, aPa] at hr
 rw [aJw] at h1
 have hl := hr.len
 have hrow := hr.row
 obtain ⟨A, c, rfl⟩ := hrow.val
 have hke : 1 < es.length := by rw [hl]; decide
 obtain ⟨b, off, e1, _, hc⟩ := dN (f := eC) (sz := 3) aAq (by decide) hrow.reads (k := 1) hke
 obtain ⟨k1, k2, k3⟩ := hr.inn 1 _ _ (gE hke) rfl
 obtain ⟨B, cc, k4⟩ := k3.val
 have c0 := hc 0 _ rfl
 have c1 := hc 1 _ rfl
 have c2 := hc 2 _ rfl
 rw [k1] at c0
 rw [k2] at c1
 rw [k4] at c2
 subst e1
 exact ⟨b, off, c, h1, c0, c1, ⟨B, cc, c2⟩, h4⟩
theorem sN (w : World) (htab : Tab w) : Calls Tryz.prog 22 #[] w fun e w' => e = .returned (.bool true) ∧ Below w.heap.size w w' := by
 have HTB := aH htab
 clear htab
 go_enter Tryz.func22, Tryz.ntmps22
 have HB := aH (aD w (.cells #[I 0, I 8, I (-8)] 3))
 have HP := aH (Blk.new w 3 #[I 0, I 8, I (-8)])
 go_upto_region 2 with (fail)
 generalize w.alloc (.cells #[I 0, I 8, I (-8)] 3) = w0 at *
 have hgp := HP.out.lt
 skip
 have HC := aH (show Calls Tryz.prog 54 #[] w0 (fun e w' => ∃ v : NetV, e = .returned (.agg #[.slice v.na 3 v.nc, .slice v.sa 1 v.sc, .slice v.ba 2 v.bc, .slice v.ga 1 v.gc, .slice v.la 1 v.lc, .slice v.ta 0 v.tc]) ∧ NetIn w' (cY false) v ∧ Below w0.heap.size w0 w') from (nD w0).mono fun e w' h => by obtain ⟨v, h1, h2, _, h3⟩ := h; exact ⟨v, h1, h2, h3⟩)
 go_wp2_with fail
 refine HC.out.mono ?_
 rintro e w1 ⟨v1, rfl, hin, hb⟩
 clear HC
 have hbs := HB.out.size
 replace HB := aH (HB.out.trans (hb.mono hbs))
 clear hbs
 replace HP := bL HP hb
 clear hb
 have HIN := aH (hin)
 clear hin
 have HC := aH (show Calls Tryz.prog 31 #[.agg #[.slice v1.na 3 v1.nc, .slice v1.sa 1 v1.sc, .slice v1.ba 2 v1.bc, .slice v1.ga 1 v1.gc, .slice v1.la 1 v1.lc, .slice v1.ta 0 v1.tc], .slice (some ⟨w.heap.size, 0, none⟩) 3 3, I 0] w1 _ from (aAp (cY false) v1 [0, 8, -8] 3 (some ⟨w.heap.size, 0, none⟩) 3 0 w1 (nE HIN.out) (cD (n := 3) (sz := 1) HP.out rfl) (by decide) (fA HTB.out HB.out)).mono fun e w' h => aPc h aOz aQb rfl)
 go_wp2_with fail
 refine HC.out.mono ?_
 rintro e w2 ⟨SA, sc, rfl, hrs, hb⟩
 clear HC
 have hbs := HB.out.size
 replace HB := aH (HB.out.trans (hb.mono hbs))
 clear hbs
 replace HP := bL HP hb
 replace HIN := aH (HIN.out.below hb)
 clear hb
 clear HIN
 have HS := aH (hrs)
 clear hrs
 have HC := aH (show Calls Tryz.prog 54 #[] w2 (fun e w' => ∃ v : NetV, e = .returned (.agg #[.slice v.na 3 v.nc, .slice v.sa 1 v.sc, .slice v.ba 2 v.bc, .slice v.ga 1 v.gc, .slice v.la 1 v.lc, .slice v.ta 0 v.tc]) ∧ NetIn w' (cY false) v ∧ Below w2.heap.size w2 w') from (nD w2).mono fun e w' h => by obtain ⟨v, h1, h2, _, h3⟩ := h; exact ⟨v, h1, h2, h3⟩)
 go_wp2_with fail
 refine HC.out.mono ?_
 rintro e w3 ⟨v2, rfl, hin, hb⟩
 clear HC
 have hbs := HB.out.size
 replace HB := aH (HB.out.trans (hb.mono hbs))
 clear hbs
 replace HP := bL HP hb
 replace HS := aH (HS.out.call hb)
 clear hb
 have HIN := aH (hin)
 clear hin
 have HC := aH (show Calls Tryz.prog 23 #[.agg #[.slice v2.na 3 v2.nc, .slice v2.sa 1 v2.sc, .slice v2.ba 2 v2.bc, .slice v2.ga 1 v2.gc, .slice v2.la 1 v2.lc, .slice v2.ta 0 v2.tc], .slice (some ⟨w.heap.size, 0, none⟩) 3 3] w3 _ from (jW (cY false) v2 [0, 8, -8] 3 (some ⟨w.heap.size, 0, none⟩) 3 w3 (nE HIN.out) (cD (n := 3) (sz := 1) HP.out rfl) (by decide)).mono fun e w' h => aPd h)
 go_wp2_with fail
 refine HC.out.mono ?_
 rintro e w4 ⟨ab, aoff, ac, rfl, ha0, ha1, ⟨aB, ak, ha2⟩, hb⟩
 clear HC
 have hbs := HB.out.size
 replace HB := aH (HB.out.trans (hb.mono hbs))
 clear hbs
 replace HP := bL HP hb
 replace HS := aH (HS.out.call hb)
 replace HIN := aH (HIN.out.below hb)
 clear hb
 clear HIN
 have HA0 := aH ha0
 have HA1 := aH ha1
 have HA2 := aH ha2
 clear ha0 ha1 ha2
 have HC := aH (show Calls Tryz.prog 54 #[] w4 (fun e w' => ∃ v : NetV, e = .returned (.agg #[.slice v.na 3 v.nc, .slice v.sa 1 v.sc, .slice v.ba 2 v.bc, .slice v.ga 1 v.gc, .slice v.la 1 v.lc, .slice v.ta 0 v.tc]) ∧ NetIn w' (cY false) v ∧ Below w4.heap.size w4 w') from (nD w4).mono fun e w' h => by obtain ⟨v, h1, h2, _, h3⟩ := h; exact ⟨v, h1, h2, h3⟩)
 go_wp2_with fail
 refine HC.out.mono ?_
 rintro e w5 ⟨v3, rfl, hin, hb⟩
 clear HC
 have hbs := HB.out.size
 replace HB := aH (HB.out.trans (hb.mono hbs))
 clear hbs
 replace HP := bL HP hb
 replace HS := aH (HS.out.call hb)
 replace HA0 := aH (aA HA0.out hb)
 replace HA1 := aH (aA HA1.out hb)
 replace HA2 := aH (aA HA2.out hb)
 clear hb
 have HIN := aH (hin)
 clear hin
 have HC := aH (show Calls Tryz.prog 66 #[.agg #[.slice v3.na 3 v3.nc, .slice v3.sa 1 v3.sc, .slice v3.ba 2 v3.bc, .slice v3.ga 1 v3.gc, .slice v3.la 1 v3.lc, .slice v3.ta 0 v3.tc], .slice (some ⟨w.heap.size, 0, none⟩) 3 3] w5 (fun e w' => e = .returned (.tuple #[.bool true, I 0]) ∧ Below w5.heap.size w5 w') from by
   have h := sM (cY false) v3 [0, 8, -8] 3 (some ⟨w.heap.size, 0, none⟩) 3 w5 (nE HIN.out) (cD (n := 3) (sz := 1) HP.out rfl) (by decide)
   rw [aPb] at h
   exact h)
 go_wp2_with fail
 refine HC.out.mono ?_
 rintro e w6 ⟨rfl, hb⟩
 clear HC
 have hbs := HB.out.size
 replace HB := aH (HB.out.trans (hb.mono hbs))
 clear hbs
 replace HP := bL HP hb
 replace HS := aH (HS.out.call hb)
 replace HA0 := aH (aA HA0.out hb)
 replace HA1 := aH (aA HA1.out hb)
 replace HA2 := aH (aA HA2.out hb)
 replace HIN := aH (HIN.out.below hb)
 clear hb
 clear HIN
 have HC := aH (show Calls Tryz.prog 54 #[] w6 (fun e w' => ∃ v : NetV, e = .returned (.agg #[.slice v.na 3 v.nc, .slice v.sa 1 v.sc, .slice v.ba 2 v.bc, .slice v.ga 1 v.gc, .slice v.la 1 v.lc, .slice v.ta 0 v.tc]) ∧ NetIn w' (cY false) v ∧ Below w6.heap.size w6 w') from (nD w6).mono fun e w' h => by obtain ⟨v, h1, h2, _, h3⟩ := h; exact ⟨v, h1, h2, h3⟩)
 go_wp2_with fail
 refine HC.out.mono ?_
 rintro e w7 ⟨v4, rfl, hin, hb⟩
 clear HC
 have hbs := HB.out.size
 replace HB := aH (HB.out.trans (hb.mono hbs))
 clear hbs
 replace HP := bL HP hb
 replace HS := aH (HS.out.call hb)
 replace HA0 := aH (aA HA0.out hb)
 replace HA1 := aH (aA HA1.out hb)
 replace HA2 := aH (aA HA2.out hb)
 clear hb
 have HIN := aH (hin)
 clear hin
 have hx := Blk.new w7 3 #[I 0, I 11, I (-11)]
 have hb := aD w7 (.cells #[I 0, I 11, I (-11)] 3)
 replace HIN := aH (HIN.out.below hb)
 have hbs := HB.out.size
 replace HB := aH (HB.out.trans (hb.mono hbs))
 clear hbs
 replace HP := bL HP hb
 replace HS := aH (HS.out.call hb)
 replace HA0 := aH (aA HA0.out hb)
 replace HA1 := aH (aA HA1.out hb)
 replace HA2 := aH (aA HA2.out hb)
 clear hb
 have HC := aH (show Calls Tryz.prog 66 #[.agg #[.slice v4.na 3 v4.nc, .slice v4.sa 1 v4.sc, .slice v4.ba 2 v4.bc, .slice v4.ga 1 v4.gc, .slice v4.la 1 v4.lc, .slice v4.ta 0 v4.tc], .slice (some ⟨w7.heap.size, 0, none⟩) 3 3] (w7.alloc (.cells #[I 0, I 11, I (-11)] 3)) (fun e w' => e = .returned (.tuple #[.bool false, I 0]) ∧ Below (w7.alloc (.cells #[I 0, I 11, I (-11)] 3)).heap.size (w7.alloc (.cells #[I 0, I 11, I (-11)] 3)) w') from by
   have h := sM (cY false) v4 [0, 11, -11] 3 (some ⟨w7.heap.size, 0, none⟩) 3 (w7.alloc (.cells #[I 0, I 11, I (-11)] 3)) (nE HIN.out) (cD (n := 3) (sz := 1) hx rfl) (by decide)
   rw [aQc] at h
   exact h)
 clear hx HIN
 go_wp2_with fail
 refine HC.out.mono ?_
 rintro e w8 ⟨rfl, hb⟩
 clear HC
 have hbs := HB.out.size
 replace HB := aH (HB.out.trans (hb.mono hbs))
 clear hbs
 replace HP := bL HP hb
 replace HS := aH (HS.out.call hb)
 replace HA0 := aH (aA HA0.out hb)
 replace HA1 := aH (aA HA1.out hb)
 replace HA2 := aH (aA HA2.out hb)
 clear hb
 have hb := aD w8 (.cells #[I 0, I 0, I 0, I 0] 34)
 have hx := Blk.new w8 34 #[I 0, I 0, I 0, I 0]
 have hbs := HB.out.size
 replace HB := aH (HB.out.trans (hb.mono hbs))
 clear hbs
 replace HP := bL HP hb
 replace HS := aH (HS.out.call hb)
 replace HA0 := aH (aA HA0.out hb)
 replace HA1 := aH (aA HA1.out hb)
 replace HA2 := aH (aA HA2.out hb)
 clear hb
 have HX := aH hx
 clear hx
 have HC := aH (aIc [0, 0, 0, 0] 4 (some ⟨w8.heap.size, 0, none⟩) 4 (w8.alloc (.cells #[I 0, I 0, I 0, I 0] 34)) (w8.alloc (.cells #[I 0, I 0, I 0, I 0] 34)).heap.size (cD (n := 4) (sz := 1) HX.out rfl) (by decide))
 rw [show jY [0, 0, 0, 0] = true from rfl] at HC
 go_wp2_with fail
 refine HC.out.mono ?_
 rintro e w9 ⟨rfl, rfl⟩
 clear HC
 clear HX
 generalize (w8.alloc (.cells #[I 0, I 0, I 0, I 0] 34)) = w10 at *
 have a0 := HA0.out
 have a1 := HA1.out
 have a2 := HA2.out
 have hb := aD w10 (.cells #[.string ⟨#[48]⟩, .string ⟨#[56]⟩] 51)
 have hx := Blk.new w10 51 #[.string ⟨#[48]⟩, .string ⟨#[56]⟩]
 have hbs := HB.out.size
 replace HB := aH (HB.out.trans (hb.mono hbs))
 clear hbs
 replace HP := bL HP hb
 replace HS := aH (HS.out.call hb)
 replace HA0 := aH (aA HA0.out hb)
 replace HA1 := aH (aA HA1.out hb)
 replace HA2 := aH (aA HA2.out hb)
 clear hb
 have HC := aH (zK [⟨#[48]⟩, ⟨#[56]⟩] [⟨#[48]⟩, ⟨#[56]⟩] 2 2 SA (some ⟨w10.heap.size, 0, none⟩) sc 2 (w10.alloc (.cells #[.string ⟨#[48]⟩, .string ⟨#[56]⟩] 51)) (HS.out.reads.more lR) (cD (n := 2) (sz := 1) hx rfl) (by decide))
 rw [decide_eq_true rfl] at HC
 clear hx
 go_wp2_with fail
 refine HC.out.mono ?_
 rintro e w11 ⟨rfl, hb⟩
 clear HC
 have hbs := HB.out.size
 replace HB := aH (HB.out.trans (hb.mono hbs))
 clear hbs
 replace HP := bL HP hb
 replace HS := aH (HS.out.call hb)
 replace HA0 := aH (aA HA0.out hb)
 replace HA1 := aH (aA HA1.out hb)
 replace HA2 := aH (aA HA2.out hb)
 clear hb
 clear a0 a1 a2
 have a0 := HA0.out
 have a1 := HA1.out
 have a2 := HA2.out
 go_wp2
 go_ret
 exact ⟨rfl, HB.out⟩
end Go.Proofs.YtenbglfkdldheaaGreatDoor
