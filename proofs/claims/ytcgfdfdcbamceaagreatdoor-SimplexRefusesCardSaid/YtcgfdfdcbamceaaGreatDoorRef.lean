/- SimplexRefuses returns true for every input: a result of another kind, with another value, or with a negative element is refused. No conditions. The row's listed variables hold what the program's text lays (the card ties them). -/
import Derived.Test.YtcgfdfdcbamceaaGreatDoorXBZ
import Derived.ShutString
import Derived.ChangeMaps5
namespace Go.Proofs.YtcgfdfdcbamceaaGreatDoor
open Go.Lib
def ratTx (q : Rat) : List UInt8 × Int := if fitQ q = true then (qText q, 0) else ([], 2)
def rOp (a b : List UInt8) (r : List UInt8 × Int) : List UInt8 × Int := if rAll [a, b] = 0 then r else ([], rAll [a, b])
def ratAdd (a b : List UInt8) : List UInt8 × Int := rOp a b (ratTx (rval a + rval b))
theorem rAll_ok {a b : List UInt8} (h : rAll [a, b] = 0) : rchk a = 0 ∧ rchk b = 0 := by
 simp only [rAll] at h
 split at h
 ·rename_i h1
  split at h
  ·rename_i h2; exact ⟨h1, h2⟩
  ·rename_i h2; exact absurd h h2
 ·rename_i h1; exact absurd h h1
theorem pow_mul_lt {a b i j : Nat} (ha : a < 10 ^ i) (hb : b < 10 ^ j) : a * b < 10 ^ (i + j) := by rw [Nat.pow_add]; exact Nat.mul_lt_mul'' ha hb
theorem SzQ.of_divInt {n d : Int} {k : Nat} (hn : n.natAbs < 10 ^ k) (hd : d.natAbs < 10 ^ k) (h1 : 1 ≤ k) : SzQ (Rat.divInt n d) k := by
 obtain ⟨h2, h3⟩ := divInt_le n d
 have h4 : 10 ^ 1 ≤ 10 ^ k := Nat.pow_le_pow_right (by decide) h1
 refine ⟨by omega, ?_⟩
 have : max 1 d.natAbs < 10 ^ k := Nat.max_lt.2 ⟨by omega, hd⟩
 omega
theorem SzQ.add {x y : Rat} {i j : Nat} (hx : SzQ x i) (hy : SzQ y j) : SzQ (x + y) (i + j + 1) := by
 rw [← divInt_add]
 have h1 := pow_mul_lt hx.1 hy.2
 have h2 := pow_mul_lt hy.1 hx.2
 have h3 := pow_mul_lt hx.2 hy.2
 rw [Nat.add_comm j i] at h2
 have e : 10 ^ (i + j + 1) = 10 ^ (i + j) * 10 := Nat.pow_succ ..
 refine SzQ.of_divInt ?_ ?_ (by omega)
 ·have := Int.natAbs_add_le (x.num * (y.den : Int)) (y.num * (x.den : Int))
  rw [Int.natAbs_mul, Int.natAbs_mul, Int.natAbs_natCast, Int.natAbs_natCast] at this
  omega
 ·rw [Int.natAbs_mul, Int.natAbs_natCast, Int.natAbs_natCast]; omega
end Go.Proofs.YtcgfdfdcbamceaaGreatDoor
namespace Go.Proofs.YtcgfdfdcbamceaaGreatDoor
open Go.RowKit
set_option maxRecDepth 100000 in
set_option maxHeartbeats 1000000 in
theorem ratText_any (v : Value) (q : Rat) (w : World) (hx : Rt w v q) (htab : Tab w) : Calls Tryz.prog 74 #[v] w (RetTx w (ratTx q)) := by
 obtain ⟨A, l, c, B, m, d, rfl, -, -⟩ := hx.form
 obtain ⟨-, hb⟩ := boxes1 w (.bool (decide (q.num < 0))) (.slice A l c) (.bool false) (.slice B m d)
 have HT := Lib.hid (rtext_any _ _ _ (hx.ext hb) (tab_below htab hb))
 have HB := Lib.hid hb
 clear hx hb htab
 generalize decide (q.num < 0) = nb at *
 unfold ratT at *
 go_enter Tryz.func74, Tryz.ntmps74
 go_wp2_with fail
 refine HT.out.mono ?_
 rintro e w1 ⟨s, rfl, hs, hb⟩
 have HB1 := Lib.hid (HB.out.trans (hb.mono HB.out.size))
 clear HB HT hb
 by_cases h : fitQ q = true
 ·have HQ := Lib.hid (show RetTx w (ratTx q) (.returned (.tuple #[.string s, I 0])) w1 from ⟨by rw [ratTx, if_pos h, hs h], HB1.out⟩)
  rw [h]
  clear hs
  go_wp2
  go_ret2
  exact HQ.out
 ·have HQ := Lib.hid (show RetTx w (ratTx q) (.returned (.tuple #[.string ⟨#[]⟩, I 2])) w1 from ⟨by rw [ratTx, if_neg h], HB1.out⟩)
  have h := Bool.eq_false_iff.2 h
  rw [h]
  clear hs
  go_wp2
  go_ret2
  exact HQ.out
abbrev vecT : TypeId := 25
theorem fits_fitM {n : Nat} (h : fitN n = true) : Fits 210 (n : Int) := by
 have := (num_of_fit h).fits
 rwa [num_dec] at this
theorem val_fit {l : List UInt8} (h : RVal l) : FitR 210 (rval l) := by
 have := h.fit
 rw [fitQ, Bool.and_eq_true] at this
 refine ⟨?_, fits_fitM this.2⟩
 have h1 := fits_fitM this.1
 unfold Fits at *
 rw [Int.natAbs_natCast] at h1
 exact h1
theorem rOp_bad {w w' : World} {a b : List UInt8} {r : List UInt8 × Int} {c : Int} (hc : rAll [a, b] = c) (h0 : c ≠ 0) (hb : Below w.heap.size w w') : RetTx w (rOp a b r) (.returned (.tuple #[.string ⟨#[]⟩, I c])) w' := by
 refine ⟨?_, hb⟩
 rw [rOp, if_neg (by rw [hc]; exact h0), hc]
theorem rOp_good {w w1 w' : World} {a b : List UInt8} {r : List UInt8 × Int} {e : Ending} (hc : rAll [a, b] = 0) (hb : Below w.heap.size w w1) (h : RetTx w1 r e w') : RetTx w (rOp a b r) e w' := by
 rw [rOp, if_pos hc]
 exact ⟨h.1, hb.trans (h.2.mono hb.size)⟩
theorem reads2 (w : World) (t : TypeId) (s u : ByteArray) : Reads (w.alloc (.cells #[.string s, .string u] t)) (w.alloc (.cells #[.string s, .string u] t)).heap.size 1 (some ⟨w.heap.size, 0, none⟩) 2 ([s, u].map Sv) := by
 have := reads_lits w t ([s, u].map Sv)
 rw [World.size_alloc]
 exact this
theorem mem2 {s t x : ByteArray} {K : Nat} (hs : s.size ≤ K) (ht : t.size ≤ K) (h : x ∈ [s, t]) : x.size ≤ K := by
 rcases List.mem_cons.1 h with rfl | h
 ·exact hs
 ·rw [List.mem_singleton.1 h]; exact ht
set_option maxRecDepth 100000 in
set_option maxHeartbeats 2000000 in
theorem opAdd_any (s t : ByteArray) (w : World) (hs : s.size ≤ 9223372036854775807) (ht : t.size ≤ 9223372036854775807) (htab : Tab w) :
  Calls Tryz.prog 39 #[.string s, .string t, .func (.func 40) #[] #[]] w (RetTx w (rOp (SL s) (SL t) (ratTx (rval (SL s) + rval (SL t))))) := by
 have hb0 := (Below.refl w.heap.size w).alloc (Nat.le_refl _) (.cells #[.string s, .string t] 30)
 have HA := Lib.hid (rall_any [s, t] 2 (some ⟨w.heap.size, 0, none⟩) 2 _ (reads2 w 30 s t) (by omega) (fun x hx => mem2 hs ht hx) (tab_below htab hb0))
 have HB := Lib.hid hb0
 have HTB := Lib.hid htab
 have hmap : [s, t].map SL = [SL s, SL t] := rfl
 rw [hmap] at HA
 clear hb0 htab hmap
 go_enter Tryz.func39, Tryz.ntmps39
 go_wp2_with fail
 refine HA.out.mono ?_
 rintro e w1 ⟨rfl, hb⟩
 have HB1 := Lib.hid (HB.out.trans (hb.mono HB.out.size))
 clear hb HB HA
 by_cases h0 : rAll [SL s, SL t] = 0
 ·obtain ⟨ha, hb⟩ := rAll_ok h0
  have HT := Lib.hid h0
  have HVA := Lib.hid (rchk_val _ ha)
  have HVB := Lib.hid (rchk_val _ hb)
  rw [h0]
  clear h0 ha hb
  go_wp2_with fail
  refine (parse_any s w1 hs HVA.out).mono ?_
  rintro e w2 ⟨u, rfl, hu, hb2⟩
  have HB2 := Lib.hid (HB1.out.trans (hb2.mono HB1.out.size))
  have HU := Lib.hid hu
  clear hb2 HB1 hu
  go_wp2_with fail
  refine (parse_any t w2 ht HVB.out).mono ?_
  rintro e w3 ⟨v, rfl, hv, hb3⟩
  have HB3 := Lib.hid (HB2.out.trans (hb3.mono HB2.out.size))
  have HU3 := Lib.hid (HU.out.ext hb3)
  have HV3 := Lib.hid hv
  clear hb3 HB2 hv HU
  go_wp2_with fail
  refine (radd_any u v _ _ w3 HU3.out HV3.out (N := 210) (by omega) (val_fit HVA.out) (val_fit HVB.out)).mono ?_
  rintro e w4 ⟨r, rfl, hr, hb4⟩
  have HB4 := Lib.hid (HB3.out.trans (hb4.mono HB3.out.size))
  have HR4 := Lib.hid hr
  clear hb4 HB3 hr
  go_wp2_with fail
  refine (ratText_any r _ w4 HR4.out (tab_below HTB.out HB4.out)).mono ?_
  rintro e w5 ⟨rfl, hb5⟩
  have HQ := Lib.hid (rOp_good (a := SL s) (b := SL t) (r := ratTx (rval (SL s) + rval (SL t))) HT.out HB4.out ⟨rfl, hb5⟩)
  clear hb5 HB4
  go_wp2
  go_ret2
  exact HQ.out
 ·have HQ := Lib.hid (rOp_bad (a := SL s) (b := SL t) (r := ratTx (rval (SL s) + rval (SL t))) rfl h0 HB1.out)
  have tc : (rAll [SL s, SL t] != 0) = true := bne_iff_ne.2 h0
  generalize rAll [SL s, SL t] = c at *
  clear h0
  go_wp2
  go_ret2
  exact HQ.out
set_option maxRecDepth 100000 in
theorem ratAdd_any (s t : ByteArray) (w : World) (hs : s.size ≤ 9223372036854775807) (ht : t.size ≤ 9223372036854775807) (htab : Tab w) : Calls Tryz.prog 13 #[.string s, .string t] w (RetTx w (ratAdd (SL s) (SL t))) := by
 have HO := Lib.hid (opAdd_any s t w hs ht htab)
 go_enter Tryz.func13, Tryz.ntmps13
 go_wp2_with fail
 refine HO.out.mono ?_
 rintro e w1 ⟨rfl, hb⟩
 have HQ := Lib.hid (show RetTx w (ratAdd (SL s) (SL t)) _ w1 from ⟨rfl, hb⟩)
 clear HO hb
 go_wp2
 go_ret2
 exact HQ.out
def SV (w : World) (A : Option Addr) (n : Nat) (l : List ByteArray) : Prop := Reads w w.heap.size 1 A n (l.map Sv)
theorem SV.below {w w' : World} {A : Option Addr} {n : Nat} {l : List ByteArray} (h : SV w A n l) (hb : Below w.heap.size w w') : SV w' A n l := (Reads.below h hb).more hb.size
theorem noWord_str (s : ByteArray) : noWord (.string s) := fun m e => by cases e
theorem app_vec : AppT vecT strT := ⟨Tryz.underlying25, by
 obtain ⟨i, hi, hz0, hz1, hz2⟩ := info_parts info_str
 exact ⟨i, _, _, hi, hz0, hz1, hz2, by omega, rfl, zero_noWord1 rfl (noWord_str _)⟩⟩
theorem str_ok {l : List ByteArray} : ∀ u ∈ l.map Sv, noWord u ∧ u.oneCell' = true := fun u hu => by
 obtain ⟨s, _, rfl⟩ := List.mem_map.1 hu
 exact ⟨noWord_str s, rfl⟩
theorem nrow_empty (w : World) (e : TypeId) : NRow (w.alloc (.cells #[] e)) w.heap.size e (.slice (some ⟨w.heap.size, 0, none⟩) 0 0) [] := by
 refine ⟨⟨rfl, .inr ⟨w.heap.size, 0, 0, #[], rfl, Nat.le_refl _, Blk.new w e #[], Nat.le_refl _, by unfold maxLen; omega, Nat.le_refl _, rfl⟩⟩, fun g o n hg => ?_, fun u hu => (by cases hu)⟩
 have hg : w.heap.size = g := by simpa [Value.ownBlock] using hg
 subst hg
 rw [(Blk.new w e #[]).cell]
 simp
end Go.Proofs.YtcgfdfdcbamceaaGreatDoor
namespace Go.Proofs.YtcgfdfdcbamceaaGreatDoor
theorem back_txZ {q : Rat} (h : SzQ q 971) : rchk (qText q) = 0 ∧ rval (qText q) = q := qText_ok q (h.fit (by decide) (by decide))
theorem ver_zero {a : MT} {b c x y r : List (List UInt8)} {k : Int} {v : List UInt8} (h : verP a b c k x y r v = 0) :
  0 ≤ k ∧ k ≤ 2 ∧ lenB k.toNat b.length c.length x.length y.length r.length = true ∧ (k = 0 → rchk v = 0) ∧ (k ≠ 0 → v = []) ∧ provedB k.toNat (valsM a) (valsV b) (valsV c) (valsV x) (valsV y) (valsV r) (rval v) b.length c.length = true := by
 unfold verP at h
 by_cases h1 : chkP a b c = 0
 ·rw [if_neg (fun k => k h1)] at h
  by_cases h2 : chkV x = 0
  ·rw [if_neg (fun k => k h2)] at h
   by_cases h3 : chkV y = 0
   ·rw [if_neg (fun k => k h3)] at h
    by_cases h4 : chkV r = 0
    ·rw [if_neg (fun k => k h4)] at h
     by_cases h5 : k < 0
     ·rw [if_pos h5] at h; exact absurd h (by decide)
     ·rw [if_neg h5] at h
      by_cases h6 : 2 < k
      ·rw [if_pos h6] at h; exact absurd h (by decide)
      ·rw [if_neg h6] at h
       cases h7 : lenB k.toNat b.length c.length x.length y.length r.length with
       | false => rw [if_pos h7] at h; exact absurd h (by decide)
       | true =>
        rw [if_neg (by rw [h7]; decide)] at h
        by_cases h8 : k = 0 ∧ rchk v ≠ 0
        ·rw [if_pos h8] at h; exact absurd h h8.2
        ·rw [if_neg h8] at h
         by_cases h9 : k ≠ 0 ∧ v ≠ []
         ·rw [if_pos h9] at h; exact absurd h (by decide)
         ·rw [if_neg h9] at h
          cases h10 : provedB k.toNat (valsM a) (valsV b) (valsV c) (valsV x) (valsV y) (valsV r) (rval v) b.length c.length with
          | false => rw [if_neg (by rw [h10]; decide)] at h; exact absurd h (by decide)
          | true => exact ⟨by omega, by omega, rfl, fun e => Decidable.not_not.1 fun g => h8 ⟨e, g⟩, fun e => Decidable.not_not.1 fun g => h9 ⟨e, g⟩, rfl⟩
    ·rw [if_pos h4] at h; exact absurd h h4
   ·rw [if_pos h3] at h; exact absurd h h3
  ·rw [if_pos h2] at h; exact absurd h h2
 ·rw [if_pos h1] at h; exact absurd h h1
section
variable {a : MT} {b c : List (List UInt8)} {m n : Nat} {s : SolvedQ}
theorem ref_kind {A : List (List Rat)} {B C : List Rat} (hz : SzS s) (hb : b.length = m) (hcl : c.length = n) (hr : ResQ m n A B C s) {k : Int} (hk : k ≠ s.kind) : verP a b c k (s.x.map qText) (s.y.map qText) (s.ray.map qText) (resTx s).value ≠ 0 := fun h => by
 obtain ⟨k1, k2, k3, k4, k5, _⟩ := ver_zero h
 rw [List.length_map, List.length_map, List.length_map, hb, hcl] at k3
 cases hr with
 | best x y v hx hy g =>
  have hk0 : k ≠ 0 := hk
  have e : qText v = [] := k5 hk0
  have h1 := (back_txZ (hz.v rfl)).1
  rw [show (⟨0, x, y, [], v⟩ : SolvedQ).value = v from rfl, e] at h1
  exact absurd h1 (by decide)
 | none y hy g =>
  have hk1 : k ≠ 1 := hk
  by_cases hk0 : k = 0
  ·have h1 : rchk [] = 0 := k4 hk0
   exact absurd h1 (by decide)
  ·obtain rfl : k = 2 := by omega
   have h1 : decide (([] : List Rat).length = n ∧ y.length = 0 ∧ ([] : List Rat).length = n) = true := k3
   have h2 := of_decide_eq_true h1
   have h3 : m = 0 := by omega
   have h4 := g.neg
   subst h3
   exact absurd h4 (by show ¬ (0 : Rat) < 0; decide)
 | free x r hx hy g =>
  have hk1 : k ≠ 2 := hk
  by_cases hk0 : k = 0
  ·have h1 : rchk [] = 0 := k4 hk0
   exact absurd h1 (by decide)
  ·obtain rfl : k = 1 := by omega
   have h1 : decide (x.length = 0 ∧ ([] : List Rat).length = m ∧ r.length = 0) = true := k3
   have h2 := of_decide_eq_true h1
   have h3 : n = 0 := by omega
   have h4 := g.pos
   subst h3
   exact absurd h4 (by show ¬ (0 : Rat) < 0; decide)
theorem ref_more (hc : chkP a b c = 0) (hp : ProbQ (valsM a) (valsV b) (valsV c) m n) (hs : ShortQ (valsM a) (valsV b) (valsV c)) (hm : m ≤ 6) (hn : n ≤ 6) (hk : (solveQ (valsM a) (valsV b) (valsV c)).kind = 0) :
  verP a b c 0 ((solveQ (valsM a) (valsV b) (valsV c)).x.map qText) ((solveQ (valsM a) (valsV b) (valsV c)).y.map qText) ((solveQ (valsM a) (valsV b) (valsV c)).ray.map qText) (qText ((solveQ (valsM a) (valsV b) (valsV c)).value + 1)) = 21 := by
 have hz := sol_sz hp hs hm hn
 have hf := fitS_of hp hs hm hn
 have hr := solve_law hp
 have hb : b.length = m := by have := hp.lb; rwa [valsV, List.length_map] at this
 have hcl : c.length = n := by have := hp.lc; rwa [valsV, List.length_map] at this
 generalize solveQ (valsM a) (valsV b) (valsV c) = s at *
 have hv1 : SzQ (s.value + 1) 973 := (hz.v hk).add (j := 1) (SzQ.mono (k := 1) ⟨by decide, by decide⟩ (by decide))
 have hvt := qText_ok _ (hv1.fit (by decide) (by decide))
 have e1 := tx_chk hz.x hf.lx
 have e2 := tx_chk hz.y hf.ly
 have e3 := tx_chk hz.r hf.lr
 have b1 := (tx_back hz.x).1
 have b2 := (tx_back hz.y).1
 have b3 := (tx_back hz.r).1
 unfold verP
 rw [if_neg (fun k => k hc), if_neg (fun k => k e1), if_neg (fun k => k e2), if_neg (fun k => k e3), if_neg (by decide), if_neg (by decide), List.length_map, List.length_map, List.length_map, hb, hcl]
 cases hr with
 | best x y v hx hy g =>
  have k3 : lenB (0 : Int).toNat m n x.length y.length ([] : List Rat).length = true := decide_eq_true ⟨hx, hy, rfl⟩
  show (if lenB (0 : Int).toNat m n x.length y.length ([] : List Rat).length = false then _ else _) = _
  rw [if_neg (by rw [k3]; decide), if_neg (fun k => k.2 hvt.1), if_neg (fun k => k.1 rfl), b1, b2, b3, hvt.2, if_neg]
  intro h
  rw [provedB, Bool.and_eq_true, Bool.and_eq_true, Bool.and_eq_true, if_pos (show (0 : Int).toNat = 0 from rfl), bestB, Bool.and_eq_true, Bool.and_eq_true, Bool.and_eq_true, decide_eq_true_iff] at h
  have h1 : dotQ (valsV c) x = v + 1 := h.2.2.2.2.2.1
  have h2 : dotQ (valsV c) x = v := by rw [dotQ, hp.lc]; exact g.vx
  rw [h2] at h1
  exact absurd h1 (by grind)
 | none y hy g => exact absurd hk (by show (1 : Int) ≠ 0; decide)
 | free x r hx hy g => exact absurd hk (by show (2 : Int) ≠ 0; decide)
theorem nn_set {l : List Rat} {i : Nat} (hi : i < l.length) : nnL (l.set i (-1)) = false := by
 rw [Bool.eq_false_iff]
 intro h
 have h1 := List.all_eq_true.1 h i (List.mem_range.2 (by rw [List.length_set]; exact hi))
 rw [nnP, List.getD_eq_getElem?_getD, List.getElem?_set_self hi] at h1
 exact absurd h1 (by decide)
theorem ref_x {y r : List (List UInt8)} {x : List (List UInt8)} {v : List UInt8} {k : Int} (h : nnL (valsV x) = false) : verP a b c k x y r v ≠ 0 := fun g => by
 have h1 := (ver_zero g).2.2.2.2.2
 rw [provedB, h] at h1
 exact absurd h1 (by simp)
theorem ref_y {y r : List (List UInt8)} {x : List (List UInt8)} {v : List UInt8} {k : Int} (h : nnL (valsV y) = false) : verP a b c k x y r v ≠ 0 := fun g => by
 have h1 := (ver_zero g).2.2.2.2.2
 rw [provedB, h] at h1
 exact absurd h1 (by simp)
end
end Go.Proofs.YtcgfdfdcbamceaaGreatDoor
namespace Go.Proofs.YtcgfdfdcbamceaaGreatDoor
open Go.RowKit
set_option maxRecDepth 100000 in
set_option maxHeartbeats 1000000 in
theorem cloneV_any (l : List ByteArray) (n : Nat) (A : Option Addr) (c : Nat) (w : World) (hr : Reads w w.heap.size 1 A n (l.map Sv)) (hn : n ≤ 1000) :
  Calls Tryz.prog 14 #[.slice A n c] w fun e w' => ∃ v, e = .returned v ∧ NRow w' w.heap.size strT v (l.map Sv) ∧ Below w.heap.size w w' := by
 have q1 : ∀ (w : World) (a : Option Addr) (n c n' c' : Nat), (binOp .eql vecT (.slice a n c) (.slice none n' c')).run Tryz.prog w = .ok (.bool a.isNone) w := fun w a n c n' c' => Lib.run_eql_slice_nil w _ _ a n c n' c' Tryz.underlying25
 unfold vecT at q1
 cases A with
 | none =>
  have h0 : n = 0 := by
   by_cases h : 0 < n
   ·obtain ⟨_, _, e, _⟩ := hr.2 h; cases e
   ·omega
  subst h0
  have hl : l = [] := by have := hr.1; simpa using this
  subst hl
  clear hr
  go_enter Tryz.func14, Tryz.ntmps14
  go_wp2
  go_ret
  exact ⟨_, rfl, NRow.nil _ _ _, Below.refl _ _⟩
 | some ad =>
  have HB0 := Lib.hid (below_new w (.cells #[] strT))
  have HR := Lib.hid (hr.below HB0.out)
  have HN := Lib.hid (nrow_empty w strT)
  have HAP := Lib.hid app_vec
  clear hr
  unfold strT vecT at *
  go_enter Tryz.func14, Tryz.ntmps14
  go_wp2_with (at_builtin; refine wpList_appG rfl _ _ HAP.out rfl w.heap.size _ [] rfl HN.out (some ad) n c rfl (l.map Sv) (HR.out.more HB0.out.size) str_ok (by rw [List.length_nil]; omega) HB0.out.size ?_)
  intro v' w3 hap
  have HR3 := Lib.hid hap.row
  have HB3 := Lib.hid (HB0.out.trans (hap.below HN.out HB0.out.size))
  clear hap
  go_wp2
  go_ret
  exact ⟨_, rfl, HR3.out, HB3.out⟩
theorem SV.at_ {w : World} {A : Option Addr} {n : Nat} {l : List ByteArray} (h : SV w A n l) {k : Nat} (hk : k < n) {q : ByteArray} (hq : l[k]? = some q) : ∃ b off, A = some ⟨b, off, none⟩ ∧ w.cell? ⟨b, off + k, none⟩ = some (.string q) := by
 obtain ⟨b, off, u, rfl, _, hu, hc⟩ := Reads.at1 h hk
 rw [List.getElem?_map, hq] at hu
 have hu := Option.some.inj hu
 subst hu
 exact ⟨b, off, rfl, hc⟩
def pickN (x n : Int) : Int := IntKind.u64.wrap x % n
theorem pickN_range (x : Int) {n : Int} (h : 0 < n) : 0 ≤ pickN x n ∧ pickN x n < n := ⟨Int.emod_nonneg _ (by omega), Int.emod_lt_of_pos _ h⟩
set_option maxRecDepth 100000 in
set_option maxHeartbeats 400000 in
theorem pick_at (x n : Int) (w : World) (h0 : 0 < n) (h1 : n ≤ 1000000) : Calls Tryz.prog 12 #[I x, I n] w fun e w' => e = .returned (I (pickN x n)) ∧ w' = w := by
 have hb := pickN_range x h0
 have hn : IntKind.u64.wrap n = n := by rw [IntKind.wrap_u64]; omega
 have HE := Lib.hid (show wrap64 ((IntKind.u64.wrap x).tmod n) = pickN x n by
  rw [show (IntKind.u64.wrap x).tmod n = pickN x n from Int.tmod_eq_emod_of_nonneg (by rw [IntKind.wrap_u64]; exact Int.emod_nonneg _ (by decide))]
  exact IntWalk.wrap64_in _ (by omega))
 have hz : (n == 0) = false := by simp; omega
 clear hb
 go_enter Tryz.func12, Tryz.ntmps12
 go_wp2
 go_ret
 exact ⟨by rw [← HE.out]; rfl, rfl⟩
theorem idx2_run (w : World) (k : Nat) (hk : k < 2) (u v : Value) : (Instr.index 42 (.agg #[u, v]) (I k)).run Tryz.prog w = .ok (if k = 0 then u else v) w := by
 have h : Tryz.prog.underlying 42 = some (.array 2 25) := by kernel_rfl
 have hk3 : k = 0 ∨ k = 1 := by omega
 rcases hk3 with rfl | rfl
 ·simp [Instr.index, run_underlying h, asIntOf, part, go_sem]
 ·simp [Instr.index, run_underlying h, asIntOf, part, go_sem]
theorem kind_rg {m n : Nat} {a : List (List Rat)} {b c : List Rat} {s : SolvedQ} (h : ResQ m n a b c s) : 0 ≤ s.kind ∧ s.kind ≤ 2 := by
 cases h with
 | best => exact ⟨by show (0 : Int) ≤ 0; decide, by show (0 : Int) ≤ 2; decide⟩
 | none => exact ⟨by show (0 : Int) ≤ 1; decide, by show (1 : Int) ≤ 2; decide⟩
 | free => exact ⟨by show (0 : Int) ≤ 2; decide, by show (2 : Int) ≤ 2; decide⟩
theorem neg_set {l : List Rat} (h : ∀ q ∈ l, SzQ q 971) (hl : l.length ≤ 40) {j : Nat} (hj : j < l.length) :
  (mkS (l.map qText)).set j ⟨#[45, 49]⟩ = mkS ((l.set j (-1)).map qText) ∧ Sh1 (mkS ((l.set j (-1)).map qText)) ∧ OkV (mkS ((l.set j (-1)).map qText)) l.length ∧ nnL (valsV (tx1 (mkS ((l.set j (-1)).map qText)))) = false := by
 have hm : SzQ (-1) 971 := SzQ.mono (k := 1) ⟨by decide, by decide⟩ (by decide)
 have hs : ∀ q ∈ l.set j (-1), SzQ q 971 := fun q hq => by
  rcases List.mem_or_eq_of_mem_set hq with h1 | h1
  ·exact h q h1
  ·rw [h1]; exact hm
 have ho := okV_tx (n := l.length) hs (by rw [List.length_set]; exact hl) (List.length_set ..)
 refine ⟨?_, ho.1, ho.2, ?_⟩
 ·unfold mkS
  rw [List.map_set, List.map_set, show qText (-1) = [45, 49] by decide +kernel]
 ·rw [tx_mk, (tx_back hs).1]
  exact nn_set hj
set_option maxRecDepth 100000 in
set_option maxHeartbeats 40000000 in
theorem simplexRefuses_any (A Ab Ac : Option Addr) (na ca nb cb nc cc : Nat) (m : List (List ByteArray)) (lb lc : List ByteArray) (ii : Int) (w : World) (h : PrW w A na Ab nb Ac nc m lb lc) (hs : ShP m lb lc) (htab : Tab w) :
  Calls Tryz.prog 4 #[.agg #[.slice A na ca, .slice Ab nb cb, .slice Ac nc cc], I ii] w fun e w' => e = .returned (.bool true) ∧ Below w.heap.size w w' := by
 have b1 := below_new w (.cells #[.slice A na ca, .slice Ab nb cb, .slice Ac nc cc] 27)
 have HP := Lib.hid (h.below b1)
 have HT := Lib.hid (tab_below htab b1)
 have HB1 := Lib.hid b1
 have hB := Blk.new w 27 #[.slice A na ca, .slice Ab nb cb, .slice Ac nc cc]
 have P0 := Lib.hid (show (w.alloc (.cells #[.slice A na ca, .slice Ab nb cb, .slice Ac nc cc] 27)).cell? ⟨w.heap.size, 0, none⟩ = some (.slice A na ca) from hB.cell 0)
 have P1 := Lib.hid (show (w.alloc (.cells #[.slice A na ca, .slice Ab nb cb, .slice Ac nc cc] 27)).cell? ⟨w.heap.size, 1, none⟩ = some (.slice Ab nb cb) from hB.cell 1)
 have P2 := Lib.hid (show (w.alloc (.cells #[.slice A na ca, .slice Ab nb cb, .slice Ac nc cc] 27)).cell? ⟨w.heap.size, 2, none⟩ = some (.slice Ac nc cc) from hB.cell 2)
 have HSH := Lib.hid hs
 have HLN := Lib.hid h.lens
 clear b1 hB h hs htab
 go_enter Tryz.func4, Tryz.ntmps4
 go_upto_region 1 with (fail)
 generalize w.alloc (.cells #[.slice A na ca, .slice Ab nb cb, .slice Ac nc cc] 27) = w1 at *
 skip
 have HB := Lib.hid (Below.refl w1.heap.size w1)
 have HC := Lib.hid (simplexFact_any w1 HT.out)
 go_wp2_with fail
 refine HC.out.mono ?_
 rintro e w2 ⟨rfl, hb⟩
 clear HC
 replace HB := Lib.hid (HB.out.trans (hb.mono HB.out.size))
 clear hb
 have x0 := cell_below P0.out HB.out
 have x1 := cell_below P1.out HB.out
 have x2 := cell_below P2.out HB.out
 have hp2 := HP.out.below HB.out
 have hz1 := below_new w2 (.cells #[.slice Ab nb cb, .slice Ac nc cc] 25)
 have hz2 := below_new (w2.alloc (.cells #[.slice Ab nb cb, .slice Ac nc cc] 25)) (.cells #[.slice A na ca, .slice (some ⟨w2.heap.size, 0, none⟩) 2 2] 23)
 have hsm := pair_sms (c := ca) (d := 2) ((hp2.below hz1).ma) (pair_sm (cb := cb) (cc := cc) hp2.vb hp2.vc)
 rw [World.size_alloc] at hsm
 have hzz := hz1.trans (hz2.mono hz1.size)
 have HC := Lib.hid (small_any 5 [m, [lb, lc]] 2 (some ⟨w2.heap.size + 1, 0, none⟩) 2 ((w2.alloc (.cells #[.slice Ab nb cb, .slice Ac nc cc] 25)).alloc (.cells #[.slice A na ca, .slice (some ⟨w2.heap.size, 0, none⟩) 2 2] 23)) hsm (by decide) (by decide))
 clear hp2 hz1 hz2 hsm
 go_wp2_with fail
 refine HC.out.mono ?_
 rintro e w3 ⟨rfl, hb⟩
 clear HC x0 x1 x2
 replace HB := Lib.hid (HB.out.trans (hzz.mono HB.out.size))
 clear hzz
 replace HB := Lib.hid (HB.out.trans (hb.mono HB.out.size))
 clear hb
 cases hsb : (!([m, [lb, lc]] : List (List (List ByteArray))).any (lgM 5)) with
 | false =>
  go_wp2
  go_ret
  exact ⟨rfl, HB1.out.trans (HB.out.mono HB1.out.size)⟩
 | true =>
  have HS1 := Lib.hid (small_pair hsb)
  clear hsb
  have x0 := cell_below P0.out HB.out
  have x1 := cell_below P1.out HB.out
  have x2 := cell_below P2.out HB.out
  have HGO := Lib.hid (fun hc => prob_of (N := 5) (by decide) HS1.out.1 HS1.out.2 hc)
  have HNA := Lib.hid (show m.length = na ∧ lc.length = nc by obtain ⟨h1, _, h3⟩ := HLN.out; rw [tx2, List.length_map] at h1; rw [tx1, List.length_map] at h3; exact ⟨h1, h3⟩)
  have HC := Lib.hid (psolve_any A Ab Ac na ca nb cb nc cc m lb lc w3 (HP.out.below HB.out) HSH.out (tab_below HT.out HB.out) (fun hc => by have h := (HGO.out hc).2.1; rw [HNA.out.1, HNA.out.2] at h; exact h))
  go_wp2_with fail
  refine HC.out.mono ?_
  rintro e w4 ⟨v, rfl, hv, hb⟩
  clear HC x0 x1 x2
  replace HB := Lib.hid (HB.out.trans (hb.mono HB.out.size))
  clear hb
  by_cases hc : chkP (tx2 m) (tx1 lb) (tx1 lc) = 0
  rotate_left
  ·have tc : (chkP (tx2 m) (tx1 lb) (tx1 lc) != 0) = true := bne_iff_ne.2 hc
   generalize solP (tx2 m) (tx1 lb) (tx1 lc) = sp at hv
   obtain ⟨X, lx, cx, Y, ly, cy, R, lr, cr, rfl, hX, hY, hR⟩ := hv
   clear hX hY hR HGO hc
   generalize chkP (tx2 m) (tx1 lb) (tx1 lc) = cq at *
   have hz := below_new w4 (.cells #[I sp.kind, .slice X lx cx, .slice Y ly cy, .slice R lr cr, .string ⟨sp.value.toArray⟩] 32)
   replace HB := Lib.hid (HB.out.trans (hz.mono HB.out.size))
   clear hz
   go_upto_region 6 with (fail)
   generalize w4.alloc (.cells #[I sp.kind, .slice X lx cx, .slice Y ly cy, .slice R lr cr, .string ⟨sp.value.toArray⟩] 32) = w5 at *
   generalize w4.heap.size = gr at *
   go_wp2
   go_ret
   exact ⟨rfl, HB1.out.trans (HB.out.mono HB1.out.size)⟩
  rw [show solP (tx2 m) (tx1 lb) (tx1 lc) = resTx (solveQ (valsM (tx2 m)) (valsV (tx1 lb)) (valsV (tx1 lc))) from if_pos hc] at hv
  rw [hc]
  obtain ⟨hp, hg, hgv, hsq, h6, hn6⟩ := HGO.out hc
  have hz := sol_sz hp hsq h6 hn6
  have hf := fitS_of hp hsq h6 hn6
  have hr0 := solve_law hp
  have hmore := ref_more hc hp hsq h6 hn6
  have hbl : (tx1 lb).length = m.length := by have h := hp.lb; rwa [valsV, List.length_map] at h
  have hcl : (tx1 lc).length = lc.length := by rw [tx1, List.length_map]
  have hkind := fun (k : Int) (hk : k ≠ (solveQ (valsM (tx2 m)) (valsV (tx1 lb)) (valsV (tx1 lc))).kind) => ref_kind (a := tx2 m) hz hbl hcl hr0 hk
  have hk02 := kind_rg hr0
  generalize solveQ (valsM (tx2 m)) (valsV (tx1 lb)) (valsV (tx1 lc)) = s at *
  obtain ⟨X, lx, cx, Y, ly, cy, R, lr, cr, rfl, hX, hY, hR⟩ := hv
  have hlx : s.x.length = lx := by have := hX.1; simpa [mkS, resTx] using this
  have hly : s.y.length = ly := by have := hY.1; simpa [mkS, resTx] using this
  have hlr : s.ray.length = lr := by have := hR.1; simpa [mkS, resTx] using this
  have OX := Lib.hid (okV_tx hz.x hf.lx hlx)
  have OY := Lib.hid (okV_tx hz.y hf.ly hly)
  have OR := Lib.hid (okV_tx hz.r hf.lr hlr)
  have OV := Lib.hid (val_tx hz hf)
  have HRS := Lib.hid (show RsW w4 X lx Y ly R lr (mkS (s.x.map qText)) (mkS (s.y.map qText)) (mkS (s.ray.map qText)) from ⟨hX.reads, hY.reads, hR.reads⟩)
  have HKD := Lib.hid hkind
  have HMO := Lib.hid hmore
  have HZS := Lib.hid hz
  have HK2 := Lib.hid hk02
  have HFL := Lib.hid (show s.x.length ≤ 40 ∧ s.y.length ≤ 40 from ⟨hf.lx, hf.ly⟩)
  have HLL := Lib.hid (show s.x.length = lx ∧ s.y.length = ly from ⟨hlx, hly⟩)
  rw [HNA.out.1, HNA.out.2] at hgv
  have HGV := Lib.hid hgv
  clear hX hY hR hc HGO hp hg hgv hsq h6 hn6 hz hf hr0 hmore hbl hcl hkind hk02 hlx hly hlr
  have hz := below_new w4 (.cells #[I (resTx s).kind, .slice X lx cx, .slice Y ly cy, .slice R lr cr, .string ⟨(resTx s).value.toArray⟩] 32)
  have hY5 := Lib.hid (Blk.new w4 32 #[I (resTx s).kind, .slice X lx cx, .slice Y ly cy, .slice R lr cr, .string ⟨(resTx s).value.toArray⟩])
  replace HRS := Lib.hid (HRS.out.below hz)
  replace HB := Lib.hid (HB.out.trans (hz.mono HB.out.size))
  clear hz
  have hkk := show (resTx s).kind = s.kind from rfl
  clear hkk
  go_upto_region 8 with (fail)
  generalize w4.alloc (.cells #[I (resTx s).kind, .slice X lx cx, .slice Y ly cy, .slice R lr cr, .string ⟨(resTx s).value.toArray⟩] 32) = w5 at *
  generalize w4.heap.size = gr at *
  have HP5 := Lib.hid (HP.out.below HB.out)
  replace P0 := Lib.hid (cell_below P0.out HB.out)
  replace P1 := Lib.hid (cell_below P1.out HB.out)
  replace P2 := Lib.hid (cell_below P2.out HB.out)
  have R0 := Lib.hid (hY5.out.cell 0)
  have R1 := Lib.hid (hY5.out.cell 1)
  have R2 := Lib.hid (hY5.out.cell 2)
  have R3 := Lib.hid (hY5.out.cell 3)
  have R4 := Lib.hid (hY5.out.cell 4)
  have HGR := Lib.hid (hY5.out.lt)
  have HT5 := Lib.hid (tab_below HT.out HB.out)
  clear HP HT
  have r0 := R0.out
  have r1 := R1.out
  have r2 := R2.out
  have r3 := R3.out
  have r4 := R4.out
  have hb5 := below_new w5 (.cells #[I (resTx s).kind, .slice X lx cx, .slice Y ly cy, .slice R lr cr, .string ⟨(resTx s).value.toArray⟩] 32)
  have HO := Lib.hid (Blk.new w5 32 #[I (resTx s).kind, .slice X lx cx, .slice Y ly cy, .slice R lr cr, .string ⟨(resTx s).value.toArray⟩])
  have HB5 := Lib.hid hb5
  clear hb5
  go_upto_region 9 with (fail)
  clear r0 r1 r2 r3 r4
  generalize w5.alloc (.cells #[I (resTx s).kind, .slice X lx cx, .slice Y ly cy, .slice R lr cr, .string ⟨(resTx s).value.toArray⟩] 32) = w6 at *
  have hgO := Nat.le_refl w5.heap.size
  have hp2 := pickN_range ii (n := 2) (by decide)
  have hk2 := HK2.out
  obtain ⟨pk, hpk⟩ : ∃ pk, pickN ii 2 = pk := ⟨_, rfl⟩
  have HC1 := Lib.hid (fun W => pick_at ii 2 W (by decide) (by decide))
  rw [hpk] at hp2 HC1
  obtain ⟨kd, hkd⟩ : ∃ kd, s.kind = kd := ⟨_, rfl⟩
  obtain ⟨k2, hk2e⟩ : ∃ k2, pickN (kd + 1 + pk) 3 = k2 := ⟨_, rfl⟩
  have HC2 := Lib.hid (fun W => pick_at (kd + 1 + pk) 3 W (by decide) (by decide))
  rw [hk2e] at HC2
  have HKN := Lib.hid (show k2 ≠ s.kind by
   rw [hkd] at hk2 ⊢
   have e : (kd + 1 + pk) % 18446744073709551616 = kd + 1 + pk := by omega
   rw [← hk2e, pickN, IntKind.wrap_u64, e]
   omega)
  have r0d := cell_below R0.out HB5.out
  rw [show (resTx s).kind = kd from hkd] at r0d
  rw [hkd] at hk2
  have HBD := Lib.hid (show Below w5.heap.size w5 w6.drew from HB5.out.drew)
  have HOD := Lib.hid HO.out.drew
  clear HB5 HO hpk hk2e
  replace r0d : w6.drew.cell? ⟨gr, 0, none⟩ = some (I kd) := r0d
  refine wp_region_c (fun w' => w'.cell? ⟨gr, 0, none⟩ = some (I kd)) 8 (by kernel_rfl) ?_
  generalize w6.drew = wz6 at *
  refine tq 0 (.pointer (some ⟨gr, 0, none⟩)) rfl ?_ r0d ?_
  ·intro w hSw
   have s0 := hSw
   go_simp
  try simp only [Act.put, putA]
  refine tq 1 (I kd) rfl ?_ r0d ?_
  ·intro w hSw
   have s0 := hSw
   go_simp
  try simp only [Act.put]
  refine tq 2 (I (kd + 1)) rfl ?_ r0d ?_
  ·intro w hSw
   have s0 := hSw
   go_simp
   exact IntWalk.i64_in (kd + 1) (by omega)
  try simp only [Act.put]
  refine tq 3 (I ii) rfl ?_ r0d ?_
  ·intro w hSw
   have s0 := hSw
   go_simp
  try simp only [Act.put]
  refine on1 4 fun K hK => ?_
  go_simp
  go_at_call 12
  refine (HC1.out _).mono ?_
  rintro e wz6 ⟨rfl, rfl⟩
  refine hK.out _ _ (fun _ => r0d) ?_
  clear hK K
  try simp only [Act.put, putA, putZ, putC]
  refine tq 5 (I (kd + 1 + pk)) rfl ?_ r0d ?_
  ·intro w hSw
   have s0 := hSw
   go_simp
   exact IntWalk.i64_in (kd + 1 + pk) (by omega)
  try simp only [Act.put, putA]
  refine on1 6 fun K hK => ?_
  go_simp
  go_at_call 12
  refine (HC2.out _).mono ?_
  rintro e wz6 ⟨rfl, rfl⟩
  refine hK.out _ _ (fun _ => r0d) ?_
  clear hK K
  try simp only [Act.put, putA, putZ, putC]
  refine tq 7 (.pointer (some ⟨w5.heap.size, 0, none⟩)) rfl ?_ r0d ?_
  ·intro w hSw
   have s0 := hSw
   go_simp
  try simp only [Act.put, putA]
  have y0 := HOD.out.frozen 0
  have z0 := HOD.out.cell 0
  refine on1 8 fun K hK => ?_
  go_simp
  refine hK.out _ _ (fun h => absurd h (by decide)) ?_
  clear hK K
  try simp only [Act.put, putA, putZ, putC]
  refine wpAnyC_done (by kernel_rfl) ?_ _
  have HO := Lib.hid (HOD.out.set_ 0 (I k2))
  have HB5 := Lib.hid (HBD.out.setCell (p := ⟨w5.heap.size, 0, none⟩) (Nat.le_refl _) (I k2))
  clear y0 z0 r0d HOD HBD HC1 HC2 hp2 hk2 hgO
  simp only [List.setIfInBounds_toArray, List.set_cons_zero] at HO
  generalize wz6.setCell ⟨w5.heap.size, 0, none⟩ (I k2) = w7 at *
  have x0 := cell_below P0.out HB5.out
  have x1 := cell_below P1.out HB5.out
  have x2 := cell_below P2.out HB5.out
  have o0 := HO.out.cell 0
  have o1 := HO.out.cell 1
  have o2 := HO.out.cell 2
  have o3 := HO.out.cell 3
  have o4 := HO.out.cell 4
  have hv := verify_any A Ab Ac na ca nb cb nc cc m lb lc X Y R lx cx ly cy lr cr k2 (mkS (s.x.map qText)) (mkS (s.y.map qText)) (mkS (s.ray.map qText)) ⟨(resTx s).value.toArray⟩ w7 (HP5.out.below HB5.out) ⟨(HRS.out.below HB5.out).vx, (HRS.out.below HB5.out).vy, (HRS.out.below HB5.out).vr⟩ HSH.out OX.out.1 OY.out.1 OR.out.1 (by show (resTx s).value.toArray.size ≤ _; rw [List.size_toArray]; have := OV.out.1; omega) (tab_below HT5.out HB5.out) (fun _ => HGV.out) (fun _ => OX.out.2) (fun _ => OY.out.2) (fun _ => OR.out.2) (fun _ => by rw [SL_mk]; exact OV.out.2)
  rw [tx_mk, tx_mk, tx_mk, SL_mk] at hv
  have HC := Lib.hid hv
  clear hv
  have tv : (verP (tx2 m) (tx1 lb) (tx1 lc) k2 (s.x.map qText) (s.y.map qText) (s.ray.map qText) (resTx s).value == 0) = false := beq_eq_false_iff_ne.2 (HKD.out k2 HKN.out)
  generalize verP (tx2 m) (tx1 lb) (tx1 lc) k2 (s.x.map qText) (s.y.map qText) (s.ray.map qText) (resTx s).value = vr at *
  go_wp2_with fail
  refine HC.out.mono ?_
  rintro e w8 ⟨rfl, hb⟩
  clear HC x0 x1 x2 o0 o1 o2 o3 o4
  replace HO := Lib.hid (HO.out.below hb HO.out.lt)
  replace HB5 := Lib.hid (HB5.out.trans (hb.mono HB5.out.size))
  clear hb HKN
  have r0 := cell_below R0.out HB5.out
  rw [show (resTx s).kind = kd from hkd] at r0
  by_cases hk0 : kd = 0
  rotate_left
  ·have tk : (kd != 0) = true := bne_iff_ne.2 hk0
   go_wp2
   go_ret
   exact ⟨rfl, HB1.out.trans ((HB.out.trans (HB5.out.mono HB.out.size)).mono HB1.out.size)⟩
  subst hk0
  have hrv : (resTx s).value = qText s.value := if_pos hkd
  have hv1 : SzQ (s.value + 1) 973 := (HZS.out.v hkd).add (j := 1) (SzQ.mono (k := 1) ⟨by decide, by decide⟩ (by decide))
  have hvt := qText_ok _ (hv1.fit (by decide) (by decide))
  have hbt := back_txZ (HZS.out.v hkd)
  have hadd : ratAdd (resTx s).value [49] = (qText (s.value + 1), 0) := by
   rw [hrv, ratAdd, rOp, if_pos (rAll_all (by simp [hbt.1]; decide)), hbt.2, show rval [49] = 1 by decide +kernel, ratTx, if_pos (hv1.fit (by decide) (by decide))]
  have HV1 := Lib.hid (show (qText (s.value + 1)).length ≤ 4002 ∧ FitR 1000 (rval (qText (s.value + 1))) from ⟨qTextLen (hv1.fit (by decide) (by decide)), by rw [hvt.2]; exact (szQ_fitZ hv1).mono (by decide)⟩)
  have HM2 := Lib.hid (HMO.out hkd)
  clear hv1 hvt hbt hrv
  have r4 := cell_below R4.out HB5.out
  have HC := Lib.hid (ratAdd_any ⟨(resTx s).value.toArray⟩ ⟨#[49]⟩ w8 (by show (resTx s).value.toArray.size ≤ _; rw [List.size_toArray]; have := OV.out.1; omega) (by decide) (tab_below HT5.out HB5.out))
  rw [SL_mk, show SL ⟨#[49]⟩ = [49] from rfl, hadd] at HC
  clear hadd
  generalize qText (s.value + 1) = vm at *
  go_wp2_with fail
  refine HC.out.mono ?_
  rintro e w9 ⟨rfl, hb⟩
  clear HC r0 r4
  replace HO := Lib.hid (HO.out.below hb HO.out.lt)
  replace HB5 := Lib.hid (HB5.out.trans (hb.mono HB5.out.size))
  clear hb
  have r0 := cell_below R0.out HB5.out
  have r1 := cell_below R1.out HB5.out
  have r2 := cell_below R2.out HB5.out
  have r3 := cell_below R3.out HB5.out
  have r4 := cell_below R4.out HB5.out
  rw [show (resTx s).kind = 0 from hkd] at r0
  have hv5 := HO.out.v5
  have z0 := hv5.c0
  have y0 := hv5.f0
  have z1 := hv5.c1
  have y1 := hv5.f1
  have z2 := hv5.c2
  have y2 := hv5.f2
  have z3 := hv5.c3
  have y3 := hv5.f3
  have z4 := hv5.c4
  have y4 := hv5.f4
  have HS1 := Lib.hid (set5_blk HO.out (I 0) (.slice X lx cx) (.slice Y ly cy) (.slice R lr cr) (.string ⟨(resTx s).value.toArray⟩))
  have HS2 := Lib.hid (below_set5 HB5.out (Nat.le_refl _) (I 0) (.slice X lx cx) (.slice Y ly cy) (.slice R lr cr) (.string ⟨(resTx s).value.toArray⟩))
  clear hv5 HO HB5
  unfold set5 at HS1 HS2
  go_upto_region 16 with (fail)
  clear z0 z1 z2 z3 z4 y0 y1 y2 y3 y4 r0 r1 r2 r3 r4
  generalize ((((w9.setCell ⟨w5.heap.size, 0, none⟩ (I 0)).setCell ⟨w5.heap.size, 1, none⟩ (.slice X lx cx)).setCell ⟨w5.heap.size, 2, none⟩ (.slice Y ly cy)).setCell ⟨w5.heap.size, 3, none⟩ (.slice R lr cr)).setCell ⟨w5.heap.size, 4, none⟩ (.string ⟨(resTx s).value.toArray⟩) = w10 at *
  have y4 := HS1.out.frozen 4
  have z4 := HS1.out.cell 4
  go_upto_region 17 with (fail)
  clear y4 z4
  have HO := Lib.hid (HS1.out.set_ 4 (.string ⟨vm.toArray⟩))
  have HB5 := Lib.hid (HS2.out.setCell (p := ⟨w5.heap.size, 4, none⟩) (Nat.le_refl _) (.string ⟨vm.toArray⟩))
  simp only [List.setIfInBounds_toArray, List.set_cons_zero, List.set_cons_succ] at HO
  clear HS1 HS2
  generalize w10.setCell ⟨w5.heap.size, 4, none⟩ (.string ⟨vm.toArray⟩) = w11 at *
  have x0 := cell_below P0.out HB5.out
  have x1 := cell_below P1.out HB5.out
  have x2 := cell_below P2.out HB5.out
  have o0 := HO.out.cell 0
  have o1 := HO.out.cell 1
  have o2 := HO.out.cell 2
  have o3 := HO.out.cell 3
  have o4 := HO.out.cell 4
  have hv := verify_any A Ab Ac na ca nb cb nc cc m lb lc X Y R lx cx ly cy lr cr 0 (mkS (s.x.map qText)) (mkS (s.y.map qText)) (mkS (s.ray.map qText)) ⟨vm.toArray⟩ w11 (HP5.out.below HB5.out) ⟨(HRS.out.below HB5.out).vx, (HRS.out.below HB5.out).vy, (HRS.out.below HB5.out).vr⟩ HSH.out OX.out.1 OY.out.1 OR.out.1 (by show vm.toArray.size ≤ _; rw [List.size_toArray]; have := HV1.out.1; omega) (tab_below HT5.out HB5.out) (fun _ => HGV.out) (fun _ => OX.out.2) (fun _ => OY.out.2) (fun _ => OR.out.2) (fun _ => by rw [SL_mk]; exact HV1.out.2)
  rw [tx_mk, tx_mk, tx_mk, SL_mk, HM2.out] at hv
  have HC := Lib.hid hv
  clear hv
  go_wp2_with fail
  refine HC.out.mono ?_
  rintro e w12 ⟨rfl, hb⟩
  clear HC x0 x1 x2 o0 o1 o2 o3 o4 HO
  replace HB5 := Lib.hid (HB5.out.trans (hb.mono HB5.out.size))
  clear hb HM2 HV1
  have r1 := cell_below R1.out HB5.out
  have r2 := cell_below R2.out HB5.out
  have HS12 := Lib.hid HB5.out.size
  have HBL := Lib.hid (Below.refl w12.heap.size w12)
  go_wp2
  clear r1 r2
  go_loopg [72] (2 - 0) (fun r v wr => ∃ k : Nat, r = 2 - k ∧ v = I k ∧ k ≤ 2 ∧ Hid (Below w12.heap.size w12 wr))
  case atStart => exact ⟨0, rfl, rfl, by omega, HBL⟩
  case round =>
   clear HBL
   obtain ⟨k, rfl, rfl, hk, HBL⟩ := hrel
   obtain ⟨wa, rfl⟩ : ∃ wa : World, wa = wr := ⟨_, rfl⟩
   replace HB5 := Lib.hid (HB5.out.trans (HBL.out.mono HB5.out.size))
   by_cases hlt : k < 2
   ·obtain ⟨V, lv, cv, l, hix, HV, HLV, HSV⟩ : ∃ (V : Option Addr) (lv cv : Nat) (l : List Rat), (Instr.index 42 (.agg #[.slice X lx cx, .slice Y ly cy]) (I k)).run Tryz.prog wa = .ok (.slice V lv cv) wa ∧ Hid (SV wa V lv (mkS (l.map qText))) ∧ Hid (l.length = lv ∧ lv ≤ 40) ∧ Hid (∀ q ∈ l, SzQ q 971) := by
     have hx := HLL.out
     have hf := HFL.out
     have hi := idx2_run wa k hlt (.slice X lx cx) (.slice Y ly cy)
     by_cases hk0 : k = 0
     ·rw [if_pos hk0] at hi
      exact ⟨X, lx, cx, s.x, hi, Lib.hid (HRS.out.below HB5.out).vx, Lib.hid ⟨hx.1, by omega⟩, Lib.hid HZS.out.x⟩
     ·rw [if_neg hk0] at hi
      exact ⟨Y, ly, cy, s.y, hi, Lib.hid (HRS.out.below HB5.out).vy, Lib.hid ⟨hx.2, by omega⟩, Lib.hid HZS.out.y⟩
    have hkc := hk
    by_cases hl0 : lv = 0
    ·subst hl0
     clear HV HLV HSV
     go_wp2
     go_roundg (2 - (k + 1))
     case measure => omega
     case rel => exact ⟨k + 1, rfl, by go_num, by omega, HBL⟩
    have t0 : ((lv : Int) == 0) = false := beq_eq_false_iff_ne.2 (by omega)
    have HC := Lib.hid (cloneV_any (mkS (l.map qText)) lv V cv wa HV.out (by have := HLV.out.2; omega))
    go_wp2_with fail
    refine HC.out.mono ?_
    rintro e wb ⟨v, rfl, hN, hb⟩
    clear HC hix
    have hml : (mkS (l.map qText)).length = lv := by unfold mkS; rw [List.length_map, List.length_map, HLV.out.1]
    have hrow := hN.row
    rw [List.length_map, hml] at hrow
    rcases id hrow.2 with ⟨hv0, h0⟩ | ⟨gw, ow, kw, cur, rfl, hgw, hblk, hrest⟩
    ·omega
    have HBW := Lib.hid (HBL.out.trans (hb.mono HBL.out.size))
    have HGW := Lib.hid (show w12.heap.size ≤ gw by have := HBL.out.size; omega)
    have HBK := Lib.hid hblk
    have HRW := Lib.hid hrow
    have HB5W := Lib.hid (HB5.out.trans (hb.mono HB5.out.size))
    clear hb hN hrow hrest
    have hpr := pickN_range ii (n := lv) (by omega)
    obtain ⟨j, hj⟩ : ∃ j : Nat, pickN ii lv = j := ⟨(pickN ii lv).toNat, by omega⟩
    have HC := Lib.hid (pick_at ii lv wb (by omega) (by have := HLV.out.2; omega))
    rw [hj] at hpr HC
    have hjl : j < lv := by omega
    have HJL := Lib.hid hjl
    clear hpr hj
    have hns := neg_set HSV.out (by rw [HLV.out.1]; exact HLV.out.2) (j := j) (by rw [HLV.out.1]; exact hjl)
    rw [HLV.out.1] at hns
    have HNS := Lib.hid hns
    clear hns
    have y0 := HBK.out.frozen (ow + j)
    have hrd := HRW.out.reads
    obtain ⟨b2, o2, e2, z0⟩ := SV.at_ (show SV wb (some ⟨gw, ow, none⟩) lv (mkS (l.map qText)) from hrd) hjl (List.getElem?_eq_getElem (by omega))
    injection e2 with e2
    injection e2 with e2a e2b
    subst e2a e2b
    clear hrd
    go_wp2_with fail
    refine HC.out.mono ?_
    rintro e wq ⟨rfl, rfl⟩
    clear HC
    go_upto_region 25 with (fail)
    have HWS := Lib.hid (HRW.out.set_at (j := j) (by omega) (.string ⟨#[45, 49]⟩))
    rw [show ((mkS (l.map qText)).map Sv).set j (.string ⟨#[45, 49]⟩) = (mkS ((l.set j (-1)).map qText)).map Sv by rw [← HNS.out.1, List.map_set]] at HWS
    have HBX := Lib.hid (HBW.out.setCell (p := ⟨gw, ow + j, none⟩) HGW.out (.string ⟨#[45, 49]⟩))
    replace HB5 := Lib.hid (HB5W.out.setCell (p := ⟨gw, ow + j, none⟩) (Nat.le_trans HS12.out HGW.out) (.string ⟨#[45, 49]⟩))
    clear y0 z0 HRW HBK HBW HB5W
    generalize wq.setCell ⟨gw, ow + j, none⟩ (.string ⟨#[45, 49]⟩) = wd at *
    have HBZ := Lib.hid (Below.refl wd.heap.size wd)
    go_cut [13, 14] (fun pu pv wx => ∃ ga gb, pu = .pointer (some ⟨ga, 0, none⟩) ∧ pv = .pointer (some ⟨gb, 0, none⟩) ∧ ga ≠ gb ∧ wd.heap.size ≤ ga ∧ wd.heap.size ≤ gb ∧ Hid (Blk wx ga 32 #[I 0, .slice X lx cx, .slice Y ly cy, .slice R lr cr, .string ⟨(resTx s).value.toArray⟩]) ∧ Hid (Blk wx gb 32 #[I 0, .slice X lx cx, .slice Y ly cy, .slice R lr cr, .string ⟨(resTx s).value.toArray⟩]) ∧ Hid (Below wd.heap.size wd wx))
    case first =>
     have HRB := Lib.hid (show Blk wd.drew gr 32 #[I 0, .slice X lx cx, .slice Y ly cy, .slice R lr cr, .string ⟨(resTx s).value.toArray⟩] from by have h := (hY5.out.below HB5.out hY5.out.lt).drew; rw [show (resTx s).kind = 0 from hkd] at h; exact h)
     have hgr : gr < wd.heap.size := by have := HGR.out; have := HB5.out.size; omega
     have HBZD := Lib.hid (show Below wd.heap.size wd wd.drew from HBZ.out.drew)
     have hgw := HBZD.out.size
     clear HB5 HBX HWS HV HBZ
     refine wp_region_c (fun w' => w'.cell? ⟨gr, 0, none⟩ = some (I 0) ∧ w'.cell? ⟨gr, 1, none⟩ = some (.slice X lx cx) ∧ w'.cell? ⟨gr, 2, none⟩ = some (.slice Y ly cy) ∧ w'.cell? ⟨gr, 3, none⟩ = some (.slice R lr cr) ∧ w'.cell? ⟨gr, 4, none⟩ = some (.string ⟨(resTx s).value.toArray⟩)) 5 (by kernel_rfl) ?_
     generalize wd.drew = wz at *
     refine tkS ⟨(HRB.out.cell 0), (HRB.out.cell 1), (HRB.out.cell 2), (HRB.out.cell 3), (HRB.out.cell 4)⟩ fun hSS => ?_
     refine tq 0 (.agg #[I 0, .slice X lx cx, .slice Y ly cy, .slice R lr cr, .string ⟨(resTx s).value.toArray⟩]) rfl ?_ hSS ?_
     ·rintro w ⟨s0, s1, s2, s3, s4⟩
      go_simp
     try simp only [Act.put, putA]
     refine tq 1 (.agg #[I 0, .slice X lx cx, .slice Y ly cy, .slice R lr cr, .string ⟨(resTx s).value.toArray⟩]) rfl ?_ hSS ?_
     ·rintro w ⟨s0, s1, s2, s3, s4⟩
      go_simp
     try simp only [Act.put]
     refine wpAnyC_all (l := [2, 3]) (by kernel_rfl) rfl ?_
     refine AllC.cons rfl (fun K hK => ?_) (AllC.cons rfl (fun K hK => ?_) AllC.nil)
     ·skip
      rw [if_pos (by kernel_rfl)]
      go_simp
      have hb := below_new wz (.cells #[I 0, .slice none 0 0, .slice none 0 0, .slice none 0 0, .string ⟨#[]⟩] 32)
      have hx := Blk.new wz 32 #[I 0, .slice none 0 0, .slice none 0 0, .slice none 0 0, .string ⟨#[]⟩]
      replace HRB := Lib.hid (HRB.out.below hb HRB.out.lt)
      replace HBZD := Lib.hid (HBZD.out.trans (hb.mono hgw))
      have HA := Lib.hid hx
      clear hx hb
      refine hK.out _ _ (fun _ => ⟨(HRB.out.cell 0), (HRB.out.cell 1), (HRB.out.cell 2), (HRB.out.cell 3), (HRB.out.cell 4)⟩) ?_
      clear hK K
      try simp only [Act.put, putA, putZ, putC]
      generalize wz.alloc (.cells #[I 0, .slice none 0 0, .slice none 0 0, .slice none 0 0, .string ⟨#[]⟩] 32) = we at *
      generalize wz.heap.size = ga at *
      refine on1 3 fun K hK => ?_
      go_simp
      have hb := below_new we (.cells #[I 0, .slice none 0 0, .slice none 0 0, .slice none 0 0, .string ⟨#[]⟩] 32)
      have hx := Blk.new we 32 #[I 0, .slice none 0 0, .slice none 0 0, .slice none 0 0, .string ⟨#[]⟩]
      have hal := HA.out.lt
      have hgb := HBZD.out.size
      replace HRB := Lib.hid (HRB.out.below hb HRB.out.lt)
      replace HA := Lib.hid (HA.out.below hb HA.out.lt)
      replace HBZD := Lib.hid (HBZD.out.trans (hb.mono hgb))
      have HX := Lib.hid hx
      clear hx hb
      refine hK.out _ _ (fun _ => ⟨(HRB.out.cell 0), (HRB.out.cell 1), (HRB.out.cell 2), (HRB.out.cell 3), (HRB.out.cell 4)⟩) ?_
      clear hK K
      try simp only [Act.put, putA, putZ, putC]
      generalize we.alloc (.cells #[I 0, .slice none 0 0, .slice none 0 0, .slice none 0 0, .string ⟨#[]⟩] 32) = wf at *
      generalize we.heap.size = gb at *
      have hv5 := HA.out.v5
      have z0 := hv5.c0
      have y0 := hv5.f0
      have z1 := hv5.c1
      have y1 := hv5.f1
      have z2 := hv5.c2
      have y2 := hv5.f2
      have z3 := hv5.c3
      have y3 := hv5.f3
      have z4 := hv5.c4
      have y4 := hv5.f4
      have HS1 := Lib.hid (set5_blk HA.out (I 0) (.slice X lx cx) (.slice Y ly cy) (.slice R lr cr) (.string ⟨(resTx s).value.toArray⟩))
      have HS2 := Lib.hid ((((((HBZD.out.setCell (p := ⟨ga, 0, none⟩) hgw (I 0)).setCell (p := ⟨ga, 1, none⟩) hgw (.slice X lx cx)).setCell (p := ⟨ga, 2, none⟩) hgw (.slice Y ly cy)).setCell (p := ⟨ga, 3, none⟩) hgw (.slice R lr cr)).setCell (p := ⟨ga, 4, none⟩) hgw (.string ⟨(resTx s).value.toArray⟩)))
      have HO0 := Lib.hid ((set5_other wf (I 0) (.slice X lx cx) (.slice Y ly cy) (.slice R lr cr) (.string ⟨(resTx s).value.toArray⟩) (show gr ≠ ga by omega)).trans HRB.out)
      have HO1 := Lib.hid ((set5_other wf (I 0) (.slice X lx cx) (.slice Y ly cy) (.slice R lr cr) (.string ⟨(resTx s).value.toArray⟩) (show gb ≠ ga by omega)).trans HX.out)
      unfold set5 at HS1 HO0 HO1
      refine on1 4 fun K hK => ?_
      go_simp
      clear hv5 z0 y0 z1 y1 z2 y2 z3 y3 z4 y4
      generalize ((((wf.setCell ⟨ga, 0, none⟩ (I 0)).setCell ⟨ga, 1, none⟩ (.slice X lx cx)).setCell ⟨ga, 2, none⟩ (.slice Y ly cy)).setCell ⟨ga, 3, none⟩ (.slice R lr cr)).setCell ⟨ga, 4, none⟩ (.string ⟨(resTx s).value.toArray⟩) = wfs at *
      replace HA := HS1
      replace HBZD := HS2
      replace HRB := (show Hid (Blk wfs gr 32 #[I 0, .slice X lx cx, .slice Y ly cy, .slice R lr cr, .string ⟨(resTx s).value.toArray⟩]) from HO0)
      replace HX := (show Hid (Blk wfs gb 32 #[I 0, .slice none 0 0, .slice none 0 0, .slice none 0 0, .string ⟨#[]⟩]) from HO1)
      clear HS1 HS2
      refine hK.out _ _ (fun _ => ⟨(HRB.out.cell 0), (HRB.out.cell 1), (HRB.out.cell 2), (HRB.out.cell 3), (HRB.out.cell 4)⟩) ?_
      clear hK K
      try simp only [Act.put, putA, putZ, putC]
      have hv5 := HX.out.v5
      have z0 := hv5.c0
      have y0 := hv5.f0
      have z1 := hv5.c1
      have y1 := hv5.f1
      have z2 := hv5.c2
      have y2 := hv5.f2
      have z3 := hv5.c3
      have y3 := hv5.f3
      have z4 := hv5.c4
      have y4 := hv5.f4
      have HS1 := Lib.hid (set5_blk HX.out (I 0) (.slice X lx cx) (.slice Y ly cy) (.slice R lr cr) (.string ⟨(resTx s).value.toArray⟩))
      have HS2 := Lib.hid ((((((HBZD.out.setCell (p := ⟨gb, 0, none⟩) hgb (I 0)).setCell (p := ⟨gb, 1, none⟩) hgb (.slice X lx cx)).setCell (p := ⟨gb, 2, none⟩) hgb (.slice Y ly cy)).setCell (p := ⟨gb, 3, none⟩) hgb (.slice R lr cr)).setCell (p := ⟨gb, 4, none⟩) hgb (.string ⟨(resTx s).value.toArray⟩)))
      have HO0 := Lib.hid ((set5_other wfs (I 0) (.slice X lx cx) (.slice Y ly cy) (.slice R lr cr) (.string ⟨(resTx s).value.toArray⟩) (show gr ≠ gb by omega)).trans HRB.out)
      have HO1 := Lib.hid ((set5_other wfs (I 0) (.slice X lx cx) (.slice Y ly cy) (.slice R lr cr) (.string ⟨(resTx s).value.toArray⟩) (show ga ≠ gb by omega)).trans HA.out)
      unfold set5 at HS1 HO0 HO1
      refine on1 5 fun K hK => ?_
      go_simp
      clear hv5 z0 y0 z1 y1 z2 y2 z3 y3 z4 y4
      generalize ((((wfs.setCell ⟨gb, 0, none⟩ (I 0)).setCell ⟨gb, 1, none⟩ (.slice X lx cx)).setCell ⟨gb, 2, none⟩ (.slice Y ly cy)).setCell ⟨gb, 3, none⟩ (.slice R lr cr)).setCell ⟨gb, 4, none⟩ (.string ⟨(resTx s).value.toArray⟩) = wfs at *
      replace HX := HS1
      replace HBZD := HS2
      replace HRB := (show Hid (Blk wfs gr 32 #[I 0, .slice X lx cx, .slice Y ly cy, .slice R lr cr, .string ⟨(resTx s).value.toArray⟩]) from HO0)
      replace HA := (show Hid (Blk wfs ga 32 #[I 0, .slice X lx cx, .slice Y ly cy, .slice R lr cr, .string ⟨(resTx s).value.toArray⟩]) from HO1)
      clear HS1 HS2
      refine hK.out _ _ (fun h => absurd h (by decide)) ?_
      clear hK K
      try simp only [Act.put, putA, putZ, putC]
      refine wpAnyC_done (by kernel_rfl) ?_ _
      go_wp2_with fail
      go_meet
      case rel => exact ⟨ga, gb, rfl, rfl, by omega, by omega, by omega, HA, HX, HBZD⟩
     ·skip
      rw [if_pos (by kernel_rfl)]
      go_simp
      have hb := below_new wz (.cells #[I 0, .slice none 0 0, .slice none 0 0, .slice none 0 0, .string ⟨#[]⟩] 32)
      have hx := Blk.new wz 32 #[I 0, .slice none 0 0, .slice none 0 0, .slice none 0 0, .string ⟨#[]⟩]
      replace HRB := Lib.hid (HRB.out.below hb HRB.out.lt)
      replace HBZD := Lib.hid (HBZD.out.trans (hb.mono hgw))
      have HA := Lib.hid hx
      clear hx hb
      refine hK.out _ _ (fun _ => ⟨(HRB.out.cell 0), (HRB.out.cell 1), (HRB.out.cell 2), (HRB.out.cell 3), (HRB.out.cell 4)⟩) ?_
      clear hK K
      try simp only [Act.put, putA, putZ, putC]
      generalize wz.alloc (.cells #[I 0, .slice none 0 0, .slice none 0 0, .slice none 0 0, .string ⟨#[]⟩] 32) = we at *
      generalize wz.heap.size = ga at *
      refine on1 2 fun K hK => ?_
      go_simp
      have hb := below_new we (.cells #[I 0, .slice none 0 0, .slice none 0 0, .slice none 0 0, .string ⟨#[]⟩] 32)
      have hx := Blk.new we 32 #[I 0, .slice none 0 0, .slice none 0 0, .slice none 0 0, .string ⟨#[]⟩]
      have hal := HA.out.lt
      have hgb := HBZD.out.size
      replace HRB := Lib.hid (HRB.out.below hb HRB.out.lt)
      replace HA := Lib.hid (HA.out.below hb HA.out.lt)
      replace HBZD := Lib.hid (HBZD.out.trans (hb.mono hgb))
      have HX := Lib.hid hx
      clear hx hb
      refine hK.out _ _ (fun _ => ⟨(HRB.out.cell 0), (HRB.out.cell 1), (HRB.out.cell 2), (HRB.out.cell 3), (HRB.out.cell 4)⟩) ?_
      clear hK K
      try simp only [Act.put, putA, putZ, putC]
      generalize we.alloc (.cells #[I 0, .slice none 0 0, .slice none 0 0, .slice none 0 0, .string ⟨#[]⟩] 32) = wf at *
      generalize we.heap.size = gb at *
      have hv5 := HX.out.v5
      have z0 := hv5.c0
      have y0 := hv5.f0
      have z1 := hv5.c1
      have y1 := hv5.f1
      have z2 := hv5.c2
      have y2 := hv5.f2
      have z3 := hv5.c3
      have y3 := hv5.f3
      have z4 := hv5.c4
      have y4 := hv5.f4
      have HS1 := Lib.hid (set5_blk HX.out (I 0) (.slice X lx cx) (.slice Y ly cy) (.slice R lr cr) (.string ⟨(resTx s).value.toArray⟩))
      have HS2 := Lib.hid ((((((HBZD.out.setCell (p := ⟨gb, 0, none⟩) hgb (I 0)).setCell (p := ⟨gb, 1, none⟩) hgb (.slice X lx cx)).setCell (p := ⟨gb, 2, none⟩) hgb (.slice Y ly cy)).setCell (p := ⟨gb, 3, none⟩) hgb (.slice R lr cr)).setCell (p := ⟨gb, 4, none⟩) hgb (.string ⟨(resTx s).value.toArray⟩)))
      have HO0 := Lib.hid ((set5_other wf (I 0) (.slice X lx cx) (.slice Y ly cy) (.slice R lr cr) (.string ⟨(resTx s).value.toArray⟩) (show gr ≠ gb by omega)).trans HRB.out)
      have HO1 := Lib.hid ((set5_other wf (I 0) (.slice X lx cx) (.slice Y ly cy) (.slice R lr cr) (.string ⟨(resTx s).value.toArray⟩) (show ga ≠ gb by omega)).trans HA.out)
      unfold set5 at HS1 HO0 HO1
      refine on1 4 fun K hK => ?_
      go_simp
      clear hv5 z0 y0 z1 y1 z2 y2 z3 y3 z4 y4
      generalize ((((wf.setCell ⟨gb, 0, none⟩ (I 0)).setCell ⟨gb, 1, none⟩ (.slice X lx cx)).setCell ⟨gb, 2, none⟩ (.slice Y ly cy)).setCell ⟨gb, 3, none⟩ (.slice R lr cr)).setCell ⟨gb, 4, none⟩ (.string ⟨(resTx s).value.toArray⟩) = wfs at *
      replace HX := HS1
      replace HBZD := HS2
      replace HRB := (show Hid (Blk wfs gr 32 #[I 0, .slice X lx cx, .slice Y ly cy, .slice R lr cr, .string ⟨(resTx s).value.toArray⟩]) from HO0)
      replace HA := (show Hid (Blk wfs ga 32 #[I 0, .slice none 0 0, .slice none 0 0, .slice none 0 0, .string ⟨#[]⟩]) from HO1)
      clear HS1 HS2
      refine hK.out _ _ (fun _ => ⟨(HRB.out.cell 0), (HRB.out.cell 1), (HRB.out.cell 2), (HRB.out.cell 3), (HRB.out.cell 4)⟩) ?_
      clear hK K
      try simp only [Act.put, putA, putZ, putC]
      have hv5 := HA.out.v5
      have z0 := hv5.c0
      have y0 := hv5.f0
      have z1 := hv5.c1
      have y1 := hv5.f1
      have z2 := hv5.c2
      have y2 := hv5.f2
      have z3 := hv5.c3
      have y3 := hv5.f3
      have z4 := hv5.c4
      have y4 := hv5.f4
      have HS1 := Lib.hid (set5_blk HA.out (I 0) (.slice X lx cx) (.slice Y ly cy) (.slice R lr cr) (.string ⟨(resTx s).value.toArray⟩))
      have HS2 := Lib.hid ((((((HBZD.out.setCell (p := ⟨ga, 0, none⟩) hgw (I 0)).setCell (p := ⟨ga, 1, none⟩) hgw (.slice X lx cx)).setCell (p := ⟨ga, 2, none⟩) hgw (.slice Y ly cy)).setCell (p := ⟨ga, 3, none⟩) hgw (.slice R lr cr)).setCell (p := ⟨ga, 4, none⟩) hgw (.string ⟨(resTx s).value.toArray⟩)))
      have HO0 := Lib.hid ((set5_other wfs (I 0) (.slice X lx cx) (.slice Y ly cy) (.slice R lr cr) (.string ⟨(resTx s).value.toArray⟩) (show gr ≠ ga by omega)).trans HRB.out)
      have HO1 := Lib.hid ((set5_other wfs (I 0) (.slice X lx cx) (.slice Y ly cy) (.slice R lr cr) (.string ⟨(resTx s).value.toArray⟩) (show gb ≠ ga by omega)).trans HX.out)
      unfold set5 at HS1 HO0 HO1
      refine on1 5 fun K hK => ?_
      go_simp
      clear hv5 z0 y0 z1 y1 z2 y2 z3 y3 z4 y4
      generalize ((((wfs.setCell ⟨ga, 0, none⟩ (I 0)).setCell ⟨ga, 1, none⟩ (.slice X lx cx)).setCell ⟨ga, 2, none⟩ (.slice Y ly cy)).setCell ⟨ga, 3, none⟩ (.slice R lr cr)).setCell ⟨ga, 4, none⟩ (.string ⟨(resTx s).value.toArray⟩) = wfs at *
      replace HA := HS1
      replace HBZD := HS2
      replace HRB := (show Hid (Blk wfs gr 32 #[I 0, .slice X lx cx, .slice Y ly cy, .slice R lr cr, .string ⟨(resTx s).value.toArray⟩]) from HO0)
      replace HX := (show Hid (Blk wfs gb 32 #[I 0, .slice X lx cx, .slice Y ly cy, .slice R lr cr, .string ⟨(resTx s).value.toArray⟩]) from HO1)
      clear HS1 HS2
      refine hK.out _ _ (fun h => absurd h (by decide)) ?_
      clear hK K
      try simp only [Act.put, putA, putZ, putC]
      refine wpAnyC_done (by kernel_rfl) ?_ _
      go_wp2_with fail
      go_meet
      case rel => exact ⟨gb, ga, rfl, rfl, by omega, by omega, by omega, HX, HA, HBZD⟩
    case rest =>
     obtain ⟨ga, gb, rfl, rfl, hab, hga, hgb, HA, HX, HBY⟩ := hcut
     clear HBZ
     have HX1 := Lib.hid (HX.out.farB (fun e => hab e.symm) (o := 1) (.slice (some ⟨gw, ow, none⟩) lv kw))
     have y0 := HA.out.frozen 1
     have z0 := HA.out.cell 1
     have y1 := HX1.out.frozen 2
     have z1 := HX1.out.cell 2
     have HA2 := Lib.hid ((HA.out.set_ 1 (.slice (some ⟨gw, ow, none⟩) lv kw)).farB hab (o := 2) (.slice (some ⟨gw, ow, none⟩) lv kw))
     have HX2 := Lib.hid (HX1.out.set_ 2 (.slice (some ⟨gw, ow, none⟩) lv kw))
     simp only [List.setIfInBounds_toArray, List.set_cons_zero, List.set_cons_succ] at HA2 HX2
     have HBY2 := Lib.hid ((HBY.out.setCell (p := ⟨ga, 1, none⟩) hga (.slice (some ⟨gw, ow, none⟩) lv kw)).setCell (p := ⟨gb, 2, none⟩) hgb (.slice (some ⟨gw, ow, none⟩) lv kw))
     go_upto_region 27 with (fail)
     clear y0 z0 y1 z1 HA HX HX1 HBY
     generalize (wc.setCell ⟨ga, 1, none⟩ (.slice (some ⟨gw, ow, none⟩) lv kw)).setCell ⟨gb, 2, none⟩ (.slice (some ⟨gw, ow, none⟩) lv kw) = wg at *
     replace HB5 := Lib.hid (HB5.out.trans (HBY2.out.mono HB5.out.size))
     have HBG := Lib.hid (HBX.out.trans (HBY2.out.mono HBX.out.size))
     have HSW := Lib.hid (SV.below (show SV wd (some ⟨gw, ow, none⟩) lv (mkS ((l.set j (-1)).map qText)) from HWS.out.reads) HBY2.out)
     clear HBX HWS HBY2 hab hga hgb HV
     have hns1 := HNS.out.2.1
     have hns2 := HNS.out.2.2.1
     have hns3 := HNS.out.2.2.2
     have HN1 := Lib.hid hns1
     have HN2 := Lib.hid hns2
     have HN3 := Lib.hid hns3
     clear hns1 hns2 hns3 HNS
     generalize mkS ((l.set j (-1)).map qText) = tw at *
     have x0 := cell_below P0.out HB5.out
     have x1 := cell_below P1.out HB5.out
     have x2 := cell_below P2.out HB5.out
     have r1 := cell_below R1.out HB5.out
     have r2 := cell_below R2.out HB5.out
     have a0 := HA2.out.cell 0
     have a1 := HA2.out.cell 1
     have a2 := HA2.out.cell 2
     have a3 := HA2.out.cell 3
     have a4 := HA2.out.cell 4
     have b0 := HX2.out.cell 0
     have b1 := HX2.out.cell 1
     have b2 := HX2.out.cell 2
     have b3 := HX2.out.cell 3
     have b4 := HX2.out.cell 4
     by_cases e1 : lv = lx
     ·skip
      have t1 : ((lv : Int) == lx) = true := by rw [show lv = lx from e1]; exact beq_self_eq_true _
      have HE1 := Lib.hid e1
      clear e1
      have hv := verify_any A Ab Ac na ca nb cb nc cc m lb lc (some ⟨gw, ow, none⟩) Y R lv kw ly cy lr cr 0 tw (mkS (s.y.map qText)) (mkS (s.ray.map qText)) ⟨(resTx s).value.toArray⟩ wg (HP5.out.below HB5.out) ⟨HSW.out, (HRS.out.below HB5.out).vy, (HRS.out.below HB5.out).vr⟩ HSH.out HN1.out OY.out.1 OR.out.1 (by show (resTx s).value.toArray.size ≤ _; rw [List.size_toArray]; have := OV.out.1; omega) (tab_below HT5.out HB5.out) (fun _ => HGV.out) (fun _ => HN2.out) (fun _ => OY.out.2) (fun _ => OR.out.2) (fun _ => by rw [SL_mk]; exact OV.out.2)
      rw [tx_mk, tx_mk, SL_mk] at hv
      have HC := Lib.hid hv
      clear hv
      have tva : (verP (tx2 m) (tx1 lb) (tx1 lc) 0 (tx1 tw) (s.y.map qText) (s.ray.map qText) (resTx s).value == 0) = false := beq_eq_false_iff_ne.2 (ref_x HN3.out)
      generalize verP (tx2 m) (tx1 lb) (tx1 lc) 0 (tx1 tw) (s.y.map qText) (s.ray.map qText) (resTx s).value = vra at *
      go_wp2_with fail
      refine HC.out.mono ?_
      rintro e wh ⟨rfl, hb⟩
      clear HC x0 x1 x2 r1 r2 a0 b0 a1 b1 a2 b2 a3 b3 a4 b4
      replace HB5 := Lib.hid (HB5.out.trans (hb.mono HB5.out.size))
      have hbg := HBG.out.size
      replace HBG := Lib.hid (HBG.out.trans (hb.mono hbg))
      replace HSW := Lib.hid (SV.below HSW.out hb)
      replace HA2 := Lib.hid (HA2.out.below hb HA2.out.lt)
      replace HX2 := Lib.hid (HX2.out.below hb HX2.out.lt)
      clear hb hbg
      have x0 := cell_below P0.out HB5.out
      have x1 := cell_below P1.out HB5.out
      have x2 := cell_below P2.out HB5.out
      have r1 := cell_below R1.out HB5.out
      have r2 := cell_below R2.out HB5.out
      have a0 := HA2.out.cell 0
      have a1 := HA2.out.cell 1
      have a2 := HA2.out.cell 2
      have a3 := HA2.out.cell 3
      have a4 := HA2.out.cell 4
      have b0 := HX2.out.cell 0
      have b1 := HX2.out.cell 1
      have b2 := HX2.out.cell 2
      have b3 := HX2.out.cell 3
      have b4 := HX2.out.cell 4
      by_cases e2 : lv = ly
      ·skip
       have t2 : ((lv : Int) == ly) = true := by rw [show lv = ly from e2]; exact beq_self_eq_true _
       have HE2 := Lib.hid e2
       clear e2
       have hv := verify_any A Ab Ac na ca nb cb nc cc m lb lc X (some ⟨gw, ow, none⟩) R lx cx lv kw lr cr 0 (mkS (s.x.map qText)) tw (mkS (s.ray.map qText)) ⟨(resTx s).value.toArray⟩ wh (HP5.out.below HB5.out) ⟨(HRS.out.below HB5.out).vx, HSW.out, (HRS.out.below HB5.out).vr⟩ HSH.out OX.out.1 HN1.out OR.out.1 (by show (resTx s).value.toArray.size ≤ _; rw [List.size_toArray]; have := OV.out.1; omega) (tab_below HT5.out HB5.out) (fun _ => HGV.out) (fun _ => OX.out.2) (fun _ => HN2.out) (fun _ => OR.out.2) (fun _ => by rw [SL_mk]; exact OV.out.2)
       rw [tx_mk, tx_mk, SL_mk] at hv
       have HC := Lib.hid hv
       clear hv
       have tvb : (verP (tx2 m) (tx1 lb) (tx1 lc) 0 (s.x.map qText) (tx1 tw) (s.ray.map qText) (resTx s).value == 0) = false := beq_eq_false_iff_ne.2 (ref_y HN3.out)
       generalize verP (tx2 m) (tx1 lb) (tx1 lc) 0 (s.x.map qText) (tx1 tw) (s.ray.map qText) (resTx s).value = vrb at *
       go_wp2_with fail
       refine HC.out.mono ?_
       rintro e wi ⟨rfl, hb⟩
       clear HC x0 x1 x2 r1 r2 a0 b0 a1 b1 a2 b2 a3 b3 a4 b4
       replace HB5 := Lib.hid (HB5.out.trans (hb.mono HB5.out.size))
       have hbg := HBG.out.size
       replace HBG := Lib.hid (HBG.out.trans (hb.mono hbg))
       replace HSW := Lib.hid (SV.below HSW.out hb)
       replace HA2 := Lib.hid (HA2.out.below hb HA2.out.lt)
       replace HX2 := Lib.hid (HX2.out.below hb HX2.out.lt)
       clear hb hbg
       have x0 := cell_below P0.out HB5.out
       have x1 := cell_below P1.out HB5.out
       have x2 := cell_below P2.out HB5.out
       have r1 := cell_below R1.out HB5.out
       have r2 := cell_below R2.out HB5.out
       have a0 := HA2.out.cell 0
       have a1 := HA2.out.cell 1
       have a2 := HA2.out.cell 2
       have a3 := HA2.out.cell 3
       have a4 := HA2.out.cell 4
       have b0 := HX2.out.cell 0
       have b1 := HX2.out.cell 1
       have b2 := HX2.out.cell 2
       have b3 := HX2.out.cell 3
       have b4 := HX2.out.cell 4
       go_wp2
       go_roundg (2 - (k + 1))
       case measure => omega
       case rel => exact ⟨k + 1, rfl, by go_num, by omega, HBG⟩
      ·skip
       have t2 : ((lv : Int) == ly) = false := beq_eq_false_iff_ne.2 (by omega)
       have HE2 := Lib.hid e2
       clear e2
       go_wp2
       go_roundg (2 - (k + 1))
       case measure => omega
       case rel => exact ⟨k + 1, rfl, by go_num, by omega, HBG⟩
     ·skip
      have t1 : ((lv : Int) == lx) = false := beq_eq_false_iff_ne.2 (by omega)
      have HE1 := Lib.hid e1
      clear e1
      by_cases e2 : lv = ly
      ·skip
       have t2 : ((lv : Int) == ly) = true := by rw [show lv = ly from e2]; exact beq_self_eq_true _
       have HE2 := Lib.hid e2
       clear e2
       have hv := verify_any A Ab Ac na ca nb cb nc cc m lb lc X (some ⟨gw, ow, none⟩) R lx cx lv kw lr cr 0 (mkS (s.x.map qText)) tw (mkS (s.ray.map qText)) ⟨(resTx s).value.toArray⟩ wg (HP5.out.below HB5.out) ⟨(HRS.out.below HB5.out).vx, HSW.out, (HRS.out.below HB5.out).vr⟩ HSH.out OX.out.1 HN1.out OR.out.1 (by show (resTx s).value.toArray.size ≤ _; rw [List.size_toArray]; have := OV.out.1; omega) (tab_below HT5.out HB5.out) (fun _ => HGV.out) (fun _ => OX.out.2) (fun _ => HN2.out) (fun _ => OR.out.2) (fun _ => by rw [SL_mk]; exact OV.out.2)
       rw [tx_mk, tx_mk, SL_mk] at hv
       have HC := Lib.hid hv
       clear hv
       have tvb : (verP (tx2 m) (tx1 lb) (tx1 lc) 0 (s.x.map qText) (tx1 tw) (s.ray.map qText) (resTx s).value == 0) = false := beq_eq_false_iff_ne.2 (ref_y HN3.out)
       generalize verP (tx2 m) (tx1 lb) (tx1 lc) 0 (s.x.map qText) (tx1 tw) (s.ray.map qText) (resTx s).value = vrb at *
       go_wp2_with fail
       refine HC.out.mono ?_
       rintro e wi ⟨rfl, hb⟩
       clear HC x0 x1 x2 r1 r2 a0 b0 a1 b1 a2 b2 a3 b3 a4 b4
       replace HB5 := Lib.hid (HB5.out.trans (hb.mono HB5.out.size))
       have hbg := HBG.out.size
       replace HBG := Lib.hid (HBG.out.trans (hb.mono hbg))
       replace HSW := Lib.hid (SV.below HSW.out hb)
       replace HA2 := Lib.hid (HA2.out.below hb HA2.out.lt)
       replace HX2 := Lib.hid (HX2.out.below hb HX2.out.lt)
       clear hb hbg
       have x0 := cell_below P0.out HB5.out
       have x1 := cell_below P1.out HB5.out
       have x2 := cell_below P2.out HB5.out
       have r1 := cell_below R1.out HB5.out
       have r2 := cell_below R2.out HB5.out
       have a0 := HA2.out.cell 0
       have a1 := HA2.out.cell 1
       have a2 := HA2.out.cell 2
       have a3 := HA2.out.cell 3
       have a4 := HA2.out.cell 4
       have b0 := HX2.out.cell 0
       have b1 := HX2.out.cell 1
       have b2 := HX2.out.cell 2
       have b3 := HX2.out.cell 3
       have b4 := HX2.out.cell 4
       go_wp2
       go_roundg (2 - (k + 1))
       case measure => omega
       case rel => exact ⟨k + 1, rfl, by go_num, by omega, HBG⟩
      ·skip
       have t2 : ((lv : Int) == ly) = false := beq_eq_false_iff_ne.2 (by omega)
       have HE2 := Lib.hid e2
       clear e2
       go_wp2
       go_roundg (2 - (k + 1))
       case measure => omega
       case rel => exact ⟨k + 1, rfl, by go_num, by omega, HBG⟩
   ·have hk2 : k = 2 := by omega
    subst hk2
    go_wp2
    go_ret
    exact ⟨rfl, HB1.out.trans ((HB.out.trans (HB5.out.mono HB.out.size)).mono HB1.out.size)⟩
end Go.Proofs.YtcgfdfdcbamceaaGreatDoor
namespace Go.Proofs.YtcgfdfdcbamceaaGreatDoor
open Go.ChangeShapes Go.WideShapes Go.ChangeAt Go.RowKit Go.ChangeMaps
theorem simplexRefuses_door (os : Os) (args : Array Value) : laidMetH Tryz.prog Rows.simplexRefusesRow.laid ((World.doorLaid Tryz.prog 62 os).forCall (fun _ _ => 0) ⟨#[], args, []⟩).memory :=
 laidMetH_of_parts3 (fuel := 8) (laidMet_of_run' 8 (by kernel_rfl) (by kernel_rfl)) (by kernel_rfl) (by kernel_rfl)
set_option linter.unusedVariables false in
set_option maxRecDepth 100000 in
theorem simplexRefuses_lifted (os : Os) (started : os.Started) (H : Type) (enc : TypeId × Value → H) :
  ReturnsInHanded {} Tryz.checked os 4 .any (fun w args => (Rows.simplexRefusesSpec.pre enc Tryz.prog Tryz.f4 [] false w args ∧ laidMetH Tryz.prog Rows.simplexRefusesRow.laid w) ∧ sizedMet enc Tryz.prog Tryz.f4 (OpenSpec.ofChange Rows.simplexRefusesSpec) false w args)
   (Rows.simplexRefusesSpec.post enc Tryz.prog Tryz.f4 false true false false) := by
 refine returnsInHanded_of_change_and (C := Tryz.checked) (X := fun w _ => laidMetH Tryz.prog Rows.simplexRefusesRow.laid w) (fun _ _ _ hh h => h.of_heap hh) own started (by kernel_rfl) Tryz.func4
  (ChangeSpec.witness_shaped (enc := enc) (C := Tryz.checked) (os := os) (X := fun w _ => laidMetH Tryz.prog Rows.simplexRefusesRow.laid w) false (World.doorLaid Tryz.prog 62 os) #[.agg #[.slice none 0 0, .slice none 0 0, .slice none 0 0], .int .i64 0] 8 rfl (World.shaped_of_RefB (by kernel_rfl) (by kernel_rfl)) (by kernel_rfl) (by kernel_rfl) (by kernel_rfl) (simplexRefuses_door os _)) ?_
 intro W base args ds gs before hval0 hW _ _ hL _
 have hval : ∀ (j : Nat) t v, Tryz.f4.params[j]? = some t → args[j]? = some v → Value.okWide Tryz.prog W .any base t v := hval0
 have hW' := hW
 obtain ⟨p, q, hA0, hV, rfl, hfz, hnd⟩ := hW
 have hA : DataW.TrodAll enc Tryz.prog W 0 (fun _ => true) true Tryz.f4.params.toList args.toList ds p := hA0
 rw [Tryz.params4] at hA hval
 obtain ⟨v0, vs0, d0, ds0, p0, q0, hargs, rfl, rfl, h0, r0⟩ := trodAll_cons hA
 obtain ⟨v1, vs1, d1, ds1, p1, q1, rfl, rfl, rfl, h1, r1⟩ := trodAll_cons r0
 obtain ⟨rfl, rfl, rfl⟩ := trodAll_nil r1
 obtain rfl : args = #[v0, v1] := by cases args; simp_all
 obtain ⟨rfl, rfl⟩ := trodVars_none hV
 have k0 := h0
 have lt0 : ∀ x ∈ p0, x.block < W.heap.size := by obtain ⟨m, hm⟩ := k0; exact DataW.trod_lt m _ _ _ hm
 obtain ⟨A, Ab, Ac, na, ca, nb, cb, nc, cc, m, lb, lc, rfl, hp0, hs0⟩ := open_prob (hval 0 27 v0 rfl rfl) h0
 obtain ⟨s1, rfl, rfl, rfl, ws1⟩ := open_int Tryz.underlying3 (hval 1 3 v1 rfl rfl) h1
 clear hA0 hval0
 refine (simplexRefuses_any A Ab Ac na ca nb cb nc cc m lb lc s1 W hp0 hs0 (tab_of_laid hL)).mono fun e W' ⟨he, bel⟩ => ?_
 subst he
 exact ⟨_, rfl, _, _, _, [], _, [], hW', trodAll_mk1 (shut_bool Tryz.underlying4 _), (trodAll_cons_mk (Below.trod laidOut (by kernel_rfl) (of_decide_eq_true (by kernel_rfl)) k0 bel lt0) (trodAll_cons_mk (shut_int Tryz.underlying3 ws1) trodAll_mk0)), rfl, bel.frame _, fun h => by cases h⟩
end Go.Proofs.YtcgfdfdcbamceaaGreatDoor
