/- What the law uses besides the joined base. -/
import Derived.Test.YtenbglfkdldheaaGreatDoorZAD
import Derived.Test.YtenbglfkdldheaaGreatDoorZDR
set_option maxRecDepth 100000
set_option maxHeartbeats 2000000
namespace Go.Proofs.YtenbglfkdldheaaGreatDoor
section
open Go.Lib
theorem cutA_le : ∀ l : List UInt8, (cutA l).length ≤ l.length
 | [] => Nat.le_refl _
 | c :: l => by rw [cutA]; split; exact Nat.zero_le _; simp; exact cutA_le l
theorem cutD_le : ∀ l : List UInt8, (cutD l).length ≤ l.length
 | [] => Nat.le_refl _
 | c :: l => by rw [cutD]; split; simp; exact Nat.le_trans (cutD_le l) (by simp)
theorem trimM_le (l : List UInt8) : (trimM l).length ≤ l.length := by
 have := congrArg List.length (neg_form l)
 split at this
 ·rw [List.length_cons] at this; omega
 ·omega
def ratTx (q : Rat) : List UInt8 × Int := if fitQ q = true then (qText q, 0) else ([], 2)
def rOp (a b : List UInt8) (r : List UInt8 × Int) : List UInt8 × Int := if rAll [a, b] = 0 then r else ([], rAll [a, b])
def ratAdd (a b : List UInt8) : List UInt8 × Int := rOp a b (ratTx (rval a + rval b))
theorem rAll_ok {a b : List UInt8} (h : rAll [a, b] = 0) : rchk a = 0 ∧ rchk b = 0 := by
 simp only [rAll] at h
 split at h
 ·rename_i h1
  split at h
  ·rename_i h2; exact ⟨h1, h2⟩
  ·rename_i h2; exact absurd h h2
 ·rename_i h1; exact absurd h h1
theorem SzQ.mono {q : Rat} {k j : Nat} (h : SzQ q k) (hk : k ≤ j) : SzQ q j := ⟨Nat.lt_of_lt_of_le h.1 (Nat.pow_le_pow_right (by decide) hk), Nat.lt_of_lt_of_le h.2 (Nat.pow_le_pow_right (by decide) hk)⟩
theorem pow_mul_lt {a b i j : Nat} (ha : a < 10 ^ i) (hb : b < 10 ^ j) : a * b < 10 ^ (i + j) := by rw [Nat.pow_add]; exact Nat.mul_lt_mul'' ha hb
theorem SzQ.of_divInt {n d : Int} {k : Nat} (hn : n.natAbs < 10 ^ k) (hd : d.natAbs < 10 ^ k) (h1 : 1 ≤ k) : SzQ (Rat.divInt n d) k := by
 obtain ⟨h2, h3⟩ := divInt_le n d
 have h4 : 10 ^ 1 ≤ 10 ^ k := Nat.pow_le_pow_right (by decide) h1
 refine ⟨by omega, ?_⟩
 have : max 1 d.natAbs < 10 ^ k := Nat.max_lt.2 ⟨by omega, hd⟩
 omega
theorem SzQ.add {x y : Rat} {i j : Nat} (hx : SzQ x i) (hy : SzQ y j) : SzQ (x + y) (i + j + 1) := by
 rw [← divInt_add]
 have h1 := pow_mul_lt hx.1 hy.2
 have h2 := pow_mul_lt hy.1 hx.2
 have h3 := pow_mul_lt hx.2 hy.2
 rw [Nat.add_comm j i] at h2
 have e : 10 ^ (i + j + 1) = 10 ^ (i + j) * 10 := Nat.pow_succ ..
 refine SzQ.of_divInt ?_ ?_ (by omega)
 ·have := Int.natAbs_add_le (x.num * (y.den : Int)) (y.num * (x.den : Int))
  rw [Int.natAbs_mul, Int.natAbs_mul, Int.natAbs_natCast, Int.natAbs_natCast] at this
  omega
 ·rw [Int.natAbs_mul, Int.natAbs_natCast, Int.natAbs_natCast]; omega
theorem rval_sz {a : List UInt8} (h : rchk a = 0) : SzQ (rval a) a.length ∧ 1 ≤ a.length := by
 have hv := rchk_val a h
 have ht := cutA_le (trimM a)
 have hd := cutD_le (trimM a)
 have hm := trimM_le a
 have hne : 1 ≤ (cutA (trimM a)).length := by
  cases hc : cutA (trimM a) with
  | nil => exact absurd hc hv.na.ne
  | cons => simp
 refine ⟨⟨?_, ?_⟩, by omega⟩
 ·rw [hv.num, sgn_natAbs]
  exact Nat.lt_of_lt_of_le (num_lt _ hv.na.digs) (Nat.pow_le_pow_right (by decide) (by omega))
 ·by_cases k : cutI (trimM a) = true
  ·have h1 := hv.den
   rw [if_pos k] at h1
   have h2 := num_lt _ (hv.nd k).digs
   have h3 := Nat.pow_le_pow_right (show 0 < 10 by decide) (show (cutD (trimM a)).length ≤ a.length by omega)
   omega
  ·have h1 := hv.den
   rw [if_neg k] at h1
   have h3 := Nat.pow_le_pow_right (show 0 < 10 by decide) (show 1 ≤ a.length by omega)
   omega
end
section
open Go.RowKit
theorem ratText_any (v : Value) (q : Rat) (w : World) (hx : Rt w v q) (htab : Tab w) : Calls Tryz.prog 120 #[v] w (RetTx w (ratTx q)) := by
 obtain ⟨A, l, c, B, m, d, rfl, -, -⟩ := hx.form
 obtain ⟨-, hb⟩ := boxes1 w (.bool (decide (q.num < 0))) (.slice A l c) (.bool false) (.slice B m d)
 have HT := aH (rtext_any _ _ _ (hx.ext hb) (tab_below htab hb))
 have HB := aH hb
 clear hx hb htab
 generalize decide (q.num < 0) = nb at *
 unfold ratT at *
 go_enter Tryz.func120, Tryz.ntmps120
 go_wp2_with fail
 refine HT.out.mono ?_
 rintro e w1 ⟨s, rfl, hs, hb⟩
 have HB1 := aH (HB.out.trans (hb.mono HB.out.size))
 clear HB HT hb
 by_cases h : fitQ q = true
 ·have HQ := aH (show RetTx w (ratTx q) (.returned (.tuple #[.string s, I 0])) w1 from ⟨by rw [ratTx, if_pos h, hs h], HB1.out⟩)
  rw [h]
  clear hs
  go_wp2
  go_ret2
  exact HQ.out
 ·have HQ := aH (show RetTx w (ratTx q) (.returned (.tuple #[.string ⟨#[]⟩, I 2])) w1 from ⟨by rw [ratTx, if_neg h], HB1.out⟩)
  have h := Bool.eq_false_iff.2 h
  rw [h]
  clear hs
  go_wp2
  go_ret2
  exact HQ.out
end
section
open Go.Lib
theorem VM.text {m : MT} {n k : Nat} (h : VM m n k) : ((valsM m).map fun r => r.map qText) = m := by
 unfold valsM valsV
 rw [List.map_map]
 conv => rhs; rw [← List.map_id m]
 refine List.map_congr_left fun r hx => ?_
 show List.map qText (List.map rval r) = r
 rw [List.map_map]
 conv => rhs; rw [← List.map_id r]
 exact List.map_congr_left fun s hs => (rchk_val s (h.ok r hx s hs)).text
theorem VM.fit {m : MT} {n k : Nat} (h : VM m n k) : (valsM m).all (fun r => r.all fitQ) = true := by
 rw [List.all_eq_true]
 intro r hr
 obtain ⟨l, hl, rfl⟩ := List.mem_map.1 hr
 rw [List.all_eq_true]
 intro q hq
 obtain ⟨s, hs, rfl⟩ := List.mem_map.1 hq
 exact (rchk_val s (h.ok l hl s hs)).fit
end
section
open Go.RowKit
theorem rOp_bad {w w' : World} {a b : List UInt8} {r : List UInt8 × Int} {c : Int} (hc : rAll [a, b] = c) (h0 : c ≠ 0) (hb : Below w.heap.size w w') : RetTx w (rOp a b r) (.returned (.tuple #[.string ⟨#[]⟩, I c])) w' := by
 refine ⟨?_, hb⟩
 rw [rOp, if_neg (by rw [hc]; exact h0), hc]
theorem rOp_good {w w1 w' : World} {a b : List UInt8} {r : List UInt8 × Int} {e : Ending} (hc : rAll [a, b] = 0) (hb : Below w.heap.size w w1) (h : RetTx w1 r e w') : RetTx w (rOp a b r) e w' := by
 rw [rOp, if_pos hc]
 exact ⟨h.1, hb.trans (h.2.mono hb.size)⟩
theorem reads2 (w : World) (t : TypeId) (s u : ByteArray) : Reads (w.alloc (.cells #[.string s, .string u] t)) (w.alloc (.cells #[.string s, .string u] t)).heap.size 1 (some ⟨w.heap.size, 0, none⟩) 2 ([s, u].map Sv) := by
 have := reads_lits w t ([s, u].map Sv)
 rw [World.size_alloc]
 exact this
theorem mem2 {s t x : ByteArray} {K : Nat} (hs : s.size ≤ K) (ht : t.size ≤ K) (h : x ∈ [s, t]) : x.size ≤ K := by
 rcases List.mem_cons.1 h with rfl | h
 ·exact hs
 ·rw [List.mem_singleton.1 h]; exact ht
theorem opAdd_any (s t : ByteArray) (w : World) (hs : s.size ≤ 9223372036854775807) (ht : t.size ≤ 9223372036854775807) (htab : Tab w) :
  Calls Tryz.prog 98 #[.string s, .string t, .func (.func 99) #[] #[]] w (RetTx w (rOp (SL s) (SL t) (ratTx (rval (SL s) + rval (SL t))))) := by
 have hb0 := (Below.refl w.heap.size w).alloc lR (.cells #[.string s, .string t] 51)
 have HA := aH (rall_any [s, t] 2 (some ⟨w.heap.size, 0, none⟩) 2 _ (reads2 w 51 s t) (by omega) (fun x hx => mem2 hs ht hx) (tab_below htab hb0))
 have HB := aH hb0
 have HTB := aH htab
 have hmap : [s, t].map SL = [SL s, SL t] := rfl
 rw [hmap] at HA
 clear hb0 htab hmap
 go_enter Tryz.func98, Tryz.ntmps98
 go_wp2_with fail
 refine HA.out.mono ?_
 rintro e w1 ⟨rfl, hb⟩
 have HB1 := aH (HB.out.trans (hb.mono HB.out.size))
 clear hb HB HA
 by_cases h0 : rAll [SL s, SL t] = 0
 ·obtain ⟨ha, hb⟩ := rAll_ok h0
  have HT := aH h0
  have HVA := aH (rchk_val _ ha)
  have HVB := aH (rchk_val _ hb)
  rw [h0]
  clear h0 ha hb
  go_wp2_with fail
  refine (parse_any s w1 hs HVA.out).mono ?_
  rintro e w2 ⟨u, rfl, hu, hb2⟩
  have HB2 := aH (HB1.out.trans (hb2.mono HB1.out.size))
  have HU := aH hu
  clear hb2 HB1 hu
  go_wp2_with fail
  refine (parse_any t w2 ht HVB.out).mono ?_
  rintro e w3 ⟨v, rfl, hv, hb3⟩
  have HB3 := aH (HB2.out.trans (hb3.mono HB2.out.size))
  have HU3 := aH (HU.out.ext hb3)
  have HV3 := aH hv
  clear hb3 HB2 hv HU
  go_wp2_with fail
  refine (radd_any u v _ _ w3 HU3.out HV3.out (N := 210) (by omega) (val_fit HVA.out) (val_fit HVB.out)).mono ?_
  rintro e w4 ⟨r, rfl, hr, hb4⟩
  have HB4 := aH (HB3.out.trans (hb4.mono HB3.out.size))
  have HR4 := aH hr
  clear hb4 HB3 hr
  go_wp2_with fail
  refine (ratText_any r _ w4 HR4.out (tab_below HTB.out HB4.out)).mono ?_
  rintro e w5 ⟨rfl, hb5⟩
  have HQ := aH (rOp_good (a := SL s) (b := SL t) (r := ratTx (rval (SL s) + rval (SL t))) HT.out HB4.out ⟨rfl, hb5⟩)
  clear hb5 HB4
  go_wp2
  go_ret2
  exact HQ.out
 ·have HQ := aH (rOp_bad (a := SL s) (b := SL t) (r := ratTx (rval (SL s) + rval (SL t))) rfl h0 HB1.out)
  have tc : (rAll [SL s, SL t] != 0) = true := bne_iff_ne.2 h0
  generalize rAll [SL s, SL t] = c at *
  clear h0
  go_wp2
  go_ret2
  exact HQ.out
theorem ratAdd_any (s t : ByteArray) (w : World) (hs : s.size ≤ 9223372036854775807) (ht : t.size ≤ 9223372036854775807) (htab : Tab w) : Calls Tryz.prog 41 #[.string s, .string t] w (RetTx w (ratAdd (SL s) (SL t))) := by
 have HO := aH (opAdd_any s t w hs ht htab)
 go_enter Tryz.func41, Tryz.ntmps41
 go_wp2_with fail
 refine HO.out.mono ?_
 rintro e w1 ⟨rfl, hb⟩
 have HQ := aH (show RetTx w (ratAdd (SL s) (SL t)) _ w1 from ⟨rfl, hb⟩)
 clear HO hb
 go_wp2
 go_ret2
 exact HQ.out
end
section
theorem back_text {s : List UInt8} (h : rchk s = 0) : fitQ (rval s) = true ∧ qText (rval s) = s := by
 have v : VM [[s]] 1 1 := ⟨⟨rfl, fun r hr => by rw [List.mem_singleton.1 hr]; rfl⟩, by omega, .inl (by omega), fun r hr s' hs => by
  rw [List.mem_singleton.1 hr] at hs
  rw [List.mem_singleton.1 hs]; exact h⟩
 have h1 := v.fit
 have h2 := v.text
 simp only [valsM, valsV, List.map_cons, List.map_nil] at h1 h2
 refine ⟨by simpa using h1, ?_⟩
 injection h2 with h2
 injection h2
theorem chk_mk {l : List Rat} (h : l.all fitQ = true) (hl : l.length ≤ 40) : chkV (tx1 (mkS (l.map qText))) = 0 := by
 rw [tx_mk]
 exact (txV_back h hl).1
theorem mkS_inj {a b : List Rat} (ha : a.all fitQ = true) (hb : b.all fitQ = true) (la : a.length ≤ 40) (lb : b.length ≤ 40) (h : mkS (a.map qText) = mkS (b.map qText)) : a = b := by
 have h1 := congrArg tx1 h
 rw [tx_mk, tx_mk] at h1
 rw [← (txV_back ha la).2, ← (txV_back hb lb).2, h1]
theorem ver_mk {n : NetD} {inj : List Int} (h : codeF n inj = 0) {a b : List Rat} (la : a.length = nbN n) (lb : b.length = n.branches.length) (ha : a.all fitQ = true) (hb : b.all fitQ = true) :
  verF n inj (mkS (a.map qText)) (mkS (b.map qText)) = if a = solF n inj ∧ b = flwF n inj then 0 else 21 := by
 obtain ⟨h1, h2, h3⟩ := code_ok h
 have hV := vnet (flowChk_ok h1).1
 have l1 : nbN n ≤ 24 := isl_le hV
 have l2 := hV.hb
 unfold verF
 rw [if_neg (fun k => k h1), if_neg (by rw [mkS_len, mkS_len]; omega), if_neg (fun k => k (chk_mk ha (by omega))), if_neg (fun k => k (chk_mk hb (by omega))), if_neg (fun k => k h)]
 by_cases ea : a = solF n inj
 ·rw [if_neg (fun k => k (by rw [ea]))]
  by_cases eb : b = flwF n inj
  ·rw [if_neg (fun k => k (by rw [eb])), if_pos ⟨ea, eb⟩]
  ·rw [if_pos (fun k => eb (mkS_inj h3 hb (by rw [flwF_len]; omega) (by omega) k).symm), if_neg (fun k => eb k.2)]
 ·rw [if_pos (fun k => ea (mkS_inj h2 ha (by rw [solF_len]; omega) (by omega) k).symm), if_neg (fun k => ea k.1)]
theorem set_ne {l : List Rat} {k : Nat} {q : Rat} (hk : k < l.length) (h : q ≠ l.getD k 0) : l.set k q ≠ l := fun e => by
 apply h
 have h1 : (l.set k q).getD k 0 = q := by rw [getD_setQ, if_pos ⟨rfl, hk⟩]
 rw [← h1, e]
theorem all_setF {l : List Rat} {k : Nat} {q : Rat} (h : l.all fitQ = true) (hq : fitQ q = true) : (l.set k q).all fitQ = true := by
 rw [List.all_eq_true] at h ⊢
 intro x hx
 rcases List.mem_or_eq_of_mem_set hx with h1 | h1
 ·exact h x h1
 ·rw [h1]; exact hq
theorem mkS_set (l : List Rat) (k : Nat) (q : Rat) : mkS ((l.set k q).map qText) = (mkS (l.map qText)).set k ⟨(qText q).toArray⟩ := by
 simp [mkS, List.map_set]
theorem sol_sz {n : NetD} {inj : List Int} (hw : wideN n = false) (hc : flowChk n inj = 0) : (∀ q ∈ solF n inj, SzQ q 831) ∧ ∀ q ∈ flwF n inj, SzQ q 831 := by
 obtain ⟨h1, _, h3⟩ := flowChk_ok hc
 have hV := vnet h1
 obtain ⟨e, he⟩ := scale_ex hV hw
 obtain ⟨hn, hb, _⟩ := wide_len hw
 have hs := sh_small hV hb (fun i => sm_int hn h3 i)
 exact ⟨th_sz he hs, fl_sz he hs⟩
theorem add_ne {q d : Rat} (h : d ≠ 0) : q + d ≠ q := fun e => h (by grind)
end
section
open Go.RowKit
def pickN (x n : Int) : Int := IntKind.u64.wrap x % n
theorem pickN_range (x : Int) {n : Int} (h : 0 < n) : 0 ≤ pickN x n ∧ pickN x n < n := ⟨Int.emod_nonneg _ (by omega), Int.emod_lt_of_pos _ h⟩
theorem pick_at (x n : Int) (w : World) (h0 : 0 < n) (h1 : n ≤ 1000000) : Calls Tryz.prog 17 #[I x, I n] w fun e w' => e = .returned (I (pickN x n)) ∧ w' = w := by
 have hb := pickN_range x h0
 have hn : IntKind.u64.wrap n = n := by rw [IntKind.wrap_u64]; omega
 have HE := aH (show wrap64 ((IntKind.u64.wrap x).tmod n) = pickN x n by
  rw [show (IntKind.u64.wrap x).tmod n = pickN x n from Int.tmod_eq_emod_of_nonneg (by rw [IntKind.wrap_u64]; exact Int.emod_nonneg _ (by decide))]
  exact IntWalk.wrap64_in _ (by omega))
 have hz : (n == 0) = false := by simp; omega
 clear hb
 go_enter Tryz.func17, Tryz.ntmps17
 go_wp2
 go_ret
 exact ⟨by rw [← HE.out]; rfl, rfl⟩
end
section
open Go.ChangeShapes Go.WideShapes Go.ChangeAt Go.RowKit Go.Deep
theorem size_of_wf {s : ByteArray} (h : s.size ≤ maxLen) : s.size ≤ 9223372036854775807 := by unfold maxLen at h; omega
theorem bounds64 {x : Int} (h : (Lit.int .i64 x).wf = true) : -9223372036854775808 ≤ x ∧ x ≤ 9223372036854775807 := bounds_i64 h
end
end Go.Proofs.YtenbglfkdldheaaGreatDoor
