/- SimplexBounds returns true for every input: no vector that satisfies all conditions has a greater value. No conditions. The row's listed variables hold what the program's text lays (the card ties them). -/
import Derived.Test.YtcgfdfdcbamceaaGreatDoorXBZ
import Derived.ShutString
import Derived.ChangeMaps5
namespace Go.Proofs.YtcgfdfdcbamceaaGreatDoor
theorem sm_le {f g : Nat → Rat} : ∀ (n : Nat), (∀ i, i < n → f i ≤ g i) → sm n f ≤ sm n g
 | 0, _ => Rat.le_refl
 | n + 1, h => by
  have h1 := sm_le n fun i hi => h i (by omega)
  have h2 := h n (by omega)
  rw [sm, sm]; grind
section
variable {m n : Nat} {A : Nat → Nat → Rat} {B C : Nat → Rat}
theorem mix_le {x y c : Nat → Rat} (hx : ∀ k, k < n → 0 ≤ x k) (hm : ∀ k, k < n → c k ≤ sm m fun i => y i * A i k) : (sm n fun k => c k * x k) ≤ sm m fun i => y i * sm n fun k => A i k * x k := by
 have h1 : (sm n fun k => c k * x k) ≤ sm n fun k => sm m fun i => y i * (A i k * x k) := sm_le n fun k hk => by
  have h2 := Rat.mul_nonneg (show 0 ≤ (sm m fun i => y i * A i k) - c k by have := hm k hk; grind) (hx k hk)
  have h3 : (sm m fun i => y i * (A i k * x k)) = (sm m fun i => y i * A i k) * x k := by
   rw [Rat.mul_comm, ← sm_mul]; exact sm_congr m fun i _ => by grind
  rw [h3]; grind
 rw [sm_comm] at h1
 rw [sm_congr m (g := fun i => sm n fun k => y i * (A i k * x k)) fun i _ => (sm_mul _ _ _).symm]
 exact h1
theorem row_le {x y b : Nat → Rat} (hy : ∀ i, i < m → 0 ≤ y i) (hf : ∀ i, i < m → (sm n fun k => A i k * x k) ≤ b i) : (sm m fun i => y i * sm n fun k => A i k * x k) ≤ sm m fun i => b i * y i := sm_le m fun i hi => by
 have := Rat.mul_nonneg (hy i hi) (show 0 ≤ b i - sm n fun k => A i k * x k by have := hf i hi; grind)
 grind
theorem weak {x y : Nat → Rat} (hx : ∀ k, k < n → 0 ≤ x k) (hy : ∀ i, i < m → 0 ≤ y i) (hf : ∀ i, i < m → (sm n fun k => A i k * x k) ≤ B i) (hm : ∀ k, k < n → C k ≤ sm m fun i => y i * A i k) : (sm n fun k => C k * x k) ≤ sm m fun i => B i * y i :=
 Rat.le_trans (mix_le hx hm) (row_le hy hf)
theorem NoneS.no {x y : Nat → Rat} (h : NoneS m n A B y) (hx : ∀ k, k < n → 0 ≤ x k) (hf : ∀ i, i < m → (sm n fun k => A i k * x k) ≤ B i) : False := by
 have h1 := weak (C := fun _ => 0) hx h.nn hf h.mix
 have h2 := h.neg
 rw [sm_zero n fun k _ => Rat.zero_mul _] at h1
 grind
end
end Go.Proofs.YtcgfdfdcbamceaaGreatDoor
namespace Go.Proofs.YtcgfdfdcbamceaaGreatDoor
open Go.Lib
def ratTx (q : Rat) : List UInt8 × Int := if fitQ q = true then (qText q, 0) else ([], 2)
def ratCmp (a b : List UInt8) : Int × Int := if rAll [a, b] = 0 then (cmpQ (rval a) (rval b), 0) else (0, rAll [a, b])
theorem rAll_ok {a b : List UInt8} (h : rAll [a, b] = 0) : rchk a = 0 ∧ rchk b = 0 := by
 simp only [rAll] at h
 split at h
 ·rename_i h1
  split at h
  ·rename_i h2; exact ⟨h1, h2⟩
  ·rename_i h2; exact absurd h h2
 ·rename_i h1; exact absurd h h1
theorem ratTx_ok {q : Rat} (h : fitQ q = true) : ratTx q = (qText q, 0) := by rw [ratTx, if_pos h]
theorem pow_mul_lt {a b i j : Nat} (ha : a < 10 ^ i) (hb : b < 10 ^ j) : a * b < 10 ^ (i + j) := by rw [Nat.pow_add]; exact Nat.mul_lt_mul'' ha hb
theorem SzQ.of_divInt {n d : Int} {k : Nat} (hn : n.natAbs < 10 ^ k) (hd : d.natAbs < 10 ^ k) (h1 : 1 ≤ k) : SzQ (Rat.divInt n d) k := by
 obtain ⟨h2, h3⟩ := divInt_le n d
 have h4 : 10 ^ 1 ≤ 10 ^ k := Nat.pow_le_pow_right (by decide) h1
 refine ⟨by omega, ?_⟩
 have : max 1 d.natAbs < 10 ^ k := Nat.max_lt.2 ⟨by omega, hd⟩
 omega
theorem SzQ.add {x y : Rat} {i j : Nat} (hx : SzQ x i) (hy : SzQ y j) : SzQ (x + y) (i + j + 1) := by
 rw [← divInt_add]
 have h1 := pow_mul_lt hx.1 hy.2
 have h2 := pow_mul_lt hy.1 hx.2
 have h3 := pow_mul_lt hx.2 hy.2
 rw [Nat.add_comm j i] at h2
 have e : 10 ^ (i + j + 1) = 10 ^ (i + j) * 10 := Nat.pow_succ ..
 refine SzQ.of_divInt ?_ ?_ (by omega)
 ·have := Int.natAbs_add_le (x.num * (y.den : Int)) (y.num * (x.den : Int))
  rw [Int.natAbs_mul, Int.natAbs_mul, Int.natAbs_natCast, Int.natAbs_natCast] at this
  omega
 ·rw [Int.natAbs_mul, Int.natAbs_natCast, Int.natAbs_natCast]; omega
theorem SzQ.mul {x y : Rat} {i j : Nat} (hx : SzQ x i) (hy : SzQ y j) (h1 : 1 ≤ i + j) : SzQ (x * y) (i + j) := by
 rw [← divInt_mul]
 refine SzQ.of_divInt ?_ ?_ h1
 ·rw [Int.natAbs_mul]; exact pow_mul_lt hx.1 hy.1
 ·rw [Int.natAbs_mul, Int.natAbs_natCast, Int.natAbs_natCast]; exact pow_mul_lt hx.2 hy.2
def txV (l : List Rat) : List (List UInt8) × Int := if l.all fitQ = true then (l.map qText, 0) else ([], 2)
def applyM (m : MT) (v : List (List UInt8)) : List (List UInt8) × Int :=
 if chkM m ≠ 0 then ([], chkM m) else if chkV v ≠ 0 then ([], chkV v) else if 0 < m.length ∧ wd m ≠ v.length then ([], 3) else txV ((valsM m).map fun r => dotQ r (valsV v))
def dotM (a b : List (List UInt8)) : List UInt8 × Int :=
 if chkV a ≠ 0 then ([], chkV a) else if chkV b ≠ 0 then ([], chkV b) else if a.length ≠ b.length then ([], 3) else ratTx (dotQ (valsV a) (valsV b))
theorem Rect.map {α β : Type} {m : List (List α)} {n k : Nat} (h : Rect m n k) (f : α → β) : Rect (m.map fun r => r.map f) n k :=
 ⟨by rw [List.length_map, h.len], fun r hr => by
  obtain ⟨s, hs, rfl⟩ := List.mem_map.1 hr
  rw [List.length_map, h.row s hs]⟩
theorem VM.vals {m : MT} {n k : Nat} (h : VM m n k) : Rect (valsM m) n k := h.rect.map rval
theorem sz_zero : SzQ 0 1 := ⟨by decide, by decide⟩
theorem SzQ.sum {f : Nat → Rat} {k : Nat} : ∀ (n : Nat), (∀ i, i < n → SzQ (f i) k) → SzQ (sm n f) (n * (k + 1) + 1)
 | 0, _ => sz_zero.mono (by omega)
 | n + 1, h => by
  rw [sm]
  exact ((SzQ.sum n fun i hi => h i (by omega)).add (h n (by omega))).mono (by rw [Nat.succ_mul]; omega)
end Go.Proofs.YtcgfdfdcbamceaaGreatDoor
namespace Go.Proofs.YtcgfdfdcbamceaaGreatDoor
open Go.RowKit
def fineB (es : List Int) : Bool := es.all fun e => e == 0
set_option maxRecDepth 100000 in
set_option maxHeartbeats 400000 in
theorem nz_any (x : Int) (w : World) : Calls Tryz.prog 47 #[I x] w fun e w' => e = .returned (.bool (x != 0)) ∧ w = w' := by
 go_enter Tryz.func47, Tryz.ntmps47
 go_wp2
 go_ret
 exact ⟨rfl, rfl⟩
set_option maxRecDepth 100000 in
set_option maxHeartbeats 400000 in
theorem idxnz_any (es : List Int) (n : Nat) (A : Option Addr) (c : Nat) (w : World) (B : Nat) (hr : Reads w B 1 A n (es.map I)) (hn : n ≤ 1000000) :
  Calls Tryz.prog 78 #[.slice A n c, .func (.func 47) #[] #[]] w fun e w' => (∃ r, e = .returned (I r) ∧ decide (0 ≤ r) = !fineB es) ∧ w = w' := by
 have hl : es.length = n := by have := hr.1; simpa using this
 go_enter Tryz.func78, Tryz.ntmps78
 go_wp2
 go_loopg [8] (n - 0) (fun r v wr => ∃ k : Nat, r = n - k ∧ v = I k ∧ k ≤ n ∧ w = wr ∧ Hid (fineB es = fineB (es.drop k)))
 case atStart => exact ⟨0, rfl, rfl, by omega, rfl, rfl⟩
 case round =>
  obtain ⟨k, rfl, rfl, hk, rfl, HO⟩ := hrel
  by_cases hlt : k < n
  ·obtain ⟨b, off, u, rfl, _, hu, hc⟩ := hr.at1 hlt
   obtain ⟨x, hx⟩ : ∃ x, es.getD k 0 = x := ⟨_, rfl⟩
   have hx2 : es[k]'(by omega) = x := by rw [← hx, List.getD_eq_getElem?_getD, List.getElem?_eq_getElem (by omega)]; rfl
   obtain rfl : u = I x := by
    rw [List.getElem?_map, List.getElem?_eq_getElem (by omega), hx2] at hu
    simpa using hu.symm
   have HO2 := Lib.hid (show fineB es = ((x == 0) && fineB (es.drop (k + 1))) by
    rw [HO.out, List.drop_eq_getElem_cons (by omega), hx2]
    rfl)
   have HL := Lib.hid hl
   clear hu hr hx hx2 HO hl
   by_cases h0 : x = 0
   ·have tb : (x != 0) = false := by rw [h0]; rfl
    have HO3 := Lib.hid (show fineB es = fineB (es.drop (k + 1)) by rw [HO2.out, h0]; rfl)
    clear h0
    go_wp2_with (go_at_call 47; refine (nz_any x _).mono ?_; rintro e w' ⟨rfl, rfl⟩)
    go_roundg (n - (k + 1))
    case measure => omega
    case rel => exact ⟨k + 1, rfl, by go_num, by omega, rfl, HO3⟩
   ·have tb : (x != 0) = true := bne_iff_ne.2 h0
    have HF := Lib.hid (show decide (0 ≤ (k : Int)) = !fineB es by
     rw [HO2.out, beq_eq_false_iff_ne.2 h0, decide_eq_true (by omega)]; rfl)
    clear h0
    go_wp2_with (go_at_call 47; refine (nz_any x _).mono ?_; rintro e w' ⟨rfl, rfl⟩)
    go_ret
    exact ⟨⟨_, rfl, HF.out⟩, rfl⟩
  ·have HF := Lib.hid (show decide (0 ≤ (-1 : Int)) = !fineB es by
    rw [HO.out, List.drop_of_length_le (by omega)]; rfl)
   clear HO
   go_wp2
   go_ret
   exact ⟨⟨_, rfl, HF.out⟩, rfl⟩
set_option maxRecDepth 100000 in
set_option maxHeartbeats 400000 in
theorem fine_any (es : List Int) (n : Nat) (A : Option Addr) (c : Nat) (w : World) (B : Nat) (hr : Reads w B 1 A n (es.map I)) (hn : n ≤ 1000000) :
  Calls Tryz.prog 18 #[.slice A n c] w fun e w' => e = .returned (.bool (fineB es)) ∧ w = w' := by
 have h41 : ∀ w, Reads w B 1 A n (es.map I) → Calls Tryz.prog 46 #[.slice A n c, .func (.func 47) #[] #[]] w fun e w' => e = .returned (.bool (!fineB es)) ∧ w = w' := by
  intro w hr
  have HX := Lib.hid (idxnz_any es n A c w B hr hn)
  clear hr
  go_enter Tryz.func46, Tryz.ntmps46
  go_wp2_with fail
  refine HX.out.mono ?_
  rintro e w1 ⟨⟨r, rfl, hr⟩, rfl⟩
  have HR := Lib.hid hr
  clear hr HX
  go_wp2
  go_ret
  exact ⟨congrArg (fun b => Ending.returned (.bool b)) HR.out, rfl⟩
 have H41 := Lib.hid (h41 w hr)
 clear h41 hr
 go_enter Tryz.func18, Tryz.ntmps18
 go_wp2_with fail
 refine H41.out.mono ?_
 rintro e w1 ⟨rfl, rfl⟩
 go_wp2
 go_ret
 exact ⟨by simp, rfl⟩
def firstE : List Int → Int
 | [] => 0
 | x :: l => if x ≠ 0 then x else firstE l
set_option maxRecDepth 100000 in
theorem first_any (l : List Int) (n : Nat) (A : Option Addr) (c : Nat) (w : World) (hr : Reads w w.heap.size 1 A n (l.map I)) (hn : n ≤ 1000000) :
  Calls Tryz.prog 42 #[.slice A n c] w fun e w' => e = .returned (I (firstE l)) ∧ w' = w := by
 have hl : l.length = n := by have := hr.1; simpa using this
 have HRD := Lib.hid hr
 clear hr
 go_enter Tryz.func42, Tryz.ntmps42
 go_wp2
 go_loopg [7] (n - 0) (fun r v wr => ∃ k : Nat, r = n - k ∧ v = I k ∧ k ≤ n ∧ wr = w ∧ Hid (firstE l = firstE (l.drop k)))
 case atStart => exact ⟨0, rfl, rfl, by omega, rfl, rfl⟩
 case round =>
  obtain ⟨k, rfl, rfl, hk, rfl, HO⟩ := hrel
  by_cases hlt : k < n
  ·obtain ⟨x, hx⟩ : ∃ x, l[k]'(by omega) = x := ⟨_, rfl⟩
   obtain ⟨b, off, u, rfl, _, hu, hc⟩ := HRD.out.at1 hlt
   obtain rfl : u = I x := by
    rw [List.getElem?_map, List.getElem?_eq_getElem (by omega), hx] at hu
    simpa using hu.symm
   have HO2 := Lib.hid (show firstE l = if x ≠ 0 then x else firstE (l.drop (k + 1)) by
    rw [HO.out, List.drop_eq_getElem_cons (by omega), hx]; rfl)
   clear hu hx HO
   by_cases h0 : x = 0
   ·have HO3 := Lib.hid (show firstE l = firstE (l.drop (k + 1)) by rw [HO2.out, if_neg (by omega)])
    subst h0
    clear HO2
    go_wp2
    go_roundg (n - (k + 1))
    case measure => omega
    case rel => exact ⟨k + 1, rfl, by go_num, by omega, rfl, HO3⟩
   ·have HO3 := Lib.hid (show firstE l = x by rw [HO2.out, if_pos h0])
    have tc : (x != 0) = true := bne_iff_ne.2 h0
    clear HO2
    go_wp2
    go_ret
    exact ⟨ret_int HO3.out.symm, rfl⟩
  ·have HF := Lib.hid (show firstE l = 0 by rw [HO.out, List.drop_of_length_le (by omega)]; rfl)
   clear HO
   go_wp2
   go_ret
   exact ⟨ret_int HF.out.symm, rfl⟩
theorem width_any (m : List (List ByteArray)) (n : Nat) (A : Option Addr) (c : Nat) (w : World) (hm : SMat w A n m) :
  Calls Tryz.prog 43 #[.slice A n c] w fun e w' => e = .returned (I (wd (tx2 m))) ∧ w' = w := by
 have hl : m.length = n := by obtain ⟨_, _, h, _⟩ := hm; exact h
 by_cases h0 : n = 0
 ·have HW := Lib.hid (show ((wd (tx2 m) : Nat) : Int) = 0 by rw [List.eq_nil_of_length_eq_zero (hl.trans h0)]; rfl)
  subst h0
  go_enter Tryz.func43, Tryz.ntmps43
  go_wp2
  go_ret
  exact ⟨ret_int HW.out.symm, rfl⟩
 ·obtain ⟨x0, hx0⟩ : ∃ x, m[0]? = some x := ⟨_, List.getElem?_eq_getElem (by omega)⟩
  obtain ⟨b, off, B, d, rfl, hc, hr⟩ := hm.at_ (show 0 < n by omega) x0 hx0
  rw [Nat.add_zero] at hc
  have HW := Lib.hid (show wd (tx2 m) = x0.length by rw [wd_tx, head_get m x0 _ hx0])
  have t : ((n : Int) == 0) = false := beq_eq_false_iff_ne.2 (by omega)
  clear hr hx0
  go_enter Tryz.func43, Tryz.ntmps43
  go_wp2
  go_ret
  exact ⟨ret_int (by rw [HW.out]), rfl⟩
theorem fit_size {q : Rat} (h : fitQ q = true) : (⟨(qText q).toArray⟩ : ByteArray).size ≤ 9223372036854775807 := by
 have := qTextLen h
 have e : (⟨(qText q).toArray⟩ : ByteArray).size = (qText q).length := by simp [ByteArray.size]
 omega
theorem sh_mk {l : List Rat} (h : l.all fitQ = true) : Sh1 (mkS (l.map qText)) := by
 intro s hs
 unfold mkS at hs
 rw [List.map_map] at hs
 obtain ⟨q, hq, rfl⟩ := List.mem_map.1 hs
 rw [List.all_eq_true] at h
 exact fit_size (h q hq)
def RetTV (w : World) (l : List Rat) (e : Ending) (w' : World) : Prop := ∃ v, e = .returned (.tuple #[v, I (txV l).2]) ∧ (l.all fitQ = true → Row w' w.heap.size strT 1 v l.length ((mkS (l.map qText)).map Sv)) ∧ (l.all fitQ = false → v = .slice none 0 0) ∧ Below w.heap.size w w'
theorem ret_tv {v : Value} {a b : Int} (h : a = b) : Ending.returned (.tuple #[v, I a]) = .returned (.tuple #[v, I b]) := by rw [h]
theorem textVec_any (l : List Rat) (n : Nat) (A : Option Addr) (c : Nat) (w : World) (hr : RV w A n l) (hn : n ≤ 1000000) (htab : Tab w) :
  Calls Tryz.prog 45 #[.slice A n c] w (RetTV w l) := by
 have HC := Lib.hid (texts_any l n A c w hr hn htab)
 clear hr htab
 go_enter Tryz.func45, Tryz.ntmps45
 go_wp2_with fail
 refine HC.out.mono ?_
 rintro e w1 ⟨v, rfl, h1, h2, hb⟩
 have H1 := Lib.hid h1
 have HB := Lib.hid hb
 clear HC h1 hb
 cases hf : l.all fitQ with
 | true =>
  have HE := Lib.hid (show (txV l).2 = 0 by rw [txV, if_pos hf])
  have HF := Lib.hid hf
  clear h2 hf
  go_wp2
  go_ret2
  exact ⟨_, ret_tv HE.out.symm, fun _ => H1.out HF.out, fun h => (by rw [HF.out] at h; cases h), HB.out⟩
 | false =>
  have HE := Lib.hid (show (txV l).2 = 2 by rw [txV, if_neg (by simp [hf])])
  have HF := Lib.hid hf
  obtain rfl := h2 hf
  clear h2 hf
  go_wp2
  go_ret2
  exact ⟨_, ret_tv HE.out.symm, fun h => (by rw [HF.out] at h; cases h), fun _ => rfl, HB.out⟩
theorem wpList_app1 {w : World} {ops : Array Oper} {rest : List Oper} {o : Oper} {a : Act} {Q : Exit → Act → World → Prop} (hgd : o.guard = none) (s x : Operand)
  (ho : o.op = .call { callee := .builtin .append, args := #[s, x], argTypes := #[rowT, rowT] }) (base : Nat) (v : Value) (qs : List Rat) (hsv : a.eval s = v) (hr : RRow w base v qs)
  (g : Nat) (hx : a.eval x = .slice (some ⟨g, 0, none⟩) 1 1) {x0 x1 x2 x3 : Value} (hB : Blk w g ratT #[x0, x1, x2, x3]) {q : Rat} (hq : Rt w (.agg #[x0, x1, x2, x3]) q) (hl : qs.length ≤ 1000000) (hbase : base ≤ w.heap.size)
  (h : ∀ v' w', Apd w base v (qs ++ [q]) v' w' → wpList Tryz.prog ops Q rest (a.put o.dst v') w') : wpList Tryz.prog ops Q (o :: rest) a w := by
 refine wpList_plain hgd fun K hK => ?_
 obtain ⟨i, hi, hz0, hz1, hz2⟩ := info_parts info_rat
 have hs : Reads w w.heap.size 4 (some ⟨g, 0, none⟩) 1 [x0, x1, x2, x3] := ⟨rfl, fun _ => ⟨g, 0, rfl, hB.lt, fun j u hu => by
  rw [Nat.zero_add, hB.cell]
  simpa using hu⟩⟩
 obtain ⟨v', w', hrun, hap⟩ := run_append_rats (P := Tryz.prog) w base rowT o.type i _ 64 Tryz.underlying66 hi hz0 hz1 hz2 rfl v qs hr w.heap.size (some ⟨g, 0, none⟩) 1 1 [x0, x1, x2, x3] [q] hs (RtL.one hq) (by unfold maxLen; omega) (by omega) hbase
 unfold Oper.wp execOp
 simp only [ho, resolve, invoke, builtin, Sem.run_bind, Sem.run_pure, Result.andThen_ok, List.map_toArray, List.map_cons, List.map_nil, hsv, hx, hrun]
 exact hK _ _ (h v' w' hap)
theorem fits_fitM {n : Nat} (h : fitN n = true) : Fits 210 (n : Int) := by
 have := (num_of_fit h).fits
 rwa [num_dec] at this
theorem val_fit {l : List UInt8} (h : RVal l) : FitR 210 (rval l) := by
 have := h.fit
 rw [fitQ, Bool.and_eq_true] at this
 refine ⟨?_, fits_fitM this.2⟩
 have h1 := fits_fitM this.1
 unfold Fits at *
 rw [Int.natAbs_natCast] at h1
 exact h1
theorem reads2 (w : World) (t : TypeId) (s u : ByteArray) : Reads (w.alloc (.cells #[.string s, .string u] t)) (w.alloc (.cells #[.string s, .string u] t)).heap.size 1 (some ⟨w.heap.size, 0, none⟩) 2 ([s, u].map Sv) := by
 have := reads_lits w t ([s, u].map Sv)
 rw [World.size_alloc]
 exact this
theorem mem2 {s t x : ByteArray} {K : Nat} (hs : s.size ≤ K) (ht : t.size ≤ K) (h : x ∈ [s, t]) : x.size ≤ K := by
 rcases List.mem_cons.1 h with rfl | h
 ·exact hs
 ·rw [List.mem_singleton.1 h]; exact ht
theorem sl_zero48 : SL ⟨#[48]⟩ = [48] := rfl
theorem sz48 : (⟨#[48]⟩ : ByteArray).size ≤ 9223372036854775807 := by decide
def RetCq (w : World) (r : Int × Int) (e : Ending) (w' : World) : Prop := e = .returned (.tuple #[I r.1, I r.2]) ∧ Below w.heap.size w w'
set_option maxRecDepth 100000 in
set_option maxHeartbeats 2000000 in
theorem ratCmp_any (s t : ByteArray) (w : World) (hs : s.size ≤ 9223372036854775807) (ht : t.size ≤ 9223372036854775807) (htab : Tab w) : Calls Tryz.prog 19 #[.string s, .string t] w (RetCq w (ratCmp (SL s) (SL t))) := by
 have hb0 := (Below.refl w.heap.size w).alloc (Nat.le_refl _) (.cells #[.string s, .string t] 30)
 have HA := Lib.hid (rall_any [s, t] 2 (some ⟨w.heap.size, 0, none⟩) 2 _ (reads2 w 30 s t) (by omega) (fun x hx => mem2 hs ht hx) (tab_below htab hb0))
 have HB := Lib.hid hb0
 have HTB := Lib.hid htab
 have hmap : [s, t].map SL = [SL s, SL t] := rfl
 rw [hmap] at HA
 clear hb0 htab hmap
 go_enter Tryz.func19, Tryz.ntmps19
 go_wp2_with fail
 refine HA.out.mono ?_
 rintro e w1 ⟨rfl, hb⟩
 have HB1 := Lib.hid (HB.out.trans (hb.mono HB.out.size))
 clear hb HB HA
 by_cases h0 : rAll [SL s, SL t] = 0
 ·obtain ⟨ha, hb⟩ := rAll_ok h0
  have HT := Lib.hid h0
  have HVA := Lib.hid (rchk_val _ ha)
  have HVB := Lib.hid (rchk_val _ hb)
  rw [h0]
  clear h0 ha hb
  go_wp2_with fail
  refine (parse_any s w1 hs HVA.out).mono ?_
  rintro e w2 ⟨u, rfl, hu, hb2⟩
  have HB2 := Lib.hid (HB1.out.trans (hb2.mono HB1.out.size))
  have HU := Lib.hid hu
  clear hb2 HB1 hu
  go_wp2_with fail
  refine (parse_any t w2 ht HVB.out).mono ?_
  rintro e w3 ⟨v, rfl, hv, hb3⟩
  have HB3 := Lib.hid (HB2.out.trans (hb3.mono HB2.out.size))
  have HU3 := Lib.hid (HU.out.ext hb3)
  have HV3 := Lib.hid hv
  clear hb3 HB2 hv HU
  go_wp2_with fail
  refine (rcmp_any u v _ _ w3 HU3.out HV3.out (N := 210) (by omega) (val_fit HVA.out) (val_fit HVB.out)).mono ?_
  rintro e w4 ⟨rfl, hb4⟩
  have HQ := Lib.hid (show RetCq w (ratCmp (SL s) (SL t)) (.returned (.tuple #[I (cmpQ (rval (SL s)) (rval (SL t))), I 0])) w4 from ⟨by rw [ratCmp, if_pos HT.out], HB3.out.trans (hb4.mono HB3.out.size)⟩)
  unfold cmpQ at HQ
  clear hb4 HB3
  go_wp2
  go_ret2
  exact HQ.out
 ·have HQ := Lib.hid (show RetCq w (ratCmp (SL s) (SL t)) (.returned (.tuple #[I 0, I (rAll [SL s, SL t])])) w1 from ⟨by rw [ratCmp, if_neg h0], HB1.out⟩)
  have tc : (rAll [SL s, SL t] != 0) = true := bne_iff_ne.2 h0
  generalize rAll [SL s, SL t] = c at *
  clear h0
  go_wp2
  go_ret2
  exact HQ.out
set_option maxRecDepth 100000 in
theorem ratSign_any (s : ByteArray) (w : World) (hs : s.size ≤ 9223372036854775807) (htab : Tab w) : Calls Tryz.prog 20 #[.string s] w (RetCq w (ratCmp (SL s) [48])) := by
 have HO := Lib.hid (ratCmp_any s ⟨#[48]⟩ w hs sz48 htab)
 rw [sl_zero48] at HO
 go_enter Tryz.func20, Tryz.ntmps20
 go_wp2_with fail
 refine HO.out.mono ?_
 rintro e w1 ⟨rfl, hb⟩
 have HQ := Lib.hid (show RetCq w (ratCmp (SL s) [48]) _ w1 from ⟨rfl, hb⟩)
 clear HO hb
 go_wp2
 go_ret2
 exact HQ.out
def Fit1 (l : List Rat) : Prop := ∀ q ∈ l, FitR 210 q
def Fit2 (m : List (List Rat)) : Prop := ∀ r ∈ m, Fit1 r
theorem Fit1.at_ {l : List Rat} (h : Fit1 l) (i : Nat) : FitR 210 (l.getD i 0) := by
 rw [List.getD_eq_getElem?_getD]
 cases e : l[i]? with
 | none => exact fitR_zero.mono (by decide)
 | some q => exact h q (List.mem_of_getElem? e)
theorem fit_vals1 {l : List (List UInt8)} (h : ∀ s ∈ l, rchk s = 0) : Fit1 (valsV l) := by
 intro q hq
 obtain ⟨s, hs, rfl⟩ := List.mem_map.1 hq
 exact val_fit (rchk_val s (h s hs))
theorem fit_vals2 {m : MT} {n k : Nat} (h : VM m n k) : Fit2 (valsM m) := by
 intro r hr
 obtain ⟨l, hl, rfl⟩ := List.mem_map.1 hr
 exact fit_vals1 (h.ok l hl)
theorem val2_of {m : List (List ByteArray)} {n k : Nat} (h : VM (tx2 m) n k) : Val2 m := by
 intro l hl
 have hm : tx1 l ∈ tx2 m := List.mem_map.2 ⟨l, hl, rfl⟩
 refine ⟨fun s hs => h.ok _ hm _ (List.mem_map.2 ⟨s, hs, rfl⟩), ?_⟩
 have h1 := h.rect.row _ hm
 rw [tx1, List.length_map] at h1
 rcases h.hk with h2 | h2
 ·omega
 ·have := h.rect.len
  rw [h2] at this
  rw [List.eq_nil_of_length_eq_zero this] at hm
  cases hm
theorem firstE2 (a b : Int) : firstE [a, b] = if a ≠ 0 then a else b := by
 simp only [firstE]
 split
 ·rfl
 ·split
  ·rfl
  ·rename_i h; exact (Decidable.not_not.1 h).symm
theorem reads_e2 (w : World) (t : TypeId) (a b : Int) : Reads (w.alloc (.cells #[I a, I b] t)) (w.alloc (.cells #[I a, I b] t)).heap.size 1 (some ⟨w.heap.size, 0, none⟩) 2 ([a, b].map I) := by
 have := reads_lits w t ([a, b].map I)
 rw [World.size_alloc]
 exact this
abbrev errT : TypeId := 33
theorem first_zero {a b : Int} (h : firstE [a, b] = 0) : a = 0 ∧ b = 0 := by
 rw [firstE2] at h
 split at h
 ·rename_i h1; exact absurd h h1
 ·rename_i h1; exact ⟨Decidable.not_not.1 h1, h⟩
def SV (w : World) (A : Option Addr) (n : Nat) (l : List ByteArray) : Prop := Reads w w.heap.size 1 A n (l.map Sv)
theorem SV.below {w w' : World} {A : Option Addr} {n : Nat} {l : List ByteArray} (h : SV w A n l) (hb : Below w.heap.size w w') : SV w' A n l := (Reads.below h hb).more hb.size
theorem SV.len {w : World} {A : Option Addr} {n : Nat} {l : List ByteArray} (h : SV w A n l) : l.length = n := by have := h.1; simpa using this
def RetVT (w : World) (r : List (List UInt8) × Int) (e : Ending) (w' : World) : Prop :=
 ∃ A n c l, e = .returned (.tuple #[.slice A n c, I r.2]) ∧ SV w' A n l ∧ tx1 l = r.1 ∧ Sh1 l ∧ Below w.heap.size w w'
theorem RetVT.none_ {w w' : World} {c : Int} {r : List (List UInt8) × Int} (h : r = ([], c)) (hb : Below w.heap.size w w') : RetVT w r (.returned (.tuple #[.slice none 0 0, I c])) w' :=
 ⟨none, 0, 0, [], by rw [h], Reads.nil, by rw [h]; rfl, fun l h => by simp at h, hb⟩
theorem tx_none {w w' : World} {c : Int} {r : List UInt8 × Int} (h : r = ([], c)) (hb : Below w.heap.size w w') : RetTx w r (.returned (.tuple #[.string ⟨#[]⟩, I c])) w' := ⟨by rw [h], hb⟩
theorem val1_of {l : List ByteArray} (h : chkV (tx1 l) = 0) : Val1 l := fun s hs => (chkV_ok h).2 _ (List.mem_map.2 ⟨s, hs, rfl⟩)
theorem fit1_of {l : List ByteArray} (h : chkV (tx1 l) = 0) : Fit1 (valsV (tx1 l)) := fit_vals1 (chkV_ok h).2
theorem dot_first {a b : List (List UInt8)} (h : firstE [chkV a, chkV b] ≠ 0) : dotM a b = ([], firstE [chkV a, chkV b]) := by
 rw [firstE2] at h ⊢
 unfold dotM
 by_cases ha : chkV a ≠ 0
 ·rw [if_pos ha, if_pos ha]
 ·rw [if_neg ha] at h ⊢
  rw [if_neg ha, if_pos h]
theorem apply_first {a : MT} {b : List (List UInt8)} (h : firstE [chkM a, chkV b] ≠ 0) : applyM a b = ([], firstE [chkM a, chkV b]) := by
 rw [firstE2] at h ⊢
 unfold applyM
 by_cases ha : chkM a ≠ 0
 ·rw [if_pos ha, if_pos ha]
 ·rw [if_neg ha] at h ⊢
  rw [if_neg ha, if_pos h]
theorem dotFit40 {a b : List Rat} (hl : a.length ≤ 40) (ha : Fit1 a) (hb : Fit1 b) : DotFit 17000 a b :=
 dotFit_gen (N := 210) (K := 40) hl (by decide) (by decide) (fun j _ => ha.at_ j) (fun j _ => hb.at_ j)
set_option maxRecDepth 100000 in
set_option maxHeartbeats 4000000 in
theorem dot_bad (a : List ByteArray) (na : Nat) (Aa : Option Addr) (ca : Nat) (b : List ByteArray) (nb : Nat) (Ab : Option Addr) (cb : Nat) (w : World) (ha : SV w Aa na a) (sa : Sh1 a) (hb : SV w Ab nb b) (sb : Sh1 b) (htab : Tab w) (h0 : firstE [chkV (tx1 a), chkV (tx1 b)] ≠ 0) :
  Calls Tryz.prog 17 #[.slice Aa na ca, .slice Ab nb cb] w (RetTx w (dotM (tx1 a) (tx1 b))) := by
 have HE := Lib.hid (dot_first h0)
 have Ha := Lib.hid ha
 have Sa := Lib.hid sa
 have Hb := Lib.hid hb
 have Sb := Lib.hid sb
 have HTB := Lib.hid htab
 have hca := chkV_any a na Aa ca w (Ha.out) Sa.out (HTB.out)
 have HCA := Lib.hid hca
 clear hca ha sa hb sb htab
 go_enter Tryz.func17, Tryz.ntmps17
 go_wp2_with fail
 refine HCA.out.mono ?_
 rintro e w1 ⟨rfl, hb1⟩
 have HB1 := Lib.hid hb1
 have hcb := chkV_any b nb Ab cb w1 (Hb.out.below hb1) Sb.out (tab_below HTB.out hb1)
 have HCB := Lib.hid hcb
 clear hb1 HCA hcb
 go_wp2_with fail
 refine HCB.out.mono ?_
 rintro e w2 ⟨rfl, hb2⟩
 have HB2 := Lib.hid (HB1.out.trans (hb2.mono HB1.out.size))
 have HF := Lib.hid (first_any [chkV (tx1 a), chkV (tx1 b)] 2 (some ⟨w2.heap.size, 0, none⟩) 2 (w2.alloc (.cells #[I (chkV (tx1 a)), I (chkV (tx1 b))] errT)) (reads_e2 w2 errT _ _) (by omega))
 have HB3 := Lib.hid (HB2.out.alloc HB2.out.size (.cells #[I (chkV (tx1 a)), I (chkV (tx1 b))] errT))
 unfold errT at *
 clear hb2 HB1 HB2 HCB
 have tc : (firstE [chkV (tx1 a), chkV (tx1 b)] != 0) = true := bne_iff_ne.2 h0
 have HQ := Lib.hid (tx_none (w := w) HE.out HB3.out)
 clear h0 HE
 generalize firstE [chkV (tx1 a), chkV (tx1 b)] = fe at *
 go_wp2_with fail
 refine HF.out.mono ?_
 rintro e w3 ⟨rfl, rfl⟩
 clear HF
 go_wp2
 go_ret2
 exact HQ.out
set_option maxRecDepth 100000 in
set_option maxHeartbeats 4000000 in
theorem dot_good (a : List ByteArray) (na : Nat) (Aa : Option Addr) (ca : Nat) (b : List ByteArray) (nb : Nat) (Ab : Option Addr) (cb : Nat) (w : World) (ha : SV w Aa na a) (sa : Sh1 a) (hb : SV w Ab nb b) (sb : Sh1 b) (htab : Tab w) (h1 : chkV (tx1 a) = 0) (h2 : chkV (tx1 b) = 0) :
  Calls Tryz.prog 17 #[.slice Aa na ca, .slice Ab nb cb] w (RetTx w (dotM (tx1 a) (tx1 b))) := by
 have la := ha.len
 have lb := hb.len
 have LA := Lib.hid (show (tx1 a).length = na by rw [tx1, List.length_map, la])
 have LB := Lib.hid (show (tx1 b).length = nb by rw [tx1, List.length_map, lb])
 have hna : na ≤ 40 := by have := (chkV_ok h1).1; rw [LA.out] at this; exact this
 have hnb : nb ≤ 40 := by have := (chkV_ok h2).1; rw [LB.out] at this; exact this
 clear la lb
 have H1 := Lib.hid h1
 have H2 := Lib.hid h2
 clear h1 h2
 have Ha := Lib.hid ha
 have Sa := Lib.hid sa
 have Hb := Lib.hid hb
 have Sb := Lib.hid sb
 have HTB := Lib.hid htab
 have hca := chkV_any a na Aa ca w (Ha.out) Sa.out (HTB.out)
 rw [H1.out] at hca
 have HCA := Lib.hid hca
 clear hca ha sa hb sb htab
 go_enter Tryz.func17, Tryz.ntmps17
 go_wp2_with fail
 refine HCA.out.mono ?_
 rintro e w1 ⟨rfl, hb1⟩
 have HB1 := Lib.hid hb1
 have hcb := chkV_any b nb Ab cb w1 (Hb.out.below hb1) Sb.out (tab_below HTB.out hb1)
 rw [H2.out] at hcb
 have HCB := Lib.hid hcb
 clear hb1 HCA hcb
 go_wp2_with fail
 refine HCB.out.mono ?_
 rintro e w2 ⟨rfl, hb2⟩
 have HB2 := Lib.hid (HB1.out.trans (hb2.mono HB1.out.size))
 have HF := Lib.hid (first_any [0, 0] 2 (some ⟨w2.heap.size, 0, none⟩) 2 (w2.alloc (.cells #[I (0), I (0)] errT)) (reads_e2 w2 errT _ _) (by omega))
 have HB3 := Lib.hid (HB2.out.alloc HB2.out.size (.cells #[I (0), I (0)] errT))
 unfold errT at *
 clear hb2 HB1 HB2 HCB
 rw [show firstE [0, 0] = 0 from rfl] at HF
 go_wp2_with fail
 refine HF.out.mono ?_
 rintro e w3 ⟨rfl, rfl⟩
 generalize w2.alloc (.cells #[I 0, I 0] 33) = w3 at *
 clear HF
 by_cases hl : na = nb
 ·subst hl
  have tl : ((na : Int) != (na : Int)) = false := by simp
  have HRES := Lib.hid (show dotM (tx1 a) (tx1 b) = ratTx (dotQ (valsV (tx1 a)) (valsV (tx1 b))) by
   unfold dotM
   rw [H1.out, H2.out, if_neg (by decide), if_neg (by decide), if_neg (by rw [LA.out, LB.out]; exact fun h => h rfl)])
  have HP := Lib.hid (parseAll_any a na Aa ca w3 (Ha.out.below HB3.out) Sa.out (val1_of H1.out) (by omega))
  go_wp2_with fail
  refine HP.out.mono ?_
  rintro e w4 ⟨v, rfl, hv, hb⟩
  have HB4 := Lib.hid (HB3.out.trans (hb.mono HB3.out.size))
  have HV := Lib.hid hv
  have HP2 := Lib.hid (parseAll_any b na Ab cb w4 (Hb.out.below HB4.out) Sb.out (val1_of H2.out) (by omega))
  clear hv hb HP HB3
  go_wp2_with fail
  refine HP2.out.mono ?_
  rintro e w5 ⟨v2, rfl, hv2, hb⟩
  have HB5 := Lib.hid (HB4.out.trans (hb.mono HB4.out.size))
  have hv1 := HV.out.call hb
  obtain ⟨A1, c1, rfl⟩ := hv1.val
  obtain ⟨A2, c2, rfl⟩ := hv2.val
  have l1 : (valsV (tx1 a)).length = na := by rw [valsV, List.length_map, LA.out]
  have l2 : (valsV (tx1 b)).length = na := by rw [valsV, List.length_map, LB.out]
  have r1 := hv1.rv
  have r2 := hv2.rv
  have HD := Lib.hid (dot_any _ _ _ A1 A2 c1 _ c2 w5 r1 r2 (by omega) (by omega) (N := 17000) (by decide) (dotFit40 (by omega) (fit1_of H1.out) (fit1_of H2.out)))
  clear hb hv1 hv2 HV HP2 HB4 l1 l2 r1 r2
  go_wp2_with fail
  refine HD.out.mono ?_
  rintro e w6 ⟨v3, rfl, hv3, hb⟩
  have HB6 := Lib.hid (HB5.out.trans (hb.mono HB5.out.size))
  have HT := Lib.hid (rtext_any _ _ w6 hv3 (tab_below HTB.out HB6.out))
  clear hb hv3 HD HB5
  go_wp2_with fail
  refine HT.out.mono ?_
  rintro e w7 ⟨s, rfl, hs, hb⟩
  have HB7 := Lib.hid (HB6.out.trans (hb.mono HB6.out.size))
  have HS := Lib.hid hs
  clear hb HT HB6 hs
  cases hf : fitQ (dotQ (valsV (tx1 a)) (valsV (tx1 b))) with
  | true =>
   obtain rfl := HS.out hf
   have HQ := Lib.hid (show RetTx w (dotM (tx1 a) (tx1 b)) (.returned (.tuple #[.string ⟨(qText (dotQ (valsV (tx1 a)) (valsV (tx1 b)))).toArray⟩, I 0])) w7 from ⟨by rw [HRES.out, ratTx_ok hf], HB7.out⟩)
   clear hf HS
   go_wp2
   go_ret2
   exact HQ.out
  | false =>
   have HQ := Lib.hid (tx_none (w := w) (c := 2) (r := dotM (tx1 a) (tx1 b)) (by rw [HRES.out, ratTx, if_neg (by simp [hf])]) HB7.out)
   clear hf HS
   go_wp2
   go_ret2
   exact HQ.out
 ·have tl : ((na : Int) != (nb : Int)) = true := bne_iff_ne.2 (by omega)
  have HQ := Lib.hid (tx_none (w := w) (c := 3) (r := dotM (tx1 a) (tx1 b)) (by
   unfold dotM
   rw [H1.out, H2.out, if_neg (by decide), if_neg (by decide), if_pos (by rw [LA.out, LB.out]; exact hl)]) HB3.out)
  go_wp2
  go_ret2
  exact HQ.out
theorem dotM_any (a : List ByteArray) (na : Nat) (Aa : Option Addr) (ca : Nat) (b : List ByteArray) (nb : Nat) (Ab : Option Addr) (cb : Nat) (w : World) (ha : SV w Aa na a) (sa : Sh1 a) (hb : SV w Ab nb b) (sb : Sh1 b) (htab : Tab w) :
  Calls Tryz.prog 17 #[.slice Aa na ca, .slice Ab nb cb] w (RetTx w (dotM (tx1 a) (tx1 b))) := by
 by_cases h : firstE [chkV (tx1 a), chkV (tx1 b)] = 0
 ·obtain ⟨h1, h2⟩ := first_zero h
  exact dot_good a na Aa ca b nb Ab cb w ha sa hb sb htab h1 h2
 ·exact dot_bad a na Aa ca b nb Ab cb w ha sa hb sb htab h
set_option maxRecDepth 100000 in
set_option maxHeartbeats 4000000 in
theorem apply_bad (a : List (List ByteArray)) (na : Nat) (Aa : Option Addr) (ca : Nat) (b : List ByteArray) (nb : Nat) (Ab : Option Addr) (cb : Nat) (w : World) (ha : SMat w Aa na a) (sa : Sh2 a) (hb : SV w Ab nb b) (sb : Sh1 b) (htab : Tab w) (h0 : firstE [chkM (tx2 a), chkV (tx1 b)] ≠ 0) :
  Calls Tryz.prog 16 #[.slice Aa na ca, .slice Ab nb cb] w (RetVT w (applyM (tx2 a) (tx1 b))) := by
 have HE := Lib.hid (apply_first h0)
 have Ha := Lib.hid ha
 have Sa := Lib.hid sa
 have Hb := Lib.hid hb
 have Sb := Lib.hid sb
 have HTB := Lib.hid htab
 have hca := chkM_any a na Aa ca w (Ha.out) Sa.out (HTB.out)
 have HCA := Lib.hid hca
 clear hca ha sa hb sb htab
 go_enter Tryz.func16, Tryz.ntmps16
 go_wp2_with fail
 refine HCA.out.mono ?_
 rintro e w1 ⟨rfl, hb1⟩
 have HB1 := Lib.hid hb1
 have hcb := chkV_any b nb Ab cb w1 (Hb.out.below hb1) Sb.out (tab_below HTB.out hb1)
 have HCB := Lib.hid hcb
 clear hb1 HCA hcb
 go_wp2_with fail
 refine HCB.out.mono ?_
 rintro e w2 ⟨rfl, hb2⟩
 have HB2 := Lib.hid (HB1.out.trans (hb2.mono HB1.out.size))
 have HF := Lib.hid (first_any [chkM (tx2 a), chkV (tx1 b)] 2 (some ⟨w2.heap.size, 0, none⟩) 2 (w2.alloc (.cells #[I (chkM (tx2 a)), I (chkV (tx1 b))] errT)) (reads_e2 w2 errT _ _) (by omega))
 have HB3 := Lib.hid (HB2.out.alloc HB2.out.size (.cells #[I (chkM (tx2 a)), I (chkV (tx1 b))] errT))
 unfold errT at *
 clear hb2 HB1 HB2 HCB
 have tc : (firstE [chkM (tx2 a), chkV (tx1 b)] != 0) = true := bne_iff_ne.2 h0
 have HQ := Lib.hid (RetVT.none_ (w := w) HE.out HB3.out)
 clear h0 HE
 generalize firstE [chkM (tx2 a), chkV (tx1 b)] = fe at *
 go_wp2_with fail
 refine HF.out.mono ?_
 rintro e w3 ⟨rfl, rfl⟩
 clear HF
 go_wp2
 go_ret2
 exact HQ.out
set_option maxRecDepth 100000 in
set_option maxHeartbeats 4000000 in
theorem apply_good (a : List (List ByteArray)) (na : Nat) (Aa : Option Addr) (ca : Nat) (b : List ByteArray) (nb : Nat) (Ab : Option Addr) (cb : Nat) (w : World) (ha : SMat w Aa na a) (sa : Sh2 a) (hb : SV w Ab nb b) (sb : Sh1 b) (htab : Tab w) (h1 : chkM (tx2 a) = 0) (h2 : chkV (tx1 b) = 0) :
  Calls Tryz.prog 16 #[.slice Aa na ca, .slice Ab nb cb] w (RetVT w (applyM (tx2 a) (tx1 b))) := by
 have la : a.length = na := by obtain ⟨_, _, h, _⟩ := ha; exact h
 have lb := hb.len
 have VA := Lib.hid (chkM_ok h1)
 have LA := Lib.hid (show (tx2 a).length = na by rw [tx2, List.length_map, la])
 have LB := Lib.hid (show (tx1 b).length = nb by rw [tx1, List.length_map, lb])
 have hna : na ≤ 40 := by have := VA.out.hn; rw [LA.out] at this; exact this
 have hnb : nb ≤ 40 := by have := (chkV_ok h2).1; rw [LB.out] at this; exact this
 clear la lb
 have H1 := Lib.hid h1
 have H2 := Lib.hid h2
 clear h1 h2
 have Ha := Lib.hid ha
 have Sa := Lib.hid sa
 have Hb := Lib.hid hb
 have Sb := Lib.hid sb
 have HTB := Lib.hid htab
 have hca := chkM_any a na Aa ca w (Ha.out) Sa.out (HTB.out)
 rw [H1.out] at hca
 have HCA := Lib.hid hca
 clear hca ha sa hb sb htab
 go_enter Tryz.func16, Tryz.ntmps16
 go_wp2_with fail
 refine HCA.out.mono ?_
 rintro e w1 ⟨rfl, hb1⟩
 have HB1 := Lib.hid hb1
 have hcb := chkV_any b nb Ab cb w1 (Hb.out.below hb1) Sb.out (tab_below HTB.out hb1)
 rw [H2.out] at hcb
 have HCB := Lib.hid hcb
 clear hb1 HCA hcb
 go_wp2_with fail
 refine HCB.out.mono ?_
 rintro e w2 ⟨rfl, hb2⟩
 have HB2 := Lib.hid (HB1.out.trans (hb2.mono HB1.out.size))
 have HF := Lib.hid (first_any [0, 0] 2 (some ⟨w2.heap.size, 0, none⟩) 2 (w2.alloc (.cells #[I (0), I (0)] errT)) (reads_e2 w2 errT _ _) (by omega))
 have HB3 := Lib.hid (HB2.out.alloc HB2.out.size (.cells #[I (0), I (0)] errT))
 unfold errT at *
 clear hb2 HB1 HB2 HCB
 rw [show firstE [0, 0] = 0 from rfl] at HF
 go_wp2_with fail
 refine HF.out.mono ?_
 rintro e w3 ⟨rfl, rfl⟩
 generalize w2.alloc (.cells #[I 0, I 0] 33) = w3 at *
 clear HF
 have HW := Lib.hid (width_any a na Aa ca w3 (Ha.out.below HB3.out))
 by_cases h0 : 0 < na
 ·have t0 : decide (0 < na) = true := decide_eq_true h0
  by_cases hw : wd (tx2 a) = nb
  ·have tw : ((wd (tx2 a) : Int) != (nb : Int)) = false := by rw [hw]; simp
   have HRES := Lib.hid (show applyM (tx2 a) (tx1 b) = txV ((valsM (tx2 a)).map fun r => dotQ r (valsV (tx1 b))) by
    unfold applyM
    rw [H1.out, H2.out, if_neg (by decide), if_neg (by decide), if_neg (by rw [LA.out, LB.out]; exact fun h => h.2 hw)])
   have HQL := Lib.hid (show ∀ r ∈ valsM (tx2 a), r.length ≤ nb from fun r hr => by rw [VA.out.vals.row r hr]; omega)
   clear hw
   generalize hwe : wd (tx2 a) = wa at *
   clear hwe
   go_wp2_with fail
   refine HW.out.mono ?_
   rintro e w4 ⟨rfl, rfl⟩
   clear HW
   have HP := Lib.hid (parseAll_any b nb Ab cb w4 (Hb.out.below HB3.out) Sb.out (val1_of H2.out) (by omega))
   go_wp2_with fail
   refine HP.out.mono ?_
   rintro e wv ⟨v, rfl, hv, hb⟩
   have HB4 := Lib.hid (HB3.out.trans (hb.mono HB3.out.size))
   have HV := Lib.hid hv
   have HM := Lib.hid (values_any a na Aa ca wv (Ha.out.below HB4.out) Sa.out (val2_of VA.out) (by omega))
   clear hv hb HP HB3
   go_wp2_with fail
   refine HM.out.mono ?_
   rintro e w5 ⟨vx, xs, rfl, hx, hb⟩
   have HB5 := Lib.hid (HB4.out.trans (hb.mono HB4.out.size))
   have hv5 := HV.out.call hb
   obtain ⟨A1, c1, rfl⟩ := hv5.val
   obtain ⟨Ax, cx, rfl⟩ := hx.val
   have l1 : (valsV (tx1 b)).length = nb := by rw [valsV, List.length_map, LB.out]
   have l2 : (valsM (tx2 a)).length = na := by rw [valsM, List.length_map, LA.out]
   have hr := hv5.rv
   rw [l1] at hr ⊢
   rw [l2] at hx ⊢
   have RV5 := Lib.hid hr
   have RM5 := Lib.hid hx.rm
   have FB := Lib.hid (fit1_of H2.out)
   have FA := Lib.hid (fit_vals2 VA.out)
   have RA := Lib.hid (show Rect (valsM (tx2 a)) na wa from ⟨l2, VA.out.vals.row⟩)
   clear hb hv5 hx HV HM HB4 l1 l2 hr H1 H2 VA Ha Hb Sa Sb LA LB
   generalize hye : valsV (tx1 b) = y at *
   generalize hxe : valsM (tx2 a) = x at *
   have HR2 := Lib.hid (show applyM (tx2 a) (tx1 b) = txV (x.map fun r => dotQ r y) from HRES.out)
   clear hye hxe HRES
   go_wp2
   go_loopg [8, 35] (na - 0) (fun r o v wr => ∃ i : Nat, r = na - i ∧ v = I i ∧ i ≤ na ∧ Hid (RRow wr w5.heap.size o ((x.map fun r => dotQ r y).take i)) ∧ Hid (Below w5.heap.size w5 wr))
   case atStart => exact ⟨0, rfl, rfl, by omega, RRow.nil _ _, Below.refl _ _⟩
   case round =>
    obtain ⟨i, rfl, rfl, hi, HP, HB⟩ := hrel
    obtain ⟨wa, rfl⟩ : ∃ wa : World, wa = wr := ⟨_, rfl⟩
    by_cases hlt : i < na
    ·obtain ⟨q, hq⟩ : ∃ q, x[i]? = some q := ⟨_, List.getElem?_eq_getElem (by rw [RA.out.len]; exact hlt)⟩
     obtain ⟨b1, o1, B1, c2, rfl, _, hc, hrq⟩ := (RM5.out.below HB.out).at_ hlt q hq
     have hql : q.length ≤ nb := HQL.out q (List.mem_of_getElem? hq)
     have hqf : Fit1 q := FA.out q (List.mem_of_getElem? hq)
     have HD := Lib.hid (dot_any q y q.length B1 A1 c2 nb c1 wa hrq (RV5.out.below HB.out) hql (by omega) (N := 17000) (by decide) (dotFit40 (by omega) hqf FB.out))
     have HX := Lib.hid (show ((x.map fun r => dotQ r y).take (i + 1)) = ((x.map fun r => dotQ r y).take i) ++ [dotQ q y] by rw [List.take_add_one, List.getElem?_map, hq]; rfl)
     have HLL := Lib.hid (show ((x.map fun r => dotQ r y).take i).length ≤ 1000000 by rw [List.length_take]; omega)
     clear hq hrq hql hqf
     go_wp2_with fail
     refine HD.out.mono ?_
     rintro e w6 ⟨v3, rfl, hv3, hb⟩
     obtain ⟨tb, t1, t2, t3, t4, t5, t6, rfl⟩ := hv3.bools
     have hb3 := below_new w6 (.cells #[.bool tb, .slice t1 t2 t3, .bool false, .slice t4 t5 t6] ratT)
     have HB6 := Lib.hid ((HB.out.trans (hb.mono HB.out.size)).trans (hb3.mono (HB.out.trans (hb.mono HB.out.size)).size))
     have HR6 := Lib.hid ((HP.out.call hb).call hb3)
     have HV6 := Lib.hid (hv3.ext hb3)
     have HBK := Lib.hid (Blk.new w6 ratT #[.bool tb, .slice t1 t2 t3, .bool false, .slice t4 t5 t6])
     unfold ratT at *
     clear hb hb3 hv3 HD HP HB hc
     go_wp2_with (at_builtin; refine wpList_app1 rfl _ _ rfl w5.heap.size _ _ rfl HR6.out w6.heap.size rfl HBK.out HV6.out HLL.out HB6.out.size ?_)
     intro v7 w7 hap
     have HN := Lib.hid (show RRow w7 w5.heap.size v7 ((x.map fun r => dotQ r y).take (i + 1)) by rw [HX.out]; exact hap.row)
     have HB7 := Lib.hid (HB6.out.trans (hap.below HR6.out HB6.out.size))
     obtain ⟨A7, c7, rfl⟩ := hap.row.val
     generalize (((x.map fun r => dotQ r y).take i) ++ [dotQ q y]).length = l7 at *
     clear hap HR6 HB6 HBK HV6 HX HLL
     go_wp2
     go_roundg (na - (i + 1))
     case measure => omega
     case rel => exact ⟨i + 1, rfl, by go_num, by omega, HN, HB7⟩
    ·have hin : i = na := by omega
     subst hin
     have hr := HP.out
     rw [List.take_of_length_le (by rw [List.length_map, RA.out.len]; omega)] at hr
     obtain ⟨A7, c7, rfl⟩ := hr.val
     have hll : (x.map fun r => dotQ r y).length = i := by rw [List.length_map, RA.out.len]
     have hrv := hr.rv
     rw [hll] at hrv ⊢
     have HBT := Lib.hid (HB5.out.trans (HB.out.mono HB5.out.size))
     have HT := Lib.hid (textVec_any _ i A7 c7 wa hrv (by omega) (tab_below HTB.out HBT.out))
     clear hr hrv hll HP HB
     go_wp2_with fail
     refine HT.out.mono ?_
     rintro e w9 ⟨v9, rfl, k1, k2, hb⟩
     have HBF := Lib.hid (HBT.out.trans (hb.mono HBT.out.size))
     have HQ : Hid (RetVT w (applyM (tx2 a) (tx1 b)) (.returned (.tuple #[v9, I (txV (x.map fun r => dotQ r y)).2])) w9) := by
      cases hf : (x.map fun r => dotQ r y).all fitQ with
      | true =>
       have hrow := k1 hf
       obtain ⟨A9, c9, rfl⟩ := hrow.val
       refine ⟨A9, _, c9, mkS ((x.map fun r => dotQ r y).map qText), by rw [HR2.out], hrow.reads, ?_, sh_mk hf, HBF.out⟩
       rw [HR2.out, txV, if_pos hf, tx_mk]
      | false =>
       obtain rfl := k2 hf
       have he : txV (x.map fun r => dotQ r y) = ([], 2) := by rw [txV, if_neg (by simp [hf])]
       rw [he]
       exact RetVT.none_ (by rw [HR2.out, he]) HBF.out
     clear k1 k2 hb HT HBT HBF
     go_wp2
     go_ret2
     exact HQ.out
  ·have tw : ((wd (tx2 a) : Int) != (nb : Int)) = true := bne_iff_ne.2 (by omega)
   have HQ := Lib.hid (RetVT.none_ (w := w) (c := 3) (r := applyM (tx2 a) (tx1 b)) (by
    unfold applyM
    rw [H1.out, H2.out, if_neg (by decide), if_neg (by decide), if_pos (by rw [LA.out, LB.out]; exact ⟨h0, hw⟩)]) HB3.out)
   clear hw
   generalize wd (tx2 a) = wa at *
   go_wp2_with fail
   refine HW.out.mono ?_
   rintro e w4 ⟨rfl, rfl⟩
   clear HW
   go_wp2
   go_ret2
   exact HQ.out
 ·have t0 : decide (0 < na) = false := decide_eq_false h0
  have HRES := Lib.hid (show applyM (tx2 a) (tx1 b) = txV ((valsM (tx2 a)).map fun r => dotQ r (valsV (tx1 b))) by
   unfold applyM
   rw [H1.out, H2.out, if_neg (by decide), if_neg (by decide), if_neg (by rw [LA.out, LB.out]; exact fun h => h0 h.1)])
  have HQL := Lib.hid (show ∀ r ∈ valsM (tx2 a), r.length ≤ nb from fun r hr => by
   rw [List.eq_nil_of_length_eq_zero (LA.out.trans (by omega))] at hr
   cases hr)
  have HP := Lib.hid (parseAll_any b nb Ab cb w3 (Hb.out.below HB3.out) Sb.out (val1_of H2.out) (by omega))
  go_wp2_with fail
  refine HP.out.mono ?_
  rintro e w4 ⟨v, rfl, hv, hb⟩
  have HB4 := Lib.hid (HB3.out.trans (hb.mono HB3.out.size))
  have HV := Lib.hid hv
  have HM := Lib.hid (values_any a na Aa ca w4 (Ha.out.below HB4.out) Sa.out (val2_of VA.out) (by omega))
  clear hv hb HP HB3
  go_wp2_with fail
  refine HM.out.mono ?_
  rintro e w5 ⟨vx, xs, rfl, hx, hb⟩
  have HB5 := Lib.hid (HB4.out.trans (hb.mono HB4.out.size))
  have hv5 := HV.out.call hb
  obtain ⟨A1, c1, rfl⟩ := hv5.val
  obtain ⟨Ax, cx, rfl⟩ := hx.val
  have l1 : (valsV (tx1 b)).length = nb := by rw [valsV, List.length_map, LB.out]
  have l2 : (valsM (tx2 a)).length = na := by rw [valsM, List.length_map, LA.out]
  have hr := hv5.rv
  rw [l1] at hr ⊢
  rw [l2] at hx ⊢
  have RV5 := Lib.hid hr
  have RM5 := Lib.hid hx.rm
  have FB := Lib.hid (fit1_of H2.out)
  have FA := Lib.hid (fit_vals2 VA.out)
  have RA := Lib.hid (show Rect (valsM (tx2 a)) na (wd (tx2 a)) from ⟨l2, VA.out.vals.row⟩)
  clear hb hv5 hx HV HM HB4 l1 l2 hr H1 H2 VA Ha Hb Sa Sb LA LB
  generalize hye : valsV (tx1 b) = y at *
  generalize hxe : valsM (tx2 a) = x at *
  have HR2 := Lib.hid (show applyM (tx2 a) (tx1 b) = txV (x.map fun r => dotQ r y) from HRES.out)
  clear hye hxe HRES
  go_wp2
  clear t0 h0
  go_loopg [8, 35] (na - 0) (fun r o v wr => ∃ i : Nat, r = na - i ∧ v = I i ∧ i ≤ na ∧ Hid (RRow wr w5.heap.size o ((x.map fun r => dotQ r y).take i)) ∧ Hid (Below w5.heap.size w5 wr))
  case atStart => exact ⟨0, rfl, rfl, by omega, RRow.nil _ _, Below.refl _ _⟩
  case round =>
   obtain ⟨i, rfl, rfl, hi, HP, HB⟩ := hrel
   obtain ⟨wa, rfl⟩ : ∃ wa : World, wa = wr := ⟨_, rfl⟩
   by_cases hlt : i < na
   ·obtain ⟨q, hq⟩ : ∃ q, x[i]? = some q := ⟨_, List.getElem?_eq_getElem (by rw [RA.out.len]; exact hlt)⟩
    obtain ⟨b1, o1, B1, c2, rfl, _, hc, hrq⟩ := (RM5.out.below HB.out).at_ hlt q hq
    have hql : q.length ≤ nb := HQL.out q (List.mem_of_getElem? hq)
    have hqf : Fit1 q := FA.out q (List.mem_of_getElem? hq)
    have HD := Lib.hid (dot_any q y q.length B1 A1 c2 nb c1 wa hrq (RV5.out.below HB.out) hql (by omega) (N := 17000) (by decide) (dotFit40 (by omega) hqf FB.out))
    have HX := Lib.hid (show ((x.map fun r => dotQ r y).take (i + 1)) = ((x.map fun r => dotQ r y).take i) ++ [dotQ q y] by rw [List.take_add_one, List.getElem?_map, hq]; rfl)
    have HLL := Lib.hid (show ((x.map fun r => dotQ r y).take i).length ≤ 1000000 by rw [List.length_take]; omega)
    clear hq hrq hql hqf
    go_wp2_with fail
    refine HD.out.mono ?_
    rintro e w6 ⟨v3, rfl, hv3, hb⟩
    obtain ⟨tb, t1, t2, t3, t4, t5, t6, rfl⟩ := hv3.bools
    have hb3 := below_new w6 (.cells #[.bool tb, .slice t1 t2 t3, .bool false, .slice t4 t5 t6] ratT)
    have HB6 := Lib.hid ((HB.out.trans (hb.mono HB.out.size)).trans (hb3.mono (HB.out.trans (hb.mono HB.out.size)).size))
    have HR6 := Lib.hid ((HP.out.call hb).call hb3)
    have HV6 := Lib.hid (hv3.ext hb3)
    have HBK := Lib.hid (Blk.new w6 ratT #[.bool tb, .slice t1 t2 t3, .bool false, .slice t4 t5 t6])
    unfold ratT at *
    clear hb hb3 hv3 HD HP HB hc
    go_wp2_with (at_builtin; refine wpList_app1 rfl _ _ rfl w5.heap.size _ _ rfl HR6.out w6.heap.size rfl HBK.out HV6.out HLL.out HB6.out.size ?_)
    intro v7 w7 hap
    have HN := Lib.hid (show RRow w7 w5.heap.size v7 ((x.map fun r => dotQ r y).take (i + 1)) by rw [HX.out]; exact hap.row)
    have HB7 := Lib.hid (HB6.out.trans (hap.below HR6.out HB6.out.size))
    obtain ⟨A7, c7, rfl⟩ := hap.row.val
    generalize (((x.map fun r => dotQ r y).take i) ++ [dotQ q y]).length = l7 at *
    clear hap HR6 HB6 HBK HV6 HX HLL
    go_wp2
    go_roundg (na - (i + 1))
    case measure => omega
    case rel => exact ⟨i + 1, rfl, by go_num, by omega, HN, HB7⟩
   ·have hin : i = na := by omega
    subst hin
    have hr := HP.out
    rw [List.take_of_length_le (by rw [List.length_map, RA.out.len]; omega)] at hr
    obtain ⟨A7, c7, rfl⟩ := hr.val
    have hll : (x.map fun r => dotQ r y).length = i := by rw [List.length_map, RA.out.len]
    have hrv := hr.rv
    rw [hll] at hrv ⊢
    have HBT := Lib.hid (HB5.out.trans (HB.out.mono HB5.out.size))
    have HT := Lib.hid (textVec_any _ i A7 c7 wa hrv (by omega) (tab_below HTB.out HBT.out))
    clear hr hrv hll HP HB
    go_wp2_with fail
    refine HT.out.mono ?_
    rintro e w9 ⟨v9, rfl, k1, k2, hb⟩
    have HBF := Lib.hid (HBT.out.trans (hb.mono HBT.out.size))
    have HQ : Hid (RetVT w (applyM (tx2 a) (tx1 b)) (.returned (.tuple #[v9, I (txV (x.map fun r => dotQ r y)).2])) w9) := by
     cases hf : (x.map fun r => dotQ r y).all fitQ with
     | true =>
      have hrow := k1 hf
      obtain ⟨A9, c9, rfl⟩ := hrow.val
      refine ⟨A9, _, c9, mkS ((x.map fun r => dotQ r y).map qText), by rw [HR2.out], hrow.reads, ?_, sh_mk hf, HBF.out⟩
      rw [HR2.out, txV, if_pos hf, tx_mk]
     | false =>
      obtain rfl := k2 hf
      have he : txV (x.map fun r => dotQ r y) = ([], 2) := by rw [txV, if_neg (by simp [hf])]
      rw [he]
      exact RetVT.none_ (by rw [HR2.out, he]) HBF.out
    clear k1 k2 hb HT HBT HBF
    go_wp2
    go_ret2
    exact HQ.out
theorem applyM_any (a : List (List ByteArray)) (na : Nat) (Aa : Option Addr) (ca : Nat) (b : List ByteArray) (nb : Nat) (Ab : Option Addr) (cb : Nat) (w : World) (ha : SMat w Aa na a) (sa : Sh2 a) (hb : SV w Ab nb b) (sb : Sh1 b) (htab : Tab w) :
  Calls Tryz.prog 16 #[.slice Aa na ca, .slice Ab nb cb] w (RetVT w (applyM (tx2 a) (tx1 b))) := by
 by_cases h : firstE [chkM (tx2 a), chkV (tx1 b)] = 0
 ·obtain ⟨h1, h2⟩ := first_zero h
  exact apply_good a na Aa ca b nb Ab cb w ha sa hb sb htab h1 h2
 ·exact apply_bad a na Aa ca b nb Ab cb w ha sa hb sb htab h
end Go.Proofs.YtcgfdfdcbamceaaGreatDoor
namespace Go.Proofs.YtcgfdfdcbamceaaGreatDoor
theorem dot_szZ {r x : List Rat} (hl : r.length ≤ 6) (hr : ∀ q ∈ r, SzQ q 12) (hx : ∀ q ∈ x, SzQ q 12) : SzQ (dotQ r x) 971 := by
 have z : SzQ 0 12 := szQ_zeroZ (by decide)
 have h := SzQ.sum (k := 24) (f := fun i => r.getD i 0 * x.getD i 0) r.length fun i _ => (getD_all (P := fun q => SzQ q 12) z hr i).mul (getD_all (P := fun q => SzQ q 12) z hx i) (by decide)
 exact h.mono (by have := Nat.mul_le_mul_right 25 hl; omega)
theorem cmp_txZ {q r : Rat} {t u : List UInt8} (ht : rchk t = 0) (hu : rchk u = 0) (et : rval t = q) (eu : rval u = r) : ratCmp t u = (cmpQ q r, 0) := by
 rw [ratCmp, if_pos (rAll_all (by simp [ht, hu])), et, eu]
theorem back_txZ {q : Rat} (h : SzQ q 971) : rchk (qText q) = 0 ∧ rval (qText q) = q := qText_ok q (h.fit (by decide) (by decide))
section
variable {a : MT} {b c x : List (List UInt8)} {m n : Nat}
theorem apply_eqZ (hc : chkP a b c = 0) (hp : ProbQ (valsM a) (valsV b) (valsV c) m n) (hs : ShortQ (valsM a) (valsV b) (valsV c)) (hn : n ≤ 6) (hx : chkV x = 0) (hl : x.length = c.length) (hxs : ∀ q ∈ valsV x, SzQ q 12) :
  applyM a x = (((valsM a).map fun r => dotQ r (valsV x)).map qText, 0) ∧ ∀ q ∈ (valsM a).map fun r => dotQ r (valsV x), SzQ q 971 := by
 obtain ⟨c1, c2, c3, c4, c5⟩ := chkP_ok hc
 have hz : ∀ q ∈ (valsM a).map fun r => dotQ r (valsV x), SzQ q 971 := fun q hq => by
  obtain ⟨r, hr, rfl⟩ := List.mem_map.1 hq
  exact dot_szZ (by have := hp.row r hr; omega) (hs.ma r hr) hxs
 refine ⟨?_, hz⟩
 rw [applyM, if_neg (fun k => k c1), if_neg (fun k => k hx), if_neg (fun k => k.2 (by rw [hl]; exact c5 k.1)), txV, if_pos (List.all_eq_true.2 fun q hq => (hz q hq).fit (by decide) (by decide))]
theorem dot_eqZ (hc : chkP a b c = 0) (hp : ProbQ (valsM a) (valsV b) (valsV c) m n) (hs : ShortQ (valsM a) (valsV b) (valsV c)) (hn : n ≤ 6) (hx : chkV x = 0) (hl : x.length = c.length) (hxs : ∀ q ∈ valsV x, SzQ q 12) :
  dotM c x = (qText (dotQ (valsV c) (valsV x)), 0) ∧ SzQ (dotQ (valsV c) (valsV x)) 971 := by
 obtain ⟨c1, c2, c3, c4, c5⟩ := chkP_ok hc
 have hz : SzQ (dotQ (valsV c) (valsV x)) 971 := dot_szZ (by have := hp.lc; omega) hs.vc hxs
 refine ⟨?_, hz⟩
 rw [dotM, if_neg (fun k => k c3), if_neg (fun k => k hx), if_neg (fun k => k hl.symm), ratTx, if_pos (hz.fit (by decide) (by decide))]
end
section
variable {a : List (List Rat)} {b c x : List Rat} {m n : Nat} {s : SolvedQ}
theorem bounds_fin (hp : ProbQ a b c m n) (hr : ResQ m n a b c s) (hx : ∀ k, k < n → 0 ≤ x.getD k 0) (hf : ∀ i, i < m → dotQ (a.getD i []) x ≤ b.getD i 0) : (s.kind = 0 ∧ dotQ c x ≤ s.value) ∨ s.kind = 2 := by
 have hf2 : ∀ i, i < m → (sm n fun k => ent a i k * x.getD k 0) ≤ b.getD i 0 := fun i hi => by
  have := hf i hi
  rwa [dot_row hp hi] at this
 cases hr with
 | best y z v hy hz h =>
  refine Or.inl ⟨rfl, ?_⟩
  have h1 := weak hx h.yn hf2 h.mix
  rw [h.vy] at h1
  rw [dotQ, hp.lc]
  exact h1
 | none y hy h => exact absurd (h.no hx hf2) id
 | free y r hy hr h => exact Or.inr rfl
end
end Go.Proofs.YtcgfdfdcbamceaaGreatDoor
namespace Go.Proofs.YtcgfdfdcbamceaaGreatDoor
open Go.RowKit
theorem SV.at_ {w : World} {A : Option Addr} {n : Nat} {l : List ByteArray} (h : SV w A n l) {k : Nat} (hk : k < n) {q : ByteArray} (hq : l[k]? = some q) : ∃ b off, A = some ⟨b, off, none⟩ ∧ w.cell? ⟨b, off + k, none⟩ = some (.string q) := by
 obtain ⟨b, off, u, rfl, _, hu, hc⟩ := Reads.at1 h hk
 rw [List.getElem?_map, hq] at hu
 have hu := Option.some.inj hu
 subst hu
 exact ⟨b, off, rfl, hc⟩
theorem trip_sm {w : World} {Ab Ac Ax : Option Addr} {nb cb nc cc nx cx : Nat} {lb lc lx : List ByteArray} (hb : Reads w w.heap.size 1 Ab nb (lb.map Sv)) (hc : Reads w w.heap.size 1 Ac nc (lc.map Sv)) (hx : Reads w w.heap.size 1 Ax nx (lx.map Sv)) : SMat (w.alloc (.cells #[.slice Ab nb cb, .slice Ac nc cc, .slice Ax nx cx] 25)) (some ⟨w.heap.size, 0, none⟩) 3 [lb, lc, lx] := by
 have hz := below_new w (.cells #[.slice Ab nb cb, .slice Ac nc cc, .slice Ax nx cx] 25)
 have l1 : lb.length = nb := by have := hb.1; rw [List.length_map] at this; omega
 have l2 : lc.length = nc := by have := hc.1; rw [List.length_map] at this; omega
 have l3 : lx.length = nx := by have := hx.1; rw [List.length_map] at this; omega
 refine ⟨[.slice Ab nb cb, .slice Ac nc cc, .slice Ax nx cx], reads_blk (Blk.new w _ #[.slice Ab nb cb, .slice Ac nc cc, .slice Ax nx cx]), rfl, fun i u l h1 h2 => ?_⟩
 match i, h1, h2 with
 | 0, h1, h2 =>
  injection h1 with h1
  injection h2 with h2
  subst h1 h2 l1
  exact ⟨Ab, cb, rfl, (hb.below hz).more hz.size⟩
 | 1, h1, h2 =>
  injection h1 with h1
  injection h2 with h2
  subst h1 h2 l2
  exact ⟨Ac, cc, rfl, (hc.below hz).more hz.size⟩
 | 2, h1, h2 =>
  injection h1 with h1
  injection h2 with h2
  subst h1 h2 l3
  exact ⟨Ax, cx, rfl, (hx.below hz).more hz.size⟩
theorem small_trip {N : Nat} {m : List (List ByteArray)} {lb lc lx : List ByteArray} (h : (!([m, [lb, lc, lx]] : List (List (List ByteArray))).any (lgM N)) = true) : smallB N (tx2 m) = true ∧ smallB N [tx1 lb, tx1 lc] = true ∧ smallB N [tx1 lx] = true := by
 have h0 := h
 rw [Bool.not_eq_true', List.any_cons, List.any_cons, List.any_nil, Bool.or_false, Bool.or_eq_false_iff] at h
 have h3 : smallB N [tx1 lb, tx1 lc, tx1 lx] = true := by rw [show ([tx1 lb, tx1 lc, tx1 lx] : MT) = tx2 [lb, lc, lx] from rfl, smallB_lg, h.2]; rfl
 have h1 : smallB N (tx2 m) = true := by rw [smallB_lg, h.1]; rfl
 unfold smallB at h3 ⊢
 rw [Bool.and_eq_true, decide_eq_true_iff, List.all_cons, List.all_cons, List.all_cons, List.all_nil] at h3
 simp only [Bool.and_eq_true, Bool.and_true] at h3
 obtain ⟨g0, g1, g2, g3⟩ := h3
 have g0' : 3 ≤ N := g0
 refine ⟨h1, ?_, ?_⟩
 ·rw [List.all_cons, List.all_cons, List.all_nil, decide_eq_true (show ([tx1 lb, tx1 lc] : MT).length ≤ N by show 2 ≤ N; omega)]
  simp only [Bool.and_eq_true, Bool.and_true]
  exact ⟨trivial, g1, g2⟩
 ·rw [List.all_cons, List.all_nil, decide_eq_true (show ([tx1 lx] : MT).length ≤ N by show 1 ≤ N; omega)]
  simp only [Bool.and_eq_true, Bool.and_true]
  exact ⟨trivial, g3⟩
structure BndZ (m : List (List ByteArray)) (lb lc lx : List ByteArray) (s : SolvedQ) (na nc : Nat) (Y : List Rat) (d : Rat) : Prop where
 ap : applyM (tx2 m) (tx1 lx) = (Y.map qText, 0)
 dt : dotM (tx1 lc) (tx1 lx) = (qText d, 0)
 ly : Y.length = na
 cm : ∀ (i : Nat) (t : ByteArray), lb[i]? = some t → i < na → ratCmp (qText (Y.getD i 0)) (SL t) = (cmpQ (Y.getD i 0) (rval (SL t)), 0)
 sg : ∀ (i : Nat) (t : ByteArray), lx[i]? = some t → ratCmp (SL t) [48] = (cmpQ (rval (SL t)) 0, 0)
 dl : (qText d).length ≤ 4002
 vn : (resTx s).value.length ≤ 4002
 vl : s.kind = 0 → ratCmp (qText d) (resTx s).value = (cmpQ d s.value, 0)
 fin : (∀ (i : Nat) (t : ByteArray), lb[i]? = some t → i < na → Y.getD i 0 ≤ rval (SL t)) → (∀ (i : Nat) (t : ByteArray), lx[i]? = some t → 0 ≤ rval (SL t)) → (s.kind = 0 ∧ d ≤ s.value) ∨ s.kind = 2
theorem bndZ {m : List (List ByteArray)} {lb lc lx : List ByteArray} (hc : chkP (tx2 m) (tx1 lb) (tx1 lc) = 0) (hp : ProbQ (valsM (tx2 m)) (valsV (tx1 lb)) (valsV (tx1 lc)) m.length lc.length) (hs : ShortQ (valsM (tx2 m)) (valsV (tx1 lb)) (valsV (tx1 lc))) (hm : m.length ≤ 6) (hn : lc.length ≤ 6) (hx : chkV (tx1 lx) = 0) (hl : lx.length = lc.length) (h3 : smallB 5 [tx1 lx] = true) :
  BndZ m lb lc lx (solveQ (valsM (tx2 m)) (valsV (tx1 lb)) (valsV (tx1 lc))) m.length lc.length ((valsM (tx2 m)).map fun r => dotQ r (valsV (tx1 lx))) (dotQ (valsV (tx1 lc)) (valsV (tx1 lx))) := by
 have hll : (tx1 lx).length = (tx1 lc).length := by rw [tx1, tx1, List.length_map, List.length_map, hl]
 have hxo := chkV_ok hx
 have hxs : ∀ q ∈ valsV (tx1 lx), SzQ q 12 := small_sz h3 (fun r hr s hs => by
  rw [List.mem_singleton.1 hr] at hs
  exact hxo.2 s hs) _ (by simp [valsM])
 obtain ⟨a1, a2⟩ := apply_eqZ hc hp hs hn hx hll hxs
 obtain ⟨d1, d2⟩ := dot_eqZ hc hp hs hn hx hll hxs
 have hz := sol_sz hp hs hm hn
 have hr := solve_law hp
 obtain ⟨c1, c2, c3, c4, c5⟩ := chkP_ok hc
 have hb := chkV_ok c2
 have hYl : ((valsM (tx2 m)).map fun r => dotQ r (valsV (tx1 lx))).length = m.length := by rw [List.length_map, hp.len]
 have hYz : ∀ i, SzQ (((valsM (tx2 m)).map fun r => dotQ r (valsV (tx1 lx))).getD i 0) 971 := getD_all (P := fun q => SzQ q 971) (szQ_zeroZ (by decide)) a2
 have gx : ∀ (l : List ByteArray) (i : Nat) (t : ByteArray), l[i]? = some t → SL t ∈ tx1 l ∧ (valsV (tx1 l)).getD i 0 = rval (SL t) := fun l i t h => by
  refine ⟨List.mem_map.2 ⟨t, List.mem_of_getElem? h, rfl⟩, ?_⟩
  rw [valsV, tx1, List.getD_eq_getElem?_getD, List.getElem?_map, List.getElem?_map, h]
  rfl
 refine ⟨a1, d1, hYl, fun i t ht hi => ?_, fun i t ht => ?_, qTextLen (d2.fit (by decide) (by decide)), (val_tx hz (fitS_of hp hs hm hn)).1, fun hk => ?_, fun h1 h2 => ?_⟩
 ·have k := back_txZ (hYz i)
  exact cmp_txZ k.1 (hb.2 _ (gx lb i t ht).1) k.2 rfl
 ·exact cmp_txZ (hxo.2 _ (gx lx i t ht).1) (by decide) rfl (by decide +kernel)
 ·have k := back_txZ d2
  have k2 := back_txZ (hz.v hk)
  rw [show (resTx (solveQ (valsM (tx2 m)) (valsV (tx1 lb)) (valsV (tx1 lc)))).value = qText (solveQ (valsM (tx2 m)) (valsV (tx1 lb)) (valsV (tx1 lc))).value from if_pos hk]
  exact cmp_txZ k.1 k2.1 k.2 k2.2
 ·refine bounds_fin hp hr (fun k hk => ?_) (fun i hi => ?_)
  ·obtain ⟨t, ht⟩ : ∃ t, lx[k]? = some t := ⟨_, List.getElem?_eq_getElem (by omega)⟩
   rw [(gx lx k t ht).2]
   exact h2 k t ht
  ·have hlb : lb.length = m.length := by have := hp.lb; rwa [valsV, tx1, List.length_map, List.length_map] at this
   obtain ⟨t, ht⟩ : ∃ t, lb[i]? = some t := ⟨_, List.getElem?_eq_getElem (by omega)⟩
   have h3 := h1 i t ht hi
   rw [(gx lb i t ht).2]
   have h4 : ((valsM (tx2 m)).map fun r => dotQ r (valsV (tx1 lx))).getD i 0 = dotQ ((valsM (tx2 m)).getD i []) (valsV (tx1 lx)) := by
    rw [List.getD_eq_getElem?_getD, List.getElem?_map, List.getD_eq_getElem?_getD, List.getElem?_eq_getElem (show i < (valsM (tx2 m)).length by rw [hp.len]; exact hi)]
    rfl
   rwa [h4] at h3
set_option maxRecDepth 100000 in
set_option maxHeartbeats 20000000 in
theorem simplexBounds_any (A Ab Ac Ax : Option Addr) (na ca nb cb nc cc nx cx : Nat) (m : List (List ByteArray)) (lb lc lx : List ByteArray) (w : World) (h : PrW w A na Ab nb Ac nc m lb lc) (hs : ShP m lb lc) (hx : SV w Ax nx lx) (sx : Sh1 lx) (htab : Tab w) :
  Calls Tryz.prog 5 #[.agg #[.slice A na ca, .slice Ab nb cb, .slice Ac nc cc], .slice Ax nx cx] w fun e w' => e = .returned (.bool true) ∧ Below w.heap.size w w' := by
 have b1 := below_new w (.cells #[.slice A na ca, .slice Ab nb cb, .slice Ac nc cc] 27)
 have HP := Lib.hid (h.below b1)
 have HX := Lib.hid (hx.below b1)
 have SXX := Lib.hid sx
 have HT := Lib.hid (tab_below htab b1)
 have HB1 := Lib.hid b1
 have hB := Blk.new w 27 #[.slice A na ca, .slice Ab nb cb, .slice Ac nc cc]
 have P0 := Lib.hid (show (w.alloc (.cells #[.slice A na ca, .slice Ab nb cb, .slice Ac nc cc] 27)).cell? ⟨w.heap.size, 0, none⟩ = some (.slice A na ca) from hB.cell 0)
 have P1 := Lib.hid (show (w.alloc (.cells #[.slice A na ca, .slice Ab nb cb, .slice Ac nc cc] 27)).cell? ⟨w.heap.size, 1, none⟩ = some (.slice Ab nb cb) from hB.cell 1)
 have P2 := Lib.hid (show (w.alloc (.cells #[.slice A na ca, .slice Ab nb cb, .slice Ac nc cc] 27)).cell? ⟨w.heap.size, 2, none⟩ = some (.slice Ac nc cc) from hB.cell 2)
 have HSH := Lib.hid hs
 have HLN := Lib.hid h.lens
 have HLX := Lib.hid hx.len
 clear b1 hB h hs htab hx sx
 go_enter Tryz.func5, Tryz.ntmps5
 go_upto_region 1 with (fail)
 generalize w.alloc (.cells #[.slice A na ca, .slice Ab nb cb, .slice Ac nc cc] 27) = w1 at *
 have HB := Lib.hid (Below.refl w1.heap.size w1)
 have HC := Lib.hid (simplexFact_any w1 HT.out)
 go_wp2_with fail
 refine HC.out.mono ?_
 rintro e w2 ⟨rfl, hb⟩
 clear HC
 replace HB := Lib.hid (HB.out.trans (hb.mono HB.out.size))
 clear hb
 have x0 := cell_below P0.out HB.out
 have x1 := cell_below P1.out HB.out
 have x2 := cell_below P2.out HB.out
 have hp2 := HP.out.below HB.out
 have hx2 := HX.out.below HB.out
 have hz1 := below_new w2 (.cells #[.slice Ab nb cb, .slice Ac nc cc, .slice Ax nx cx] 25)
 have hz2 := below_new (w2.alloc (.cells #[.slice Ab nb cb, .slice Ac nc cc, .slice Ax nx cx] 25)) (.cells #[.slice A na ca, .slice (some ⟨w2.heap.size, 0, none⟩) 3 3] 23)
 have hsm := pair_sms (c := ca) (d := 3) ((hp2.below hz1).ma) (trip_sm (cb := cb) (cc := cc) (cx := cx) hp2.vb hp2.vc hx2)
 rw [World.size_alloc] at hsm
 have hzz := hz1.trans (hz2.mono hz1.size)
 have HC := Lib.hid (small_any 5 [m, [lb, lc, lx]] 2 (some ⟨w2.heap.size + 1, 0, none⟩) 2 ((w2.alloc (.cells #[.slice Ab nb cb, .slice Ac nc cc, .slice Ax nx cx] 25)).alloc (.cells #[.slice A na ca, .slice (some ⟨w2.heap.size, 0, none⟩) 3 3] 23)) hsm (by decide) (by decide))
 replace HB := Lib.hid (HB.out.trans (hzz.mono HB.out.size))
 clear hp2 hx2 hz1 hz2 hzz hsm
 go_wp2_with fail
 refine HC.out.mono ?_
 rintro e w3 ⟨rfl, hb⟩
 clear HC x0 x1 x2
 replace HB := Lib.hid (HB.out.trans (hb.mono HB.out.size))
 clear hb
 cases hsb : (!([m, [lb, lc, lx]] : List (List (List ByteArray))).any (lgM 5)) with
 | false =>
  go_wp2
  go_ret
  exact ⟨rfl, HB1.out.trans (HB.out.mono HB1.out.size)⟩
 | true =>
  have HS1 := Lib.hid (small_trip hsb)
  clear hsb
  have x0 := cell_below P0.out HB.out
  have x1 := cell_below P1.out HB.out
  have x2 := cell_below P2.out HB.out
  by_cases hxc : nx = nc
  rotate_left
  ·have t1 : ((nx : Int) != nc) = true := bne_iff_ne.2 (by omega)
   go_wp2
   go_ret
   exact ⟨rfl, HB1.out.trans (HB.out.mono HB1.out.size)⟩
  subst hxc
  have t1 : ((nx : Int) != nx) = false := by rw [bne_self_eq_false]
  have HGO := Lib.hid (fun hc => prob_of (N := 5) (by decide) HS1.out.1 HS1.out.2.1 hc)
  have HNA := Lib.hid (show m.length = na ∧ lc.length = nx ∧ lb.length = nb by obtain ⟨h1, h2, h3⟩ := HLN.out; rw [tx2, List.length_map] at h1; rw [tx1, List.length_map] at h2; rw [tx1, List.length_map] at h3; exact ⟨h1, h3, h2⟩)
  have HC := Lib.hid (psolve_any A Ab Ac na ca nb cb nx cc m lb lc w3 (HP.out.below HB.out) HSH.out (tab_below HT.out HB.out) (fun hc => by have h := (HGO.out hc).2.1; rw [HNA.out.1, HNA.out.2.1] at h; exact h))
  go_wp2_with fail
  refine HC.out.mono ?_
  rintro e w4 ⟨v, rfl, hv, hb⟩
  clear HC x0 x1 x2 t1
  replace HB := Lib.hid (HB.out.trans (hb.mono HB.out.size))
  clear hb
  by_cases hc : chkP (tx2 m) (tx1 lb) (tx1 lc) = 0
  rotate_left
  ·have tc : (chkP (tx2 m) (tx1 lb) (tx1 lc) != 0) = true := bne_iff_ne.2 hc
   generalize solP (tx2 m) (tx1 lb) (tx1 lc) = sp at hv
   obtain ⟨X, lx5, cx5, Y, ly5, cy5, R, lr5, cr5, rfl, hX, hY, hR⟩ := hv
   clear hX hY hR HGO hc
   generalize chkP (tx2 m) (tx1 lb) (tx1 lc) = cq at *
   have hz := below_new w4 (.cells #[I sp.kind, .slice X lx5 cx5, .slice Y ly5 cy5, .slice R lr5 cr5, .string ⟨sp.value.toArray⟩] 32)
   have hY5 := Blk.new w4 32 #[I sp.kind, .slice X lx5 cx5, .slice Y ly5 cy5, .slice R lr5 cr5, .string ⟨sp.value.toArray⟩]
   have R0 := Lib.hid (show (w4.alloc (.cells #[I sp.kind, .slice X lx5 cx5, .slice Y ly5 cy5, .slice R lr5 cr5, .string ⟨sp.value.toArray⟩] 32)).cell? ⟨w4.heap.size, 0, none⟩ = some (I sp.kind) from hY5.cell 0)
   have R1 := Lib.hid (show (w4.alloc (.cells #[I sp.kind, .slice X lx5 cx5, .slice Y ly5 cy5, .slice R lr5 cr5, .string ⟨sp.value.toArray⟩] 32)).cell? ⟨w4.heap.size, 1, none⟩ = some (.slice X lx5 cx5) from hY5.cell 1)
   have R2 := Lib.hid (show (w4.alloc (.cells #[I sp.kind, .slice X lx5 cx5, .slice Y ly5 cy5, .slice R lr5 cr5, .string ⟨sp.value.toArray⟩] 32)).cell? ⟨w4.heap.size, 2, none⟩ = some (.slice Y ly5 cy5) from hY5.cell 2)
   have R3 := Lib.hid (show (w4.alloc (.cells #[I sp.kind, .slice X lx5 cx5, .slice Y ly5 cy5, .slice R lr5 cr5, .string ⟨sp.value.toArray⟩] 32)).cell? ⟨w4.heap.size, 3, none⟩ = some (.slice R lr5 cr5) from hY5.cell 3)
   have R4 := Lib.hid (show (w4.alloc (.cells #[I sp.kind, .slice X lx5 cx5, .slice Y ly5 cy5, .slice R lr5 cr5, .string ⟨sp.value.toArray⟩] 32)).cell? ⟨w4.heap.size, 4, none⟩ = some (.string ⟨sp.value.toArray⟩) from hY5.cell 4)
   replace HB := Lib.hid (HB.out.trans (hz.mono HB.out.size))
   clear hz hY5
   go_upto_region 6 with (fail)
   generalize w4.alloc (.cells #[I sp.kind, .slice X lx5 cx5, .slice Y ly5 cy5, .slice R lr5 cr5, .string ⟨sp.value.toArray⟩] 32) = w5 at *
   generalize w4.heap.size = gr at *
   go_wp2
   go_ret
   exact ⟨rfl, HB1.out.trans (HB.out.mono HB1.out.size)⟩
  rw [show solP (tx2 m) (tx1 lb) (tx1 lc) = resTx (solveQ (valsM (tx2 m)) (valsV (tx1 lb)) (valsV (tx1 lc))) from if_pos hc] at hv
  rw [hc]
  have HKY := Lib.hid (fun hx => bndZ hc (HGO.out hc).1 (HGO.out hc).2.2.2.1 (HGO.out hc).2.2.2.2.1 (HGO.out hc).2.2.2.2.2 hx (HLX.out.trans HNA.out.2.1.symm) HS1.out.2.2)
  have HN6 := Lib.hid (show na ≤ 6 ∧ nx ≤ 6 by have h := (HGO.out hc).2.2.2.2; rw [HNA.out.1, HNA.out.2.1] at h; exact h)
  have HLB := Lib.hid (show nb = na by have h := (HGO.out hc).1.lb; rw [valsV, tx1, List.length_map, List.length_map, HNA.out.1, HNA.out.2.2] at h; exact h)
  rw [HNA.out.1, HNA.out.2.1] at HKY
  generalize (valsM (tx2 m)).map (fun r => dotQ r (valsV (tx1 lx))) = YQ at HKY
  generalize dotQ (valsV (tx1 lc)) (valsV (tx1 lx)) = dq at HKY
  generalize solveQ (valsM (tx2 m)) (valsV (tx1 lb)) (valsV (tx1 lc)) = s at *
  clear HGO
  obtain ⟨X, lx5, cx5, Y, ly5, cy5, R, lr5, cr5, rfl, hX, hY, hR⟩ := hv
  clear hX hY hR hc
  have hz := below_new w4 (.cells #[I (resTx s).kind, .slice X lx5 cx5, .slice Y ly5 cy5, .slice R lr5 cr5, .string ⟨(resTx s).value.toArray⟩] 32)
  have hY5 := Blk.new w4 32 #[I (resTx s).kind, .slice X lx5 cx5, .slice Y ly5 cy5, .slice R lr5 cr5, .string ⟨(resTx s).value.toArray⟩]
  have R0 := Lib.hid (show (w4.alloc (.cells #[I (resTx s).kind, .slice X lx5 cx5, .slice Y ly5 cy5, .slice R lr5 cr5, .string ⟨(resTx s).value.toArray⟩] 32)).cell? ⟨w4.heap.size, 0, none⟩ = some (I (resTx s).kind) from hY5.cell 0)
  have R1 := Lib.hid (show (w4.alloc (.cells #[I (resTx s).kind, .slice X lx5 cx5, .slice Y ly5 cy5, .slice R lr5 cr5, .string ⟨(resTx s).value.toArray⟩] 32)).cell? ⟨w4.heap.size, 1, none⟩ = some (.slice X lx5 cx5) from hY5.cell 1)
  have R2 := Lib.hid (show (w4.alloc (.cells #[I (resTx s).kind, .slice X lx5 cx5, .slice Y ly5 cy5, .slice R lr5 cr5, .string ⟨(resTx s).value.toArray⟩] 32)).cell? ⟨w4.heap.size, 2, none⟩ = some (.slice Y ly5 cy5) from hY5.cell 2)
  have R3 := Lib.hid (show (w4.alloc (.cells #[I (resTx s).kind, .slice X lx5 cx5, .slice Y ly5 cy5, .slice R lr5 cr5, .string ⟨(resTx s).value.toArray⟩] 32)).cell? ⟨w4.heap.size, 3, none⟩ = some (.slice R lr5 cr5) from hY5.cell 3)
  have R4 := Lib.hid (show (w4.alloc (.cells #[I (resTx s).kind, .slice X lx5 cx5, .slice Y ly5 cy5, .slice R lr5 cr5, .string ⟨(resTx s).value.toArray⟩] 32)).cell? ⟨w4.heap.size, 4, none⟩ = some (.string ⟨(resTx s).value.toArray⟩) from hY5.cell 4)
  replace HB := Lib.hid (HB.out.trans (hz.mono HB.out.size))
  clear hz hY5
  go_upto_region 6 with (fail)
  generalize w4.alloc (.cells #[I (resTx s).kind, .slice X lx5 cx5, .slice Y ly5 cy5, .slice R lr5 cr5, .string ⟨(resTx s).value.toArray⟩] 32) = w5 at *
  generalize w4.heap.size = gr at *
  have HR0 := Lib.hid (Below.refl w5.heap.size w5)
  have HC := Lib.hid (chkV_any lx nx Ax cx w5 (HX.out.below HB.out) SXX.out (tab_below HT.out HB.out))
  go_wp2_with fail
  refine HC.out.mono ?_
  rintro e w6 ⟨rfl, hb⟩
  clear HC
  replace HR0 := Lib.hid hb
  replace HB := Lib.hid (HB.out.trans (hb.mono HB.out.size))
  clear hb
  by_cases hxv : chkV (tx1 lx) = 0
  rotate_left
  ·have tc : (chkV (tx1 lx) != 0) = true := bne_iff_ne.2 hxv
   clear HKY hxv
   generalize chkV (tx1 lx) = cq at *
   go_wp2
   go_ret
   exact ⟨rfl, HB1.out.trans (HB.out.mono HB1.out.size)⟩
  replace HKY := Lib.hid (HKY.out hxv)
  rw [hxv]
  clear hxv
  have x0 := cell_below P0.out HB.out
  have HC := Lib.hid (applyM_any m na A ca lx nx Ax cx w6 ((HP.out.below HB.out).ma) HSH.out.ma (HX.out.below HB.out) SXX.out (tab_below HT.out HB.out))
  go_wp2_with fail
  refine HC.out.mono ?_
  rintro e w7 ⟨AY, nY, cY, lY, rfl, hsv, htx, hys, hb⟩
  clear HC x0
  rw [HKY.out.ap] at htx ⊢
  have HY := Lib.hid hsv
  have HYL := Lib.hid hsv.len
  have HYT := Lib.hid htx
  have HYS := Lib.hid hys
  clear hsv htx hys
  have hbr := HR0.out.size
  replace HR0 := Lib.hid (HR0.out.trans (hb.mono hbr))
  clear hbr
  replace HB := Lib.hid (HB.out.trans (hb.mono HB.out.size))
  clear hb
  have x2 := cell_below P2.out HB.out
  have HC := Lib.hid (dotM_any lc nx Ac cc lx nx Ax cx w7 (HP.out.below HB.out).vc HSH.out.vc (HX.out.below HB.out) SXX.out (tab_below HT.out HB.out))
  go_wp2_with fail
  refine HC.out.mono ?_
  rintro e w8 ⟨rfl, hb⟩
  clear HC x2
  replace HY := Lib.hid (HY.out.below hb)
  rw [HKY.out.dt]
  have hbr := HR0.out.size
  replace HR0 := Lib.hid (HR0.out.trans (hb.mono hbr))
  clear hbr
  replace HB := Lib.hid (HB.out.trans (hb.mono HB.out.size))
  clear hb
  have HC := Lib.hid (fine_any [0, 0] 2 (some ⟨w8.heap.size, 0, none⟩) 2 (w8.alloc (.cells #[I 0, I 0] 33)) _ (reads_lits w8 _ [I 0, I 0]) (by omega))
  rw [show fineB [0, 0] = true from rfl] at HC
  have hb := below_new w8 (.cells #[I 0, I 0] 33)
  replace HY := Lib.hid (HY.out.below hb)
  have hbr := HR0.out.size
  replace HR0 := Lib.hid (HR0.out.trans (hb.mono hbr))
  clear hbr
  replace HB := Lib.hid (HB.out.trans (hb.mono HB.out.size))
  clear hb
  go_wp2_with fail
  refine HC.out.mono ?_
  rintro e w9 ⟨rfl, rfl⟩
  clear HC
  generalize w8.alloc (.cells #[I 0, I 0] 33) = w9 at *
  have HNY := Lib.hid (show nY = na by have h := congrArg List.length HYT.out; rw [tx1, List.length_map, List.length_map, HYL.out, HKY.out.ly] at h; exact h)
  obtain rfl : nY = na := HNY.out
  obtain rfl : nb = nY := HLB.out
  clear HNY HLB
  have hn61 := HN6.out.1
  have hn62 := HN6.out.2
  have HB0 := Lib.hid (Below.refl w9.heap.size w9)
  go_wp2
  go_loopg [75] (nb - 0) (fun r v wr => ∃ i : Nat, r = nb - i ∧ v = I i ∧ i ≤ nb ∧ Hid (∀ j (t : ByteArray), lb[j]? = some t → j < i → YQ.getD j 0 ≤ rval (SL t)) ∧ Hid (Below w9.heap.size w9 wr))
  case atStart => exact ⟨0, rfl, rfl, by omega, Lib.hid (fun j t _ h => absurd h (by omega)), HB0⟩
  case round =>
   clear HB0
   obtain ⟨i, rfl, rfl, hi, HIN, HB0⟩ := hrel
   obtain ⟨wa, rfl⟩ : ∃ wa : World, wa = wr := ⟨_, rfl⟩
   have HB2 := Lib.hid (HB.out.trans (HB0.out.mono HB.out.size))
   by_cases hlt : i < nb
   ·obtain ⟨q, hq⟩ : ∃ q, lY[i]? = some q := ⟨_, List.getElem?_eq_getElem (by rw [HYL.out]; exact hlt)⟩
    obtain ⟨t, ht⟩ : ∃ t, lb[i]? = some t := ⟨_, List.getElem?_eq_getElem (by rw [HNA.out.2.2]; exact hlt)⟩
    have hqe : SL q = qText (YQ.getD i 0) := by
     have h1 : (tx1 lY)[i]? = some (SL q) := by rw [tx1, List.getElem?_map, hq]; rfl
     rw [HYT.out, List.getElem?_map] at h1
     cases hY : YQ[i]? with
     | none => rw [hY] at h1; cases h1
     | some z => rw [hY] at h1; injection h1 with h1; rw [← h1, List.getD_eq_getElem?_getD, hY]; rfl
    have hcm := HKY.out.cm i t ht hlt
    rw [← hqe] at hcm
    have hqs := HYS.out q (List.mem_of_getElem? hq)
    have hts := HSH.out.vb t (List.mem_of_getElem? ht)
    obtain ⟨b1, o1, e1, hC1⟩ := (HY.out.below HB0.out).at_ hlt hq
    obtain ⟨b2, o2, e2, hC2⟩ := SV.at_ (show SV wa Ab nb lb from (HP.out.below HB2.out).vb) hlt ht
    have x1 := cell_below P1.out HB2.out
    subst e1 e2
    have HC := Lib.hid (ratCmp_any q t wa hqs hts (tab_below HT.out HB2.out))
    rw [hcm] at HC
    have HQT := Lib.hid (show ∀ j (u : ByteArray), lb[j]? = some u → j < i + 1 → j ≠ i → YQ.getD j 0 ≤ rval (SL u) from fun j u h1 h2 h3 => HIN.out j u h1 (by omega))
    have HTT := Lib.hid ht
    clear hq ht hqe hcm hqs hts HIN
    generalize hvq : YQ.getD i 0 = vq at HC
    generalize hvt : rval (SL t) = vt at HC
    have HVQ := Lib.hid hvq
    have HVT := Lib.hid hvt
    clear hvq hvt
    go_wp2_with fail
    refine HC.out.mono ?_
    rintro e wb ⟨rfl, hb⟩
    clear HC hC1 hC2 x1
    have HBN := Lib.hid (HB0.out.trans (hb.mono HB0.out.size))
    have HBF := Lib.hid (HB2.out.trans (hb.mono HB2.out.size))
    clear hb
    have hgt := cmpQ_gtZ (x := vq) (y := vt)
    by_cases hlq : vt < vq
    ·rw [decide_eq_true hlq] at hgt
     go_wp2
     go_ret
     exact ⟨rfl, HB1.out.trans (HBF.out.mono HB1.out.size)⟩
    ·rw [decide_eq_false hlq] at hgt
     have HIN := Lib.hid (show ∀ j (u : ByteArray), lb[j]? = some u → j < i + 1 → YQ.getD j 0 ≤ rval (SL u) from fun j u h1 h2 => by
      by_cases h3 : j = i
      ·subst h3
       have h4 : u = t := by have := HTT.out; rw [h1] at this; injection this
       rw [h4, HVQ.out, HVT.out]
       exact Rat.not_lt.1 hlq
      ·exact HQT.out j u h1 h2 h3)
     clear HQT HTT HVQ HVT hlq
     go_wp2
     go_roundg (nb - (i + 1))
     case measure => omega
     case rel => exact ⟨i + 1, rfl, by go_num, by omega, HIN, HBN⟩
   ·have hin : i = nb := by omega
    subst hin
    have HIN2 := Lib.hid HIN.out
    replace HR0 := Lib.hid (HR0.out.trans (HB0.out.mono HR0.out.size))
    clear HIN HB0 HY HYT HYL HYS hlt hi
    replace HB := HB2
    clear HB2
    have HB0 := Lib.hid (Below.refl wa.heap.size wa)
    go_wp2
    go_loopg [99] (nx - 0) (fun r v wr => ∃ k : Nat, r = nx - k ∧ v = I k ∧ k ≤ nx ∧ Hid (∀ j (t : ByteArray), lx[j]? = some t → j < k → 0 ≤ rval (SL t)) ∧ Hid (Below wa.heap.size wa wr))
    case atStart => exact ⟨0, rfl, rfl, by omega, Lib.hid (fun j t _ h => absurd h (by omega)), HB0⟩
    case round =>
     clear HB0
     obtain ⟨k, rfl, rfl, hk, HIN, HB0⟩ := hrel
     obtain ⟨wc, rfl⟩ : ∃ wc : World, wc = wr := ⟨_, rfl⟩
     have HB2 := Lib.hid (HB.out.trans (HB0.out.mono HB.out.size))
     by_cases hlt : k < nx
     ·obtain ⟨t, ht⟩ : ∃ t, lx[k]? = some t := ⟨_, List.getElem?_eq_getElem (by rw [HLX.out]; exact hlt)⟩
      have hcm := HKY.out.sg k t ht
      have hts := SXX.out t (List.mem_of_getElem? ht)
      obtain ⟨b1, o1, e1, hC1⟩ := (HX.out.below HB2.out).at_ hlt ht
      subst e1
      have HC := Lib.hid (ratSign_any t wc hts (tab_below HT.out HB2.out))
      rw [hcm] at HC
      have HQT := Lib.hid (show ∀ j (u : ByteArray), lx[j]? = some u → j < k + 1 → j ≠ k → 0 ≤ rval (SL u) from fun j u h1 h2 h3 => HIN.out j u h1 (by omega))
      have HTT := Lib.hid ht
      clear ht hcm hts HIN
      generalize hvt : rval (SL t) = vt at HC
      have HVT := Lib.hid hvt
      clear hvt
      go_wp2_with fail
      refine HC.out.mono ?_
      rintro e wd5 ⟨rfl, hb⟩
      clear HC hC1
      have HBN := Lib.hid (HB0.out.trans (hb.mono HB0.out.size))
      have HBF := Lib.hid (HB2.out.trans (hb.mono HB2.out.size))
      clear hb
      have hgt := cmpQ_ltZ (x := vt) (y := 0)
      by_cases hlq : vt < 0
      ·rw [decide_eq_true hlq] at hgt
       go_wp2
       go_ret
       exact ⟨rfl, HB1.out.trans (HBF.out.mono HB1.out.size)⟩
      ·rw [decide_eq_false hlq] at hgt
       have HIN := Lib.hid (show ∀ j (u : ByteArray), lx[j]? = some u → j < k + 1 → 0 ≤ rval (SL u) from fun j u h1 h2 => by
        by_cases h3 : j = k
        ·subst h3
         have h4 : u = t := by have := HTT.out; rw [h1] at this; injection this
         rw [h4, HVT.out]
         exact Rat.not_lt.1 hlq
        ·exact HQT.out j u h1 h2 h3)
       clear HQT HTT HVT hlq
       go_wp2
       go_roundg (nx - (k + 1))
       case measure => omega
       case rel => exact ⟨k + 1, rfl, by go_num, by omega, HIN, HBN⟩
     ·have hin : k = nx := by omega
      subst hin
      have hfin := HKY.out.fin (fun i t h1 h2 => HIN2.out i t h1 h2) (fun i t h => HIN.out i t h (by have h1 := (List.getElem?_eq_some_iff.1 h).1; rw [HLX.out] at h1; exact h1))
      have hvl := HKY.out.vl
      have HVN := Lib.hid HKY.out.vn
      have HDL := Lib.hid HKY.out.dl
      replace HR0 := Lib.hid (HR0.out.trans (HB0.out.mono HR0.out.size))
      replace HB := HB2
      clear HIN HIN2 HKY hlt HB0 HB2
      have r0 := cell_below R0.out HR0.out
      have r4 := cell_below R4.out HR0.out
      rcases hfin with ⟨hk0, hle⟩ | hk2
      ·rw [show (resTx s).kind = 0 from hk0] at r0
       have hvl2 := hvl hk0
       have hgt := cmpQ_gtZ (x := dq) (y := s.value)
       rw [decide_eq_false (Rat.not_lt.2 hle)] at hgt
       have hng := of_decide_eq_false hgt
       have t1 : decide (cmpQ dq s.value ≤ 0) = true := decide_eq_true (by omega)
       have HC := Lib.hid (ratCmp_any ⟨(qText dq).toArray⟩ ⟨(resTx s).value.toArray⟩ wc (by show (qText dq).toArray.size ≤ _; rw [List.size_toArray]; have := HDL.out; omega) (by show (resTx s).value.toArray.size ≤ _; rw [List.size_toArray]; have := HVN.out; omega) (tab_below HT.out HB.out))
       rw [SL_mk, SL_mk, hvl2] at HC
       clear hvl hvl2 hgt hng hle hk0
       generalize cmpQ dq s.value = kk at *
       go_wp2_with fail
       refine HC.out.mono ?_
       rintro e we ⟨rfl, hb⟩
       clear HC r0 r4
       replace HB := Lib.hid (HB.out.trans (hb.mono HB.out.size))
       clear hb
       go_wp2
       go_ret
       exact ⟨rfl, HB1.out.trans (HB.out.mono HB1.out.size)⟩
      ·rw [show (resTx s).kind = 2 from hk2] at r0
       clear hvl
       go_wp2
       go_ret
       exact ⟨rfl, HB1.out.trans (HB.out.mono HB1.out.size)⟩
end Go.Proofs.YtcgfdfdcbamceaaGreatDoor
namespace Go.Proofs.YtcgfdfdcbamceaaGreatDoor
open Go.ChangeShapes Go.WideShapes Go.ChangeAt Go.RowKit Go.ChangeMaps
theorem simplexBounds_door (os : Os) (args : Array Value) : laidMetH Tryz.prog Rows.simplexBoundsRow.laid ((World.doorLaid Tryz.prog 62 os).forCall (fun _ _ => 0) ⟨#[], args, []⟩).memory :=
 laidMetH_of_parts3 (fuel := 8) (laidMet_of_run' 8 (by kernel_rfl) (by kernel_rfl)) (by kernel_rfl) (by kernel_rfl)
set_option linter.unusedVariables false in
set_option maxRecDepth 100000 in
theorem simplexBounds_lifted (os : Os) (started : os.Started) (H : Type) (enc : TypeId × Value → H) :
  ReturnsInHanded {} Tryz.checked os 5 .any (fun w args => (Rows.simplexBoundsSpec.pre enc Tryz.prog Tryz.f5 [] false w args ∧ laidMetH Tryz.prog Rows.simplexBoundsRow.laid w) ∧ sizedMet enc Tryz.prog Tryz.f5 (OpenSpec.ofChange Rows.simplexBoundsSpec) false w args)
   (Rows.simplexBoundsSpec.post enc Tryz.prog Tryz.f5 false true false false) := by
 refine returnsInHanded_of_change_and (C := Tryz.checked) (X := fun w _ => laidMetH Tryz.prog Rows.simplexBoundsRow.laid w) (fun _ _ _ hh h => h.of_heap hh) own started (by kernel_rfl) Tryz.func5
  (ChangeSpec.witness_shaped (enc := enc) (C := Tryz.checked) (os := os) (X := fun w _ => laidMetH Tryz.prog Rows.simplexBoundsRow.laid w) false (World.doorLaid Tryz.prog 62 os) #[.agg #[.slice none 0 0, .slice none 0 0, .slice none 0 0], .slice none 0 0] 8 rfl (World.shaped_of_RefB (by kernel_rfl) (by kernel_rfl)) (by kernel_rfl) (by kernel_rfl) (by kernel_rfl) (simplexBounds_door os _)) ?_
 intro W base args ds gs before hval0 hW _ _ hL _
 have hval : ∀ (j : Nat) t v, Tryz.f5.params[j]? = some t → args[j]? = some v → Value.okWide Tryz.prog W .any base t v := hval0
 have hW' := hW
 obtain ⟨p, q, hA0, hV, rfl, hfz, hnd⟩ := hW
 have hA : DataW.TrodAll enc Tryz.prog W 0 (fun _ => true) true Tryz.f5.params.toList args.toList ds p := hA0
 rw [Tryz.params5] at hA hval
 obtain ⟨v0, vs0, d0, ds0, p0, q0, hargs, rfl, rfl, h0, r0⟩ := trodAll_cons hA
 obtain ⟨v1, vs1, d1, ds1, p1, q1, rfl, rfl, rfl, h1, r1⟩ := trodAll_cons r0
 obtain ⟨rfl, rfl, rfl⟩ := trodAll_nil r1
 obtain rfl : args = #[v0, v1] := by cases args; simp_all
 obtain ⟨rfl, rfl⟩ := trodVars_none hV
 have k0 := h0
 have lt0 : ∀ x ∈ p0, x.block < W.heap.size := by obtain ⟨m, hm⟩ := k0; exact DataW.trod_lt m _ _ _ hm
 obtain ⟨A, Ab, Ac, na, ca, nb, cb, nc, cc, m, lb, lc, rfl, hp0, hs0⟩ := open_prob (hval 0 27 v0 rfl rfl) h0
 have k1 := h1
 have lt1 : ∀ x ∈ p1, x.block < W.heap.size := by obtain ⟨m, hm⟩ := k1; exact DataW.trod_lt m _ _ _ hm
 obtain ⟨a1, len1, cap1, rfl⟩ := okWide_slice Tryz.underlying25 (hval 1 25 v1 rfl rfl)
 obtain ⟨fu1, ho1⟩ := h1
 obtain ⟨m1, A1, c1, e1, hm1, hs1, hl1⟩ := open_vec Tryz.underlying25 (u := .slice a1 len1 cap1) ho1
 injection e1 with ea1 eb1 ec1
 subst ea1 eb1 ec1
 clear hA0 hval0
 refine (simplexBounds_any A Ab Ac _ na ca nb cb nc cc _ _ m lb lc m1 W hp0 hs0 hm1 hs1 (tab_of_laid hL)).mono fun e W' ⟨he, bel⟩ => ?_
 subst he
 exact ⟨_, rfl, _, _, _, [], _, [], hW', trodAll_mk1 (shut_bool Tryz.underlying4 _), (trodAll_cons_mk (Below.trod laidOut (by kernel_rfl) (of_decide_eq_true (by kernel_rfl)) k0 bel lt0) (trodAll_cons_mk (Below.trod laidOut (by kernel_rfl) (of_decide_eq_true (by kernel_rfl)) k1 bel lt1) trodAll_mk0)), rfl, bel.frame _, fun h => by cases h⟩
end Go.Proofs.YtcgfdfdcbamceaaGreatDoor
