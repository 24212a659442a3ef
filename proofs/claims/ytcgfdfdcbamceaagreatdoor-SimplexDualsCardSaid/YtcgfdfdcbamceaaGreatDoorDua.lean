/- SimplexDuals returns true for every input: the dual problem has the opposite value, or one of both has no solution. No conditions. The row's listed variables hold what the program's text lays (the card ties them). -/
import Derived.Test.YtcgfdfdcbamceaaGreatDoorXBZ
import Derived.ShutString
import Derived.ChangeMaps5
namespace Go.Proofs.YtcgfdfdcbamceaaGreatDoor
theorem sk_zero (r : Nat) : sk 0 r = r + 1 := by unfold sk; rw [if_neg (by omega)]
theorem sm_le {f g : Nat → Rat} : ∀ (n : Nat), (∀ i, i < n → f i ≤ g i) → sm n f ≤ sm n g
 | 0, _ => Rat.le_refl
 | n + 1, h => by
  have h1 := sm_le n fun i hi => h i (by omega)
  have h2 := h n (by omega)
  rw [sm, sm]; grind
section
variable {m n : Nat} {A : Nat → Nat → Rat} {B C : Nat → Rat}
theorem mix_le {x y c : Nat → Rat} (hx : ∀ k, k < n → 0 ≤ x k) (hm : ∀ k, k < n → c k ≤ sm m fun i => y i * A i k) : (sm n fun k => c k * x k) ≤ sm m fun i => y i * sm n fun k => A i k * x k := by
 have h1 : (sm n fun k => c k * x k) ≤ sm n fun k => sm m fun i => y i * (A i k * x k) := sm_le n fun k hk => by
  have h2 := Rat.mul_nonneg (show 0 ≤ (sm m fun i => y i * A i k) - c k by have := hm k hk; grind) (hx k hk)
  have h3 : (sm m fun i => y i * (A i k * x k)) = (sm m fun i => y i * A i k) * x k := by
   rw [Rat.mul_comm, ← sm_mul]; exact sm_congr m fun i _ => by grind
  rw [h3]; grind
 rw [sm_comm] at h1
 rw [sm_congr m (g := fun i => sm n fun k => y i * (A i k * x k)) fun i _ => (sm_mul _ _ _).symm]
 exact h1
theorem row_le {x y b : Nat → Rat} (hy : ∀ i, i < m → 0 ≤ y i) (hf : ∀ i, i < m → (sm n fun k => A i k * x k) ≤ b i) : (sm m fun i => y i * sm n fun k => A i k * x k) ≤ sm m fun i => b i * y i := sm_le m fun i hi => by
 have := Rat.mul_nonneg (hy i hi) (show 0 ≤ b i - sm n fun k => A i k * x k by have := hf i hi; grind)
 grind
theorem weak {x y : Nat → Rat} (hx : ∀ k, k < n → 0 ≤ x k) (hy : ∀ i, i < m → 0 ≤ y i) (hf : ∀ i, i < m → (sm n fun k => A i k * x k) ≤ B i) (hm : ∀ k, k < n → C k ≤ sm m fun i => y i * A i k) : (sm n fun k => C k * x k) ≤ sm m fun i => B i * y i :=
 Rat.le_trans (mix_le hx hm) (row_le hy hf)
theorem NoneS.no {x y : Nat → Rat} (h : NoneS m n A B y) (hx : ∀ k, k < n → 0 ≤ x k) (hf : ∀ i, i < m → (sm n fun k => A i k * x k) ≤ B i) : False := by
 have h1 := weak (C := fun _ => 0) hx h.nn hf h.mix
 have h2 := h.neg
 rw [sm_zero n fun k _ => Rat.zero_mul _] at h1
 grind
theorem FreeS.no {x r y : Nat → Rat} (h : FreeS m n A B C x r) (hy : ∀ i, i < m → 0 ≤ y i) (hm : ∀ k, k < n → C k ≤ sm m fun i => y i * A i k) : False := by
 have h1 := weak (B := fun _ => 0) h.rn hy h.ra hm
 have h2 := h.pos
 rw [sm_zero m fun k _ => Rat.zero_mul _] at h1
 grind
end
end Go.Proofs.YtcgfdfdcbamceaaGreatDoor
namespace Go.Proofs.YtcgfdfdcbamceaaGreatDoor
open Go.RowKit
section
variable {w w' : World} {base : Nat} {e e' : TypeId} {sz sz' : Nat} {v u : Value} {n m : Nat} {xs ys : List Value}
theorem Row.apart (h : Row w base e sz v n xs) (hu : Row w base e' sz' u m ys) (hne : e ≠ e') (hg : w.grownBy w' u.ownBlock) : Row w' base e sz v n xs := by
 obtain ⟨h1, h2⟩ := h
 refine ⟨h1, h2.imp id ?_⟩
 rintro ⟨g, off, cap, cur, hv, hb, hh, r⟩
 refine ⟨g, off, cap, cur, hv, hb, (hg.block g hh.lt ?_).trans hh, r⟩
 rcases hu.2 with ⟨rfl, _⟩ | ⟨g', off', cap', cur', rfl, _, hh', _⟩
 ·simp [Value.ownBlock]
 ·intro he
  have hgg : g = g' := by simpa [Value.ownBlock] using he
  subst hgg
  unfold Blk at hh hh'
  rw [hh] at hh'
  injection hh' with hh'
  injection hh' with _ ht
  exact hne ht
end
end Go.Proofs.YtcgfdfdcbamceaaGreatDoor
namespace Go.Proofs.YtcgfdfdcbamceaaGreatDoor
open Go.Lib
def ratTx (q : Rat) : List UInt8 × Int := if fitQ q = true then (qText q, 0) else ([], 2)
def rOp (a b : List UInt8) (r : List UInt8 × Int) : List UInt8 × Int := if rAll [a, b] = 0 then r else ([], rAll [a, b])
def ratNeg (a : List UInt8) : List UInt8 × Int := rOp a [48] (ratTx (-rval a))
theorem rAll_ok {a b : List UInt8} (h : rAll [a, b] = 0) : rchk a = 0 ∧ rchk b = 0 := by
 simp only [rAll] at h
 split at h
 ·rename_i h1
  split at h
  ·rename_i h2; exact ⟨h1, h2⟩
  ·rename_i h2; exact absurd h h2
 ·rename_i h1; exact absurd h h1
def txV (l : List Rat) : List (List UInt8) × Int := if l.all fitQ = true then (l.map qText, 0) else ([], 2)
def txM (m : MQ) : MT × Int := if m.all (fun r => r.all fitQ) = true then (m.map fun r => r.map qText, 0) else ([], 2)
def trQ (m : MQ) (k : Nat) : MQ := (List.range k).map fun j => m.map fun r => r.getD j 0
def scQ (a : MQ) (f : Rat) : MQ := a.map fun r => r.map fun x => x * f
def err2 (a b : Int) (r : MT × Int) : MT × Int := if a ≠ 0 then ([], a) else if b ≠ 0 then ([], b) else r
def trM (a : MT) : MT × Int := if chkM a ≠ 0 then ([], chkM a) else txM (trQ (valsM a) (wd a))
def scM (a : MT) (r : List UInt8) : MT × Int := err2 (chkM a) (rchk r) (txM (scQ (valsM a) (rval r)))
theorem Rect.map {α β : Type} {m : List (List α)} {n k : Nat} (h : Rect m n k) (f : α → β) : Rect (m.map fun r => r.map f) n k :=
 ⟨by rw [List.length_map, h.len], fun r hr => by
  obtain ⟨s, hs, rfl⟩ := List.mem_map.1 hr
  rw [List.length_map, h.row s hs]⟩
theorem getD_map_nil {α β : Type} (m : List (List α)) (f : α → β) (i : Nat) : (m.map fun r => r.map f).getD i [] = (m.getD i []).map f := by
 rw [List.getD_eq_getElem?_getD, List.getD_eq_getElem?_getD, List.getElem?_map]
 cases m[i]? <;> rfl
theorem rect_tr {m : MQ} {n k : Nat} (h : m.length = n) : Rect (trQ m k) k n :=
 ⟨by simp [trQ], fun r hr => by
  obtain ⟨j, _, rfl⟩ := List.mem_map.1 hr
  rw [List.length_map, h]⟩
theorem at2_tr (m : MQ) {k : Nat} {i j : Nat} (hj : j < k) : at2 (trQ m k) j i = at2 m i j := by
 unfold at2 trQ
 rw [getD_range_map k _ hj, List.getD_eq_getElem?_getD, List.getElem?_map, List.getD_eq_getElem?_getD (l := m)]
 cases m[i]? <;> rfl
theorem chkR_all {n : Nat} (hn : n ≤ 40) : ∀ {m : MT}, (∀ r ∈ m, r.length = n ∧ ∀ s ∈ r, rchk s = 0) → chkR n m = 0
 | [], _ => rfl
 | x :: m, h => by
  obtain ⟨h1, h2⟩ := h x List.mem_cons_self
  rw [chkR, if_neg (by omega), chkV_all (by omega) h2, if_neg (by decide), chkR_all hn fun r hr => h r (List.mem_cons_of_mem _ hr)]
theorem wd_eq {m : MT} {n k : Nat} (h : Rect m n k) (hn : 0 < n) : wd m = k := by
 cases m with
 | nil => have := h.len; simp at this; omega
 | cons x m => exact h.row x List.mem_cons_self
theorem VM.chk {m : MT} {n k : Nat} (h : VM m n k) : chkM m = 0 := by
 have hl := h.rect.len
 rw [chkM, if_neg (by have := h.hn; omega)]
 cases m with
 | nil => rfl
 | cons x m =>
  have hk : k ≤ 40 := by
   rcases h.hk with h1 | h1
   ·exact h1
   ·rw [List.length_cons] at hl; omega
  rw [wd, h.rect.row x List.mem_cons_self]
  exact chkR_all hk fun r hr => ⟨h.rect.row r hr, h.ok r hr⟩
theorem VM.vals {m : MT} {n k : Nat} (h : VM m n k) : Rect (valsM m) n k := h.rect.map rval
theorem SzM.all {m : MQ} {k : Nat} (h : SzM m k) (h1 : 1 ≤ k) (h2 : k ≤ 2000) : m.all (fun r => r.all fitQ) = true := by
 rw [List.all_eq_true]
 intro r hr
 rw [List.all_eq_true]
 intro x hx
 exact (h r hr x hx).fit h1 h2
theorem txM_fit {m : MQ} (h : m.all (fun r => r.all fitQ) = true) : txM m = (m.map fun r => r.map qText, 0) := if_pos h
theorem fit_back {m : MQ} {n k : Nat} (hr : Rect m n k) (hn : n ≤ 40) (hk : k ≤ 40 ∨ n = 0) (h : m.all (fun r => r.all fitQ) = true) : VM (m.map fun r => r.map qText) n k ∧ valsM (m.map fun r => r.map qText) = m := by
 rw [List.all_eq_true] at h
 refine ⟨⟨hr.map qText, hn, hk, fun r hx s hs => ?_⟩, ?_⟩
 ·obtain ⟨r', hr', rfl⟩ := List.mem_map.1 hx
  obtain ⟨q, hq, rfl⟩ := List.mem_map.1 hs
  have := h r' hr'
  rw [List.all_eq_true] at this
  exact (qText_ok q (this q hq)).1
 ·unfold valsM valsV
  rw [List.map_map]
  conv => rhs; rw [← List.map_id m]
  refine List.map_congr_left fun r hx => ?_
  have hx2 := h r hx
  rw [List.all_eq_true] at hx2
  show List.map rval (List.map qText r) = r
  rw [List.map_map]
  conv => rhs; rw [← List.map_id r]
  exact List.map_congr_left fun q hq => (qText_ok q (hx2 q hq)).2
theorem SzM.entry {m : MQ} {n k z : Nat} (h : SzM m z) (hr : Rect m n k) {i j : Nat} (hi : i < n) (hj : j < k) : SzQ (at2 m i j) z := by
 have h1 : i < m.length := by rw [hr.len]; exact hi
 have k1 : j < (m[i]).length := by rw [hr.row _ (List.getElem_mem _)]; exact hj
 unfold at2
 simp only [List.getD_eq_getElem?_getD, List.getElem?_eq_getElem h1, Option.getD_some, List.getElem?_eq_getElem k1]
 exact h _ (List.getElem_mem _) _ (List.getElem_mem _)
theorem SzM.of_at2 {m : MQ} {n k z : Nat} (hr : Rect m n k) (h : ∀ i j, i < n → j < k → SzQ (at2 m i j) z) : SzM m z := by
 intro r hx q hq
 obtain ⟨i, h1, rfl⟩ := List.mem_iff_getElem.1 hx
 obtain ⟨j, k1, rfl⟩ := List.mem_iff_getElem.1 hq
 have := h i j (by rw [← hr.len]; exact h1) (by rw [← hr.row _ (List.getElem_mem h1)]; exact k1)
 unfold at2 at this
 simpa only [List.getD_eq_getElem?_getD, List.getElem?_eq_getElem h1, Option.getD_some, List.getElem?_eq_getElem k1] using this
theorem SzM.tr {a : MQ} {n k x : Nat} (ha : Rect a n k) (sa : SzM a x) : SzM (trQ a k) x :=
 .of_at2 (rect_tr ha.len) fun i j hi hj => by
  rw [at2_tr _ hi]
  exact sa.entry ha hj hi
end Go.Proofs.YtcgfdfdcbamceaaGreatDoor
namespace Go.Proofs.YtcgfdfdcbamceaaGreatDoor
open Go.RowKit
set_option maxRecDepth 100000 in
set_option maxHeartbeats 1000000 in
theorem ratText_any (v : Value) (q : Rat) (w : World) (hx : Rt w v q) (htab : Tab w) : Calls Tryz.prog 74 #[v] w (RetTx w (ratTx q)) := by
 obtain ⟨A, l, c, B, m, d, rfl, -, -⟩ := hx.form
 obtain ⟨-, hb⟩ := boxes1 w (.bool (decide (q.num < 0))) (.slice A l c) (.bool false) (.slice B m d)
 have HT := Lib.hid (rtext_any _ _ _ (hx.ext hb) (tab_below htab hb))
 have HB := Lib.hid hb
 clear hx hb htab
 generalize decide (q.num < 0) = nb at *
 unfold ratT at *
 go_enter Tryz.func74, Tryz.ntmps74
 go_wp2_with fail
 refine HT.out.mono ?_
 rintro e w1 ⟨s, rfl, hs, hb⟩
 have HB1 := Lib.hid (HB.out.trans (hb.mono HB.out.size))
 clear HB HT hb
 by_cases h : fitQ q = true
 ·have HQ := Lib.hid (show RetTx w (ratTx q) (.returned (.tuple #[.string s, I 0])) w1 from ⟨by rw [ratTx, if_pos h, hs h], HB1.out⟩)
  rw [h]
  clear hs
  go_wp2
  go_ret2
  exact HQ.out
 ·have HQ := Lib.hid (show RetTx w (ratTx q) (.returned (.tuple #[.string ⟨#[]⟩, I 2])) w1 from ⟨by rw [ratTx, if_neg h], HB1.out⟩)
  have h := Bool.eq_false_iff.2 h
  rw [h]
  clear hs
  go_wp2
  go_ret2
  exact HQ.out
def fineB (es : List Int) : Bool := es.all fun e => e == 0
set_option maxRecDepth 100000 in
set_option maxHeartbeats 400000 in
theorem nz_any (x : Int) (w : World) : Calls Tryz.prog 47 #[I x] w fun e w' => e = .returned (.bool (x != 0)) ∧ w = w' := by
 go_enter Tryz.func47, Tryz.ntmps47
 go_wp2
 go_ret
 exact ⟨rfl, rfl⟩
set_option maxRecDepth 100000 in
set_option maxHeartbeats 400000 in
theorem idxnz_any (es : List Int) (n : Nat) (A : Option Addr) (c : Nat) (w : World) (B : Nat) (hr : Reads w B 1 A n (es.map I)) (hn : n ≤ 1000000) :
  Calls Tryz.prog 78 #[.slice A n c, .func (.func 47) #[] #[]] w fun e w' => (∃ r, e = .returned (I r) ∧ decide (0 ≤ r) = !fineB es) ∧ w = w' := by
 have hl : es.length = n := by have := hr.1; simpa using this
 go_enter Tryz.func78, Tryz.ntmps78
 go_wp2
 go_loopg [8] (n - 0) (fun r v wr => ∃ k : Nat, r = n - k ∧ v = I k ∧ k ≤ n ∧ w = wr ∧ Hid (fineB es = fineB (es.drop k)))
 case atStart => exact ⟨0, rfl, rfl, by omega, rfl, rfl⟩
 case round =>
  obtain ⟨k, rfl, rfl, hk, rfl, HO⟩ := hrel
  by_cases hlt : k < n
  ·obtain ⟨b, off, u, rfl, _, hu, hc⟩ := hr.at1 hlt
   obtain ⟨x, hx⟩ : ∃ x, es.getD k 0 = x := ⟨_, rfl⟩
   have hx2 : es[k]'(by omega) = x := by rw [← hx, List.getD_eq_getElem?_getD, List.getElem?_eq_getElem (by omega)]; rfl
   obtain rfl : u = I x := by
    rw [List.getElem?_map, List.getElem?_eq_getElem (by omega), hx2] at hu
    simpa using hu.symm
   have HO2 := Lib.hid (show fineB es = ((x == 0) && fineB (es.drop (k + 1))) by
    rw [HO.out, List.drop_eq_getElem_cons (by omega), hx2]
    rfl)
   have HL := Lib.hid hl
   clear hu hr hx hx2 HO hl
   by_cases h0 : x = 0
   ·have tb : (x != 0) = false := by rw [h0]; rfl
    have HO3 := Lib.hid (show fineB es = fineB (es.drop (k + 1)) by rw [HO2.out, h0]; rfl)
    clear h0
    go_wp2_with (go_at_call 47; refine (nz_any x _).mono ?_; rintro e w' ⟨rfl, rfl⟩)
    go_roundg (n - (k + 1))
    case measure => omega
    case rel => exact ⟨k + 1, rfl, by go_num, by omega, rfl, HO3⟩
   ·have tb : (x != 0) = true := bne_iff_ne.2 h0
    have HF := Lib.hid (show decide (0 ≤ (k : Int)) = !fineB es by
     rw [HO2.out, beq_eq_false_iff_ne.2 h0, decide_eq_true (by omega)]; rfl)
    clear h0
    go_wp2_with (go_at_call 47; refine (nz_any x _).mono ?_; rintro e w' ⟨rfl, rfl⟩)
    go_ret
    exact ⟨⟨_, rfl, HF.out⟩, rfl⟩
  ·have HF := Lib.hid (show decide (0 ≤ (-1 : Int)) = !fineB es by
    rw [HO.out, List.drop_of_length_le (by omega)]; rfl)
   clear HO
   go_wp2
   go_ret
   exact ⟨⟨_, rfl, HF.out⟩, rfl⟩
set_option maxRecDepth 100000 in
set_option maxHeartbeats 400000 in
theorem fine_any (es : List Int) (n : Nat) (A : Option Addr) (c : Nat) (w : World) (B : Nat) (hr : Reads w B 1 A n (es.map I)) (hn : n ≤ 1000000) :
  Calls Tryz.prog 18 #[.slice A n c] w fun e w' => e = .returned (.bool (fineB es)) ∧ w = w' := by
 have h41 : ∀ w, Reads w B 1 A n (es.map I) → Calls Tryz.prog 46 #[.slice A n c, .func (.func 47) #[] #[]] w fun e w' => e = .returned (.bool (!fineB es)) ∧ w = w' := by
  intro w hr
  have HX := Lib.hid (idxnz_any es n A c w B hr hn)
  clear hr
  go_enter Tryz.func46, Tryz.ntmps46
  go_wp2_with fail
  refine HX.out.mono ?_
  rintro e w1 ⟨⟨r, rfl, hr⟩, rfl⟩
  have HR := Lib.hid hr
  clear hr HX
  go_wp2
  go_ret
  exact ⟨congrArg (fun b => Ending.returned (.bool b)) HR.out, rfl⟩
 have H41 := Lib.hid (h41 w hr)
 clear h41 hr
 go_enter Tryz.func18, Tryz.ntmps18
 go_wp2_with fail
 refine H41.out.mono ?_
 rintro e w1 ⟨rfl, rfl⟩
 go_wp2
 go_ret
 exact ⟨by simp, rfl⟩
def firstE : List Int → Int
 | [] => 0
 | x :: l => if x ≠ 0 then x else firstE l
set_option maxRecDepth 100000 in
theorem first_any (l : List Int) (n : Nat) (A : Option Addr) (c : Nat) (w : World) (hr : Reads w w.heap.size 1 A n (l.map I)) (hn : n ≤ 1000000) :
  Calls Tryz.prog 42 #[.slice A n c] w fun e w' => e = .returned (I (firstE l)) ∧ w' = w := by
 have hl : l.length = n := by have := hr.1; simpa using this
 have HRD := Lib.hid hr
 clear hr
 go_enter Tryz.func42, Tryz.ntmps42
 go_wp2
 go_loopg [7] (n - 0) (fun r v wr => ∃ k : Nat, r = n - k ∧ v = I k ∧ k ≤ n ∧ wr = w ∧ Hid (firstE l = firstE (l.drop k)))
 case atStart => exact ⟨0, rfl, rfl, by omega, rfl, rfl⟩
 case round =>
  obtain ⟨k, rfl, rfl, hk, rfl, HO⟩ := hrel
  by_cases hlt : k < n
  ·obtain ⟨x, hx⟩ : ∃ x, l[k]'(by omega) = x := ⟨_, rfl⟩
   obtain ⟨b, off, u, rfl, _, hu, hc⟩ := HRD.out.at1 hlt
   obtain rfl : u = I x := by
    rw [List.getElem?_map, List.getElem?_eq_getElem (by omega), hx] at hu
    simpa using hu.symm
   have HO2 := Lib.hid (show firstE l = if x ≠ 0 then x else firstE (l.drop (k + 1)) by
    rw [HO.out, List.drop_eq_getElem_cons (by omega), hx]; rfl)
   clear hu hx HO
   by_cases h0 : x = 0
   ·have HO3 := Lib.hid (show firstE l = firstE (l.drop (k + 1)) by rw [HO2.out, if_neg (by omega)])
    subst h0
    clear HO2
    go_wp2
    go_roundg (n - (k + 1))
    case measure => omega
    case rel => exact ⟨k + 1, rfl, by go_num, by omega, rfl, HO3⟩
   ·have HO3 := Lib.hid (show firstE l = x by rw [HO2.out, if_pos h0])
    have tc : (x != 0) = true := bne_iff_ne.2 h0
    clear HO2
    go_wp2
    go_ret
    exact ⟨ret_int HO3.out.symm, rfl⟩
  ·have HF := Lib.hid (show firstE l = 0 by rw [HO.out, List.drop_of_length_le (by omega)]; rfl)
   clear HO
   go_wp2
   go_ret
   exact ⟨ret_int HF.out.symm, rfl⟩
abbrev vecT : TypeId := 25
theorem info_vec : (Tryz.prog.info? vecT).map (fun i => (i.zero, i.size, i.bytes)) = some (some (.slice none 0 0), 1, 24) := by kernel_rfl
theorem fit_size {q : Rat} (h : fitQ q = true) : (⟨(qText q).toArray⟩ : ByteArray).size ≤ 9223372036854775807 := by
 have := qTextLen h
 have e : (⟨(qText q).toArray⟩ : ByteArray).size = (qText q).length := by simp [ByteArray.size]
 omega
theorem sh_mk {l : List Rat} (h : l.all fitQ = true) : Sh1 (mkS (l.map qText)) := by
 intro s hs
 unfold mkS at hs
 rw [List.map_map] at hs
 obtain ⟨q, hq, rfl⟩ := List.mem_map.1 hs
 rw [List.all_eq_true] at h
 exact fit_size (h q hq)
def RetTV (w : World) (l : List Rat) (e : Ending) (w' : World) : Prop := ∃ v, e = .returned (.tuple #[v, I (txV l).2]) ∧ (l.all fitQ = true → Row w' w.heap.size strT 1 v l.length ((mkS (l.map qText)).map Sv)) ∧ (l.all fitQ = false → v = .slice none 0 0) ∧ Below w.heap.size w w'
theorem ret_tv {v : Value} {a b : Int} (h : a = b) : Ending.returned (.tuple #[v, I a]) = .returned (.tuple #[v, I b]) := by rw [h]
theorem textVec_any (l : List Rat) (n : Nat) (A : Option Addr) (c : Nat) (w : World) (hr : RV w A n l) (hn : n ≤ 1000000) (htab : Tab w) :
  Calls Tryz.prog 45 #[.slice A n c] w (RetTV w l) := by
 have HC := Lib.hid (texts_any l n A c w hr hn htab)
 clear hr htab
 go_enter Tryz.func45, Tryz.ntmps45
 go_wp2_with fail
 refine HC.out.mono ?_
 rintro e w1 ⟨v, rfl, h1, h2, hb⟩
 have H1 := Lib.hid h1
 have HB := Lib.hid hb
 clear HC h1 hb
 cases hf : l.all fitQ with
 | true =>
  have HE := Lib.hid (show (txV l).2 = 0 by rw [txV, if_pos hf])
  have HF := Lib.hid hf
  clear h2 hf
  go_wp2
  go_ret2
  exact ⟨_, ret_tv HE.out.symm, fun _ => H1.out HF.out, fun h => (by rw [HF.out] at h; cases h), HB.out⟩
 | false =>
  have HE := Lib.hid (show (txV l).2 = 2 by rw [txV, if_neg (by simp [hf])])
  have HF := Lib.hid hf
  obtain rfl := h2 hf
  clear h2 hf
  go_wp2
  go_ret2
  exact ⟨_, ret_tv HE.out.symm, fun h => (by rw [HF.out] at h; cases h), fun _ => rfl, HB.out⟩
def wdQ (m : List (List Rat)) : Nat := (m.head?.getD []).length
set_option maxRecDepth 100000 in
theorem lwidth_any (m : List (List Rat)) (n : Nat) (A : Option Addr) (c : Nat) (w : World) (hm : RM w A n m) :
  Calls Tryz.prog 82 #[.slice A n c] w fun e w' => e = .returned (I (wdQ m)) ∧ w' = w := by
 have hl := hm.len
 by_cases h0 : n = 0
 ·have HW := Lib.hid (show ((wdQ m : Nat) : Int) = 0 by rw [List.eq_nil_of_length_eq_zero (hl.trans h0)]; rfl)
  subst h0
  go_enter Tryz.func82, Tryz.ntmps82
  go_wp2
  go_ret
  exact ⟨ret_int HW.out.symm, rfl⟩
 ·obtain ⟨x0, hx0⟩ : ∃ x, m[0]? = some x := ⟨_, List.getElem?_eq_getElem (by omega)⟩
  obtain ⟨b, off, B, d, rfl, _, hc, hr⟩ := hm.at_ (show 0 < n by omega) x0 hx0
  rw [Nat.add_zero] at hc
  have HW := Lib.hid (show wdQ m = x0.length by rw [wdQ, head_get m x0 _ hx0])
  have t : ((n : Int) == 0) = false := beq_eq_false_iff_ne.2 (by omega)
  clear hr hx0
  go_enter Tryz.func82, Tryz.ntmps82
  go_wp2
  go_ret
  exact ⟨ret_int (by rw [HW.out]), rfl⟩
theorem LM.put2 {w : World} {base g off cap n k : Nat} {vs : List Value} {m : List (List Rat)} {v' : Value} {qs : List Rat} (hm : m.length = n) (hk : k < n) (ho : Row w base rowT 1 (.slice (some ⟨g, off, none⟩) n cap) n vs)
  (hin : ∀ (j : Nat) (u : Value) (ys : List Rat), j ≠ k → vs[j]? = some u → m[j]? = some ys → RRow w base u ys)
  (hap : ∀ (i j : Nat) (u u' : Value) (g : Nat), i ≠ j → i ≠ k → j ≠ k → vs[i]? = some u → vs[j]? = some u' → u.ownBlock = some g → u'.ownBlock ≠ some g)
  (hr : RRow w base v' qs) (hnew : ∀ (j : Nat) (u : Value) (g' : Nat), j ≠ k → vs[j]? = some u → v'.ownBlock = some g' → u.ownBlock ≠ some g')
  {A : Option Addr} {l c : Nat} (hc : w.cell? ⟨g, off + k, none⟩ = some (.slice A l c)) :
  LM (w.setCell ⟨g, off + k, none⟩ v') base (.slice (some ⟨g, off, none⟩) n cap) (vs.set k v') (m.set k qs) := by
 have hkw : Kw w (w.setCell ⟨g, off + k, none⟩ v') := kw_set hc (noWord_slice _ _ _) v'
 have hl : vs.length = n := by have := ho.1; omega
 obtain ⟨cs, hB⟩ : ∃ cs, Blk w g rowT cs := by
  obtain ⟨g', off', cap', cur, e, _, hh, _⟩ := ho.form (by omega)
  injection e with e
  injection e with e
  injection e with e
  subst e
  exact ⟨_, hh⟩
 have away : ∀ {x : Value} {ys : List Rat}, RRow w base x ys → RRow (w.setCell ⟨g, off + k, none⟩ v') base x ys := fun hx => hx.keep hkw fun g' hg' =>
  Below.heap_setCell w _ v' g' fun e => hx.ne_outer hB (by rw [hg', e])
 refine ⟨?_, fun j x ys h1 h2 => ?_, fun i j x y g' hij h1 h2 h3 => ?_⟩
 ·have := ho.set_at (j := k) (by omega) v'
  simpa [hm] using this
 ·by_cases hjk : j = k
  ·subst hjk
   rw [List.getElem?_set_self (by omega)] at h1 h2
   injection h1 with h1
   injection h2 with h2
   subst h1 h2
   exact away hr
  ·rw [List.getElem?_set_ne (Ne.symm hjk)] at h1 h2
   exact away (hin j x ys hjk h1 h2)
 ·by_cases hik : i = k
  ·subst hik
   rw [List.getElem?_set_self (by omega)] at h1
   injection h1 with h1
   subst h1
   rw [List.getElem?_set_ne hij] at h2
   exact hnew j y g' (Ne.symm hij) h2 h3
  ·rw [List.getElem?_set_ne (Ne.symm hik)] at h1
   by_cases hjk : j = k
   ·subst hjk
    rw [List.getElem?_set_self (by omega)] at h2
    injection h2 with h2
    subst h2
    intro h4
    exact hnew i x g' hik h1 h4 h3
   ·rw [List.getElem?_set_ne (Ne.symm hjk)] at h2
    exact hap i j x y g' hij hik hjk h1 h2 h3
theorem LM.app {w w' : World} {base g off cap n k : Nat} {vs : List Value} {m : List (List Rat)} {u v' : Value} {qs qs' : List Rat} (h : LM w base (.slice (some ⟨g, off, none⟩) n cap) vs m) (hm : m.length = n) (hk : k < n) (hu : vs[k]? = some u) (hq : m[k]? = some qs)
  (ha : Apd w base u qs' v' w') (hb : base ≤ w.heap.size) :
  LM (w'.setCell ⟨g, off + k, none⟩ v') base (.slice (some ⟨g, off, none⟩) n cap) (vs.set k v') (m.set k qs') ∧ Below base w w' ∧ w'.cell? ⟨g, off + k, none⟩ = some u ∧ w'.frozen? ⟨g, off + k, none⟩ = false ∧ base ≤ g := by
 have hru := h.inner k u qs hu hq
 obtain ⟨xs, hrow, _⟩ := hru.row
 have ho : Row w' base rowT 1 (.slice (some ⟨g, off, none⟩) n cap) n vs := by
  have := h.outer
  rw [hm] at this
  exact this.apart hrow (by decide) ha.grown
 obtain ⟨A, c, rfl⟩ := hru.val
 have hcell : w'.cell? ⟨g, off + k, none⟩ = some (.slice A qs.length c) := by
  obtain ⟨b', off', e', _, hc⟩ := ho.reads.2 (by omega)
  injection e' with e'
  injection e' with e1 e2
  subst e1 e2
  exact hc k _ hu
 refine ⟨LM.put2 hm hk ho (fun j x ys hj h1 h2 => ?_) (fun i j x y g' hij _ _ h1 h2 h3 => h.apart i j x y g' hij h1 h2 h3) ha.row (fun j x g' hj h1 h2 h3 => ?_) hcell, hrow.belowG ha.grown hb, hcell, ?_, ?_⟩
 ·have hx := h.inner j x ys h1 h2
  exact hx.keep ha.kw fun g' hg' => ha.grown.block g' (hx.lt hg').2 fun e => h.apart j k x _ g' hj h1 hu hg' e.symm
 ·have hx : j < m.length := by have := (List.getElem?_eq_some_iff.1 h1).1; have := h.len; omega
  have hxr := h.inner j x m[j] h1 (List.getElem?_eq_getElem hx)
  rcases ha.own g' h2 with h4 | h4
  ·exact h.apart j k x _ g' hj h1 hu h3 h4
  ·have := (hxr.lt h3).2; omega
 ·obtain ⟨g', off', cap', cur, e, _, hh, _⟩ := ho.form (by omega)
  obtain ⟨rfl, rfl⟩ := sl_inj e
  exact hh.frozen _
 ·obtain ⟨g', off', cap', cur, e, hb', _⟩ := ho.form (by omega)
  obtain ⟨rfl, rfl⟩ := sl_inj e
  exact hb'
theorem step_app1 {w : World} {ops : Array Oper} {o : Oper} {a : Act} {K : Act → World → Prop} {Q : Exit → Act → World → Prop} {E : Prop} (hgd : o.guard = none) (s x : Operand)
  (ho : o.op = .call { callee := .builtin .append, args := #[s, x], argTypes := #[rowT, rowT] }) (base : Nat) (v : Value) (qs : List Rat) (hsv : a.eval s = v) (hr : RRow w base v qs)
  (g : Nat) (hx : a.eval x = .slice (some ⟨g, 0, none⟩) 1 1) {x0 x1 x2 x3 : Value} (hB : Blk w g ratT #[x0, x1, x2, x3]) {q : Rat} (hq : Rt w (.agg #[x0, x1, x2, x3]) q) (hl : qs.length ≤ 1000000) (hbase : base ≤ w.heap.size)
  (h : ∀ v' w', Apd w base v (qs ++ [q]) v' w' → K (a.put o.dst v') w') : if Region.wanted o (yielded ops a.tmps) = true then Oper.wp Tryz.prog o a w K Q else E := by
 have hw : Region.wanted o (yielded ops a.tmps) = true := by simp [Region.wanted, hgd]
 rw [if_pos hw]
 obtain ⟨i, hi, hz0, hz1, hz2⟩ := info_parts info_rat
 have hs : Reads w w.heap.size 4 (some ⟨g, 0, none⟩) 1 [x0, x1, x2, x3] := ⟨rfl, fun _ => ⟨g, 0, rfl, hB.lt, fun j u hu => by
  rw [Nat.zero_add, hB.cell]
  simpa using hu⟩⟩
 obtain ⟨v', w', hrun, hap⟩ := run_append_rats (P := Tryz.prog) w base rowT o.type i _ 64 Tryz.underlying66 hi hz0 hz1 hz2 rfl v qs hr w.heap.size (some ⟨g, 0, none⟩) 1 1 [x0, x1, x2, x3] [q] hs (RtL.one hq) (by unfold maxLen; omega) (by omega) hbase
 unfold Oper.wp execOp
 simp only [ho, resolve, invoke, builtin, Sem.run_bind, Sem.run_pure, Result.andThen_ok, List.map_toArray, List.map_cons, List.map_nil, hsv, hx, hrun]
 exact h v' w' hap
theorem fits_fitM {n : Nat} (h : fitN n = true) : Fits 210 (n : Int) := by
 have := (num_of_fit h).fits
 rwa [num_dec] at this
theorem val_fit {l : List UInt8} (h : RVal l) : FitR 210 (rval l) := by
 have := h.fit
 rw [fitQ, Bool.and_eq_true] at this
 refine ⟨?_, fits_fitM this.2⟩
 have h1 := fits_fitM this.1
 unfold Fits at *
 rw [Int.natAbs_natCast] at h1
 exact h1
theorem rOp_bad {w w' : World} {a b : List UInt8} {r : List UInt8 × Int} {c : Int} (hc : rAll [a, b] = c) (h0 : c ≠ 0) (hb : Below w.heap.size w w') : RetTx w (rOp a b r) (.returned (.tuple #[.string ⟨#[]⟩, I c])) w' := by
 refine ⟨?_, hb⟩
 rw [rOp, if_neg (by rw [hc]; exact h0), hc]
theorem rOp_good {w w1 w' : World} {a b : List UInt8} {r : List UInt8 × Int} {e : Ending} (hc : rAll [a, b] = 0) (hb : Below w.heap.size w w1) (h : RetTx w1 r e w') : RetTx w (rOp a b r) e w' := by
 rw [rOp, if_pos hc]
 exact ⟨h.1, hb.trans (h.2.mono hb.size)⟩
theorem reads2 (w : World) (t : TypeId) (s u : ByteArray) : Reads (w.alloc (.cells #[.string s, .string u] t)) (w.alloc (.cells #[.string s, .string u] t)).heap.size 1 (some ⟨w.heap.size, 0, none⟩) 2 ([s, u].map Sv) := by
 have := reads_lits w t ([s, u].map Sv)
 rw [World.size_alloc]
 exact this
theorem mem2 {s t x : ByteArray} {K : Nat} (hs : s.size ≤ K) (ht : t.size ≤ K) (h : x ∈ [s, t]) : x.size ≤ K := by
 rcases List.mem_cons.1 h with rfl | h
 ·exact hs
 ·rw [List.mem_singleton.1 h]; exact ht
theorem sl_zero48 : SL ⟨#[48]⟩ = [48] := rfl
theorem Rt.words {w : World} {v : Value} {q : Rat} (h : Rt w v q) : ∃ b A l c b2 B m d, v = .agg #[.bool b, .slice A l c, .bool b2, .slice B m d] ∧ Big w (.agg #[.bool b, .slice A l c]) q.num ∧ Big w (.agg #[.bool b2, .slice B m d]) (q.den : Int) := by
 obtain ⟨A, l, c, B, m, d, e, h1, h2⟩ := h.form
 exact ⟨_, A, l, c, _, B, m, d, e, h1, h2⟩
set_option maxRecDepth 100000 in
set_option maxHeartbeats 2000000 in
theorem rnegf_any (u v : Value) (x y : Rat) (w : World) (hx : Rt w u x) (hy : Rt w v y) : Calls Tryz.prog 55 #[u, v] w (RetRt w (-x)) := by
 obtain ⟨xn, xnl, xnc, xd, xdl, xdc, rfl, -, -⟩ := hx.form
 obtain ⟨yn, ynl, ync, yd, ydl, ydc, rfl, -, -⟩ := hy.form
 obtain ⟨vx, -, vr, hb0⟩ := boxes3 w (.bool (decide (x.num < 0))) (.slice xn xnl xnc) (.bool false) (.slice xd xdl xdc) (.bool (decide (y.num < 0))) (.slice yn ynl ync) (.bool false) (.slice yd ydl ydc) (.bool false) (.slice none 0 0) (.bool false) (.slice none 0 0)
 have HN := Lib.hid (rneg_any _ x _ (hx.ext hb0))
 have VR := Lib.hid vr
 have HB := Lib.hid hb0
 have v0 := vx.c0
 have v1 := vx.c1
 have v2 := vx.c2
 have v3 := vx.c3
 clear vx vr hb0 hx hy
 generalize decide (x.num < 0) = xb at *
 generalize decide (y.num < 0) = yb at *
 unfold ratT at *
 go_enter Tryz.func55, Tryz.ntmps55
 go_wp2_with fail
 refine HN.out.mono ?_
 rintro e w1 ⟨r, rfl, hr, hb⟩
 obtain ⟨rb, Ar, lr, cr, db, Br, mr, dr, rfl, h1, h2⟩ := hr.words
 have hv := VR.out.below hb
 have HR := Lib.hid (ret_rat_set (HB.out.trans (hb.mono HB.out.size)) (by omega) hv (Rt.mk h1 h2))
 have HZ := Lib.hid (hv.set (.bool rb) (.slice Ar lr cr) (.bool db) (.slice Br mr dr))
 have r0 := hv.c0
 have r1 := hv.c1
 have r2 := hv.c2
 have r3 := hv.c3
 have q0 := hv.f0
 have q1 := hv.f1
 have q2 := hv.f2
 have q3 := hv.f3
 unfold set4 at HR HZ
 clear h1 h2 hb hv VR HB HN v0 v1 v2 v3
 go_wp2
 have z0 := HZ.out.c0
 have z1 := HZ.out.c1
 have z2 := HZ.out.c2
 have z3 := HZ.out.c3
 generalize ((((w1.setCell ⟨w.heap.size + 1 + 1, 0, none⟩ (.bool rb)).setCell ⟨w.heap.size + 1 + 1, 1, none⟩ (.slice Ar lr cr)).setCell ⟨w.heap.size + 1 + 1, 2, none⟩ (.bool db)).setCell ⟨w.heap.size + 1 + 1, 3, none⟩ (.slice Br mr dr)) = W at *
 exact bodyPost_ret (v := .agg #[.bool rb, .slice Ar lr cr, .bool db, .slice Br mr dr]) (by simp [results, Tryz.results55, go_sem, z0, z1, z2, z3]) rfl HR.out
set_option maxRecDepth 100000 in
set_option maxHeartbeats 2000000 in
theorem opNeg_any (s t : ByteArray) (w : World) (hs : s.size ≤ 9223372036854775807) (ht : t.size ≤ 9223372036854775807) (htab : Tab w) :
  Calls Tryz.prog 39 #[.string s, .string t, .func (.func 55) #[] #[]] w (RetTx w (rOp (SL s) (SL t) (ratTx (-rval (SL s))))) := by
 have hb0 := (Below.refl w.heap.size w).alloc (Nat.le_refl _) (.cells #[.string s, .string t] 30)
 have HA := Lib.hid (rall_any [s, t] 2 (some ⟨w.heap.size, 0, none⟩) 2 _ (reads2 w 30 s t) (by omega) (fun x hx => mem2 hs ht hx) (tab_below htab hb0))
 have HB := Lib.hid hb0
 have HTB := Lib.hid htab
 have hmap : [s, t].map SL = [SL s, SL t] := rfl
 rw [hmap] at HA
 clear hb0 htab hmap
 go_enter Tryz.func39, Tryz.ntmps39
 go_wp2_with fail
 refine HA.out.mono ?_
 rintro e w1 ⟨rfl, hb⟩
 have HB1 := Lib.hid (HB.out.trans (hb.mono HB.out.size))
 clear hb HB HA
 by_cases h0 : rAll [SL s, SL t] = 0
 ·obtain ⟨ha, hb⟩ := rAll_ok h0
  have HT := Lib.hid h0
  have HVA := Lib.hid (rchk_val _ ha)
  have HVB := Lib.hid (rchk_val _ hb)
  rw [h0]
  clear h0 ha hb
  go_wp2_with fail
  refine (parse_any s w1 hs HVA.out).mono ?_
  rintro e w2 ⟨u, rfl, hu, hb2⟩
  have HB2 := Lib.hid (HB1.out.trans (hb2.mono HB1.out.size))
  have HU := Lib.hid hu
  clear hb2 HB1 hu
  go_wp2_with fail
  refine (parse_any t w2 ht HVB.out).mono ?_
  rintro e w3 ⟨v, rfl, hv, hb3⟩
  have HB3 := Lib.hid (HB2.out.trans (hb3.mono HB2.out.size))
  have HU3 := Lib.hid (HU.out.ext hb3)
  have HV3 := Lib.hid hv
  clear hb3 HB2 hv HU
  go_wp2_with fail
  refine (rnegf_any u v _ _ w3 HU3.out HV3.out).mono ?_
  rintro e w4 ⟨r, rfl, hr, hb4⟩
  have HB4 := Lib.hid (HB3.out.trans (hb4.mono HB3.out.size))
  have HR4 := Lib.hid hr
  clear hb4 HB3 hr
  go_wp2_with fail
  refine (ratText_any r _ w4 HR4.out (tab_below HTB.out HB4.out)).mono ?_
  rintro e w5 ⟨rfl, hb5⟩
  have HQ := Lib.hid (rOp_good (a := SL s) (b := SL t) (r := ratTx (-rval (SL s))) HT.out HB4.out ⟨rfl, hb5⟩)
  clear hb5 HB4
  go_wp2
  go_ret2
  exact HQ.out
 ·have HQ := Lib.hid (rOp_bad (a := SL s) (b := SL t) (r := ratTx (-rval (SL s))) rfl h0 HB1.out)
  have tc : (rAll [SL s, SL t] != 0) = true := bne_iff_ne.2 h0
  generalize rAll [SL s, SL t] = c at *
  clear h0
  go_wp2
  go_ret2
  exact HQ.out
theorem sz48 : (⟨#[48]⟩ : ByteArray).size ≤ 9223372036854775807 := by decide
set_option maxRecDepth 100000 in
theorem ratNeg_any (s : ByteArray) (w : World) (hs : s.size ≤ 9223372036854775807) (htab : Tab w) : Calls Tryz.prog 24 #[.string s] w (RetTx w (ratNeg (SL s))) := by
 have HO := Lib.hid (opNeg_any s ⟨#[48]⟩ w hs sz48 htab)
 rw [sl_zero48] at HO
 go_enter Tryz.func24, Tryz.ntmps24
 go_wp2_with fail
 refine HO.out.mono ?_
 rintro e w1 ⟨rfl, hb⟩
 have HQ := Lib.hid (show RetTx w (ratNeg (SL s)) _ w1 from ⟨rfl, hb⟩)
 clear HO hb
 go_wp2
 go_ret2
 exact HQ.out
theorem LM.elem {w : World} {base g off cap n : Nat} {vs : List Value} {m : List (List Rat)} (h : LM w base (.slice (some ⟨g, off, none⟩) n cap) vs m) (hn : m.length = n) {i k : Nat} (hi : i < n) (hk : k < (m.getD i []).length) :
  ∃ b o c nb B1 l1 c1 B2 l2 c2, vs[i]? = some (.slice (some ⟨b, o, none⟩) (m.getD i []).length c) ∧ w.cell? ⟨g, off + i, none⟩ = some (.slice (some ⟨b, o, none⟩) (m.getD i []).length c) ∧
   C4 w b (o + k * 4) (.bool nb) (.slice B1 l1 c1) (.bool false) (.slice B2 l2 c2) ∧ Rt w (.agg #[.bool nb, .slice B1 l1 c1, .bool false, .slice B2 l2 c2]) ((m.getD i []).getD k 0) ∧ (∀ j, w.frozen? ⟨b, j, none⟩ = false) ∧ base ≤ g ∧ g < w.heap.size ∧ base ≤ b ∧ b < w.heap.size ∧ g ≠ b := by
 subst hn
 obtain ⟨g', off', cap', B, c, e, hb, hlt, hu, hc, hf, hr⟩ := h.at_ hi
 obtain ⟨rfl, rfl⟩ := sl_inj e
 have hq : (m.getD i [])[k]? = some ((m.getD i []).getD k 0) := by rw [List.getD_eq_getElem?_getD (l := m.getD i []), List.getElem?_eq_getElem hk]; rfl
 obtain ⟨b, o, nb, B1, l1, c1, B2, l2, c2, rfl, hbl, hC, hrt⟩ := hr.rv.form hk _ hq
 obtain ⟨cur, hB⟩ := hr.blk (g := b) rfl
 obtain ⟨cs, hO⟩ : ∃ cs, Blk w g rowT cs := by
  obtain ⟨g', off', cap', cur, e, _, hh, _⟩ := h.outer.form (by omega)
  obtain ⟨rfl, rfl⟩ := sl_inj e
  exact ⟨_, hh⟩
 exact ⟨b, o, c, nb, B1, l1, c1, B2, l2, c2, hu, hc, hC, hrt, fun j => hB.frozen j, hb, hlt, (hr.lt (g := b) rfl).1, hbl, fun e => hr.ne_outer hO (by rw [e]; rfl)⟩
theorem LM.putEl {w : World} {base g off cap n : Nat} {vs : List Value} {m : List (List Rat)} (h : LM w base (.slice (some ⟨g, off, none⟩) n cap) vs m) (hn : m.length = n) {i k b o l c : Nat} (hi : i < n) (hu : vs[i]? = some (.slice (some ⟨b, o, none⟩) l c)) (hk : k < l)
  {u0 u1 u2 u3 : Value} {r : Rat} (hr : Rt w (.agg #[u0, u1, u2, u3]) r) :
  LM (put4 w b (o + k * 4) u0 u1 u2 u3) base (.slice (some ⟨g, off, none⟩) n cap) vs (m.set i ((m.getD i []).set k r)) ∧ Kw w (put4 w b (o + k * 4) u0 u1 u2 u3) := by
 subst hn
 have hmi : m[i]? = some (m.getD i []) := by rw [List.getD_eq_getElem?_getD, List.getElem?_eq_getElem hi]; rfl
 have hrow := h.inner i _ _ hu hmi
 obtain ⟨h1, hkw, _⟩ := hrow.putEl hk hr
 obtain ⟨cur, hB⟩ := hrow.blk (g := b) rfl
 have hne : ∀ {x : Value} {xs : List Value} {n' : Nat}, Row w base rowT 1 x n' xs → ∀ g', x.ownBlock = some g' → g' ≠ b := by
  intro x xs n' hx g' hg' e
  subst e
  obtain ⟨_, _, cs, hC⟩ := own_lt hx hg'
  unfold Blk at hC hB
  rw [hC] at hB
  injection hB with hB
  injection hB with _ ht
  exact absurd ht (by decide)
 refine ⟨⟨?_, fun j u qs h2 h3 => ?_, h.apart⟩, hkw⟩
 ·have ho := h.outer
  rw [List.length_set]
  obtain ⟨k1, k2⟩ := id ho
  refine ⟨k1, k2.imp id ?_⟩
  rintro ⟨g', off', cap', cur', hv', hb', hh', r'⟩
  exact ⟨g', off', cap', cur', hv', hb', (put4_other w _ _ _ _ _ (hne ho g' (by rw [hv']; rfl))).trans hh', r'⟩
 ·by_cases hij : i = j
  ·subst hij
   rw [hu] at h2
   injection h2 with h2
   subst h2
   rw [List.getElem?_set_self hi] at h3
   injection h3 with h3
   subst h3
   exact h1
  ·rw [List.getElem?_set_ne hij] at h3
   have hj := h.inner j u qs h2 h3
   exact hj.keep hkw fun g' hg' => put4_other w _ _ _ _ _ fun e => h.apart i j _ u b hij hu h2 rfl (by rw [hg', e])
theorem LM.keepB {w w' : World} {base : Nat} {v : Value} {vs : List Value} {m : List (List Rat)} (h : LM w base v vs m) (k : Kw w w') (hk : ∀ g, base ≤ g → g < w.heap.size → w'.heap[g]? = w.heap[g]?) : LM w' base v vs m :=
 ⟨h.outer.keep hk, fun i u qs h1 h2 => (h.inner i u qs h1 h2).keep k fun g hg => hk g ((h.inner i u qs h1 h2).lt hg).1 ((h.inner i u qs h1 h2).lt hg).2, h.apart⟩
def Sows (w : World) (base : Nat) (v : Value) (m : List (List ByteArray)) : Prop :=
 ∃ vs, Row w base vecT 1 v m.length vs ∧ ∀ (i : Nat) (u : Value) (l : List ByteArray), vs[i]? = some u → m[i]? = some l → Row w base strT 1 u l.length (l.map Sv)
theorem Sows.nil (w : World) (base : Nat) : Sows w base (.slice none 0 0) [] := ⟨[], Row.nil _ _ _ _, fun i u l h => by simp at h⟩
theorem Sows.call {w w' : World} {base : Nat} {v : Value} {m : List (List ByteArray)} (h : Sows w base v m) (hb : Below w.heap.size w w') : Sows w' base v m := by
 obtain ⟨vs, h1, h2⟩ := h
 exact ⟨vs, h1.call hb, fun i u l a b => (h2 i u l a b).call hb⟩
theorem Sows.smat {w : World} {base : Nat} {A : Option Addr} {n c : Nat} {m : List (List ByteArray)} (h : Sows w base (.slice A n c) m) : SMat w A n m := by
 obtain ⟨vs, h1, h2⟩ := h
 have hn : n = m.length := by
  obtain ⟨A', c', e⟩ := h1.val
  injection e
 subst hn
 refine ⟨vs, h1.reads, rfl, fun i u l a b => ?_⟩
 have hr := h2 i u l a b
 obtain ⟨B, c', rfl⟩ := hr.val
 exact ⟨B, c', rfl, by have := hr.reads; simpa using this⟩
theorem Sows.snoc {w w' : World} {base : Nat} {v v' u : Value} {m : List (List ByteArray)} {l : List ByteArray} {vs : List Value} (h1 : Row w base vecT 1 v m.length vs) (h2 : ∀ (i : Nat) (u : Value) (l : List ByteArray), vs[i]? = some u → m[i]? = some l → Row w base strT 1 u l.length (l.map Sv))
  (hu : Row w base strT 1 u l.length (l.map Sv)) (hr : Row w' base vecT 1 v' (m.length + 1) (vs ++ [u])) (hg : w.grownBy w' v.ownBlock) : Sows w' base v' (m ++ [l]) := by
 have hl : vs.length = m.length := by have := h1.1; omega
 refine ⟨vs ++ [u], by simpa using hr, fun i x y hx hy => ?_⟩
 by_cases hlt : i < m.length
 ·rw [List.getElem?_append_left (by omega)] at hx
  rw [List.getElem?_append_left hlt] at hy
  exact (h2 i x y hx hy).apart h1 (by decide) hg
 ·rw [List.getElem?_append_right (by omega)] at hx hy
  have hi : i - m.length = 0 := by
   have := (List.getElem?_eq_some_iff.1 hy).1
   simp at this; omega
  rw [hl, hi] at hx
  rw [hi] at hy
  simp at hx hy
  subst hx hy
  exact hu.apart h1 (by decide) hg
def RetMT (w : World) (r : MT × Int) (e : Ending) (w' : World) : Prop :=
 ∃ A n c m, e = .returned (.tuple #[.slice A n c, I r.2]) ∧ SMat w' A n m ∧ tx2 m = r.1 ∧ Sh2 m ∧ Below w.heap.size w w'
theorem RetMT.none_ {w w' : World} {c : Int} {r : MT × Int} (h : r = ([], c)) (hb : Below w.heap.size w w') : RetMT w r (.returned (.tuple #[.slice none 0 0, I c])) w' :=
 ⟨none, 0, 0, [], by rw [h], ⟨[], Reads.nil, rfl, fun i u l h => by simp at h⟩, by rw [h]; rfl, fun l h => by simp at h, hb⟩
def mkM (m : List (List Rat)) : List (List ByteArray) := m.map fun r => mkS (r.map qText)
theorem tx_mkM (m : List (List Rat)) : tx2 (mkM m) = m.map fun r => r.map qText := by
 unfold tx2 mkM
 rw [List.map_map]
 exact List.map_congr_left fun r _ => tx_mk _
theorem sh_mkM {m : List (List Rat)} (h : m.all (fun r => r.all fitQ) = true) : Sh2 (mkM m) := by
 intro l hl
 obtain ⟨r, hr, rfl⟩ := List.mem_map.1 hl
 rw [List.all_eq_true] at h
 exact sh_mk (h r hr)
set_option maxRecDepth 100000 in
set_option maxHeartbeats 1000000 in
theorem textM_any (m : List (List Rat)) (n : Nat) (A : Option Addr) (c : Nat) (w : World) (hm : RM w A n m) (hn : n ≤ 1000000) (hw : ∀ r ∈ m, r.length ≤ 1000000) (htab : Tab w) :
  Calls Tryz.prog 50 #[.slice A n c] w (RetMT w (txM m)) := by
 have hl := hm.len
 have HM := Lib.hid hm
 have HTB := Lib.hid htab
 have HW := Lib.hid hw
 obtain ⟨i0, hi, hz0, hz1, hz2⟩ := info_parts info_vec
 have HI := Lib.hid hi
 have HZ0 := Lib.hid hz0
 have HZ1 := Lib.hid hz1
 have HZ2 := Lib.hid hz2
 clear hm htab hw hi hz0 hz1 hz2
 unfold vecT at *
 go_enter Tryz.func50, Tryz.ntmps50
 go_wp2
 go_loopg [4, 11] (n - 0) (fun r o v wr => ∃ k : Nat, r = n - k ∧ v = I k ∧ k ≤ n ∧ Hid (Sows wr w.heap.size o (mkM (m.take k))) ∧ Hid ((m.take k).all (fun r => r.all fitQ) = true) ∧ Hid (Below w.heap.size w wr))
 case atStart => exact ⟨0, rfl, rfl, by omega, Sows.nil _ _, rfl, Below.refl _ _⟩
 case round =>
  obtain ⟨k, rfl, rfl, hk, HS, HF, HB⟩ := hrel
  obtain ⟨wa, rfl⟩ : ∃ wa : World, wa = wr := ⟨_, rfl⟩
  by_cases hlt : k < n
  ·obtain ⟨x, hx⟩ : ∃ x, m[k]? = some x := ⟨_, List.getElem?_eq_getElem (by omega)⟩
   obtain ⟨b, off, B, d, rfl, _, hc, hr⟩ := (HM.out.below HB.out).at_ hlt x hx
   have HC := Lib.hid (textVec_any x x.length B d wa hr (HW.out x (List.mem_of_getElem? hx)) (tab_below HTB.out HB.out))
   have HX := Lib.hid (show m.take (k + 1) = m.take k ++ [x] by rw [List.take_add_one, hx]; rfl)
   have HL := Lib.hid (show m = m.take k ++ x :: m.drop (k + 1) by
    obtain ⟨h1, h2⟩ := List.getElem?_eq_some_iff.1 hx
    rw [← h2, ← List.drop_eq_getElem_cons h1, List.take_append_drop])
   clear hx hr
   go_wp2_with fail
   refine HC.out.mono ?_
   rintro e w1 ⟨u, rfl, h1, h2, hb⟩
   have HB1 := Lib.hid (HB.out.trans (hb.mono HB.out.size))
   cases hf : x.all fitQ with
   | true =>
    have HU := Lib.hid ((h1 hf).less HB.out.size)
    have HF1 := Lib.hid (show (m.take (k + 1)).all (fun r => r.all fitQ) = true by rw [HX.out, List.all_append, HF.out]; simp [hf])
    have te : (txV x).2 = 0 := by rw [txV, if_pos hf]
    obtain ⟨Au, cu, hu⟩ := (h1 hf).val
    obtain ⟨vs, hs1, hs2⟩ := HS.out.call hb
    have HS1 := Lib.hid hs1
    have HS2 := Lib.hid hs2
    have hml : (mkM (m.take k)).length = k := by simp [mkM]; omega
    rw [hml] at HS1
    rw [te]
    have hbs := HB1.out.size
    clear hs1 hs2 h1 h2 hb HC HF HB hc te
    generalize hlx : x.length = lx at *
    subst hu
    go_wp2_with (at_builtin; refine wpList_append_rowG rfl _ _ 23 rfl w.heap.size 25 i0 _ 1 24 Tryz.underlying23 HI.out HZ0.out HZ1.out HZ2.out rfl (by decide) _ k vs rfl (HS1.out.alloc _) (w1.heap.size + 1) (some ⟨w1.heap.size, 0, none⟩) 1 1 [.slice Au lx cu] rfl (reads_one w1 _ _) (by intro u hu; simp at hu; subst hu; rfl) ?c1 ?c2 ?c3 ?_)
    case c1 => unfold maxLen; omega
    case c2 => omega
    case c3 => simp; omega
    intro v' w2 hr2 hg2
    have HSN := Lib.hid (show Sows w2 w.heap.size v' (mkM (m.take (k + 1))) by
     rw [HX.out, mkM, List.map_append]
     refine Sows.snoc (w := w1.alloc _) (u := .slice Au lx cu) (l := mkS (x.map qText)) (vs := vs) ?_ (fun i u l a b => (HS2.out i u l a b).alloc _) ?_ ?_ hg2
     ·show Row _ _ _ _ _ (mkM (m.take k)).length _
      rw [hml]; exact HS1.out.alloc _
     ·have := HU.out.alloc (.cells #[.slice Au lx cu] 25)
      rwa [show (mkS (x.map qText)).length = lx by simp [mkS, hlx]]
     ·show Row _ _ _ _ _ ((mkM (m.take k)).length + 1) _
      rw [hml]; exact hr2)
    have HB2 := Lib.hid (show Below w.heap.size w w2 from (HB1.out.alloc hbs _).trans ((HS1.out.alloc _).belowG hg2 (by simp; omega)))
    obtain ⟨A2, c2, rfl⟩ := hr2.val
    clear hr2 hg2 HS1 HS2 HU HB1 HL HX hml hbs
    go_wp2
    go_roundg (n - (k + 1))
    case measure => omega
    case rel => exact ⟨k + 1, rfl, by go_num, by omega, HSN, HF1, HB2⟩
   | false =>
    have HQ := Lib.hid (RetMT.none_ (c := 2) (show txM m = ([], 2) by
     rw [txM, if_neg]
     rw [HL.out, List.all_append, List.all_cons, hf]; simp) HB1.out)
    have te : (txV x).2 = 2 := by rw [txV, if_neg (by simp [hf])]
    rw [te]
    obtain rfl := h2 hf
    clear h1 h2 hb HC HF HS HB hc te hf HL HX
    go_wp2
    go_ret2
    exact HQ.out
  ·have hkn : k = n := by omega
   subst hkn
   have hs := HS.out
   have hf := HF.out
   rw [List.take_of_length_le (by omega)] at hs hf
   have hml : (mkM m).length = k := by simp [mkM, hl]
   obtain ⟨vs, h1, h2⟩ := id hs
   rw [hml] at h1
   obtain ⟨A2, c2, rfl⟩ := h1.val
   have HQ := Lib.hid (show RetMT w (txM m) (.returned (.tuple #[.slice A2 k c2, I 0])) wa from ⟨A2, k, c2, mkM m, by rw [txM_fit hf], hs.smat, by rw [txM_fit hf]; exact tx_mkM m, sh_mkM hf, HB.out⟩)
   clear hs hf HS HF h1 h2 hml
   go_wp2
   go_ret2
   exact HQ.out
def trP (m : List (List Rat)) (wd i k : Nat) : List (List Rat) := (List.range wd).map fun j => ((m.take i).map fun r => r.getD j 0) ++ if j < k then [(m.getD i []).getD j 0] else []
theorem trP_len (m : List (List Rat)) (wd i k : Nat) : (trP m wd i k).length = wd := by simp [trP]
theorem trP_get (m : List (List Rat)) {wd : Nat} (i : Nat) {k : Nat} (hk : k < wd) : (trP m wd i k)[k]? = some ((m.take i).map fun r => r.getD k 0) := by
 unfold trP
 rw [List.getElem?_map, List.getElem?_range hk, Option.map_some, if_neg (by omega), List.append_nil]
theorem trP_set (m : List (List Rat)) {wd : Nat} (i : Nat) {k : Nat} (hk : k < wd) : (trP m wd i k).set k (((m.take i).map fun r => r.getD k 0) ++ [(m.getD i []).getD k 0]) = trP m wd i (k + 1) := by
 apply List.ext_getElem?
 intro j
 by_cases hj : j = k
 ·subst hj
  rw [List.getElem?_set_self (by rw [trP_len]; exact hk)]
  unfold trP
  rw [List.getElem?_map, List.getElem?_range hk, Option.map_some, if_pos (by omega)]
 ·rw [List.getElem?_set_ne (Ne.symm hj)]
  unfold trP
  rw [List.getElem?_map, List.getElem?_map]
  by_cases h : j < wd
  ·rw [List.getElem?_range h, Option.map_some, Option.map_some]
   by_cases h2 : j < k
   ·rw [if_pos h2, if_pos (by omega)]
   ·rw [if_neg h2, if_neg (by omega)]
  ·rw [List.getElem?_eq_none (by simp; omega)]
   rfl
theorem trP_next (m : List (List Rat)) (wd : Nat) {i : Nat} (hi : i < m.length) : trP m wd i wd = trP m wd (i + 1) 0 := by
 unfold trP
 refine List.map_congr_left fun j hj => ?_
 rw [if_pos (List.mem_range.1 hj), if_neg (by omega), List.append_nil, List.take_add_one, List.getElem?_eq_getElem hi, List.map_append]
 have e : m.getD i [] = m[i] := by rw [List.getD_eq_getElem?_getD, List.getElem?_eq_getElem hi]; rfl
 rw [e]
 rfl
theorem trP_start (m : List (List Rat)) (wd : Nat) : trP m wd 0 0 = List.replicate wd [] := by
 apply List.ext_getElem
 ·simp [trP]
 ·intro j h1 h2
  simp [trP]
theorem trP_end (m : List (List Rat)) (wd : Nat) : trP m wd m.length 0 = trQ m wd := by
 unfold trP trQ
 refine List.map_congr_left fun j _ => ?_
 rw [if_neg (by omega), List.append_nil, List.take_length]
set_option maxRecDepth 100000 in
set_option maxHeartbeats 4000000 in
theorem transposed_any (m : List (List Rat)) (n wd : Nat) (A : Option Addr) (c : Nat) (w : World) (hm : RM w A n m) (hr : Rect m n wd) (hwd : wdQ m = wd) (hn : n ≤ 1000000) (hw : wd ≤ 1000000) :
  Calls Tryz.prog 51 #[.slice A n c] w (RetLM w (trQ m wd)) := by
 have hmk := make_mat wd (by omega)
 have HP := Lib.hid (show ∃ vs, LM (w.alloc (.cells (Array.replicate wd (Value.slice none 0 0)) rowT)) w.heap.size (.slice (some ⟨w.heap.size, 0, none⟩) wd wd) vs (trP m wd 0 0) from ⟨_, by rw [trP_start]; exact LM.start w wd (by unfold maxLen; omega)⟩)
 have HB := Lib.hid (below_new w (.cells (Array.replicate wd (Value.slice none 0 0)) rowT))
 have HM := Lib.hid hm
 have HR := Lib.hid hr
 have HC := Lib.hid (lwidth_any m n A c w hm)
 rw [hwd] at HC
 clear hm hr hwd
 unfold rowT at hmk
 go_enter Tryz.func51, Tryz.ntmps51
 go_wp2_with fail
 refine HC.out.mono ?_
 rintro e w1 ⟨rfl, rfl⟩
 clear HC
 go_wp2
 clear hmk
 go_loopg [13] (n - 0) (fun r v wr => ∃ i : Nat, r = n - i ∧ v = I i ∧ i ≤ n ∧ Hid (∃ vs, LM wr w1.heap.size (.slice (some ⟨w1.heap.size, 0, none⟩) wd wd) vs (trP m wd i 0)) ∧ Hid (Below w1.heap.size w1 wr))
 case atStart => exact ⟨0, rfl, rfl, by omega, HP, HB⟩
 case round =>
  clear HP HB
  obtain ⟨i, rfl, rfl, hi, HP, HB⟩ := hrel
  obtain ⟨wa, rfl⟩ : ∃ wa : World, wa = wr := ⟨_, rfl⟩
  by_cases hlt : i < n
  ·obtain ⟨x, hx⟩ : ∃ x, m[i]? = some x := ⟨_, List.getElem?_eq_getElem (by rw [HR.out.len]; exact hlt)⟩
   obtain ⟨b, off, B, d, rfl, _, hc, hrx⟩ := HM.out.at_ hlt x hx
   have hc := (HB.out.cell (World.block_lt_of_cell? _ _ hc)).trans hc
   have hxl : x.length = wd := HR.out.row x (List.mem_of_getElem? hx)
   have HRX := Lib.hid hrx
   have HX := Lib.hid (show m.getD i [] = x by rw [List.getD_eq_getElem?_getD, hx]; rfl)
   rw [hxl] at hc HRX
   have HXL := Lib.hid hxl
   clear hx hrx hxl
   go_wp2
   clear hc
   go_loopg [19] (wd - 0) (fun r v wr => ∃ k : Nat, r = wd - k ∧ v = I k ∧ k ≤ wd ∧ Hid (∃ vs, LM wr w1.heap.size (.slice (some ⟨w1.heap.size, 0, none⟩) wd wd) vs (trP m wd i k)) ∧ Hid (Below w1.heap.size w1 wr))
   case atStart => exact ⟨0, rfl, rfl, by omega, HP, HB⟩
   case round =>
    clear HP HB
    obtain ⟨k, rfl, rfl, hk, HP, HB⟩ := hrel
    obtain ⟨wb, rfl⟩ : ∃ wb : World, wb = wr := ⟨_, rfl⟩
    by_cases hkl : k < wd
    ·obtain ⟨q, hq⟩ : ∃ q, x[k]? = some q := ⟨_, List.getElem?_eq_getElem (by rw [HXL.out]; exact hkl)⟩
     obtain ⟨b2, o2, nb, B1, l1, c1, B2, l2, c2, rfl, _, hC, hrt⟩ := (HRX.out.below HB.out).form hkl q hq
     have HQ := Lib.hid (show (m.getD i []).getD k 0 = q by rw [HX.out, List.getD_eq_getElem?_getD, hq]; rfl)
     have hb1 := below_new wb (.cells #[.bool nb, .slice B1 l1 c1, .bool false, .slice B2 l2 c2] ratT)
     have hb2 := below_draw (wb.alloc (.cells #[.bool nb, .slice B1 l1 c1, .bool false, .slice B2 l2 c2] ratT))
     have HBox := Lib.hid ((boxes1 wb (.bool nb) (.slice B1 l1 c1) (.bool false) (.slice B2 l2 c2)).1.below hb2)
     have HRT := Lib.hid ((hrt.ext hb1).ext hb2)
     have HB1 := Lib.hid ((HB.out.trans (hb1.mono HB.out.size)).trans (hb2.mono (HB.out.trans (hb1.mono HB.out.size)).size))
     obtain ⟨vs, hLM⟩ := HP.out
     have hL1 := (hLM.call hb1).call hb2
     obtain ⟨g, o3, cap, Bu, cu, e3, _, _, hu, hcell, _, _⟩ := hL1.at_ (i := k) (by rw [trP_len]; exact hkl)
     obtain ⟨rfl, rfl⟩ := sl_inj e3
     rw [Nat.zero_add] at hcell
     have hget := trP_get m i hkl
     rw [List.getD_eq_getElem?_getD, hget, Option.getD_some] at hu hcell
     have HLT := Lib.hid (fun g hg => ((hLM.inner k _ _ hu hget).lt (g := g) hg).2)
     have HC0 := Lib.hid hcell
     have HU := Lib.hid hu
     have HL1 := Lib.hid hL1
     have HG := Lib.hid hget
     have q0 := hC.c0
     have q1 := hC.c1
     have q2 := hC.c2
     have q3 := hC.c3
     generalize hlu : ((m.take i).map fun r => r.getD k 0).length = lu at *
     have HLU := Lib.hid hlu
     have hlu6 : lu ≤ 1000000 := by rw [← hlu, List.length_map, List.length_take]; omega
     clear e3 hcell hu hget hL1 hLM hb1 hb2 hq hrt hC HP HB hlu
     unfold ratT at *
     go_upto_region 8 with (fail)
     clear q0 q1 q2 q3
     generalize hbx : wb.heap.size = bx at *
     refine wp_region_c (fun w' => w'.cell? ⟨w1.heap.size, k, none⟩ = some (.slice Bu lu cu) ∧ w'.cell? ⟨bx, 0, none⟩ = some (.bool nb) ∧ w'.cell? ⟨bx, 1, none⟩ = some (.slice B1 l1 c1) ∧ w'.cell? ⟨bx, 2, none⟩ = some (.bool false) ∧ w'.cell? ⟨bx, 3, none⟩ = some (.slice B2 l2 c2)) 10 (by kernel_rfl) ?_
     generalize (wb.alloc (Obj.cells #[Value.bool nb, Value.slice B1 l1 c1, Value.bool false, Value.slice B2 l2 c2] 71)).drew = W1 at *
     refine tkS ⟨HC0.out, HBox.out.c0, HBox.out.c1, HBox.out.c2, HBox.out.c3⟩ fun hSS => ?_
     refine aZ 0 (.slice (some ⟨w1.heap.size, 0, none⟩) wd wd) rfl hSS ?_
     refine aZ 1 (I k) rfl hSS ?_
     refine aZ 2 (.slice (some ⟨w1.heap.size, 0, none⟩) wd wd) rfl hSS ?_
     refine aZ 3 (I k) rfl hSS ?_
     refine aZ 4 (.pointer (some ⟨w1.heap.size, k, none⟩)) rfl hSS ?_
     refine aZ 5 (.slice Bu lu cu) rfl hSS ?_
     refine aZ 6 (.agg #[.bool nb, .slice B1 l1 c1, .bool false, .slice B2 l2 c2]) rfl hSS ?_
     refine on1 7 fun K hK => ?_
     go_simp
     have hb3 := below_new W1 (.cells #[.bool nb, .slice B1 l1 c1, .bool false, .slice B2 l2 c2] 71)
     have HC1 := Lib.hid (cell_below HC0.out hb3)
     have HBox1 := Lib.hid (HBox.out.below hb3)
     have HL2 := Lib.hid (HL1.out.call hb3)
     have HRT2 := Lib.hid (HRT.out.ext hb3)
     have HB2 := Lib.hid (HB1.out.trans (hb3.mono HB1.out.size))
     have hBlk := Blk.new W1 71 #[.bool nb, .slice B1 l1 c1, .bool false, .slice B2 l2 c2]
     refine hK.out _ _ (fun _ => ⟨HC1.out, HBox1.out.c0, HBox1.out.c1, HBox1.out.c2, HBox1.out.c3⟩) ?_
     clear hK K hb3 HC0 HBox HL1 HRT HB1
     generalize hgx : W1.heap.size = gx at *
     generalize W1.alloc (.cells #[.bool nb, .slice B1 l1 c1, .bool false, .slice B2 l2 c2] 71) = W2 at *
     have hru := HL2.out.inner k _ _ HU.out HG.out
     refine on1 8 fun K hK => ?_
     refine step_app1 (by rfl) _ _ (by rfl) w1.heap.size (.slice Bu lu cu) _ (by kernel_rfl) hru gx (by kernel_rfl) hBlk HRT2.out (by rw [HLU.out]; exact hlu6) HB2.out.size ?_
     intro v3 W3 hap
     obtain ⟨h1, h2, h3, h4, h5⟩ := HL2.out.app (trP_len _ _ _ _) hkl HU.out HG.out hap HB2.out.size
     rw [Nat.zero_add] at h1 h3 h4
     have HBox2 := Lib.hid (HBox1.out.keepB (hap.grown.block bx HBox1.out.lt (fun e => Nat.lt_irrefl _ (HLT.out bx e.symm))))
     refine hK.out _ _ (fun _ => ⟨h3, HBox2.out.c0, HBox2.out.c1, HBox2.out.c2, HBox2.out.c3⟩) ?_
     clear hK K
     refine on1 9 fun K hK => ?_
     go_simp
     refine hK.out _ _ (fun _ => ⟨h3, HBox2.out.c0, HBox2.out.c1, HBox2.out.c2, HBox2.out.c3⟩) ?_
     clear hK K HBox2 HBox1
     have hN := trP_set m i hkl
     rw [HQ.out] at hN
     rw [hN] at h1
     obtain ⟨A3, c3, rfl⟩ := hap.row.val
     have HN := Lib.hid (show ∃ vs, LM (W3.setCell ⟨w1.heap.size, k, none⟩ _) w1.heap.size (.slice (some ⟨w1.heap.size, 0, none⟩) wd wd) vs (trP m wd i (k + 1)) from ⟨_, h1⟩)
     have HB4 := Lib.hid ((HB2.out.trans h2).setCell (p := ⟨w1.heap.size, k, none⟩) (Nat.le_refl _) (.slice A3 (((m.take i).map fun r => r.getD k 0) ++ [q]).length c3))
     generalize (((m.take i).map fun r => r.getD k 0) ++ [q]).length = l3 at *
     clear h1 h2 h5 hap hru hN hBlk HL2 HRT2 HB2 HC1 HU HG HLT HLU HQ
     refine on1 10 fun K hK => ?_
     go_simp
     refine hK.out _ _ (fun h => absurd h (by decide)) ?_
     clear hK K
     refine wpAnyC_done (by kernel_rfl) ?_ _
     go_wp2
     go_roundg (wd - (k + 1))
     case measure => omega
     case rel => exact ⟨k + 1, rfl, by go_num, by omega, HN, HB4⟩
    ·have hkn : k = wd := by omega
     subst hkn
     have HN := Lib.hid (show ∃ vs, LM wb w1.heap.size (.slice (some ⟨w1.heap.size, 0, none⟩) k k) vs (trP m k (i + 1) 0) by
      have := HP.out
      rwa [trP_next m k (by rw [HR.out.len]; exact hlt)] at this)
     clear HP
     go_wp2
     go_roundg (n - (i + 1))
     case measure => omega
     case rel => exact ⟨i + 1, rfl, by go_num, by omega, HN, HB⟩
  ·have hin : i = n := by omega
   subst hin
   obtain ⟨vs, hLM⟩ := HP.out
   have he := trP_end m wd
   rw [HR.out.len] at he
   rw [he] at hLM
   have HF := Lib.hid hLM
   clear hLM HP he
   go_wp2
   go_ret
   exact ⟨_, _, rfl, HF.out, HB.out⟩
end Go.Proofs.YtcgfdfdcbamceaaGreatDoor
namespace Go.Proofs.YtcgfdfdcbamceaaGreatDoor
open Go.Lib
theorem wd_nil {m : MT} (h : m.length = 0) : wd m = 0 := by rw [List.eq_nil_of_length_eq_zero h]; rfl
end Go.Proofs.YtcgfdfdcbamceaaGreatDoor
namespace Go.Proofs.YtcgfdfdcbamceaaGreatDoor
open Go.RowKit
def Fit1 (l : List Rat) : Prop := ∀ q ∈ l, FitR 210 q
def Fit2 (m : List (List Rat)) : Prop := ∀ r ∈ m, Fit1 r
theorem Fit1.at_ {l : List Rat} (h : Fit1 l) (i : Nat) : FitR 210 (l.getD i 0) := by
 rw [List.getD_eq_getElem?_getD]
 cases e : l[i]? with
 | none => exact fitR_zero.mono (by decide)
 | some q => exact h q (List.mem_of_getElem? e)
theorem Fit2.at_ {m : List (List Rat)} (h : Fit2 m) (i : Nat) : Fit1 (m.getD i []) := by
 rw [List.getD_eq_getElem?_getD]
 cases e : m[i]? with
 | none => intro q hq; cases hq
 | some q => exact h q (List.mem_of_getElem? e)
theorem fit_vals1 {l : List (List UInt8)} (h : ∀ s ∈ l, rchk s = 0) : Fit1 (valsV l) := by
 intro q hq
 obtain ⟨s, hs, rfl⟩ := List.mem_map.1 hq
 exact val_fit (rchk_val s (h s hs))
theorem fit_vals2 {m : MT} {n k : Nat} (h : VM m n k) : Fit2 (valsM m) := by
 intro r hr
 obtain ⟨l, hl, rfl⟩ := List.mem_map.1 hr
 exact fit_vals1 (h.ok l hl)
theorem val2_of {m : List (List ByteArray)} {n k : Nat} (h : VM (tx2 m) n k) : Val2 m := by
 intro l hl
 have hm : tx1 l ∈ tx2 m := List.mem_map.2 ⟨l, hl, rfl⟩
 refine ⟨fun s hs => h.ok _ hm _ (List.mem_map.2 ⟨s, hs, rfl⟩), ?_⟩
 have h1 := h.rect.row _ hm
 rw [tx1, List.length_map] at h1
 rcases h.hk with h2 | h2
 ·omega
 ·have := h.rect.len
  rw [h2] at this
  rw [List.eq_nil_of_length_eq_zero this] at hm
  cases hm
theorem firstE2 (a b : Int) : firstE [a, b] = if a ≠ 0 then a else b := by
 simp only [firstE]
 split
 ·rfl
 ·split
  ·rfl
  ·rename_i h; exact (Decidable.not_not.1 h).symm
theorem wdQ_vals (m : MT) : wdQ (valsM m) = wd m := by
 cases m with
 | nil => rfl
 | cons r m => simp [wdQ, valsM, valsV, wd]
theorem reads_e2 (w : World) (t : TypeId) (a b : Int) : Reads (w.alloc (.cells #[I a, I b] t)) (w.alloc (.cells #[I a, I b] t)).heap.size 1 (some ⟨w.heap.size, 0, none⟩) 2 ([a, b].map I) := by
 have := reads_lits w t ([a, b].map I)
 rw [World.size_alloc]
 exact this
abbrev errT : TypeId := 33
theorem err2_first (a b : Int) (r : MT × Int) (h : firstE [a, b] ≠ 0) : err2 a b r = ([], firstE [a, b]) := by
 rw [firstE2] at h ⊢
 unfold err2
 by_cases ha : a ≠ 0
 ·rw [if_pos ha, if_pos ha]
 ·rw [if_neg ha] at h ⊢
  rw [if_neg ha, if_pos h]
theorem first_zero {a b : Int} (h : firstE [a, b] = 0) : a = 0 ∧ b = 0 := by
 rw [firstE2] at h
 split at h
 ·rename_i h1; exact absurd h h1
 ·rename_i h1; exact ⟨Decidable.not_not.1 h1, h⟩
def SV (w : World) (A : Option Addr) (n : Nat) (l : List ByteArray) : Prop := Reads w w.heap.size 1 A n (l.map Sv)
theorem SV.below {w w' : World} {A : Option Addr} {n : Nat} {l : List ByteArray} (h : SV w A n l) (hb : Below w.heap.size w w') : SV w' A n l := (Reads.below h hb).more hb.size
theorem SV.len {w : World} {A : Option Addr} {n : Nat} {l : List ByteArray} (h : SV w A n l) : l.length = n := by have := h.1; simpa using this
theorem noWord_str (s : ByteArray) : noWord (.string s) := fun m e => by cases e
theorem app_vec : AppT vecT strT := ⟨Tryz.underlying25, by
 obtain ⟨i, hi, hz0, hz1, hz2⟩ := info_parts info_str
 exact ⟨i, _, _, hi, hz0, hz1, hz2, by omega, rfl, zero_noWord1 rfl (noWord_str _)⟩⟩
end Go.Proofs.YtcgfdfdcbamceaaGreatDoor
namespace Go.Proofs.YtcgfdfdcbamceaaGreatDoor
theorem back_txZ {q : Rat} (h : SzQ q 971) : rchk (qText q) = 0 ∧ rval (qText q) = q := qText_ok q (h.fit (by decide) (by decide))
structure DualQ (m n : Nat) (a : List (List Rat)) (b c : List Rat) (a' : List (List Rat)) (b' c' : List Rat) : Prop where
 ea : ∀ k i, k < n → i < m → ent a' k i = - ent a i k
 eb : ∀ k, k < n → b'.getD k 0 = - c.getD k 0
 ec : ∀ i, i < m → c'.getD i 0 = - b.getD i 0
section
variable {a a' : List (List Rat)} {b c b' c' : List Rat} {m n : Nat} {s t : SolvedQ}
theorem DualQ.col (h : DualQ m n a b c a' b' c') (y : Nat → Rat) {k : Nat} (hk : k < n) : (sm m fun i => ent a' k i * y i) = - sm m fun i => y i * ent a i k := by
 rw [← sm_neg]
 exact sm_congr m fun i hi => by rw [h.ea k i hk hi]; grind
theorem DualQ.row (h : DualQ m n a b c a' b' c') (x : Nat → Rat) {i : Nat} (hi : i < m) : (sm n fun k => x k * ent a' k i) = - sm n fun k => ent a i k * x k := by
 rw [← sm_neg]
 exact sm_congr n fun k hk => by rw [h.ea k i hk hi]; grind
theorem DualQ.fe (h : DualQ m n a b c a' b' c') {y : Nat → Rat} : (∀ k, k < n → c.getD k 0 ≤ sm m fun i => y i * ent a i k) ↔ ∀ k, k < n → (sm m fun i => ent a' k i * y i) ≤ b'.getD k 0 := by
 refine ⟨fun g k hk => ?_, fun g k hk => ?_⟩
 ·have := g k hk
  rw [h.col y hk, h.eb k hk]
  grind
 ·have := g k hk
  rw [h.col y hk, h.eb k hk] at this
  grind
theorem DualQ.mix (h : DualQ m n a b c a' b' c') {x : Nat → Rat} : (∀ i, i < m → (sm n fun k => ent a i k * x k) ≤ b.getD i 0) ↔ ∀ i, i < m → c'.getD i 0 ≤ sm n fun k => x k * ent a' k i := by
 refine ⟨fun g i hi => ?_, fun g i hi => ?_⟩
 ·have := g i hi
  rw [h.row x hi, h.ec i hi]
  grind
 ·have := g i hi
  rw [h.row x hi, h.ec i hi] at this
  grind
theorem dual_law (h : DualQ m n a b c a' b' c') (hr : ResQ m n a b c s) (ht : ResQ n m a' b' c' t) : (s.kind = 0 ∧ t.kind = 0 ∧ t.value = - s.value) ∨ (s.kind = 2 ∧ t.kind = 1) ∨ (s.kind = 1 ∧ t.kind ≠ 0) := by
 cases hr with
 | best x y v _ _ hs =>
  cases ht with
  | best y' x' v' _ _ g =>
   refine Or.inl ⟨rfl, rfl, ?_⟩
   show v' = - v
   have h1 := weak hs.xn g.xn hs.fe (h.fe.2 g.fe)
   have h2 := weak g.yn hs.yn (h.mix.2 g.mix) hs.mix
   rw [hs.vx] at h1
   rw [hs.vy] at h2
   have e1 : (sm m fun i => c'.getD i 0 * y'.getD i 0) = - sm m fun i => b.getD i 0 * y'.getD i 0 := by
    rw [← sm_neg]
    exact sm_congr m fun i hi => by rw [h.ec i hi]; grind
   have e2 : (sm n fun k => b'.getD k 0 * x'.getD k 0) = - sm n fun k => c.getD k 0 * x'.getD k 0 := by
    rw [← sm_neg]
    exact sm_congr n fun k hk => by rw [h.eb k hk]; grind
   have e3 := g.vx
   have e4 := g.vy
   rw [e1] at e3
   rw [e2] at e4
   grind
  | none z _ g => exact absurd (g.no hs.yn (h.fe.1 hs.mix)) id
  | free z r _ _ g => exact absurd (g.no hs.xn (h.mix.1 hs.fe)) id
 | none y _ hs =>
  cases ht with
  | best y' x' v' _ _ g => exact absurd (hs.no g.yn (h.mix.2 g.mix)) id
  | none z _ g => exact Or.inr (Or.inr ⟨rfl, by show (1 : Int) ≠ 0; decide⟩)
  | free z r _ _ g => exact Or.inr (Or.inr ⟨rfl, by show (2 : Int) ≠ 0; decide⟩)
 | free x r _ _ hs =>
  cases ht with
  | best y' x' v' _ _ g => exact absurd (hs.no g.xn (h.fe.2 g.fe)) id
  | none z _ g => exact Or.inr (Or.inl ⟨rfl, rfl⟩)
  | free z r _ _ g => exact absurd (hs.no g.xn (h.fe.2 g.fe)) id
theorem getD_mulZ (l : List Rat) (f : Rat) (i : Nat) : (l.map fun x => x * f).getD i 0 = l.getD i 0 * f := by
 rw [List.getD_eq_getElem?_getD, List.getElem?_map, List.getD_eq_getElem?_getD]
 cases l[i]? with
 | none => exact (Rat.zero_mul f).symm
 | some x => rfl
theorem dual_of (hp : ProbQ a b c m n) : DualQ m n a b c (scQ (trQ a n) (-1)) (c.map fun q => - q) (b.map fun q => - q) ∧ ProbQ (scQ (trQ a n) (-1)) (c.map fun q => - q) (b.map fun q => - q) n m := by
 have hr : Rect (trQ a n) n m := rect_tr hp.len
 refine ⟨⟨fun k i hk hi => ?_, fun k hk => ?_, fun i hi => ?_⟩, ⟨by rw [scQ, List.length_map, hr.len], fun r hx => ?_, by rw [List.length_map, hp.lc], by rw [List.length_map, hp.lb]⟩⟩
 ·have e : ent (scQ (trQ a n) (-1)) k i = at2 (trQ a n) k i * (-1) := by
   rw [ent, scQ, getD_map_nil]
   exact getD_mulZ _ _ _
  rw [e, at2_tr a hk]
  show at2 a i k * (-1) = - at2 a i k
  grind
 ·rw [List.getD_eq_getElem?_getD, List.getElem?_map, List.getD_eq_getElem?_getD]
  cases c[k]? with
  | none => simp
  | some x => rfl
 ·rw [List.getD_eq_getElem?_getD, List.getElem?_map, List.getD_eq_getElem?_getD]
  cases b[i]? with
  | none => simp
  | some x => rfl
 ·obtain ⟨r', hr', rfl⟩ := List.mem_map.1 hx
  rw [List.length_map]
  exact hr.row r' hr'
theorem dual_short (hp : ProbQ a b c m n) (hs : ShortQ a b c) : ShortQ (scQ (trQ a n) (-1)) (c.map fun q => - q) (b.map fun q => - q) := by
 have hn : ∀ {q : Rat}, SzQ q 12 → SzQ (- q) 12 := fun h => h.neg
 refine ⟨fun r hr q hq => ?_, fun q hq => ?_, fun q hq => ?_⟩
 ·obtain ⟨r', hr', rfl⟩ := List.mem_map.1 hr
  obtain ⟨x, hx, rfl⟩ := List.mem_map.1 hq
  have h1 : SzM (trQ a n) 12 := SzM.tr (n := m) (k := n) ⟨hp.len, hp.row⟩ hs.ma
  rw [show x * (-1) = - x by grind]
  exact hn (h1 r' hr' x hx)
 ·obtain ⟨x, hx, rfl⟩ := List.mem_map.1 hq
  exact hn (hs.vc x hx)
 ·obtain ⟨x, hx, rfl⟩ := List.mem_map.1 hq
  exact hn (hs.vb x hx)
end
end Go.Proofs.YtcgfdfdcbamceaaGreatDoor
namespace Go.Proofs.YtcgfdfdcbamceaaGreatDoor
open Go.RowKit
theorem SV.at_ {w : World} {A : Option Addr} {n : Nat} {l : List ByteArray} (h : SV w A n l) {k : Nat} (hk : k < n) {q : ByteArray} (hq : l[k]? = some q) : ∃ b off, A = some ⟨b, off, none⟩ ∧ w.cell? ⟨b, off + k, none⟩ = some (.string q) := by
 obtain ⟨b, off, u, rfl, _, hu, hc⟩ := Reads.at1 h hk
 rw [List.getElem?_map, hq] at hu
 have hu := Option.some.inj hu
 subst hu
 exact ⟨b, off, rfl, hc⟩
def ngB (u : List ByteArray) : List ByteArray := mkS (((valsV (tx1 u)).map fun q => - q).map qText)
theorem tx_ngB (u : List ByteArray) : tx1 (ngB u) = ((valsV (tx1 u)).map fun q => - q).map qText := tx_mk _
theorem ngB_len (u : List ByteArray) : (ngB u).length = u.length := by
 unfold ngB mkS valsV tx1
 simp only [List.length_map]
theorem ngB_take {u : List ByteArray} {k : Nat} {q : ByteArray} (h : u[k]? = some q) : (ngB u).take (k + 1) = (ngB u).take k ++ [⟨(qText (-rval (SL q))).toArray⟩] := by
 have e : (ngB u)[k]? = some ⟨(qText (-rval (SL q))).toArray⟩ := by
  unfold ngB mkS valsV tx1
  rw [List.getElem?_map, List.getElem?_map, List.getElem?_map, List.getElem?_map, List.getElem?_map, h]
  rfl
 rw [List.take_add_one, e]
 rfl
theorem neg_txZ {t : List UInt8} (ht : rchk t = 0) (hz : SzQ (rval t) 12) : ratNeg t = (qText (-rval t), 0) := by
 have hn : SzQ (-rval t) 12 := hz.neg
 rw [ratNeg, rOp, if_pos (rAll_all (by simp [ht]; decide)), ratTx, if_pos (hn.fit (by decide) (by decide))]
theorem NRow.svZ {w : World} {base n c : Nat} {A : Option Addr} {l : List ByteArray} (h : NRow w base strT (.slice A n c) (l.map Sv)) (hn : l.length = n) : SV w A n l := by
 subst hn
 have hr := h.row
 rw [List.length_map] at hr
 exact hr.reads
set_option maxRecDepth 100000 in
set_option maxHeartbeats 4000000 in
theorem negated_any (u : List ByteArray) (nu : Nat) (Au : Option Addr) (cu : Nat) (w : World) (hu : SV w Au nu u) (su : Sh1 u) (hc : chkV (tx1 u) = 0) (hz : ∀ q ∈ valsV (tx1 u), SzQ q 12) (htab : Tab w) :
  Calls Tryz.prog 23 #[.slice Au nu cu] w fun e w' => ∃ A' c', e = .returned (.tuple #[.slice A' nu c', .bool true]) ∧ SV w' A' nu (ngB u) ∧ Below w.heap.size w w' := by
 have Lu := Lib.hid hu.len
 have HTB := Lib.hid htab
 have HU := Lib.hid hu
 have SU := Lib.hid su
 have HLB := Lib.hid (show (ngB u).length = nu by rw [ngB_len, Lu.out])
 have HNG := Lib.hid (show ∀ q ∈ u, ratNeg (SL q) = (qText (-rval (SL q)), 0) from fun q hq => neg_txZ ((chkV_ok hc).2 _ (List.mem_map.2 ⟨q, hq, rfl⟩)) (hz _ (List.mem_map.2 ⟨SL q, List.mem_map.2 ⟨q, hq, rfl⟩, rfl⟩)))
 have hnu : nu ≤ 40 := by have h := (chkV_ok hc).1; rw [tx1, List.length_map, Lu.out] at h; exact h
 clear hu su hc hz htab
 have HN0 := Lib.hid (show NRow w w.heap.size strT (.slice none 0 0) (((ngB u).take 0).map Sv) from NRow.nil _ _ _)
 have HBL := Lib.hid (Below.refl w.heap.size w)
 have HAV := Lib.hid app_vec
 unfold strT vecT at *
 go_enter Tryz.func23, Tryz.ntmps23
 go_wp2
 go_loopg [4, 11] (nu - 0) (fun r o v wr => ∃ k : Nat, ∃ vo : Value, o = vo ∧ r = nu - k ∧ v = I k ∧ k ≤ nu ∧ Hid (NRow wr w.heap.size 30 vo (((ngB u).take k).map Sv)) ∧ Hid (Below w.heap.size w wr))
 case atStart => exact ⟨0, _, rfl, rfl, rfl, by omega, HN0, HBL⟩
 case round =>
  clear HN0 HBL
  obtain ⟨k, vo, hvo, rfl, rfl, hk, HN0, HBL⟩ := hrel
  replace hvo := hvo.symm
  subst hvo
  obtain ⟨wa, rfl⟩ : ∃ wa : World, wa = wr := ⟨_, rfl⟩
  by_cases hlt : k < nu
  ·obtain ⟨q, hq⟩ : ∃ q, u[k]? = some q := ⟨_, List.getElem?_eq_getElem (by rw [Lu.out]; exact hlt)⟩
   obtain ⟨b2, o2, e2, hC0⟩ := (HU.out.below HBL.out).at_ hlt hq
   subst e2
   have HT := Lib.hid (ngB_take hq)
   have HQ := Lib.hid (HNG.out q (List.mem_of_getElem? hq))
   have hqs := SU.out q (List.mem_of_getElem? hq)
   have HC := Lib.hid (ratNeg_any q wa hqs (tab_below HTB.out HBL.out))
   rw [HQ.out] at HC
   clear hq HQ hqs
   go_wp2_with fail
   refine HC.out.mono ?_
   rintro e wb ⟨rfl, hb⟩
   clear HC hC0
   generalize qText (-rval (SL q)) = qn at *
   have HN1 := Lib.hid (HN0.out.call (hb.mono (Nat.le_refl _)))
   have HBB := Lib.hid (HBL.out.trans (hb.mono HBL.out.size))
   clear hb HN0 HBL
   have hz := below_new wb (.cells #[.string ⟨qn.toArray⟩] 30)
   have HX := Lib.hid (one_reads wb 30 (.string ⟨qn.toArray⟩))
   replace HN1 := Lib.hid (HN1.out.call hz)
   replace HBB := Lib.hid (HBB.out.trans (hz.mono HBB.out.size))
   clear hz
   have hvl : (((ngB u).take k).map Sv).length ≤ 1000 := by rw [List.length_map, List.length_take]; omega
   have HT2 := Lib.hid (show ((ngB u).take (k + 1)).map Sv = ((ngB u).take k).map Sv ++ [.string ⟨qn.toArray⟩] by rw [HT.out, List.map_append]; rfl)
   generalize ((ngB u).take k).map Sv = xs at *
   clear HT
   go_wp2_with (at_builtin; refine wpList_appG rfl _ _ HAV.out rfl w.heap.size vo xs rfl HN1.out (some ⟨wb.heap.size, 0, none⟩) 1 1 rfl [.string ⟨qn.toArray⟩] HX.out (fun u hu => by rw [List.mem_singleton.1 hu]; exact ⟨noWord_str _, rfl⟩) (by omega) HBB.out.size ?_)
   intro v5 w5x hap
   have HNN := Lib.hid (show NRow w5x w.heap.size 30 v5 (((ngB u).take (k + 1)).map Sv) by rw [HT2.out]; exact hap.row)
   have HBN := Lib.hid (HBB.out.trans (hap.below HN1.out HBB.out.size))
   clear hap HN1 HBB HX HT2 hvl
   go_wp2
   go_roundg (nu - (k + 1))
   case measure => omega
   case rel => exact ⟨k + 1, _, rfl, rfl, by go_num, by omega, HNN, HBN⟩
  ·have hkn : k = nu := by omega
   subst hkn
   have hg := HN0.out
   rw [List.take_of_length_le (by rw [HLB.out]; exact Nat.le_refl _)] at hg
   obtain ⟨A9, c9, rfl⟩ : ∃ A9 c9, vo = .slice A9 k c9 := by
    obtain ⟨A9, c9, e⟩ := hg.val
    rw [List.length_map, HLB.out] at e
    exact ⟨A9, c9, e⟩
   have HS := Lib.hid (NRow.svZ hg HLB.out)
   clear hg HN0
   go_wp2
   go_ret2
   exact ⟨_, _, rfl, HS.out, HBL.out⟩
end Go.Proofs.YtcgfdfdcbamceaaGreatDoor
namespace Go.Proofs.YtcgfdfdcbamceaaGreatDoor
section
variable {a : MT} {b c : List (List UInt8)} {m n : Nat} {s : SolvedQ}
theorem dual_txt (hc : chkP a b c = 0) (hp : ProbQ (valsM a) (valsV b) (valsV c) m n) (hs : ShortQ (valsM a) (valsV b) (valsV c)) (hm : m ≤ 6) (hn : n ≤ 6) (h0 : 0 < m) (h1 : 0 < n) :
  trM a = ((trQ (valsM a) n).map fun r => r.map qText, 0) ∧ scM ((trQ (valsM a) n).map fun r => r.map qText) [45, 49] = ((scQ (trQ (valsM a) n) (-1)).map fun r => r.map qText, 0) ∧
  chkP ((scQ (trQ (valsM a) n) (-1)).map fun r => r.map qText) (((valsV c).map fun q => - q).map qText) (((valsV b).map fun q => - q).map qText) = 0 ∧
  valsM ((scQ (trQ (valsM a) n) (-1)).map fun r => r.map qText) = scQ (trQ (valsM a) n) (-1) ∧ valsV (((valsV c).map fun q => - q).map qText) = (valsV c).map (fun q => - q) ∧ valsV (((valsV b).map fun q => - q).map qText) = (valsV b).map fun q => - q := by
 obtain ⟨c1, c2, c3, c4, c5⟩ := chkP_ok hc
 have hal : a.length = m := by have := hp.len; rwa [valsM, List.length_map] at this
 have hcl : c.length = n := by have := hp.lc; rwa [valsV, List.length_map] at this
 have hw : wd a = n := by rw [c5 (by omega), hcl]
 obtain ⟨hd, hpd⟩ := dual_of hp
 have hsd := dual_short hp hs
 have rt : Rect (trQ (valsM a) n) n m := rect_tr hp.len
 have zt : SzM (trQ (valsM a) n) 12 := SzM.tr (n := m) (k := n) ⟨hp.len, hp.row⟩ hs.ma
 have ft := zt.all (by decide) (by decide)
 have rs : Rect (scQ (trQ (valsM a) n) (-1)) n m := ⟨hpd.len, hpd.row⟩
 have zs : SzM (scQ (trQ (valsM a) n) (-1)) 12 := hsd.ma
 have fs := zs.all (by decide) (by decide)
 have bt := fit_back rt (by omega) (Or.inl (by omega)) ft
 have bs := fit_back rs (by omega) (Or.inl (by omega)) fs
 have zb : ∀ q ∈ (valsV c).map (fun q => - q), SzQ q 971 := fun q hq => (hsd.vb q hq).mono (by decide)
 have zc : ∀ q ∈ (valsV b).map (fun q => - q), SzQ q 971 := fun q hq => (hsd.vc q hq).mono (by decide)
 refine ⟨?_, ?_, ?_, bs.2, (tx_back zb).1, (tx_back zc).1⟩
 ·rw [trM, if_neg (fun k => k c1), hw, txM_fit ft]
 ·rw [scM, err2, if_neg (fun k => k bt.1.chk), if_neg (by decide +kernel), bt.2, show rval [45, 49] = -1 by decide +kernel, txM_fit fs]
 ·have lb := hpd.lb
  have lc := hpd.lc
  have l1 : ((scQ (trQ (valsM a) n) (-1)).map fun r => r.map qText).length = n := bs.1.rect.len
  rw [chkP, if_neg (by rw [l1, List.length_map, lc]; omega), if_neg (fun k => k bs.1.chk), if_neg (fun k => k (tx_chk zb (by omega))), if_neg (fun k => k (tx_chk zc (by omega))), if_neg]
  have e1 : (((valsV c).map fun q => - q).map qText).length = n := by rw [List.length_map]; exact lb
  have e2 : (((valsV b).map fun q => - q).map qText).length = m := by rw [List.length_map]; exact lc
  rw [l1, e1, e2]
  intro h
  rcases h with h | h
  ·exact h rfl
  ·exact h.2 (wd_eq bs.1.rect h1)
end
end Go.Proofs.YtcgfdfdcbamceaaGreatDoor
namespace Go.Proofs.YtcgfdfdcbamceaaGreatDoor
open Go.RowKit
set_option maxRecDepth 100000 in
set_option maxHeartbeats 1000000 in
theorem transpose_any (a : List (List ByteArray)) (na : Nat) (A : Option Addr) (ca : Nat) (w : World) (ha : SMat w A na a) (sa : Sh2 a) (htab : Tab w) :
  Calls Tryz.prog 21 #[.slice A na ca] w (RetMT w (trM (tx2 a))) := by
 have la : a.length = na := by obtain ⟨_, _, h, _⟩ := ha; exact h
 have HCA := Lib.hid (chkM_any a na A ca w ha sa htab)
 have HA := Lib.hid ha
 have HTB := Lib.hid htab
 have HSA := Lib.hid sa
 clear ha htab sa
 by_cases h1 : chkM (tx2 a) = 0
 ·have va := chkM_ok h1
  have hna : na ≤ 40 := by have := va.hn; simp [tx2] at this; omega
  have LA := Lib.hid (show (tx2 a).length = na by rw [tx2, List.length_map, la])
  have HRES := Lib.hid (show trM (tx2 a) = txM (trQ (valsM (tx2 a)) (wd (tx2 a))) by unfold trM; rw [if_neg (fun h => h h1)])
  have hwd : wd (tx2 a) ≤ 40 := by
   rcases va.hk with h | h
   ·exact h
   ·rw [wd_nil h]; omega
  have VA := Lib.hid va
  rw [h1] at HCA
  clear va h1
  go_enter Tryz.func21, Tryz.ntmps21
  go_wp2_with fail
  refine HCA.out.mono ?_
  rintro e w1 ⟨rfl, hb1⟩
  have HB1 := Lib.hid hb1
  have HX := Lib.hid (values_any a na A ca w1 (HA.out.below hb1) HSA.out (val2_of VA.out) (by omega))
  clear hb1 HCA
  go_wp2_with fail
  refine HX.out.mono ?_
  rintro e w2 ⟨vx, vxs, rfl, hx, hb⟩
  have HB2 := Lib.hid (HB1.out.trans (hb.mono HB1.out.size))
  obtain ⟨Ax, cx, rfl⟩ := hx.val
  have hr := VA.out.vals
  have hrl := hr.len
  have HTR := Lib.hid (transposed_any (valsM (tx2 a)) _ (wd (tx2 a)) Ax cx w2 hx.rm (by rw [hrl]; exact hr) (wdQ_vals _) (by rw [hrl, LA.out]; omega) (by omega))
  clear hb HX HB1 hx hr hrl
  go_wp2_with fail
  refine HTR.out.mono ?_
  rintro e w3 ⟨vz, vzs, rfl, hz, hb⟩
  have HB3 := Lib.hid (HB2.out.trans (hb.mono HB2.out.size))
  obtain ⟨Az, cz, rfl⟩ := hz.val
  have htl : (trQ (valsM (tx2 a)) (wd (tx2 a))).length = wd (tx2 a) := by simp [trQ]
  have HT := Lib.hid (textM_any (trQ (valsM (tx2 a)) (wd (tx2 a))) _ Az cz w3 hz.rm (by rw [htl]; omega) (fun r hr => by
   obtain ⟨j, _, rfl⟩ := List.mem_map.1 hr
   rw [List.length_map, valsM, List.length_map, LA.out]; omega) (tab_below HTB.out HB3.out))
  clear hb HTR HB2 hz htl
  go_wp2_with fail
  refine HT.out.mono ?_
  rintro e w4 ⟨A9, n9, c9, m9, rfl, k1, k2, k3, hb⟩
  have HQ := Lib.hid (show RetMT w (txM (trQ (valsM (tx2 a)) (wd (tx2 a)))) (.returned (.tuple #[.slice A9 n9 c9, I (txM (trQ (valsM (tx2 a)) (wd (tx2 a)))).2])) w4 from ⟨A9, n9, c9, m9, rfl, k1, k2, k3, HB3.out.trans (hb.mono HB3.out.size)⟩)
  clear k1 k2 k3 hb HT HB3
  go_wp2
  go_ret2
  rw [HRES.out]
  exact HQ.out
 ·have HE := Lib.hid (show trM (tx2 a) = ([], chkM (tx2 a)) by unfold trM; rw [if_pos h1])
  have tc : (chkM (tx2 a) != 0) = true := bne_iff_ne.2 h1
  clear h1
  go_enter Tryz.func21, Tryz.ntmps21
  go_wp2_with fail
  refine HCA.out.mono ?_
  rintro e w1 ⟨rfl, hb1⟩
  have HQ := Lib.hid (RetMT.none_ (w := w) HE.out hb1)
  clear hb1 HCA HE
  generalize chkM (tx2 a) = cc at *
  go_wp2
  go_ret2
  exact HQ.out
theorem tx1_inj {a b : List ByteArray} (h : tx1 a = tx1 b) : a = b := by
 induction a generalizing b with
 | nil => cases b with
  | nil => rfl
  | cons y b => simp [tx1] at h
 | cons x a ih => cases b with
  | nil => simp [tx1] at h
  | cons y b =>
   simp only [tx1, List.map_cons, List.cons.injEq] at h
   rw [SL_inj h.1, ih h.2]
theorem tx2_inj {a b : List (List ByteArray)} (h : tx2 a = tx2 b) : a = b := by
 induction a generalizing b with
 | nil => cases b with
  | nil => rfl
  | cons y b => simp [tx2] at h
 | cons x a ih => cases b with
  | nil => simp [tx2] at h
  | cons y b =>
   simp only [tx2, List.map_cons, List.cons.injEq] at h
   rw [tx1_inj h.1, ih h.2]
def eachQ (f : Rat → Rat → Rat) (x y : List (List Rat)) : List (List Rat) := List.zipWith (fun r s => List.zipWith f r s) x y
theorem rect_each {f : Rat → Rat → Rat} {a b : List (List Rat)} {n k : Nat} (ha : Rect a n k) (hb : Rect b n k) : Rect (eachQ f a b) n k := by
 refine ⟨by rw [eachQ, List.length_zipWith, ha.len, hb.len, Nat.min_self], fun r hr => ?_⟩
 unfold eachQ at hr
 obtain ⟨i, hi, rfl⟩ := List.mem_iff_getElem.1 hr
 rw [List.length_zipWith] at hi
 rw [List.getElem_zipWith, List.length_zipWith, ha.row _ (List.getElem_mem _), hb.row _ (List.getElem_mem _), Nat.min_self]
theorem at2_each {f : Rat → Rat → Rat} {a b : List (List Rat)} {n k : Nat} (ha : Rect a n k) (hb : Rect b n k) {i j : Nat} (hi : i < n) (hj : j < k) : at2 (eachQ f a b) i j = f (at2 a i j) (at2 b i j) := by
 have h1 : i < a.length := by rw [ha.len]; exact hi
 have h2 : i < b.length := by rw [hb.len]; exact hi
 have k1 : j < (a[i]).length := by rw [ha.row _ (List.getElem_mem _)]; exact hj
 have k2 : j < (b[i]).length := by rw [hb.row _ (List.getElem_mem _)]; exact hj
 unfold at2 eachQ
 simp only [List.getD_eq_getElem?_getD, List.getElem?_zipWith, List.getElem?_eq_getElem h1, List.getElem?_eq_getElem h2, Option.getD_some, List.getElem?_eq_getElem k1, List.getElem?_eq_getElem k2]
def mixP (r x : List (List Rat)) (i k : Nat) : List (List Rat) := (List.range x.length).map fun j => if j < i then r.getD j [] else if j = i then (r.getD i []).take k ++ (x.getD i []).drop k else x.getD j []
theorem mixP_len (r x : List (List Rat)) (i k : Nat) : (mixP r x i k).length = x.length := by simp [mixP]
theorem mixP_get (r x : List (List Rat)) {i : Nat} (k : Nat) (hi : i < x.length) : (mixP r x i k).getD i [] = (r.getD i []).take k ++ (x.getD i []).drop k := by
 unfold mixP
 rw [getD_range_map _ _ hi, if_neg (by omega), if_pos rfl]
theorem mixP_at {r x : List (List Rat)} {n wd i k : Nat} (hr : Rect r n wd) (hx : Rect x n wd) (hi : i < n) (hk : k < wd) : ((mixP r x i k).getD i []).length = wd ∧ ((mixP r x i k).getD i []).getD k 0 = at2 x i k := by
 have l1 := hr.rowlen hi
 have l2 := hx.rowlen hi
 rw [mixP_get r x k (by rw [hx.len]; exact hi)]
 refine ⟨by rw [List.length_append, List.length_take, List.length_drop, l1, l2]; omega, ?_⟩
 unfold at2
 rw [List.getD_eq_getElem?_getD, List.getElem?_append_right (by rw [List.length_take, l1]; omega), List.getD_eq_getElem?_getD, List.length_take, l1, List.getElem?_drop]
 congr 2
 omega
theorem mixP_set {r x : List (List Rat)} {n wd i k : Nat} (hr : Rect r n wd) (hx : Rect x n wd) (hi : i < n) (hk : k < wd) : (mixP r x i k).set i (((mixP r x i k).getD i []).set k (at2 r i k)) = mixP r x i (k + 1) := by
 have l1 := hr.rowlen hi
 have l2 := hx.rowlen hi
 have hix : i < x.length := by rw [hx.len]; exact hi
 apply List.ext_getElem?
 intro j
 by_cases hj : j = i
 ·subst hj
  rw [List.getElem?_set_self (by rw [mixP_len]; exact hix), mixP_get r x k hix]
  unfold mixP
  rw [List.getElem?_map, List.getElem?_range hix, Option.map_some, if_neg (by omega), if_pos rfl]
  congr 1
  have hlt : k < (r.getD j []).length := by rw [l1]; exact hk
  rw [List.set_append_right _ _ (by rw [List.length_take, l1]; omega), List.length_take, l1, List.drop_eq_getElem_cons (i := k) (by rw [l2]; exact hk), show k - min k wd = 0 by omega, List.set_cons_zero, List.take_add_one, List.getElem?_eq_getElem hlt]
  unfold at2
  rw [List.getD_eq_getElem?_getD (l := r.getD j []), List.getElem?_eq_getElem hlt, List.append_assoc]
  rfl
 ·rw [List.getElem?_set_ne (Ne.symm hj)]
  unfold mixP
  rw [List.getElem?_map, List.getElem?_map]
  by_cases h : j < x.length
  ·rw [List.getElem?_range h, Option.map_some, Option.map_some, if_neg hj, if_neg hj]
  ·rw [List.getElem?_eq_none (by simp; omega)]
   rfl
theorem mixP_next {r x : List (List Rat)} {n wd : Nat} (hr : Rect r n wd) (hx : Rect x n wd) {i : Nat} (hi : i < n) : mixP r x i wd = mixP r x (i + 1) 0 := by
 have l1 := hr.rowlen hi
 have l2 := hx.rowlen hi
 unfold mixP
 refine List.map_congr_left fun j _ => ?_
 by_cases h1 : j < i
 ·rw [if_pos h1, if_pos (by omega)]
 ·by_cases h2 : j = i
  ·rw [if_neg h1, if_pos h2, if_pos (by omega), List.take_of_length_le (by omega), List.drop_of_length_le (by omega), List.append_nil, h2]
  ·rw [if_neg h1, if_neg h2, if_neg (by omega)]
   split
   ·rename_i h3; subst h3; simp
   ·rfl
theorem mixP_start (r x : List (List Rat)) : mixP r x 0 0 = x := by
 apply List.ext_getElem
 ·simp [mixP]
 ·intro j h1 h2
  simp only [mixP, List.getElem_map, List.getElem_range]
  rw [if_neg (by omega)]
  split
  ·rename_i h; subst h; simp [h2]
  ·simp [h2]
theorem mixP_end {r x : List (List Rat)} {n wd : Nat} (hr : Rect r n wd) (hx : Rect x n wd) : mixP r x n 0 = r := by
 apply List.ext_getElem
 ·simp [mixP, hx.len, hr.len]
 ·intro j h1 h2
  have h3 : j < n := by rw [← hr.len]; exact h2
  simp only [mixP, List.getElem_map, List.getElem_range]
  rw [if_pos h3, List.getD_eq_getElem?_getD, List.getElem?_eq_getElem h2]; rfl
theorem Fit2.entry {m : List (List Rat)} (h : Fit2 m) (i j : Nat) : FitR 210 (at2 m i j) := (h.at_ i).at_ j
set_option maxRecDepth 100000 in
set_option maxHeartbeats 1000000 in
theorem scale1_any (u v : Value) (x y q : Rat) (g : Nat) (w : World) (hx : Rt w u x) (hy : Rt w v y) (hq : Vq w g q) (fx : FitR 210 x) (fq : FitR 210 q) :
  Calls Tryz.prog 53 #[u, v, .pointer (some ⟨g, 0, none⟩)] w (RetRt w (x * q)) := by
 obtain ⟨xb, xn, xnl, xnc, xd, xdl, xdc, rfl⟩ := hx.bools
 obtain ⟨yb, yn, ynl, ync, yd, ydl, ydc, rfl⟩ := hy.bools
 obtain ⟨vx, vy, vr, hb0⟩ := boxes3 w (.bool xb) (.slice xn xnl xnc) (.bool false) (.slice xd xdl xdc) (.bool yb) (.slice yn ynl ync) (.bool false) (.slice yd ydl ydc) (.bool false) (.slice none 0 0) (.bool false) (.slice none 0 0)
 obtain ⟨qb, qn, qnl, qnc, qd, qdl, qdc, hvq, hrq⟩ := hq.below hb0
 have HM := Lib.hid (rmul_any _ _ x q _ (hx.ext hb0) hrq (N := 210) (by omega) fx fq)
 have VR := Lib.hid vr
 have HB := Lib.hid hb0
 have x0 := vx.c0
 have x1 := vx.c1
 have x2 := vx.c2
 have x3 := vx.c3
 have q0 := hvq.c0
 have q1 := hvq.c1
 have q2 := hvq.c2
 have q3 := hvq.c3
 clear vx vy vr hb0 hx hy hvq hrq hq
 unfold ratT at *
 go_enter Tryz.func53, Tryz.ntmps53
 go_wp2_with fail
 refine HM.out.mono ?_
 rintro e w1 ⟨v1, rfl, hv, hb⟩
 obtain ⟨pb, pn, pnl, pnc, pd, pdl, pdc, rfl⟩ := hv.bools
 have hvr := VR.out.below hb
 have HR := Lib.hid (ret_rat_set (g := w.heap.size + 1 + 1) (HB.out.trans (hb.mono HB.out.size)) (by omega) hvr hv)
 have HZ := Lib.hid (hvr.set (.bool pb) (.slice pn pnl pnc) (.bool false) (.slice pd pdl pdc))
 have r0 := hvr.c0
 have r1 := hvr.c1
 have r2 := hvr.c2
 have r3 := hvr.c3
 have f0 := hvr.f0
 have f1 := hvr.f1
 have f2 := hvr.f2
 have f3 := hvr.f3
 unfold set4 at HR HZ
 clear hvr hv hb HM HB VR x0 x1 x2 x3 q0 q1 q2 q3
 go_wp2
 have z0 := HZ.out.c0
 have z1 := HZ.out.c1
 have z2 := HZ.out.c2
 have z3 := HZ.out.c3
 generalize (((w1.setCell ⟨w.heap.size + 1 + 1, 0, none⟩ (.bool pb)).setCell ⟨w.heap.size + 1 + 1, 1, none⟩ (.slice pn pnl pnc)).setCell ⟨w.heap.size + 1 + 1, 2, none⟩ (.bool false)).setCell ⟨w.heap.size + 1 + 1, 3, none⟩ (.slice pd pdl pdc) = W at *
 exact bodyPost_ret (v := .agg #[.bool pb, .slice pn pnl pnc, .bool false, .slice pd pdl pdc]) (by simp [results, Tryz.results53, go_sem, z0, z1, z2, z3]) rfl HR.out
structure EachI (w w0 : World) (hi : Nat) (wr : World) : Prop where
 below : Below w.heap.size w wr
 kw : Kw w0 wr
 keep : ∀ g, hi ≤ g → g < w0.heap.size → wr.heap[g]? = w0.heap[g]?
theorem EachI.call {w w0 wr w' : World} {hi : Nat} (h : EachI w w0 hi wr) (hb : Below wr.heap.size wr w') : EachI w w0 hi w' :=
 ⟨h.below.trans (hb.mono h.below.size), h.kw.trans (kw_below hb), fun g h1 h2 => (hb.block g (Nat.lt_of_lt_of_le h2 h.kw.size)).trans (h.keep g h1 h2)⟩
theorem EachI.put4 {w w0 wr : World} {hi g o : Nat} (h : EachI w w0 hi wr) (hg : w.heap.size ≤ g) (hlt : g < hi) {u0 u1 u2 u3 : Value} (k : Kw wr (put4 wr g o u0 u1 u2 u3)) : EachI w w0 hi (put4 wr g o u0 u1 u2 u3) :=
 ⟨put4_below h.below hg _ _ _ _, h.kw.trans k, fun g' h1 h2 => (put4_other wr o _ _ _ _ (by omega)).trans (h.keep g' h1 h2)⟩
set_option maxRecDepth 100000 in
set_option maxHeartbeats 4000000 in
theorem eachSc_any (a b : List (List ByteArray)) (n wd : Nat) (A B : Option Addr) (ca cb : Nat) (w : World) (ha : SMat w A n a) (hb : SMat w B n b) (sa : Sh2 a) (sb : Sh2 b) (htab : Tab w) (va : VM (tx2 a) n wd) (vb : VM (tx2 b) n wd) (hwd : wd ≤ 40) (f : Rat) (g : Nat) (_hg : g < w.heap.size) (hf : Vq w g f) (ff : FitR 210 f) :
  Calls Tryz.prog 52 #[.slice A n ca, .slice B n cb, .func (.func 53) #[] #[.pointer (some ⟨g, 0, none⟩)]] w (RetMT w (txM (eachQ (fun p _ => p * f) (valsM (tx2 a)) (valsM (tx2 b))))) := by
 have hn := va.hn
 have HA := Lib.hid ha
 have HB := Lib.hid hb
 have HTB := Lib.hid htab
 have HSA := Lib.hid sa
 have HSB := Lib.hid sb
 have VA := Lib.hid va
 have VB := Lib.hid vb
 have HVF := Lib.hid hf
 have HFF := Lib.hid ff
 clear hf ff
 have HX := Lib.hid (values_any a n A ca w ha sa (val2_of (m := a) va) (by omega))
 have FXF := Lib.hid (fit_vals2 va)
 have FYF := Lib.hid (fit_vals2 vb)
 have RX := Lib.hid va.vals
 have RY := Lib.hid vb.vals
 clear ha hb htab sa sb va vb
 go_enter Tryz.func52, Tryz.ntmps52
 go_wp2_with fail
 refine HX.out.mono ?_
 rintro e w1 ⟨vx, xs, rfl, hx, hb1⟩
 have HB1 := Lib.hid hb1
 have HXX := Lib.hid hx
 have HY := Lib.hid (values_any b n B cb w1 (HB.out.below hb1) HSB.out (val2_of (m := b) VB.out) (by omega))
 clear hb1 hx HX
 go_wp2_with fail
 refine HY.out.mono ?_
 rintro e w0 ⟨vy, ys, rfl, hy, hb2⟩
 have hx0 := HXX.out.call hb2
 obtain ⟨Ax, cx, rfl⟩ := hx0.val
 obtain ⟨Ay, cy, rfl⟩ := hy.val
 have lx := RX.out.len
 have ly := RY.out.len
 rw [lx] at hx0 ⊢
 rw [ly] at hy ⊢
 have HYR := Lib.hid hy
 have HLT := Lib.hid (show ∀ (j : Nat) (u : Value) (g : Nat), xs[j]? = some u → u.ownBlock = some g → g < w1.heap.size from fun j u g h1 h2 => by
  have h3 := HXX.out.len
  have hj := (List.getElem?_eq_some_iff.1 h1).1
  exact ((HXX.out.inner j u _ h1 (List.getElem?_eq_getElem (by omega))).lt h2).2)
 have HP := Lib.hid (show LM w0 w.heap.size (.slice Ax n cx) xs (mixP (eachQ (fun p _ => p * f) (valsM (tx2 a)) (valsM (tx2 b))) (valsM (tx2 a)) 0 0) from by rw [mixP_start]; exact hx0)
 have HI := Lib.hid (show EachI w w0 w1.heap.size w0 from ⟨HB1.out.trans (hb2.mono HB1.out.size), Kw.refl _, fun _ _ _ => rfl⟩)
 have RR := Lib.hid (rect_each (f := fun p _ => p * f) RX.out RY.out)
 have HW1 := Lib.hid HB1.out.size
 clear hb2 hy hx0 lx ly HY HXX HA HB HSA HSB VA VB
 generalize hR : eachQ (fun p _ => p * f) (valsM (tx2 a)) (valsM (tx2 b)) = R at *
 have HRE := Lib.hid hR
 clear hR
 generalize hxe : valsM (tx2 a) = x at *
 generalize hye : valsM (tx2 b) = y at *
 have HXE := Lib.hid hxe
 have HYE := Lib.hid hye
 clear hxe hye
 go_wp2
 go_loopg [18] (n - 0) (fun r v wr => ∃ i : Nat, r = n - i ∧ v = I i ∧ i ≤ n ∧ Hid (LM wr w.heap.size (.slice Ax n cx) xs (mixP R x i 0)) ∧ Hid (EachI w w0 w1.heap.size wr))
 case atStart => exact ⟨0, rfl, rfl, by omega, HP, HI⟩
 case round =>
  clear HP HI
  obtain ⟨i, rfl, rfl, hi, HP, HI⟩ := hrel
  obtain ⟨wa, rfl⟩ : ∃ wa : World, wa = wr := ⟨_, rfl⟩
  by_cases hlt : i < n
  ·obtain ⟨g0, off, cap, Bh, ch, e0, _, _, _, hcl, _, _⟩ := HP.out.at_ (i := i) (by rw [mixP_len, RX.out.len]; exact hlt)
   have hAx : Ax = some ⟨g0, off, none⟩ := sl_addr e0
   have hlen0 : ((mixP R x i 0).getD i []).length = wd := by
    rw [mixP_get R x 0 (by rw [RX.out.len]; exact hlt), List.take_zero, List.nil_append, List.drop_zero]
    exact RX.out.rowlen hlt
   rw [hlen0] at hcl
   subst hAx
   clear e0 hlen0
   go_wp2
   clear hcl
   go_loopg [26] (wd - 0) (fun r v wr => ∃ k : Nat, r = wd - k ∧ v = I k ∧ k ≤ wd ∧ Hid (LM wr w.heap.size (.slice (some ⟨g0, off, none⟩) n cx) xs (mixP R x i k)) ∧ Hid (EachI w w0 w1.heap.size wr))
   case atStart => exact ⟨0, rfl, rfl, by omega, HP, HI⟩
   case round =>
    clear HP HI
    obtain ⟨k, rfl, rfl, hk, HP, HI⟩ := hrel
    obtain ⟨wb, rfl⟩ : ∃ wb : World, wb = wr := ⟨_, rfl⟩
    by_cases hkl : k < wd
    ·obtain ⟨hml, hme⟩ := mixP_at RR.out RX.out hlt hkl
     have hML : (mixP R x i k).length = n := by rw [mixP_len, RX.out.len]
     have hd := below_draw wb
     have hL1 := HP.out.call hd
     have hI1 := HI.out.call hd
     obtain ⟨bx, ox, c1, xb, xn, xnl, xnc, xd, xdl, xdc, hu, hc, hC, hrt, hfz, _, _, hbx, _, hne⟩ := hL1.elem hML (i := i) (k := k) hlt (by rw [hml]; exact hkl)
     rw [hml] at hu hc
     rw [hme] at hrt
     have hy1 : LM wb.drew w1.heap.size (.slice Ay n cy) ys y := HYR.out.keepB hI1.kw hI1.keep
     obtain ⟨gy, oy, capy, By_, cy2, ey, _⟩ := hy1.at_ (i := i) (by rw [RY.out.len]; exact hlt)
     have hAy : Ay = some ⟨gy, oy, none⟩ := sl_addr ey
     subst hAy
     have hyl := RY.out.rowlen hlt
     obtain ⟨by_, o2, c2, yb, yn, ynl, ync, yd, ydl, ydc, _, hcy, hCy, hrty, _, _, _, _, _, _⟩ := hy1.elem RY.out.len (i := i) (k := k) hlt (by rw [hyl]; exact hkl)
     rw [hyl] at hcy
     have HU := Lib.hid hu
     have CX := Lib.hid hc
     have EX := Lib.hid hC
     have CY := Lib.hid hcy
     have EY := Lib.hid hCy
     have HFZ := Lib.hid hfz
     have HL1 := Lib.hid hL1
     have HI1 := Lib.hid hI1
     have HML := Lib.hid hML
     have HBXL := Lib.hid (HLT.out i _ bx hu rfl)
     have HBX := Lib.hid hbx
     have HCALL := Lib.hid (scale1_any _ _ (at2 x i k) (at2 y i k) f g wb.drew hrt hrty (HVF.out.below hI1.below) (FXF.out.entry i k) HFF.out)
     clear hu hc hC hrt hfz hbx hne hml hme hML hd hL1 hI1 hy1 ey hyl hcy hCy hrty HP HI
     go_upto_region 8 with (fail)
     refine wp_region_c (fun w' => w'.cell? ⟨g0, off + i, none⟩ = some (.slice (some ⟨bx, ox, none⟩) wd c1) ∧ w'.cell? ⟨bx, ox + k * 4, none⟩ = some (.bool xb) ∧ w'.cell? ⟨bx, ox + k * 4 + 1, none⟩ = some (.slice xn xnl xnc) ∧ w'.cell? ⟨bx, ox + k * 4 + 2, none⟩ = some (.bool false) ∧ w'.cell? ⟨bx, ox + k * 4 + 3, none⟩ = some (.slice xd xdl xdc) ∧ w'.cell? ⟨gy, oy + i, none⟩ = some (.slice (some ⟨by_, o2, none⟩) wd c2) ∧ w'.cell? ⟨by_, o2 + k * 4, none⟩ = some (.bool yb) ∧ w'.cell? ⟨by_, o2 + k * 4 + 1, none⟩ = some (.slice yn ynl ync) ∧ w'.cell? ⟨by_, o2 + k * 4 + 2, none⟩ = some (.bool false) ∧ w'.cell? ⟨by_, o2 + k * 4 + 3, none⟩ = some (.slice yd ydl ydc)) 22 (by kernel_rfl) ?_
     generalize wb.drew = W1 at *
     refine tkS ⟨CX.out, EX.out.c0, EX.out.c1, EX.out.c2, EX.out.c3, CY.out, EY.out.c0, EY.out.c1, EY.out.c2, EY.out.c3⟩ fun hSS => ?_
     refine aZ 0 (.slice (some ⟨g0, off, none⟩) n cx) rfl hSS ?_
     refine aZ 1 (I i) rfl hSS ?_
     refine aZ 2 (.pointer (some ⟨g0, off + i, none⟩)) rfl hSS ?_
     refine aZ 3 (.slice (some ⟨bx, ox, none⟩) wd c1) rfl hSS ?_
     refine aZ 4 (I k) rfl hSS ?_
     refine aZ 5 (.func (.func 53) #[] #[.pointer (some ⟨g, 0, none⟩)]) rfl hSS ?_
     refine aZ 6 (.slice (some ⟨g0, off, none⟩) n cx) rfl hSS ?_
     refine aZ 7 (I i) rfl hSS ?_
     refine aZ 8 (.pointer (some ⟨g0, off + i, none⟩)) rfl hSS ?_
     refine aZ 9 (.slice (some ⟨bx, ox, none⟩) wd c1) rfl hSS ?_
     refine aZ 10 (I k) rfl hSS ?_
     refine aZ 11 (.pointer (some ⟨bx, ox + k * 4, none⟩)) rfl hSS ?_
     refine aZ 12 (.agg #[.bool xb, .slice xn xnl xnc, .bool false, .slice xd xdl xdc]) rfl hSS ?_
     refine aZ 13 (.slice (some ⟨gy, oy, none⟩) n cy) rfl hSS ?_
     refine aZ 14 (I i) rfl hSS ?_
     refine aZ 15 (.pointer (some ⟨gy, oy + i, none⟩)) rfl hSS ?_
     refine aZ 16 (.slice (some ⟨by_, o2, none⟩) wd c2) rfl hSS ?_
     refine aZ 17 (I k) rfl hSS ?_
     refine aZ 18 (.pointer (some ⟨by_, o2 + k * 4, none⟩)) rfl hSS ?_
     refine aZ 19 (.agg #[.bool yb, .slice yn ynl ync, .bool false, .slice yd ydl ydc]) rfl hSS ?_
     refine on1 20 fun K hK => ?_
     go_simp
     go_at_call 53
     refine (HCALL.out).mono ?_
     rintro e W2 ⟨vq, rfl, hv, hb⟩
     obtain ⟨tb, t1, t2, t3, t4, t5, t6, rfl⟩ := hv.bools
     have CX2 := Lib.hid (cell_below CX.out hb)
     have EX2 := Lib.hid (EX.out.below hb)
     have CY2 := Lib.hid (cell_below CY.out hb)
     have EY2 := Lib.hid (EY.out.below hb)
     have HL2 := Lib.hid (HL1.out.call hb)
     have HI2 := Lib.hid (HI1.out.call hb)
     have HFZ2 := Lib.hid (show ∀ j, W2.frozen? ⟨bx, j, none⟩ = false from fun j => (hb.frozen (p := ⟨bx, j, none⟩) (show bx < _ from World.block_lt_of_cell? _ ⟨bx, _, none⟩ EX.out.c0)).trans (HFZ.out j))
     have HV := Lib.hid hv
     clear hb hv
     refine hK.out _ _ (fun _ => ⟨CX2.out, EX2.out.c0, EX2.out.c1, EX2.out.c2, EX2.out.c3, CY2.out, EY2.out.c0, EY2.out.c1, EY2.out.c2, EY2.out.c3⟩) ?_
     clear hK K
     clear HCALL CX EX CY EY HL1 HI1 HFZ
     refine on1 21 fun K hK => ?_
     go_simp
     refine hK.out _ _ (fun _ => ⟨CX2.out, EX2.out.c0, EX2.out.c1, EX2.out.c2, EX2.out.c3, CY2.out, EY2.out.c0, EY2.out.c1, EY2.out.c2, EY2.out.c3⟩) ?_
     clear hK K
     obtain ⟨h1, h2⟩ := HL2.out.putEl HML.out hlt HU.out hkl HV.out
     have hset := mixP_set RR.out RX.out hlt hkl
     rw [← HRE.out, at2_each RX.out RY.out hlt hkl, HRE.out] at hset
     rw [hset] at h1
     have HN := Lib.hid h1
     have HIN := Lib.hid (HI2.out.put4 HBX.out HBXL.out h2)
     unfold put4 at HN HIN
     have r0 := EX2.out.c0
     have r1 := EX2.out.c1
     have r2 := EX2.out.c2
     have r3 := EX2.out.c3
     have q0 := HFZ2.out (ox + k * 4)
     have q1 := HFZ2.out (ox + k * 4 + 1)
     have q2 := HFZ2.out (ox + k * 4 + 2)
     have q3 := HFZ2.out (ox + k * 4 + 3)
     clear h1 h2 hset HL2 HI2 HV HU HBX HBXL HML CX2 EX2 CY2 EY2 HFZ2
     refine on1 22 fun K hK => ?_
     go_simp
     refine hK.out _ _ (fun h => absurd h (by decide)) ?_
     clear hK K
     clear r0 r1 r2 r3 q0 q1 q2 q3
     refine wpAnyC_done (by kernel_rfl) ?_ _
     go_wp2
     go_roundg (wd - (k + 1))
     case measure => omega
     case rel => exact ⟨k + 1, rfl, by go_num, by omega, HN, HIN⟩
    ·have hkn : k = wd := by omega
     subst hkn
     have HN := Lib.hid (show LM wb w.heap.size (.slice (some ⟨g0, off, none⟩) n cx) xs (mixP R x (i + 1) 0) by
      have := HP.out
      rwa [mixP_next RR.out RX.out hlt] at this)
     clear HP
     go_wp2
     go_roundg (n - (i + 1))
     case measure => omega
     case rel => exact ⟨i + 1, rfl, by go_num, by omega, HN, HI⟩
  ·have hin : i = n := by omega
   subst hin
   have hLM := HP.out
   rw [mixP_end RR.out RX.out] at hLM
   have HT := Lib.hid (textM_any R i Ax cx wa hLM.rm (by omega) (fun r hr => by rw [RR.out.row r hr]; omega) (tab_below HTB.out HI.out.below))
   have HBT := Lib.hid HI.out.below
   clear hLM HP HI
   go_wp2_with fail
   refine HT.out.mono ?_
   rintro e w9 ⟨A9, n9, c9, m9, rfl, h1, h2, h3, hb⟩
   have HQ := Lib.hid (show RetMT w (txM R) (.returned (.tuple #[.slice A9 n9 c9, I (txM R).2])) w9 from ⟨A9, n9, c9, m9, rfl, h1, h2, h3, HBT.out.trans (hb.mono HBT.out.size)⟩)
   clear h1 h2 h3 hb HT HBT
   go_wp2
   go_ret2
   rw [HXE.out, HYE.out, HRE.out]
   exact HQ.out
theorem zip_map {α : Type} (f : α → α) : ∀ l : List α, List.zipWith (fun p _ => f p) l l = l.map f
 | [] => rfl
 | x :: l => by rw [List.zipWith_cons_cons, zip_map f l, List.map_cons]
theorem scQ_each (a : List (List Rat)) (f : Rat) : scQ a f = eachQ (fun p _ => p * f) a a := by
 unfold scQ eachQ
 have : ∀ l : List (List Rat), List.zipWith (fun r s => List.zipWith (fun p _ => p * f) r s) l l = l.map fun r => r.map fun x => x * f := by
  intro l
  induction l with
  | nil => rfl
  | cons x l ih => rw [List.zipWith_cons_cons, ih, List.map_cons, zip_map (fun p => p * f)]
 exact (this a).symm
set_option maxRecDepth 100000 in
set_option maxHeartbeats 4000000 in
theorem sc_bad (a : List (List ByteArray)) (na : Nat) (Aa : Option Addr) (ca : Nat) (b : ByteArray) (w : World) (ha : SMat w Aa na a) (sa : Sh2 a) (sb : b.size ≤ 9223372036854775807) (htab : Tab w) (h0 : firstE [chkM (tx2 a), rchk (SL b)] ≠ 0) :
  Calls Tryz.prog 22 #[.slice Aa na ca, .string b] w (RetMT w (scM (tx2 a) (SL b))) := by
 have HE := Lib.hid (show scM (tx2 a) (SL b) = ([], firstE [chkM (tx2 a), rchk (SL b)]) from err2_first _ _ _ h0)
 have Ha := Lib.hid ha
 have Sa := Lib.hid sa
 have Sb := Lib.hid sb
 have HTB := Lib.hid htab
 have hca := chkM_any a na Aa ca w (Ha.out) Sa.out (HTB.out)
 have HCA := Lib.hid hca
 clear hca ha sa sb htab
 go_enter Tryz.func22, Tryz.ntmps22
 go_wp2_with fail
 refine HCA.out.mono ?_
 rintro e w1 ⟨rfl, hb1⟩
 have HB1 := Lib.hid hb1
 have hcb := rchk_any b w1 Sb.out (tab_below HTB.out hb1)
 have HCB := Lib.hid hcb
 clear hb1 HCA hcb
 go_wp2_with fail
 refine HCB.out.mono ?_
 rintro e w2 ⟨rfl, hb2⟩
 have HB2 := Lib.hid (HB1.out.trans (hb2.mono HB1.out.size))
 have HF := Lib.hid (first_any [chkM (tx2 a), rchk (SL b)] 2 (some ⟨w2.heap.size, 0, none⟩) 2 (w2.alloc (.cells #[I (chkM (tx2 a)), I (rchk (SL b))] errT)) (reads_e2 w2 errT _ _) (by omega))
 have HB3 := Lib.hid (HB2.out.alloc HB2.out.size (.cells #[I (chkM (tx2 a)), I (rchk (SL b))] errT))
 unfold errT at *
 clear hb2 HB1 HB2 HCB
 have tc : (firstE [chkM (tx2 a), rchk (SL b)] != 0) = true := bne_iff_ne.2 h0
 have HQ := Lib.hid (RetMT.none_ (w := w) HE.out HB3.out)
 clear h0 HE
 generalize firstE [chkM (tx2 a), rchk (SL b)] = fe at *
 go_wp2_with fail
 refine HF.out.mono ?_
 rintro e w3 ⟨rfl, rfl⟩
 clear HF
 go_wp2
 go_ret2
 exact HQ.out
set_option maxRecDepth 100000 in
set_option maxHeartbeats 4000000 in
theorem sc_good (a : List (List ByteArray)) (na : Nat) (Aa : Option Addr) (ca : Nat) (b : ByteArray) (w : World) (ha : SMat w Aa na a) (sa : Sh2 a) (sb : b.size ≤ 9223372036854775807) (htab : Tab w) (h1 : chkM (tx2 a) = 0) (h2 : rchk (SL b) = 0) :
  Calls Tryz.prog 22 #[.slice Aa na ca, .string b] w (RetMT w (scM (tx2 a) (SL b))) := by
 have la : a.length = na := by obtain ⟨_, _, h, _⟩ := ha; exact h
 have VA := Lib.hid (chkM_ok h1)
 have VB := Lib.hid (rchk_val _ h2)
 have LA := Lib.hid (show (tx2 a).length = na by rw [tx2, List.length_map, la])
 have hna : na ≤ 40 := by have := VA.out.hn; rw [LA.out] at this; exact this
 clear la
 have H1 := Lib.hid h1
 have H2 := Lib.hid h2
 clear h1 h2
 have Ha := Lib.hid ha
 have Sa := Lib.hid sa
 have Sb := Lib.hid sb
 have HTB := Lib.hid htab
 have hca := chkM_any a na Aa ca w (Ha.out) Sa.out (HTB.out)
 rw [H1.out] at hca
 have HCA := Lib.hid hca
 clear hca ha sa sb htab
 go_enter Tryz.func22, Tryz.ntmps22
 go_wp2_with fail
 refine HCA.out.mono ?_
 rintro e w1 ⟨rfl, hb1⟩
 have HB1 := Lib.hid hb1
 have hcb := rchk_any b w1 Sb.out (tab_below HTB.out hb1)
 rw [H2.out] at hcb
 have HCB := Lib.hid hcb
 clear hb1 HCA hcb
 go_wp2_with fail
 refine HCB.out.mono ?_
 rintro e w2 ⟨rfl, hb2⟩
 have HB2 := Lib.hid (HB1.out.trans (hb2.mono HB1.out.size))
 have HF := Lib.hid (first_any [0, 0] 2 (some ⟨w2.heap.size, 0, none⟩) 2 (w2.alloc (.cells #[I (0), I (0)] errT)) (reads_e2 w2 errT _ _) (by omega))
 have HB3 := Lib.hid (HB2.out.alloc HB2.out.size (.cells #[I (0), I (0)] errT))
 unfold errT at *
 clear hb2 HB1 HB2 HCB
 rw [show firstE [0, 0] = 0 from rfl] at HF
 go_wp2_with fail
 refine HF.out.mono ?_
 rintro e w3 ⟨rfl, rfl⟩
 generalize w2.alloc (.cells #[I 0, I 0] 33) = w3 at *
 clear HF
 have hwd : wd (tx2 a) ≤ 40 := by
  rcases VA.out.hk with h | h
  ·exact h
  ·rw [wd_nil h]; omega
 have HRES := Lib.hid (show scM (tx2 a) (SL b) = txM (eachQ (fun p _ => p * rval (SL b)) (valsM (tx2 a)) (valsM (tx2 a))) by
  unfold scM err2
  rw [H1.out, H2.out, if_neg (by decide), if_neg (by decide), scQ_each])
 have HP := Lib.hid (parse_any b w3 Sb.out VB.out)
 go_wp2_with fail
 refine HP.out.mono ?_
 rintro e w4 ⟨v, rfl, hv, hb⟩
 obtain ⟨qb, qn, qnl, qnc, qd, qdl, qdc, rfl⟩ := hv.bools
 obtain ⟨hv4, hb4⟩ := boxes1 w4 (.bool qb) (.slice qn qnl qnc) (.bool false) (.slice qd qdl qdc)
 have hB4 := (HB3.out.trans (hb.mono HB3.out.size))
 have HB5 := Lib.hid (hB4.trans (hb4.mono hB4.size))
 have va := VA.out
 rw [LA.out] at va
 have HE := Lib.hid (eachSc_any a a na (wd (tx2 a)) Aa Aa ca ca _ (Ha.out.below HB5.out) (Ha.out.below HB5.out) Sa.out Sa.out (tab_below HTB.out HB5.out) va va hwd (rval (SL b)) w4.heap.size hv4.lt ⟨_, _, _, _, _, _, _, hv4, hv.ext hb4⟩ (val_fit VB.out))
 clear hv hb hv4 hb4 hB4 va HP HB3
 unfold ratT at *
 go_wp2_with fail
 refine HE.out.mono ?_
 rintro e w9 ⟨A9, n9, c9, m9, rfl, h1, h2, h3, hb⟩
 have HQ := Lib.hid (show RetMT w (scM (tx2 a) (SL b)) (.returned (.tuple #[.slice A9 n9 c9, I (txM (eachQ (fun p _ => p * rval (SL b)) (valsM (tx2 a)) (valsM (tx2 a)))).2])) w9 from ⟨A9, n9, c9, m9, by rw [HRES.out], h1, by rw [HRES.out]; exact h2, h3, HB5.out.trans (hb.mono HB5.out.size)⟩)
 clear h1 h2 h3 hb HE
 go_wp2
 go_ret2
 exact HQ.out
theorem scM_any (a : List (List ByteArray)) (na : Nat) (Aa : Option Addr) (ca : Nat) (b : ByteArray) (w : World) (ha : SMat w Aa na a) (sa : Sh2 a) (sb : b.size ≤ 9223372036854775807) (htab : Tab w) :
  Calls Tryz.prog 22 #[.slice Aa na ca, .string b] w (RetMT w (scM (tx2 a) (SL b))) := by
 by_cases h : firstE [chkM (tx2 a), rchk (SL b)] = 0
 ·obtain ⟨h1, h2⟩ := first_zero h
  exact sc_good a na Aa ca b w ha sa sb htab h1 h2
 ·exact sc_bad a na Aa ca b w ha sa sb htab h
structure DuaZ (m : List (List ByteArray)) (lb lc : List ByteArray) (s t : SolvedQ) (na nc : Nat) (T M : List (List ByteArray)) : Prop where
 tr : trM (tx2 m) = (tx2 T, 0)
 sc : scM (tx2 T) [45, 49] = (tx2 M, 0)
 shM : Sh2 M
 lM : M.length = nc
 shb : Sh1 (ngB lc)
 shc : Sh1 (ngB lb)
 chk : chkP (tx2 M) (tx1 (ngB lc)) (tx1 (ngB lb)) = 0
 sol : solveQ (valsM (tx2 M)) (valsV (tx1 (ngB lc))) (valsV (tx1 (ngB lb))) = t
 good : Good M (ngB lc) (ngB lb) nc na
 law : (s.kind = 0 ∧ t.kind = 0 ∧ ratNeg (resTx s).value = ((resTx t).value, 0)) ∨ (s.kind = 2 ∧ t.kind = 1) ∨ (s.kind = 1 ∧ t.kind ≠ 0)
 vn : (resTx s).value.length ≤ 4002
theorem mk_txZ (q : List (List Rat)) : tx2 (q.map fun r => mkS (r.map qText)) = q.map fun r => r.map qText := by
 unfold tx2
 rw [List.map_map]
 exact List.map_congr_left fun r _ => tx_mk _
theorem duaZ {m : List (List ByteArray)} {lb lc : List ByteArray} (hc : chkP (tx2 m) (tx1 lb) (tx1 lc) = 0) (hp : ProbQ (valsM (tx2 m)) (valsV (tx1 lb)) (valsV (tx1 lc)) m.length lc.length) (hs : ShortQ (valsM (tx2 m)) (valsV (tx1 lb)) (valsV (tx1 lc))) (hm : m.length ≤ 6) (hn : lc.length ≤ 6) (h0 : 0 < m.length) (h1 : 0 < lc.length) :
  ∃ T M, DuaZ m lb lc (solveQ (valsM (tx2 m)) (valsV (tx1 lb)) (valsV (tx1 lc))) (solveQ (scQ (trQ (valsM (tx2 m)) lc.length) (-1)) ((valsV (tx1 lc)).map fun q => - q) ((valsV (tx1 lb)).map fun q => - q)) m.length lc.length T M := by
 obtain ⟨t1, t2, t3, t4, t5, t6⟩ := dual_txt hc hp hs hm hn h0 h1
 obtain ⟨hd, hpd⟩ := dual_of hp
 have hsd := dual_short hp hs
 have hz := sol_sz hp hs hm hn
 have hzd := sol_sz hpd hsd hn hm
 have hlaw := dual_law hd (solve_law hp) (solve_law hpd)
 have e1 := mk_txZ (trQ (valsM (tx2 m)) lc.length)
 have e2 := mk_txZ (scQ (trQ (valsM (tx2 m)) lc.length) (-1))
 have eb := tx_ngB lc
 have ec := tx_ngB lb
 have zb : ∀ q ∈ (valsV (tx1 lc)).map (fun q => - q), SzQ q 971 := fun q hq => (hsd.vb q hq).mono (by decide)
 have zc : ∀ q ∈ (valsV (tx1 lb)).map (fun q => - q), SzQ q 971 := fun q hq => (hsd.vc q hq).mono (by decide)
 have ob := okV_tx zb (by rw [hpd.lb]; omega) hpd.lb
 have oc := okV_tx zc (by rw [hpd.lc]; omega) hpd.lc
 have om : ∀ r ∈ scQ (trQ (valsM (tx2 m)) lc.length) (-1), Sh1 (mkS (r.map qText)) ∧ OkV (mkS (r.map qText)) m.length := fun r hr => okV_tx (fun q hq => (hsd.ma r hr q hq).mono (by decide)) (by rw [hpd.row r hr]; omega) (hpd.row r hr)
 refine ⟨(trQ (valsM (tx2 m)) lc.length).map fun r => mkS (r.map qText), (scQ (trQ (valsM (tx2 m)) lc.length) (-1)).map fun r => mkS (r.map qText), by rw [e1]; exact t1, by rw [e1, e2]; exact t2, fun l hl => ?_, by rw [List.length_map, hpd.len], ob.1, oc.1, by rw [e2, eb, ec]; exact t3, by rw [e2, eb, ec, t4, t5, t6], ?_, ?_, (val_tx hz (fitS_of hp hs hm hn)).1⟩
 ·obtain ⟨r, hr, rfl⟩ := List.mem_map.1 hl
  exact (om r hr).1
 ·refine (good_of ?_ ?_ hn hm (fun l hl => ?_) ob.2.va oc.2.va).1
  ·rw [e2, tx_mk, tx_mk, t4, t5, t6]; exact hpd
  ·rw [e2, tx_mk, tx_mk, t4, t5, t6]; exact hsd
  ·obtain ⟨r, hr, rfl⟩ := List.mem_map.1 hl
   exact ⟨(om r hr).2.va, by have := (om r hr).2.len; omega⟩
 ·rcases hlaw with ⟨k1, k2, k3⟩ | h | h
  ·refine Or.inl ⟨k1, k2, ?_⟩
   have hv := hz.v k1
   have hb := back_txZ hv
   rw [show (resTx (solveQ (valsM (tx2 m)) (valsV (tx1 lb)) (valsV (tx1 lc)))).value = qText (solveQ (valsM (tx2 m)) (valsV (tx1 lb)) (valsV (tx1 lc))).value from if_pos k1]
   have e : ∀ t : SolvedQ, t.kind = 0 → (resTx t).value = qText t.value := fun t h => if_pos h
   rw [e _ k2, k3, ratNeg, rOp, if_pos (rAll_all (by simp [hb.1]; decide)), hb.2, ratTx, if_pos (hv.neg.fit (by decide) (by decide))]
  ·exact Or.inr (Or.inl h)
  ·exact Or.inr (Or.inr h)
set_option maxRecDepth 100000 in
set_option maxHeartbeats 20000000 in
theorem simplexDuals_any (A Ab Ac : Option Addr) (na ca nb cb nc cc : Nat) (m : List (List ByteArray)) (lb lc : List ByteArray) (w : World) (h : PrW w A na Ab nb Ac nc m lb lc) (hs : ShP m lb lc) (htab : Tab w) :
  Calls Tryz.prog 6 #[.agg #[.slice A na ca, .slice Ab nb cb, .slice Ac nc cc]] w fun e w' => e = .returned (.bool true) ∧ Below w.heap.size w w' := by
 have b1 := below_new w (.cells #[.slice A na ca, .slice Ab nb cb, .slice Ac nc cc] 27)
 have HP := Lib.hid (h.below b1)
 have HT := Lib.hid (tab_below htab b1)
 have HB1 := Lib.hid b1
 have hB := Blk.new w 27 #[.slice A na ca, .slice Ab nb cb, .slice Ac nc cc]
 have P0 := Lib.hid (show (w.alloc (.cells #[.slice A na ca, .slice Ab nb cb, .slice Ac nc cc] 27)).cell? ⟨w.heap.size, 0, none⟩ = some (.slice A na ca) from hB.cell 0)
 have P1 := Lib.hid (show (w.alloc (.cells #[.slice A na ca, .slice Ab nb cb, .slice Ac nc cc] 27)).cell? ⟨w.heap.size, 1, none⟩ = some (.slice Ab nb cb) from hB.cell 1)
 have P2 := Lib.hid (show (w.alloc (.cells #[.slice A na ca, .slice Ab nb cb, .slice Ac nc cc] 27)).cell? ⟨w.heap.size, 2, none⟩ = some (.slice Ac nc cc) from hB.cell 2)
 have HSH := Lib.hid hs
 have HLN := Lib.hid h.lens
 clear b1 hB h hs htab
 go_enter Tryz.func6, Tryz.ntmps6
 go_upto_region 1 with (fail)
 generalize w.alloc (.cells #[.slice A na ca, .slice Ab nb cb, .slice Ac nc cc] 27) = w1 at *
 have HB := Lib.hid (Below.refl w1.heap.size w1)
 have HC := Lib.hid (simplexFact_any w1 HT.out)
 go_wp2_with fail
 refine HC.out.mono ?_
 rintro e w2 ⟨rfl, hb⟩
 clear HC
 replace HB := Lib.hid (HB.out.trans (hb.mono HB.out.size))
 clear hb
 have x0 := cell_below P0.out HB.out
 have x1 := cell_below P1.out HB.out
 have x2 := cell_below P2.out HB.out
 have hp2 := HP.out.below HB.out
 have hz1 := below_new w2 (.cells #[.slice Ab nb cb, .slice Ac nc cc] 25)
 have hz2 := below_new (w2.alloc (.cells #[.slice Ab nb cb, .slice Ac nc cc] 25)) (.cells #[.slice A na ca, .slice (some ⟨w2.heap.size, 0, none⟩) 2 2] 23)
 have hsm := pair_sms (c := ca) (d := 2) ((hp2.below hz1).ma) (pair_sm (cb := cb) (cc := cc) hp2.vb hp2.vc)
 rw [World.size_alloc] at hsm
 have hzz := hz1.trans (hz2.mono hz1.size)
 have HC := Lib.hid (small_any 5 [m, [lb, lc]] 2 (some ⟨w2.heap.size + 1, 0, none⟩) 2 ((w2.alloc (.cells #[.slice Ab nb cb, .slice Ac nc cc] 25)).alloc (.cells #[.slice A na ca, .slice (some ⟨w2.heap.size, 0, none⟩) 2 2] 23)) hsm (by decide) (by decide))
 clear hp2 hz1 hz2 hsm
 go_wp2_with fail
 refine HC.out.mono ?_
 rintro e w3 ⟨rfl, hb⟩
 clear HC x0 x1 x2
 replace HB := Lib.hid (HB.out.trans (hzz.mono HB.out.size))
 clear hzz
 replace HB := Lib.hid (HB.out.trans (hb.mono HB.out.size))
 clear hb
 cases hsb : (!([m, [lb, lc]] : List (List (List ByteArray))).any (lgM 5)) with
 | false =>
  go_wp2
  go_ret
  exact ⟨rfl, HB1.out.trans (HB.out.mono HB1.out.size)⟩
 | true =>
  have HS1 := Lib.hid (small_pair hsb)
  clear hsb
  have x0 := cell_below P0.out HB.out
  have x1 := cell_below P1.out HB.out
  have x2 := cell_below P2.out HB.out
  have HGO := Lib.hid (fun hc => prob_of (N := 5) (by decide) HS1.out.1 HS1.out.2 hc)
  have HNA := Lib.hid (show m.length = na ∧ lc.length = nc ∧ lb.length = nb by obtain ⟨h1, h2, h3⟩ := HLN.out; rw [tx2, List.length_map] at h1; rw [tx1, List.length_map] at h2; rw [tx1, List.length_map] at h3; exact ⟨h1, h3, h2⟩)
  have HC := Lib.hid (pchk_any A Ab Ac na ca nb cb nc cc m lb lc w3 (HP.out.below HB.out) HSH.out (tab_below HT.out HB.out))
  go_wp2_with fail
  refine HC.out.mono ?_
  rintro e w4 ⟨rfl, hb⟩
  clear HC x0 x1 x2
  replace HB := Lib.hid (HB.out.trans (hb.mono HB.out.size))
  clear hb
  by_cases hc : chkP (tx2 m) (tx1 lb) (tx1 lc) = 0
  rotate_left
  have x0 := cell_below P0.out HB.out
  have x2 := cell_below P2.out HB.out
  ·have tc : (chkP (tx2 m) (tx1 lb) (tx1 lc) != 0) = true := bne_iff_ne.2 hc
   clear HGO hc
   generalize chkP (tx2 m) (tx1 lb) (tx1 lc) = cq at *
   go_wp2
   go_ret
   exact ⟨rfl, HB1.out.trans (HB.out.mono HB1.out.size)⟩
  rw [hc]
  have x0 := cell_below P0.out HB.out
  have x2 := cell_below P2.out HB.out
  have HHC := Lib.hid hc
  clear hc
  by_cases ha0 : na = 0
  ·subst ha0
   clear HGO
   go_wp2
   go_ret
   exact ⟨rfl, HB1.out.trans (HB.out.mono HB1.out.size)⟩
  by_cases hc0 : nc = 0
  ·subst hc0
   have t0 : ((na : Int) == 0) = false := beq_eq_false_iff_ne.2 (by omega)
   clear HGO
   go_wp2
   go_ret
   exact ⟨rfl, HB1.out.trans (HB.out.mono HB1.out.size)⟩
  have t0 : ((na : Int) == 0) = false := beq_eq_false_iff_ne.2 (by omega)
  have t1 : ((nc : Int) == 0) = false := beq_eq_false_iff_ne.2 (by omega)
  obtain ⟨TT, MM, hdz⟩ := duaZ HHC.out (HGO.out HHC.out).1 (HGO.out HHC.out).2.2.2.1 (HGO.out HHC.out).2.2.2.2.1 (HGO.out HHC.out).2.2.2.2.2 (by rw [HNA.out.1]; omega) (by rw [HNA.out.2.1]; omega)
  have HKY := Lib.hid hdz
  clear hdz
  rw [HNA.out.1, HNA.out.2.1] at HKY
  have HVB := Lib.hid (chkP_ok HHC.out).2.1
  have HVC := Lib.hid (chkP_ok HHC.out).2.2.1
  have HZB := Lib.hid (HGO.out HHC.out).2.2.2.1.vb
  have HZC := Lib.hid (HGO.out HHC.out).2.2.2.1.vc
  have HNB := Lib.hid (show nb = na by have h := (HGO.out HHC.out).1.lb; rw [valsV, tx1, List.length_map, List.length_map, HNA.out.1, HNA.out.2.2] at h; exact h)
  have HGD := Lib.hid (show Good m lb lc na nc by have h := (HGO.out HHC.out).2.1; rw [HNA.out.1, HNA.out.2.1] at h; exact h)
  clear HGO
  go_upto_region 5 with (fail)
  clear x0 x2 t0 t1
  have x0 := cell_below P0.out HB.out
  have HC := Lib.hid (transpose_any m na A ca w4 (HP.out.below HB.out).ma HSH.out.ma (tab_below HT.out HB.out))
  go_wp2_with fail
  refine HC.out.mono ?_
  rintro e w5 ⟨AT, nT, cT, lT, rfl, hsm, htx, hsh, hb⟩
  clear HC x0
  rw [HKY.out.tr] at htx ⊢
  obtain rfl : lT = TT := tx2_inj htx
  clear htx
  have HTM := Lib.hid hsm
  have HTS := Lib.hid hsh
  clear hsm hsh
  replace HB := Lib.hid (HB.out.trans (hb.mono HB.out.size))
  clear hb
  have HC := Lib.hid (scM_any lT nT AT cT ⟨#[45, 49]⟩ w5 HTM.out HTS.out (by decide) (tab_below HT.out HB.out))
  go_wp2_with fail
  refine HC.out.mono ?_
  rintro e w6 ⟨AM, nM, cM, lM, rfl, hsm, htx, hsh, hb⟩
  clear HC HTM HTS
  rw [show SL ⟨#[45, 49]⟩ = [45, 49] from rfl, HKY.out.sc] at htx ⊢
  obtain rfl : lM = MM := tx2_inj htx
  clear htx
  have HMM := Lib.hid hsm
  have HML := Lib.hid (show lM.length = nM by obtain ⟨_, _, h, _⟩ := hsm; exact h)
  clear hsm hsh
  replace HB := Lib.hid (HB.out.trans (hb.mono HB.out.size))
  clear hb
  have HNM := Lib.hid (show nM = nc from HML.out.symm.trans HKY.out.lM)
  obtain rfl : nM = nc := HNM.out
  obtain rfl : nb = na := HNB.out
  clear HNM HNB HML
  have x2 := cell_below P2.out HB.out
  have HC := Lib.hid (negated_any lc nM Ac cc w6 (HP.out.below HB.out).vc HSH.out.vc HVC.out HZC.out (tab_below HT.out HB.out))
  go_wp2_with fail
  refine HC.out.mono ?_
  rintro e w7 ⟨AB2, cB2, rfl, hv, hb⟩
  clear HC x2
  replace HMM := Lib.hid (HMM.out.below hb)
  replace HB := Lib.hid (HB.out.trans (hb.mono HB.out.size))
  clear hb
  have HVB2 := Lib.hid hv
  clear hv
  have x1 := cell_below P1.out HB.out
  have HC := Lib.hid (negated_any lb nb Ab cb w7 (HP.out.below HB.out).vb HSH.out.vb HVB.out HZB.out (tab_below HT.out HB.out))
  go_wp2_with fail
  refine HC.out.mono ?_
  rintro e w8 ⟨AC2, cC2, rfl, hv, hb⟩
  clear HC x1
  replace HMM := Lib.hid (HMM.out.below hb)
  replace HVB2 := Lib.hid (HVB2.out.below hb)
  replace HB := Lib.hid (HB.out.trans (hb.mono HB.out.size))
  clear hb
  have HVC2 := Lib.hid hv
  clear hv
  have x0 := cell_below P0.out HB.out
  have x1 := cell_below P1.out HB.out
  have x2 := cell_below P2.out HB.out
  have HC := Lib.hid (psolve_any A Ab Ac nb ca nb cb nM cc m lb lc w8 (HP.out.below HB.out) HSH.out (tab_below HT.out HB.out) (fun _ => HGD.out))
  go_wp2_with fail
  refine HC.out.mono ?_
  rintro e w9 ⟨v, rfl, hv, hb⟩
  clear HC x0 x1 x2
  replace HMM := Lib.hid (HMM.out.below hb)
  replace HVB2 := Lib.hid (HVB2.out.below hb)
  replace HVC2 := Lib.hid (HVC2.out.below hb)
  replace HB := Lib.hid (HB.out.trans (hb.mono HB.out.size))
  clear hb
  rw [show solP (tx2 m) (tx1 lb) (tx1 lc) = resTx (solveQ (valsM (tx2 m)) (valsV (tx1 lb)) (valsV (tx1 lc))) from if_pos HHC.out] at hv
  rw [HHC.out]
  generalize solveQ (valsM (tx2 m)) (valsV (tx1 lb)) (valsV (tx1 lc)) = s at *
  generalize solveQ (scQ (trQ (valsM (tx2 m)) nM) (-1)) ((valsV (tx1 lc)).map fun q => - q) ((valsV (tx1 lb)).map fun q => - q) = t at *
  obtain ⟨pX, plx, pcx, pY, ply, pcy, pR, plr, pcr, rfl, hX, hY, hR⟩ := hv
  clear hX hY hR
  have hz := below_new w9 (.cells #[I (resTx s).kind, .slice pX plx pcx, .slice pY ply pcy, .slice pR plr pcr, .string ⟨(resTx s).value.toArray⟩] 32)
  have hY5 := Blk.new w9 32 #[I (resTx s).kind, .slice pX plx pcx, .slice pY ply pcy, .slice pR plr pcr, .string ⟨(resTx s).value.toArray⟩]
  have pR0 := Lib.hid (show (w9.alloc (.cells #[I (resTx s).kind, .slice pX plx pcx, .slice pY ply pcy, .slice pR plr pcr, .string ⟨(resTx s).value.toArray⟩] 32)).cell? ⟨w9.heap.size, 0, none⟩ = some (I (resTx s).kind) from hY5.cell 0)
  have pR4 := Lib.hid (show (w9.alloc (.cells #[I (resTx s).kind, .slice pX plx pcx, .slice pY ply pcy, .slice pR plr pcr, .string ⟨(resTx s).value.toArray⟩] 32)).cell? ⟨w9.heap.size, 4, none⟩ = some (.string ⟨(resTx s).value.toArray⟩) from hY5.cell 4)
  replace HMM := Lib.hid (HMM.out.below hz)
  replace HVB2 := Lib.hid (HVB2.out.below hz)
  replace HVC2 := Lib.hid (HVC2.out.below hz)
  replace HB := Lib.hid (HB.out.trans (hz.mono HB.out.size))
  clear hz
  clear hY5
  go_upto_region 10 with (fail)
  generalize w9.alloc (.cells #[I (resTx s).kind, .slice pX plx pcx, .slice pY ply pcy, .slice pR plr pcr, .string ⟨(resTx s).value.toArray⟩] 32) = w10 at *
  generalize w9.heap.size = gp at *
  have HPD := Lib.hid (show PrW w10 AM nM AB2 nM AC2 nb lM (ngB lc) (ngB lb) from ⟨HMM.out, HVB2.out, HVC2.out⟩)
  have HC := Lib.hid (psolve_any AM AB2 AC2 nM cM nM cB2 nb cC2 lM (ngB lc) (ngB lb) w10 HPD.out ⟨HKY.out.shM, HKY.out.shb, HKY.out.shc⟩ (tab_below HT.out HB.out) (fun _ => HKY.out.good))
  clear HMM HVB2 HVC2 HPD
  go_wp2_with fail
  refine HC.out.mono ?_
  rintro e w11 ⟨v, rfl, hv, hb⟩
  clear HC
  replace pR0 := Lib.hid (cell_below pR0.out hb)
  replace pR4 := Lib.hid (cell_below pR4.out hb)
  replace HB := Lib.hid (HB.out.trans (hb.mono HB.out.size))
  clear hb
  rw [show solP (tx2 lM) (tx1 (ngB lc)) (tx1 (ngB lb)) = resTx t from (if_pos HKY.out.chk).trans (by rw [HKY.out.sol])] at hv
  rw [HKY.out.chk]
  obtain ⟨qX, qlx, qcx, qY, qly, qcy, qR, qlr, qcr, rfl, hX, hY, hR⟩ := hv
  clear hX hY hR
  have hz := below_new w11 (.cells #[I (resTx t).kind, .slice qX qlx qcx, .slice qY qly qcy, .slice qR qlr qcr, .string ⟨(resTx t).value.toArray⟩] 32)
  have hY5 := Blk.new w11 32 #[I (resTx t).kind, .slice qX qlx qcx, .slice qY qly qcy, .slice qR qlr qcr, .string ⟨(resTx t).value.toArray⟩]
  have qR0 := Lib.hid (show (w11.alloc (.cells #[I (resTx t).kind, .slice qX qlx qcx, .slice qY qly qcy, .slice qR qlr qcr, .string ⟨(resTx t).value.toArray⟩] 32)).cell? ⟨w11.heap.size, 0, none⟩ = some (I (resTx t).kind) from hY5.cell 0)
  have qR4 := Lib.hid (show (w11.alloc (.cells #[I (resTx t).kind, .slice qX qlx qcx, .slice qY qly qcy, .slice qR qlr qcr, .string ⟨(resTx t).value.toArray⟩] 32)).cell? ⟨w11.heap.size, 4, none⟩ = some (.string ⟨(resTx t).value.toArray⟩) from hY5.cell 4)
  replace pR0 := Lib.hid (cell_below pR0.out hz)
  replace pR4 := Lib.hid (cell_below pR4.out hz)
  replace HB := Lib.hid (HB.out.trans (hz.mono HB.out.size))
  clear hz
  clear hY5
  go_upto_region 11 with (fail)
  generalize w11.alloc (.cells #[I (resTx t).kind, .slice qX qlx qcx, .slice qY qly qcy, .slice qR qlr qcr, .string ⟨(resTx t).value.toArray⟩] 32) = w12 at *
  generalize w11.heap.size = gq at *
  have HC := Lib.hid (fine_any [0, 0, 0, 0] 4 (some ⟨w12.heap.size, 0, none⟩) 4 (w12.alloc (.cells #[I 0, I 0, I 0, I 0] 33)) _ (reads_lits w12 _ [I 0, I 0, I 0, I 0]) (by omega))
  rw [show fineB [0, 0, 0, 0] = true from rfl] at HC
  have hb := below_new w12 (.cells #[I 0, I 0, I 0, I 0] 33)
  replace pR0 := Lib.hid (cell_below pR0.out hb)
  replace pR4 := Lib.hid (cell_below pR4.out hb)
  replace qR0 := Lib.hid (cell_below qR0.out hb)
  replace qR4 := Lib.hid (cell_below qR4.out hb)
  replace HB := Lib.hid (HB.out.trans (hb.mono HB.out.size))
  clear hb
  go_wp2_with fail
  refine HC.out.mono ?_
  rintro e w13 ⟨rfl, rfl⟩
  clear HC
  generalize w12.alloc (.cells #[I 0, I 0, I 0, I 0] 33) = w13 at *
  have hlaw := HKY.out.law
  have HVN := Lib.hid HKY.out.vn
  clear HKY
  have p0 := pR0.out
  have p4 := pR4.out
  have q0 := qR0.out
  have q4 := qR4.out
  rcases hlaw with ⟨k1, k2, k3⟩ | ⟨k1, k2⟩ | ⟨k1, k2⟩
  ·rw [show (resTx s).kind = 0 from k1] at p0
   rw [show (resTx t).kind = 0 from k2] at q0
   have HC := Lib.hid (ratNeg_any ⟨(resTx s).value.toArray⟩ w13 (by show (resTx s).value.toArray.size ≤ _; rw [List.size_toArray]; have := HVN.out; omega) (tab_below HT.out HB.out))
   rw [SL_mk, k3] at HC
   have HK2 := Lib.hid k2
   clear k1 k2 k3
   go_wp2_with fail
   refine HC.out.mono ?_
   rintro e w14 ⟨rfl, hb⟩
   clear HC p0 p4 q0 q4
   replace pR0 := Lib.hid (cell_below pR0.out hb)
   replace pR4 := Lib.hid (cell_below pR4.out hb)
   replace qR0 := Lib.hid (cell_below qR0.out hb)
   replace qR4 := Lib.hid (cell_below qR4.out hb)
   replace HB := Lib.hid (HB.out.trans (hb.mono HB.out.size))
   clear hb
   have q0 := qR0.out
   have q4 := qR4.out
   rw [show (resTx t).kind = 0 from HK2.out] at q0
   have tq : ((resTx t).value == (resTx t).value) = true := beq_self_eq_true _
   go_wp2
   go_ret
   exact ⟨rfl, HB1.out.trans (HB.out.mono HB1.out.size)⟩
  ·rw [show (resTx s).kind = 2 from k1] at p0
   rw [show (resTx t).kind = 1 from k2] at q0
   clear k1 k2
   go_wp2
   go_ret
   exact ⟨rfl, HB1.out.trans (HB.out.mono HB1.out.size)⟩
  ·rw [show (resTx s).kind = 1 from k1] at p0
   have tk : ((resTx t).kind != 0) = true := bne_iff_ne.2 k2
   clear k1 k2
   generalize (resTx t).kind = tk0 at *
   go_wp2
   go_ret
   exact ⟨rfl, HB1.out.trans (HB.out.mono HB1.out.size)⟩
end Go.Proofs.YtcgfdfdcbamceaaGreatDoor
namespace Go.Proofs.YtcgfdfdcbamceaaGreatDoor
open Go.ChangeShapes Go.WideShapes Go.ChangeAt Go.RowKit Go.ChangeMaps
theorem simplexDuals_door (os : Os) (args : Array Value) : laidMetH Tryz.prog Rows.simplexDualsRow.laid ((World.doorLaid Tryz.prog 62 os).forCall (fun _ _ => 0) ⟨#[], args, []⟩).memory :=
 laidMetH_of_parts3 (fuel := 8) (laidMet_of_run' 8 (by kernel_rfl) (by kernel_rfl)) (by kernel_rfl) (by kernel_rfl)
set_option linter.unusedVariables false in
set_option maxRecDepth 100000 in
theorem simplexDuals_lifted (os : Os) (started : os.Started) (H : Type) (enc : TypeId × Value → H) :
  ReturnsInHanded {} Tryz.checked os 6 .any (fun w args => (Rows.simplexDualsSpec.pre enc Tryz.prog Tryz.f6 [] false w args ∧ laidMetH Tryz.prog Rows.simplexDualsRow.laid w) ∧ sizedMet enc Tryz.prog Tryz.f6 (OpenSpec.ofChange Rows.simplexDualsSpec) false w args)
   (Rows.simplexDualsSpec.post enc Tryz.prog Tryz.f6 false true false false) := by
 refine returnsInHanded_of_change_and (C := Tryz.checked) (X := fun w _ => laidMetH Tryz.prog Rows.simplexDualsRow.laid w) (fun _ _ _ hh h => h.of_heap hh) own started (by kernel_rfl) Tryz.func6
  (ChangeSpec.witness_shaped (enc := enc) (C := Tryz.checked) (os := os) (X := fun w _ => laidMetH Tryz.prog Rows.simplexDualsRow.laid w) false (World.doorLaid Tryz.prog 62 os) #[.agg #[.slice none 0 0, .slice none 0 0, .slice none 0 0]] 8 rfl (World.shaped_of_RefB (by kernel_rfl) (by kernel_rfl)) (by kernel_rfl) (by kernel_rfl) (by kernel_rfl) (simplexDuals_door os _)) ?_
 intro W base args ds gs before hval0 hW _ _ hL _
 have hval : ∀ (j : Nat) t v, Tryz.f6.params[j]? = some t → args[j]? = some v → Value.okWide Tryz.prog W .any base t v := hval0
 have hW' := hW
 obtain ⟨p, q, hA0, hV, rfl, hfz, hnd⟩ := hW
 have hA : DataW.TrodAll enc Tryz.prog W 0 (fun _ => true) true Tryz.f6.params.toList args.toList ds p := hA0
 rw [Tryz.params6] at hA hval
 obtain ⟨v0, vs0, d0, ds0, p0, q0, hargs, rfl, rfl, h0, r0⟩ := trodAll_cons hA
 obtain ⟨rfl, rfl, rfl⟩ := trodAll_nil r0
 obtain rfl : args = #[v0] := by cases args; simp_all
 obtain ⟨rfl, rfl⟩ := trodVars_none hV
 have k0 := h0
 have lt0 : ∀ x ∈ p0, x.block < W.heap.size := by obtain ⟨m, hm⟩ := k0; exact DataW.trod_lt m _ _ _ hm
 obtain ⟨A, Ab, Ac, na, ca, nb, cb, nc, cc, m, lb, lc, rfl, hp0, hs0⟩ := open_prob (hval 0 27 v0 rfl rfl) h0
 clear hA0 hval0
 refine (simplexDuals_any A Ab Ac na ca nb cb nc cc m lb lc W hp0 hs0 (tab_of_laid hL)).mono fun e W' ⟨he, bel⟩ => ?_
 subst he
 exact ⟨_, rfl, _, _, _, [], _, [], hW', trodAll_mk1 (shut_bool Tryz.underlying4 _), (trodAll_cons_mk (Below.trod laidOut (by kernel_rfl) (of_decide_eq_true (by kernel_rfl)) k0 bel lt0) trodAll_mk0), rfl, bel.frame _, fun h => by cases h⟩
end Go.Proofs.YtcgfdfdcbamceaaGreatDoor
