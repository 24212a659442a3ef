/- slices.Repeat at rows of numbers, of one element; large.Zeros. -/
import Derived.Test.YtcgfdfdcbamceaaGreatDoorXBC
import Derived.Test.YtcgfdfdcbamceaaGreatDoorXAY
import Derived.Test.YtcgfdfdcbamceaaGreatDoorXBD
import Derived.Test.YtcgfdfdcbamceaaGreatDoorXAZ
namespace Go.Proofs.YtcgfdfdcbamceaaGreatDoor
open Go.RowKit
theorem run_copy_sz {P : Program} (w : World) (dT sT ty elem : TypeId) (g o dLen dCap : Nat) (a : Addr) (sLen sCap : Nat) (cur : Array Value) (t : TypeId) (cs : List Value) (sz n : Nat)
  (hu : P.underlying dT = some (.slice elem)) (hs : (P.info? elem).map (·.size) = some sz)
  (hg : w.heap[g]? = some (.cells cur t (0, 0))) (hn : n = Nat.min sLen dLen) (hcs : cs.length = n * sz)
  (hsrc : ∀ j v, cs[j]? = some v → w.cell? (a.add j) = some v) (hfit : o + cs.length ≤ cur.size) (h1 : ∀ v ∈ cs, v.oneCell' = true) :
  (Builtin.copy_ #[dT, sT] ty #[.slice (some ⟨g, o, none⟩) dLen dCap, .slice (some a) sLen sCap]).run P w =
   .ok (goInt n) (w.setRow g (cur.toList.take o ++ cs ++ cur.toList.drop (o + cs.length)).toArray) := by
 have hl := run_loadCells_list (P := P) w a cs hsrc
 have hst := run_storeCells_at P g o t cs 0 cur w hg (by simpa using hfit) h1
 cases hq : P.info? elem with
 | none => simp [hq] at hs
 | some i =>
  have hi : i.size = sz := by simpa [hq] using hs
  subst hi
  rw [hcs] at hl
  simp [Builtin.copy_, run_underlying hu, Builtin.lenOf, Builtin.firstCells, sizeOf, typeInfo, hq, ← hn, hl, hst]
theorem run_copy_none_sz {P : Program} (w : World) (dT sT ty elem : TypeId) (d a : Option Addr) (dLen dCap sLen sCap sz : Nat) (hu : P.underlying dT = some (.slice elem)) (hs : (P.info? elem).map (·.size) = some sz) (hn : Nat.min sLen dLen = 0) :
  (Builtin.copy_ #[dT, sT] ty #[.slice d dLen dCap, .slice a sLen sCap]).run P w = .ok (goInt 0) w := by
 cases hq : P.info? elem with
 | none => simp [hq] at hs
 | some i =>
  have hl : ∀ (x : Addr), (loadCells x 0).run P w = .ok #[] w := fun x => by simpa using run_loadCells_list (P := P) w x [] (by simp)
  cases d <;> cases a <;> simp [Builtin.copy_, run_underlying hu, Builtin.lenOf, Builtin.firstCells, sizeOf, typeInfo, hq, hn, storeCells, hl]
def Cpy (w' : World) (g : Nat) (t : TypeId) (cur : List Value) (off : Nat) (cs : List Value) : Prop := w'.heap[g]? = some (.cells (splice cur off cs).toArray t (0, 0))
theorem run_copy_spl {P : Program} (w : World) (dT sT ty elem : TypeId) (hu : P.underlying dT = some (.slice elem)) (sz : Nat) (hsz : (P.info? elem).map (·.size) = some sz) (hs0 : 0 < sz)
  (dp sp : Option Addr) (dLen dCap sLen sCap : Nat) (g off : Nat) (cur : List Value) (t : TypeId) (hg : w.heap[g]? = some (.cells cur.toArray t (0, 0))) (cs : List Value) (n : Nat) (hn : n = Nat.min sLen dLen) (hcs : cs.length = n * sz)
  (hpos : 0 < cs.length → dp = some ⟨g, off, none⟩ ∧ ∃ ad, sp = some ad ∧ ∀ j v, cs[j]? = some v → w.cell? (ad.add j) = some v)
  (hfit : off + cs.length ≤ cur.length) (h1 : ∀ v ∈ cs, v.oneCell' = true) (B : Nat) (w0 : World) (hb : Below B w0 w) (hBg : B ≤ g) :
  ∃ w', (Builtin.copy_ #[dT, sT] ty #[.slice dp dLen dCap, .slice sp sLen sCap]).run P w = .ok (goInt n) w' ∧ Cpy w' g t cur off cs ∧ Below B w0 w' := by
 by_cases h0 : cs.length = 0
 ·obtain rfl : cs = [] := List.eq_nil_of_length_eq_zero h0
  have hn0 : n = 0 := by
   rcases Nat.eq_zero_or_pos n with h | h
   ·exact h
   ·have := Nat.mul_pos h hs0
    simp at hcs; omega
  subst hn0
  exact ⟨w, run_copy_none_sz (P := P) w dT sT ty elem dp sp dLen dCap sLen sCap sz hu hsz hn.symm, show _ = _ by simpa [splice] using hg, hb⟩
 ·obtain ⟨rfl, ad, rfl, hsrc⟩ := hpos (by omega)
  have hrun := run_copy_sz (P := P) w dT sT ty elem g off dLen dCap ad sLen sCap cur.toArray t cs sz n hu hsz hg hn hcs hsrc (by simpa using hfit) h1
  exact ⟨_, hrun, show _ = _ by simpa [splice] using setRow_heap w g _ _ t _ hg, below_setRow hb hBg _⟩
theorem size_rat : (Tryz.prog.info? ratT).map (·.size) = some 4 := by kernel_rfl
theorem wpList_copy4 {w : World} {ops : Array Oper} {rest : List Oper} {o : Oper} {a : Act} {Q : Exit → Act → World → Prop} (hgd : o.guard = none) (d s : Operand)
  (ho : o.op = .call { callee := .builtin .copy, args := #[d, s], argTypes := #[rowT, rowT] })
  (dp sp : Option Addr) (dLen dCap sLen sCap : Nat) (hd : a.eval d = .slice dp dLen dCap) (hs : a.eval s = .slice sp sLen sCap)
  (g off : Nat) (cur : List Value) (hg : w.heap[g]? = some (.cells cur.toArray ratT (0, 0))) (cs : List Value) (n : Nat) (hn : n = Nat.min sLen dLen) (hcs : cs.length = n * 4)
  (hpos : 0 < cs.length → dp = some ⟨g, off, none⟩ ∧ ∃ ad, sp = some ad ∧ ∀ j v, cs[j]? = some v → w.cell? (ad.add j) = some v)
  (hfit : off + cs.length ≤ cur.length) (h1 : ∀ v ∈ cs, v.oneCell' = true) (B : Nat) (w0 : World) (hb : Below B w0 w) (hBg : B ≤ g)
  (h : ∀ w', Hid (Cpy w' g ratT cur off cs) → Below B w0 w' → wpList Tryz.prog ops Q rest (a.put o.dst (goInt n)) w') : wpList Tryz.prog ops Q (o :: rest) a w := by
 refine wpList_plain hgd fun K hK => ?_
 obtain ⟨w', hrun, h2, h3⟩ := run_copy_spl (P := Tryz.prog) w rowT rowT o.type ratT Tryz.underlying66 4 size_rat (by omega) dp sp dLen dCap sLen sCap g off cur ratT hg cs n hn hcs hpos hfit h1 B w0 hb hBg
 unfold Oper.wp
 simp only [execOp, ho, resolve, invoke, builtin, Sem.run_bind, Sem.run_pure, Result.andThen_ok, List.map_toArray, List.map_cons, List.map_nil, hd, hs, hrun]
 exact hK _ _ (h w' h2 h3)
theorem step_copy4 {w : World} {ops : Array Oper} {o : Oper} {a : Act} {K : Act → World → Prop} {Q : Exit → Act → World → Prop} {E : Prop} (hgd : o.guard = none) (d s : Operand)
  (ho : o.op = .call { callee := .builtin .copy, args := #[d, s], argTypes := #[rowT, rowT] })
  (dp sp : Option Addr) (dLen dCap sLen sCap : Nat) (hd : a.eval d = .slice dp dLen dCap) (hs : a.eval s = .slice sp sLen sCap)
  (g off : Nat) (cur : List Value) (hg : w.heap[g]? = some (.cells cur.toArray ratT (0, 0))) (cs : List Value) (n : Nat) (hn : n = Nat.min sLen dLen) (hcs : cs.length = n * 4)
  (hpos : 0 < cs.length → dp = some ⟨g, off, none⟩ ∧ ∃ ad, sp = some ad ∧ ∀ j v, cs[j]? = some v → w.cell? (ad.add j) = some v)
  (hfit : off + cs.length ≤ cur.length) (h1 : ∀ v ∈ cs, v.oneCell' = true) (B : Nat) (w0 : World) (hb : Below B w0 w) (hBg : B ≤ g)
  (h : ∀ w', Hid (Cpy w' g ratT cur off cs) → Below B w0 w' → K (a.put o.dst (goInt n)) w') : if Region.wanted o (yielded ops a.tmps) = true then Oper.wp Tryz.prog o a w K Q else E := by
 have hw : Region.wanted o (yielded ops a.tmps) = true := by simp [Region.wanted, hgd]
 rw [if_pos hw]
 obtain ⟨w', hrun, h2, h3⟩ := run_copy_spl (P := Tryz.prog) w rowT rowT o.type ratT Tryz.underlying66 4 size_rat (by omega) dp sp dLen dCap sLen sCap g off cur ratT hg cs n hn hcs hpos hfit h1 B w0 hb hBg
 unfold Oper.wp
 simp only [execOp, ho, resolve, invoke, builtin, Sem.run_bind, Sem.run_pure, Result.andThen_ok, List.map_toArray, List.map_cons, List.map_nil, hd, hs, hrun]
 exact h w' h2 h3
def rep4 (x0 x1 x2 x3 : Value) : Nat → List Value
 | 0 => []
 | k + 1 => x0 :: x1 :: x2 :: x3 :: rep4 x0 x1 x2 x3 k
section
variable {x0 x1 x2 x3 : Value}
theorem rep4_len : ∀ k, (rep4 x0 x1 x2 x3 k).length = k * 4
 | 0 => rfl
 | k + 1 => by simp only [rep4, List.length_cons, rep4_len k]; omega
theorem rep4_add (j : Nat) : ∀ k, rep4 x0 x1 x2 x3 k ++ rep4 x0 x1 x2 x3 j = rep4 x0 x1 x2 x3 (k + j)
 | 0 => by rw [Nat.zero_add]; rfl
 | k + 1 => by rw [show k + 1 + j = (k + j) + 1 by omega]; simp only [rep4, List.cons_append, rep4_add j k]
theorem rep4_rt {w : World} {q : Rat} (h : Rt w (.agg #[x0, x1, x2, x3]) q) : ∀ k, RtL w (rep4 x0 x1 x2 x3 k) (List.replicate k q)
 | 0 => rfl
 | k + 1 => .mk h (rep4_rt h k)
structure RepI (w : World) (g : Nat) (x0 x1 x2 x3 : Value) (n m : Nat) (wr : World) : Prop where
 le : m ≤ n
 pos : 1 ≤ m ∨ n = 0
 row : ∃ L : List Value, wr.heap[g]? = some (.cells L.toArray ratT (0, 0)) ∧ L.length = n * 4 ∧ L.take (m * 4) = rep4 x0 x1 x2 x3 m
 below : Below g w wr
theorem rep_next {w wr : World} {g n m k : Nat} {L : List Value} (hl : L.length = n * 4) (ht : L.take (m * 4) = rep4 x0 x1 x2 x3 m) (hk : m + k ≤ n) (hp : 1 ≤ m + k ∨ n = 0)
  (hc : Cpy wr g ratT L (m * 4) (rep4 x0 x1 x2 x3 k)) (hb : Below g w wr) : RepI w g x0 x1 x2 x3 n (m + k) wr := by
 have hr := rep4_len (x0 := x0) (x1 := x1) (x2 := x2) (x3 := x3) k
 refine ⟨hk, hp, ⟨_, hc, ?_, ?_⟩, hb⟩
 ·rw [length_splice _ _ _ (by omega), hl]
 ·unfold splice
  rw [ht, ← List.append_assoc, rep4_add, List.take_append_of_le_length (by rw [rep4_len]; omega), List.take_of_length_le (by rw [rep4_len]; omega)]
theorem rep_src {w : World} {b off : Nat} {o : Obj} (n : Nat) (hb : b < w.heap.size) (hc : C4 w b off x0 x1 x2 x3) :
  ∀ j v, (rep4 x0 x1 x2 x3 (min 1 n))[j]? = some v → (w.alloc o).cell? ((⟨b, off, none⟩ : Addr).add j) = some v := by
 intro j v hv
 rw [Addr.add_lit, World.cell?_alloc_lt _ _ _ hb]
 rcases Nat.eq_zero_or_pos n with h0 | h0
 ·subst h0
  simp [rep4] at hv
 ·rw [show min 1 n = 1 by omega] at hv
  match j with
  | 0 => exact hc.c0.trans hv
  | 1 => exact hc.c1.trans hv
  | 2 => exact hc.c2.trans hv
  | 3 => exact hc.c3.trans hv
  | j + 4 => simp [rep4] at hv
theorem rep_own {w : World} {g m k : Nat} {L : List Value} (hg : w.heap[g]? = some (.cells L.toArray ratT (0, 0))) (ht : L.take (m * 4) = rep4 x0 x1 x2 x3 m) (hk : k ≤ m) :
  ∀ j v, (rep4 x0 x1 x2 x3 k)[j]? = some v → w.cell? ((⟨g, 0, none⟩ : Addr).add j) = some v := by
 intro j v hv
 have hj : j < k * 4 := by
  have := (List.getElem?_eq_some_iff.1 hv).1
  rwa [rep4_len] at this
 rw [Addr.add_lit, Nat.zero_add, cell_of_row w g j _ _ _ hg, List.getElem?_toArray]
 have e : L[j]? = (rep4 x0 x1 x2 x3 m)[j]? := by rw [← ht, List.getElem?_take, if_pos (by omega)]
 rw [e, show m = k + (m - k) by omega, ← rep4_add, List.getElem?_append_left (by rw [rep4_len]; omega)]
 exact hv
end
theorem RepI.done {w wr : World} {g n : Nat} {x0 x1 x2 x3 : Value} {q : Rat} (h : RepI w g x0 x1 x2 x3 n n wr) (hq : Rt wr (.agg #[x0, x1, x2, x3]) q) (hg : w.heap.size = g) (hn : n ≤ 1099511627776) : RRow wr w.heap.size (.slice (some ⟨g, 0, none⟩) n n) (List.replicate n q) := by
 obtain ⟨L, h1, h2, h3⟩ := h.row
 rw [List.take_of_length_le (by omega)] at h3
 subst h3
 have hw : ∀ u ∈ rep4 x0 x1 x2 x3 n, noWord u := fun u hu => by
  obtain ⟨n0, n1, n2, n3⟩ := hq.noW
  exact (rep4_rt hq n).noWord u hu |>.1
 have hb := h.below
 rw [← hg] at hb
 exact Part.row (g := g) ⟨⟨_, h1, h2, hw, by rw [List.length_replicate, List.take_of_length_le (by omega)]; exact rep4_rt hq n⟩, by simp, hb⟩ (by simp) (by omega) (by unfold maxLen; omega)
set_option maxRecDepth 100000 in
set_option maxHeartbeats 1000000 in
theorem repeatR_any (x0 x1 x2 x3 : Value) (q : Rat) (n : Nat) (b off c : Nat) (w : World) (hb : b < w.heap.size) (hc : C4 w b off x0 x1 x2 x3) (hq : Rt w (.agg #[x0, x1, x2, x3]) q) (hn : n ≤ 1000000) :
  Calls Tryz.prog 89 #[.slice (some ⟨b, off, none⟩) 1 c, I n] w (RetV w (List.replicate n q)) := by
 have hmk := make_rat n (by omega)
 have hnn : (n : Int) ≤ 1099511627776 := by omega
 have HQ := Lib.hid hq
 have HG := Lib.hid (heap_alloc_new w (.cells (madeCells zRat (n * 4)) ratT))
 obtain ⟨Z, hZ⟩ : ∃ Z : List Value, (madeCells zRat (n * 4)) = Z.toArray := ⟨(madeCells zRat (n * 4)).toList, by simp⟩
 have HZ := Lib.hid (show Z.length = n * 4 by have h : (madeCells zRat (n * 4)).size = n * 4 := (by simp [size_madeCells]); rw [hZ] at h; simpa using h)
 rw [hZ] at HG hmk
 have HF := Lib.hid (show 0 * 4 + (rep4 x0 x1 x2 x3 (min 1 n)).length ≤ Z.length by rw [rep4_len, HZ.out]; omega)
 have HONE := Lib.hid (show ∀ k, ∀ v ∈ rep4 x0 x1 x2 x3 k, v.oneCell' = true from fun k v hv => ((rep4_rt hq k).noWord v hv).2)
 have HSRC := Lib.hid (rep_src (x0 := x0) (x1 := x1) (x2 := x2) (x3 := x3) (o := .cells Z.toArray ratT) n hb hc)
 clear hZ hc hq
 unfold ratT rowT at *
 go_enter Tryz.func89, Tryz.ntmps89
 go_wp2_with (first | (go_at_call 109; refine (mul_one_any _ _ _ (by rfl) (by omega) (by omega)).mono ?_; rintro e w' ⟨rfl, rfl⟩) | (refine wpList_copy4 rfl (.tmp 31) (.tmp 32) rfl (some ⟨w.heap.size, 0, none⟩) (some ⟨b, off, none⟩) n n 1 c (by rfl) (by rfl) w.heap.size (0 * 4) Z HG.out (rep4 x0 x1 x2 x3 (min 1 n)) (min 1 n) (by rfl) (rep4_len _) (fun _ => ⟨rfl, _, rfl, HSRC.out⟩) HF.out (HONE.out _) w.heap.size w ((Below.refl _ _).alloc (Nat.le_refl _) _) (Nat.le_refl _) ?_; intro w1 hg1 hb1))
 have HI : RepI w w.heap.size x0 x1 x2 x3 n (0 + min 1 n) w1 := rep_next HZ.out (by rfl) (by omega) (by omega) hg1.out hb1
 rw [Nat.zero_add] at HI
 clear hg1 hb1 HG HF HSRC HZ hmk
 go_loopw [8] (fun v wr => ∃ m : Nat, v = I m ∧ RepI w w.heap.size x0 x1 x2 x3 n m wr) (fun v _ => n - (intOf v).toNat)
 case atStart => exact ⟨_, by go_num, HI⟩
 case round =>
  obtain ⟨m, rfl, hI⟩ := hrel
  have HI2 := Lib.hid hI
  have h1 := hI.le
  have h2 := hI.pos
  clear hI
  by_cases hlt : m < n
  ·have hm1 : (1 : Int) ≤ m := by omega
   have hmn : (m : Int) < n := by omega
   have hne : ¬ n = m := by omega
   have hlo : (0 : Int) ≤ (m : Int) := by omega
   obtain ⟨L, hL1, hL2, hL3⟩ := HI2.out.row
   have H1 := Lib.hid hL1
   have H2 := Lib.hid hL2
   have H3 := Lib.hid hL3
   have H4 := Lib.hid HI2.out.below
   have HF := Lib.hid (show m * 4 + (rep4 x0 x1 x2 x3 (min m (n - m))).length ≤ L.length by rw [rep4_len, H2.out]; omega)
   clear hL1 hL2 hL3
   go_wp2
   go_region_law ((refine step_copy4 rfl (.tmp 41) (.tmp 44) rfl (some ⟨w.heap.size, m * 4, none⟩) (some ⟨w.heap.size, 0, none⟩) (n - m) (n - m) m n (by kernel_rfl) (by kernel_rfl) w.heap.size (m * 4) L H1.out (rep4 x0 x1 x2 x3 (min m (n - m))) (min m (n - m)) (by rfl) (rep4_len _) (fun _ => ⟨rfl, _, rfl, rep_own H1.out H3.out (by omega)⟩) HF.out (HONE.out _) w.heap.size w H4.out.drew (Nat.le_refl _) ?_; intro w2 hg2 hb2))
   have HN : RepI w w.heap.size x0 x1 x2 x3 n (m + min m (n - m)) w2 := rep_next H2.out H3.out (by omega) (by omega) hg2.out hb2
   clear hg2 hb2 HI HI2 H1 H2 H3 H4 HF
   have hk1 : (min m (n - m) : Nat) ≤ n := by omega
   have hk2 : 1 ≤ (min m (n - m) : Nat) := by omega
   generalize min m (n - m) = k at *
   have hw1 : IntKind.i64.wrap ((m : Int) + (k : Int)) = (m : Int) + k := IntWalk.i64_in _ (by omega)
   simp only [Act.put, hw1, List.getElem_toArray, List.getElem_cons_succ, List.getElem_cons_zero, List.setIfInBounds_toArray, List.set_cons_succ, List.set_cons_zero]
   clear hw1
   go_wp2
   go_roundw
   case rel => exact ⟨m + k, by go_num, HN⟩
   case measure => simp [intOf]; omega
  ·obtain rfl : m = n := by omega
   have HB := Lib.hid HI2.out.below
   have HR := Lib.hid (HI2.out.done (HQ.out.ext HB.out) rfl (by omega))
   go_wp2
   go_ret
   exact ⟨_, rfl, HR.out, HB.out⟩
set_option maxRecDepth 100000 in
set_option maxHeartbeats 1000000 in
theorem zeros_any (n : Nat) (w : World) (hn : n ≤ 1000000) : Calls Tryz.prog 64 #[I n] w (RetV w (List.replicate n 0)) := by
 have HC := Lib.hid (rwhole_any 0 w (by decide) (by decide))
 go_enter Tryz.func64, Tryz.ntmps64
 go_wp2_with fail
 refine HC.out.mono ?_
 rintro e w1 ⟨v, rfl, hv, hb⟩
 clear HC
 obtain ⟨nb, A, l, c, B, m, d, rfl⟩ := hv.bools
 have hz := below_new w1 (.cells #[.bool nb, .slice A l c, .bool false, .slice B m d] ratT)
 have hB4 : C4 (w1.alloc (.cells #[.bool nb, .slice A l c, .bool false, .slice B m d] ratT)) w1.heap.size 0 (.bool nb) (.slice A l c) (.bool false) (.slice B m d) := by
  have h := Blk.new w1 ratT #[.bool nb, .slice A l c, .bool false, .slice B m d]
  exact ⟨by rw [h.cell]; rfl, by rw [h.cell]; rfl, by rw [h.cell]; rfl, by rw [h.cell]; rfl⟩
 have HC := Lib.hid (repeatR_any _ _ _ _ 0 n w1.heap.size 0 1 _ (by simp) hB4 (hv.ext hz) hn)
 have HB := Lib.hid (hb.trans (hz.mono hb.size))
 have HS := Lib.hid (show w.heap.size ≤ (w1.alloc (.cells #[.bool nb, .slice A l c, .bool false, .slice B m d] ratT)).heap.size from HB.out.size)
 clear hz hB4 hv hb
 unfold ratT at *
 go_wp2_with fail
 refine HC.out.mono ?_
 rintro e w2 ⟨v, rfl, hr, hb⟩
 have HR := Lib.hid (hr.less HS.out)
 replace HB := Lib.hid (HB.out.trans (hb.mono HB.out.size))
 obtain ⟨A2, c2, rfl⟩ := HR.out.val
 clear HC HS hr hb
 generalize (List.replicate n (0 : Rat)).length = ln at *
 go_wp2
 go_ret
 exact ⟨_, rfl, HR.out, HB.out⟩
end Go.Proofs.YtcgfdfdcbamceaaGreatDoor
