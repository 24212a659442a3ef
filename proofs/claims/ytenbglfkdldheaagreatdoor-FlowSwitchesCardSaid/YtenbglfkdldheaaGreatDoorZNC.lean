/- slices.Repeat at []int, of one element. slices.Clone at the types of a network's parts. netmodel.Copy. -/
import Derived.Laws.CopyOwn
import Derived.Deep.RegionLaw
import Derived.Test.YtenbglfkdldheaaGreatDoorZNB
set_option maxRecDepth 100000
set_option maxHeartbeats 400000
namespace Go.Proofs.YtenbglfkdldheaaGreatDoor
open Go.RowKit
theorem Tryz.info3 : (Tryz.prog.info? 3).map (fun i => (i.zero, i.size, i.bytes)) = some (some (.int .i64 0), 1, 8) := by kernel_rfl
theorem Tryz.size3 : (Tryz.prog.info? 3).map (·.size) = some 1 := by kernel_rfl
theorem mul_oneI_any (x n : Int) (w : World) (hx : x = 1) (h0 : 0 ≤ n) (h1 : n ≤ 1099511627776) :
  Calls Tryz.prog 164 #[.int .u64 x, .int .u64 n] w fun e w' => e = .returned (.tuple #[.int .u64 0, .int .u64 n]) ∧ w = w' := by
 subst hx
 obtain ⟨k, rfl⟩ := Int.eq_ofNat_of_zero_le h0
 refine (Tryz.bits_Mul 1 k (by omega) (by omega) w).mono fun e w' ⟨he, hw⟩ => ⟨?_, hw.symm⟩
 rw [he]
 have e1 : 1 * k / 18446744073709551616 = 0 := by rw [Nat.div_eq_of_lt]; omega
 have e2 : 1 * k % 18446744073709551616 = k := by rw [Nat.mod_eq_of_lt] <;> omega
 rw [e1, e2]
 rfl
theorem made_int (n : Nat) : madeCells (Value.int .i64 0).cells (n * 1) = Array.replicate n (I 0) := by
 apply Array.ext
 ·simp [size_madeCells]
 ·intro i h1 h2
  simp [madeCells, Value.cells, Nat.mod_one]
theorem make28 (n : Nat) (hn : n ≤ 1099511627776) (W : World) :
  (Instr.makeSlice 31 (.int .i64 (n : Int)) (.int .i64 (n : Int))).run Tryz.prog W = .ok (.slice (some ⟨W.heap.size, 0, none⟩) n n) (W.alloc (.cells (Array.replicate n (I 0)) 3)) := by
 obtain ⟨i, hi, hz0, hz1, hz2⟩ := info_parts Tryz.info3
 have := run_make (P := Tryz.prog) W 31 3 i _ Tryz.underlying31 hi hz0 .i64 .i64 n n (by omega) (by omega) (by rw [hz2]; omega) (by omega)
 rw [this, Int.toNat_natCast, hz1, made_int]
theorem rep_spliceI (x : Value) (n m k : Nat) (_hk : m + k ≤ n) :
  splice (List.replicate m x ++ List.replicate (n - m) (I 0)) m (List.replicate k x) = List.replicate (m + k) x ++ List.replicate (n - (m + k)) (I 0) := by
 unfold splice
 rw [List.take_append_of_le_length (by simp), List.take_of_length_le (by simp), List.drop_append, List.drop_of_length_le (by simp)]
 simp
 rw [← List.append_assoc, List.replicate_append_replicate]
 congr 2
 omega
theorem rep_oneI (x : Int) {w : World} {b off : Nat} {o : Obj} (n : Nat) (hb : b < w.heap.size) (hc : w.cell? ⟨b, off, none⟩ = some (I x)) :
  ∀ j v, (List.replicate (min 1 n) (I x))[j]? = some v → (w.alloc o).cell? ((⟨b, off, none⟩ : Addr).add j) = some v := by
 intro j v hv
 rw [List.getElem?_replicate] at hv
 split at hv
 ·rename_i h
  obtain rfl : j = 0 := by omega
  rw [Addr.add_lit, World.cell?_alloc_lt _ _ _ hb, Nat.add_zero, hc]
  exact hv
 ·cases hv
theorem rep_selfI (x : Int) {w : World} {g n m k : Nat} (hg : w.heap[g]? = some (.cells (List.replicate m (I x) ++ List.replicate (n - m) (I 0)).toArray 3 (0, 0))) (hk : k ≤ m) :
  ∀ j v, (List.replicate k (I x))[j]? = some v → w.cell? ((⟨g, 0, none⟩ : Addr).add j) = some v := by
 intro j v hv
 rw [List.getElem?_replicate] at hv
 split at hv
 ·rename_i h
  rw [Addr.add_lit, Nat.zero_add, cell_of_row w g j _ _ _ hg]
  simp only [List.getElem?_toArray]
  rw [List.getElem?_append_left (by simp; omega), List.getElem?_replicate, if_pos (by omega)]
  exact hv
 ·cases hv
theorem rep_plainI (x : Int) (k : Nat) : ∀ v ∈ List.replicate k (I x), v.oneCell' = true := by
 intro v hv
 rw [List.mem_replicate] at hv
 rw [hv.2]
 rfl
theorem rep_startI (x : Int) (n : Nat) : splice (List.replicate n (I 0)) 0 (List.replicate (min 1 n) (I x)) = List.replicate (min 1 n) (I x) ++ List.replicate (n - min 1 n) (I 0) := by
 simp [splice]
structure RepInvI (w : World) (g : Nat) (x : Int) (n m : Nat) (wr : World) : Prop where
 le : m ≤ n
 pos : 1 ≤ m ∨ n = 0
 row : wr.heap[g]? = some (.cells (List.replicate m (I x) ++ List.replicate (n - m) (I 0)).toArray 3 (0, 0))
 below : Below g w wr
theorem repeat_any (x : Int) (n : Nat) (b off c : Nat) (w : World) (hb : b < w.heap.size) (hc : w.cell? ⟨b, off, none⟩ = some (I x)) (hn : n ≤ 1099511627776) :
  Calls Tryz.prog 130 #[.slice (some ⟨b, off, none⟩) 1 c, I n] w fun e w' =>
   e = .returned (.slice (some ⟨w.heap.size, 0, none⟩) n n) ∧ Blk w' w.heap.size 3 (Array.replicate n (I x)) ∧ Below w.heap.size w w' := by
 have hmk := make28 n hn
 have hnn : (n : Int) ≤ 1099511627776 := by omega
 have HS := aH Tryz.size3
 have HG := aH (heap_alloc_new w (.cells (List.replicate n (I 0)).toArray 3))
 have HF := aH (show 0 + (List.replicate (min 1 n) (I x)).length ≤ (List.replicate n (I 0)).length by simp; omega)
 have HL := aH (show (List.replicate (min 1 n) (I x)).length = Nat.min 1 n by simp)
 simp only [List.toArray_replicate] at HG
 go_enter Tryz.func130, Tryz.ntmps130
 go_wp2_with (first | (go_at_call 164; refine (mul_oneI_any _ _ _ (by rfl) (by omega) (by omega)).mono ?_; rintro e w' ⟨rfl, rfl⟩) | (refine wpList_copy_splice rfl (.tmp 31) (.tmp 32) 31 31 rfl 3 Tryz.underlying31 HS.out (some ⟨w.heap.size, 0, none⟩) (some ⟨b, off, none⟩) n n 1 c (by rfl) (by rfl) w.heap.size 0 (List.replicate n (I 0)) 3 (by rw [List.toArray_replicate]; exact HG.out) (List.replicate (min 1 n) (I x)) HL.out (fun _ => ⟨rfl, _, rfl, rep_oneI x n hb hc⟩) HF.out (rep_plainI x _) w.heap.size w ((Below.refl _ _).alloc lR _) lR ?_; intro w1 hg1 hb1))
 have HI : RepInvI w w.heap.size x n (min 1 n) w1 := ⟨by omega, by omega, by have := hg1.out; rw [rep_startI] at this; exact this, hb1⟩
 clear hg1 hb1 HG HF HL hmk
 go_loopw [8] (fun v wr => ∃ m : Nat, v = I m ∧ RepInvI w w.heap.size x n m wr) (fun v _ => n - (intOf v).toNat)
 case atStart => exact ⟨_, rfl, HI⟩
 case round =>
  obtain ⟨m, rfl, h1, h2, h3, h4⟩ := hrel
  have H3 := aH h3
  clear h3
  by_cases hlt : m < n
  ·have hm1 : (1 : Int) ≤ m := by omega
   have hmn : (m : Int) < n := by omega
   have hne : ¬ n = m := by omega
   have hlo : (0 : Int) ≤ (m : Int) := by omega
   have HL := aH (show (List.replicate (min m (n - m)) (I x)).length = Nat.min m (n - m) by simp)
   have HF := aH (show m + (List.replicate (min m (n - m)) (I x)).length ≤ (List.replicate m (I x) ++ List.replicate (n - m) (I 0)).length by simp; omega)
   go_wp2
   go_region_law ((refine step_copy_splice rfl (.tmp 41) (.tmp 44) 31 31 rfl 3 Tryz.underlying31 HS.out (some ⟨w.heap.size, m, none⟩) (some ⟨w.heap.size, 0, none⟩) (n - m) (n - m) m n (by kernel_rfl) (by kernel_rfl) w.heap.size m (List.replicate m (I x) ++ List.replicate (n - m) (I 0)) 3 H3.out (List.replicate (min m (n - m)) (I x)) HL.out (fun _ => ⟨rfl, _, rfl, rep_selfI x (n := n) (m := m) H3.out (by omega)⟩) HF.out (rep_plainI x _) w.heap.size w h4.drew lR ?_; intro w2 hg2 hb2))
   have HN : RepInvI w w.heap.size x n (m + min m (n - m)) w2 := ⟨by omega, by omega, by have := hg2.out; rw [rep_spliceI (I x) n m _ (by omega)] at this; exact this, hb2⟩
   clear hg2 hb2 H3 h4 HI HF HL
   have hk1 : (min m (n - m) : Nat) ≤ n := by omega
   have hk2 : 1 ≤ (min m (n - m) : Nat) := by omega
   generalize min m (n - m) = k at *
   have hw1 : IntKind.i64.wrap ((m : Int) + (k : Int)) = (m : Int) + k := IntWalk.i64_in _ (by omega)
   simp only [Act.put, hw1, List.getElem_toArray, List.getElem_cons_succ, List.getElem_cons_zero, List.setIfInBounds_toArray, List.set_cons_succ, List.set_cons_zero]
   clear hw1
   go_wp2
   go_roundw
   case rel => exact ⟨m + k, by go_num, HN⟩
   case measure => simp [intOf]; omega
  ·obtain rfl : m = n := by omega
   go_wp2
   go_ret
   refine ⟨rfl, ?_, h4⟩
   have := H3.out
   simp only [Nat.sub_self, List.replicate_zero, List.append_nil, List.toArray_replicate] at this
   exact this
theorem wpList_app28 {ops : Array Oper} {rest : List Oper} {o : Oper} {a : Act} {Q : Exit → Act → World → Prop} {W : World} (hgd : o.guard = none) (s x : Operand)
  (ho : o.op = .call { callee := .builtin .append, args := #[s, x], argTypes := #[31, 31] }) (base : Nat) (v : Value) (q : List Int) (y : Int) (N : Nat) (hN : W.heap.size = N)
  (hsv : a.eval s = v) (hx : a.eval x = .slice (some ⟨N, 0, none⟩) 1 1) (hr : Row W base 3 1 v q.length (q.map I)) (hq : q.length ≤ 1000000) (hb : base ≤ W.heap.size)
  (h : ∀ v' w', Row w' base 3 1 v' (q.length + 1) (q.map I ++ [I y]) → Below base (W.alloc (.cells #[I y] 3)) w' → wpList Tryz.prog ops Q rest (a.put o.dst v') w') :
  wpList Tryz.prog ops Q (o :: rest) a (W.alloc (.cells #[I y] 3)) := by
 obtain ⟨i0, hi0, hz0, hz1, hz2⟩ := info_parts Tryz.info3
 subst hN
 exact wpList_append_row hgd s x 31 ho base 3 i0 (.int .i64 0) 1 8 Tryz.underlying31 hi0 hz0 hz1 hz2 rfl (by decide) v q.length (q.map I) hsv (hr.alloc _) (W.heap.size + 1) (some ⟨W.heap.size, 0, none⟩) 1 1 [I y] hx
  (reads_one W 3 (I y)) (by simp [Value.oneCell']) (by unfold maxLen; omega) (by omega) (by simp; omega) h
def CopyOf (w : World) (n : NetD) (e : Ending) (w' : World) : Prop :=
 ∃ v : NetV, e = .returned (v.val n) ∧ NetIn w' n v ∧ (0 < n.switches.length → Row w' w.heap.size 134 5 (.slice v.sa n.switches.length v.sc) n.switches.length (cellsBy SwitchD.cells n.switches)) ∧ Below w.heap.size w w'
end Go.Proofs.YtenbglfkdldheaaGreatDoor
