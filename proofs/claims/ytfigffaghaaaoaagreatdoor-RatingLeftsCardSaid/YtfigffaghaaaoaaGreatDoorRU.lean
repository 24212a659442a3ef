/- slices.Repeat at vectors of texts, of one element. slices.Repeat at []api.Rat, of one element. The laws of package matrix that the keep's MatrixRing, MatrixTurns and MatrixUnits ask for, on the plain functions. No program here. matrix.Mul. -/
import Derived.Test.YtfigffaghaaaoaaGreatDoorRT
import Derived.Test.YtfigffaghaaaoaaGreatDoorRG
import Derived.Laws.CopyOwn
import Derived.Deep.RegionLaw
import Derived.Test.YtfigffaghaaaoaaGreatDoorRP
import Derived.Test.YtfigffaghaaaoaaGreatDoorRS
import Derived.Test.YtfigffaghaaaoaaGreatDoorRR
namespace Go.Proofs.YtfigffaghaaaoaaGreatDoor
open Go.RowKit

theorem size_str : (Tryz.prog.info? strT).map (·.size) = some 1 := by kernel_rfl

theorem mul_one_any (x n : Int) (w : World) (hx : x = 1) (h0 : 0 ≤ n) (h1 : n ≤ 1099511627776) :
    Calls Tryz.prog 32 #[.int .u64 x, .int .u64 n] w fun e w' => e = .returned (.tuple #[.int .u64 0, .int .u64 n]) ∧ w = w' := by
  subst hx
  obtain ⟨k, rfl⟩ := Int.eq_ofNat_of_zero_le h0
  refine (Tryz.bits_Mul 1 k (by omega) (by omega) w).mono fun e w' ⟨he, hw⟩ => ⟨?_, hw.symm⟩
  rw [he]
  have e1 : 1 * k / 18446744073709551616 = 0 := by rw [Nat.div_eq_of_lt]; omega
  have e2 : 1 * k % 18446744073709551616 = k := by rw [Nat.mod_eq_of_lt] <;> omega
  rw [e1, e2]
  rfl

theorem rep_splice (x : Value) (n m k : Nat) (_hk : m + k ≤ n) :
    splice (List.replicate m x ++ List.replicate (n - m) (Value.string ⟨#[]⟩)) m (List.replicate k x) = List.replicate (m + k) x ++ List.replicate (n - (m + k)) (Value.string ⟨#[]⟩) := by
  unfold splice
  rw [List.take_append_of_le_length (by simp), List.take_of_length_le (by simp), List.drop_append, List.drop_of_length_le (by simp)]
  simp
  rw [← List.append_assoc, List.replicate_append_replicate]
  congr 2
  omega

theorem rep_one (x : ByteArray) {w : World} {b off : Nat} {o : Obj} (n : Nat) (hb : b < w.heap.size) (hc : w.cell? ⟨b, off, none⟩ = some (Sv x)) :
    ∀ j v, (List.replicate (min 1 n) (Sv x))[j]? = some v → (w.alloc o).cell? ((⟨b, off, none⟩ : Addr).add j) = some v := by
  intro j v hv
  rw [List.getElem?_replicate] at hv
  split at hv
  · rename_i h
    obtain rfl : j = 0 := by omega
    rw [Addr.add_lit, World.cell?_alloc_lt _ _ _ hb, Nat.add_zero, hc]
    exact hv
  · cases hv

theorem rep_self (x : ByteArray) {w : World} {g n m k : Nat} (hg : w.heap[g]? = some (.cells (List.replicate m (Sv x) ++ List.replicate (n - m) (Value.string ⟨#[]⟩)).toArray strT (0, 0))) (hk : k ≤ m) :
    ∀ j v, (List.replicate k (Sv x))[j]? = some v → w.cell? ((⟨g, 0, none⟩ : Addr).add j) = some v := by
  intro j v hv
  rw [List.getElem?_replicate] at hv
  split at hv
  · rename_i h
    rw [Addr.add_lit, Nat.zero_add, cell_of_row w g j _ _ _ hg]
    simp only [List.getElem?_toArray]
    rw [List.getElem?_append_left (by simp; omega), List.getElem?_replicate, if_pos (by omega)]
    exact hv
  · cases hv

theorem rep_plain (x : ByteArray) (k : Nat) : ∀ v ∈ List.replicate k (Sv x), v.oneCell' = true := by
  intro v hv
  rw [List.mem_replicate] at hv
  rw [hv.2]
  rfl

theorem rep_start (x : ByteArray) (n : Nat) : splice (List.replicate n (Value.string ⟨#[]⟩)) 0 (List.replicate (min 1 n) (Sv x)) = List.replicate (min 1 n) (Sv x) ++ List.replicate (n - min 1 n) (Value.string ⟨#[]⟩) := by
  simp [splice]

/-- the loop of slices.Repeat: m cells are filled -/
structure RepInv (w : World) (g : Nat) (x : ByteArray) (n m : Nat) (wr : World) : Prop where
  le : m ≤ n
  pos : 1 ≤ m ∨ n = 0
  row : wr.heap[g]? = some (.cells (List.replicate m (Sv x) ++ List.replicate (n - m) (Value.string ⟨#[]⟩)).toArray strT (0, 0))
  below : Below g w wr

end Go.Proofs.YtfigffaghaaaoaaGreatDoor
namespace Go.Proofs.YtfigffaghaaaoaaGreatDoor
open Go.RowKit

abbrev rsT : TypeId := 30
theorem make_rs (n : Nat) (hn : n ≤ 1099511627776) (W : World) :
    (Instr.makeSlice rsT (.int .i64 (n : Int)) (.int .i64 (n : Int))).run Tryz.prog W = .ok (.slice (some ⟨W.heap.size, 0, none⟩) n n) (W.alloc (.cells (Array.replicate n (Value.string ⟨#[]⟩)) strT)) := by
  obtain ⟨i, hi, hz0, hz1, hz2⟩ := info_parts info_str
  have := run_make (P := Tryz.prog) W rsT strT i _ Tryz.underlying30 hi hz0 .i64 .i64 n n (by omega) (by omega) (by rw [hz2]; omega) (by omega)
  rw [this, Int.toNat_natCast, hz1, made_str]

set_option maxRecDepth 100000 in
set_option maxHeartbeats 400000 in
theorem repeatRs_any (x : ByteArray) (n : Nat) (b off c : Nat) (w : World) (hb : b < w.heap.size) (hc : w.cell? ⟨b, off, none⟩ = some (Sv x)) (hn : n ≤ 1099511627776) :
    Calls Tryz.prog 17 #[.slice (some ⟨b, off, none⟩) 1 c, I n] w fun e w' =>
      e = .returned (.slice (some ⟨w.heap.size, 0, none⟩) n n) ∧ Blk w' w.heap.size strT (Array.replicate n (Sv x)) ∧ Below w.heap.size w w' := by
  have hmk := make_rs n hn
  have hnn : (n : Int) ≤ 1099511627776 := by omega
  have HS := Lib.hid size_str
  have HG := Lib.hid (heap_alloc_new w (.cells (List.replicate n (Value.string ⟨#[]⟩)).toArray strT))
  have HF := Lib.hid (show 0 + (List.replicate (min 1 n) (Sv x)).length ≤ (List.replicate n (Value.string ⟨#[]⟩)).length by simp; omega)
  have HL := Lib.hid (show (List.replicate (min 1 n) (Sv x)).length = Nat.min 1 n by simp)
  simp only [List.toArray_replicate] at HG
  unfold strT rsT at *
  go_enter Tryz.func17, Tryz.ntmps17
  go_wp2_with (first | (go_at_call 32; refine (mul_one_any _ _ _ (by rfl) (by omega) (by omega)).mono ?_; rintro e w' ⟨rfl, rfl⟩) | (refine wpList_copy_splice rfl (.tmp 31) (.tmp 32) rsT rsT rfl strT Tryz.underlying30 HS.out (some ⟨w.heap.size, 0, none⟩) (some ⟨b, off, none⟩) n n 1 c (by rfl) (by rfl) w.heap.size 0 (List.replicate n (Value.string ⟨#[]⟩)) strT (by rw [List.toArray_replicate]; exact HG.out) (List.replicate (min 1 n) (Sv x)) HL.out (fun _ => ⟨rfl, _, rfl, rep_one x n hb hc⟩) HF.out (rep_plain x _) w.heap.size w ((Below.refl _ _).alloc (Nat.le_refl _) _) (Nat.le_refl _) ?_; intro w1 hg1 hb1))
  have HI : RepInv w w.heap.size x n (min 1 n) w1 := ⟨by omega, by omega, by have := hg1.out; rw [rep_start] at this; exact this, hb1⟩
  clear hg1 hb1 HG HF HL hmk
  go_loopw [8] (fun v wr => ∃ m : Nat, v = I m ∧ RepInv w w.heap.size x n m wr) (fun v _ => n - (intOf v).toNat)
  case atStart => exact ⟨_, rfl, HI⟩
  case round =>
    obtain ⟨m, rfl, h1, h2, h3, h4⟩ := hrel
    have H3 := Lib.hid h3
    clear h3
    by_cases hlt : m < n
    · have hm1 : (1 : Int) ≤ m := by omega
      have hmn : (m : Int) < n := by omega
      have hne : ¬ n = m := by omega
      have hlo : (0 : Int) ≤ (m : Int) := by omega
      have HL := Lib.hid (show (List.replicate (min m (n - m)) (Sv x)).length = Nat.min m (n - m) by simp)
      have HF := Lib.hid (show m + (List.replicate (min m (n - m)) (Sv x)).length ≤ (List.replicate m (Sv x) ++ List.replicate (n - m) (Value.string ⟨#[]⟩)).length by simp; omega)
      go_wp2
      go_region_law ((refine step_copy_splice rfl (.tmp 41) (.tmp 44) rsT rsT rfl strT Tryz.underlying30 HS.out (some ⟨w.heap.size, m, none⟩) (some ⟨w.heap.size, 0, none⟩) (n - m) (n - m) m n (by kernel_rfl) (by kernel_rfl) w.heap.size m (List.replicate m (Sv x) ++ List.replicate (n - m) (Value.string ⟨#[]⟩)) strT H3.out (List.replicate (min m (n - m)) (Sv x)) HL.out (fun _ => ⟨rfl, _, rfl, rep_self x (n := n) (m := m) H3.out (by omega)⟩) HF.out (rep_plain x _) w.heap.size w h4.drew (Nat.le_refl _) ?_; intro w2 hg2 hb2))
      have HN : RepInv w w.heap.size x n (m + min m (n - m)) w2 := ⟨by omega, by omega, by have := hg2.out; rw [rep_splice (Sv x) n m _ (by omega)] at this; exact this, hb2⟩
      clear hg2 hb2 H3 h4 HI HF HL
      have hk1 : (min m (n - m) : Nat) ≤ n := by omega
      have hk2 : 1 ≤ (min m (n - m) : Nat) := by omega
      generalize min m (n - m) = k at *
      have hw1 : IntKind.i64.wrap ((m : Int) + (k : Int)) = (m : Int) + k := IntWalk.i64_in _ (by omega)
      simp only [Act.put, hw1, List.getElem_toArray, List.getElem_cons_succ, List.getElem_cons_zero, List.setIfInBounds_toArray, List.set_cons_succ, List.set_cons_zero]
      clear hw1
      go_wp2
      go_roundw
      case rel => exact ⟨m + k, by go_num, HN⟩
      case measure => simp [intOf]; omega
    · obtain rfl : m = n := by omega
      go_wp2
      go_ret
      refine ⟨rfl, ?_, h4⟩
      have := H3.out
      simp only [Nat.sub_self, List.replicate_zero, List.append_nil, List.toArray_replicate] at this
      exact this

end Go.Proofs.YtfigffaghaaaoaaGreatDoor
namespace Go.Proofs.YtfigffaghaaaoaaGreatDoor
open Go.Lib

end Go.Proofs.YtfigffaghaaaoaaGreatDoor
namespace Go.Proofs.YtfigffaghaaaoaaGreatDoor
open Go.RowKit

/-! ### sizes -/
theorem fitR_zero : FitR 1 0 := ⟨fits_zero 1, by unfold Fits; decide⟩
/-- all numbers of a row have at most 210 words -/
def Fit1 (l : List Rat) : Prop := ∀ q ∈ l, FitR 210 q
theorem Fit1.at_ {l : List Rat} (h : Fit1 l) (i : Nat) : FitR 210 (l.getD i 0) := by
  rw [List.getD_eq_getElem?_getD]
  cases e : l[i]? with
  | none => exact fitR_zero.mono (by decide)
  | some q => exact h q (List.mem_of_getElem? e)
theorem fit_vals1 {l : List (List UInt8)} (h : ∀ s ∈ l, rchk s = 0) : Fit1 (valsV l) := by
  intro q hq
  obtain ⟨s, hs, rfl⟩ := List.mem_map.1 hq
  exact val_fit (rchk_val s (h s hs))
end Go.Proofs.YtfigffaghaaaoaaGreatDoor
