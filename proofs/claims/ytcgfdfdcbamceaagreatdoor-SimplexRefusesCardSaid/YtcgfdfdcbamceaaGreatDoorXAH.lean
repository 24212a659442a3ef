/- large.shortDiv, large.shifted. (*strings.Builder).copyCheck, WriteString at this translation. strconv.FormatUint at base 10. Knuth's division by words: plain facts. No program here. large.shifted. -/
import Derived.Test.YtcgfdfdcbamceaaGreatDoorXAF
import Derived.Laws.BitsAllLaws
import Derived.Test.YtcgfdfdcbamceaaGreatDoorXG
import Derived.Shelf.Strings.Builder1
import Derived.Test.YtcgfdfdcbamceaaGreatDoorXAE
import Derived.Lib.AppendIntMem
namespace Go.Proofs.YtcgfdfdcbamceaaGreatDoor
open Go.RowKit
theorem or_hi {m x : Int} (hm : 0 ≤ m ∧ m < 4294967296) (hx : 0 ≤ x ∧ x < 4294967296) : bits BinOp.or IntKind.u64 (m * 4294967296) x = m * 4294967296 + x := by
 rw [u64_or _ _ (by omega) (by omega) (by omega) (by omega), nat_join 32 _ _ (by omega) (by omega)]
 omega
theorem ret_two {v : Value} {m m' : Int} (h : m = m') : Ending.returned (.tuple #[v, U m]) = .returned (.tuple #[v, U m']) := by rw [h]
structure SdI (w : World) (g : Nat) (a : List Int) (d : Int) (r : Nat) (m : Int) (o : List Int) (wr : World) : Prop where
 wrd : Wrd w g a.length o wr
 hr : r ≤ a.length
 hm : 0 ≤ m ∧ m < d
 eq : val (a.drop r) = d * val (o.drop r) + m
theorem SdI.step {w : World} {g : Nat} {a : List Int} {d : Int} {k : Nat} {m : Int} {o : List Int} {wr : World} (h : SdI w g a d (k + 1) m o wr) (_oa : Ok a) (hd : 1 ≤ d) (hg : w.heap.size ≤ g) {s : Int} (hs : s = m * 4294967296 + a.getD k 0) (hs0 : 0 ≤ s) (hs1 : s < d * 4294967296) :
  SdI w g a d k (s % d) (o.set k (s / d)) (wr.setCell ⟨g, k, none⟩ (U (s / d))) := by
 have hr := h.hr
 have hq : 0 ≤ s / d ∧ s / d < 4294967296 := ⟨Int.ediv_nonneg hs0 (by omega), Int.ediv_lt_of_lt_mul (by omega) (by rw [Int.mul_comm]; exact hs1)⟩
 refine ⟨h.wrd.set k hq hg, by omega, ⟨Int.emod_nonneg _ (by omega), Int.emod_lt_of_pos _ (by omega)⟩, ?_⟩
 have hl := h.wrd.len
 have e1 : a.drop k = a.getD k 0 :: a.drop (k + 1) := by rw [List.drop_eq_getElem_cons (by omega), List.getD_eq_getElem?_getD, List.getElem?_eq_getElem (by omega)]; rfl
 have e2 : (o.set k (s / d)).drop k = (s / d) :: o.drop (k + 1) := by
  rw [List.drop_eq_getElem_cons (by simp; omega)]
  simp [List.drop_set_of_lt]
 rw [e1, e2]
 simp only [val]
 rw [h.eq]
 have h1 := Int.emod_add_mul_ediv s d
 have e3 : d * (s / d + 4294967296 * val (o.drop (k + 1))) = d * (s / d) + 4294967296 * (d * val (o.drop (k + 1))) := by rw [Int.mul_add, Int.mul_left_comm]
 rw [e3]
 omega
set_option maxRecDepth 100000 in
set_option maxHeartbeats 1000000 in
theorem shortDiv_any (a : List Int) (A : Option Addr) (ca : Nat) (d : Int) (w : World) (hA : Reads w w.heap.size 1 A a.length (a.map U)) (oa : Ok a) (hl : a.length ≤ 1000000000) (hd0 : 1 ≤ d) (hd1 : d < 4294967296) :
  Calls Tryz.prog 90 #[.slice A a.length ca, U d] w fun e w' => ∃ v o, e = .returned (.tuple #[v, U (val a % d)]) ∧ Row w' w.heap.size 139 1 v o.length (o.map U) ∧ Ok o ∧ val o = val a / d ∧ o.length = a.length ∧ Below w.heap.size w w' := by
 have hmk := make_u32 a.length (by omega)
 have HW := Lib.hid (Wrd.start w a.length)
 go_enter Tryz.func90, Tryz.ntmps90
 go_wp2
 go_loopg [7, 8] a.length (fun r mv iv wr => ∃ (m : Int) (o : List Int), mv = .int .u64 m ∧ iv = I ((r : Int) - 1) ∧ SdI w w.heap.size a d r m o wr)
 case atStart => exact ⟨0, _, rfl, rfl, HW.out, by omega, by omega, by rw [List.drop_of_length_le (Nat.le_refl _), List.drop_of_length_le (by simp)]; simp [val]⟩
 case round =>
  clear HW hmk
  obtain ⟨m, o, rfl, rfl, hI⟩ := hrel
  obtain ⟨hm0, hm1⟩ := hI.hm
  have hr := hI.hr
  rcases gk with _ | k
  ·have e0 : (((0 : Nat) : Int) - 1) = -1 := by omega
   rw [e0]
   have hE := hI.eq
   simp only [List.drop_zero] at hE
   have hq : val o = val a / d ∧ m = val a % d := by
    have h1 := Int.emod_add_mul_ediv (val a) d
    have h2 := Int.emod_nonneg (val a) (show d ≠ 0 by omega)
    have h3 := Int.emod_lt_of_pos (val a) (show 0 < d by omega)
    have h4 : val a / d = val o := by
     rw [hE, Int.add_comm, Int.add_mul_ediv_left _ _ (by omega), Int.ediv_eq_zero_of_lt hm0 hm1]; omega
    refine ⟨h4.symm, ?_⟩
    rw [h4] at h1
    omega
   obtain ⟨hq1, hq2⟩ := hq
   have HQ1 := Lib.hid hq1
   have HQ2 := Lib.hid hq2
   have HF := Lib.hid hI.wrd
   clear hq1 hq2 hI hE e0
   go_wp2
   go_ret2
   exact ⟨_, o, ret_two HQ2.out, HF.out.row (Nat.le_refl _) (by unfold maxLen; omega), HF.out.ok, HQ1.out, HF.out.len, HF.out.below⟩
  ·have e0 : (((k + 1 : Nat) : Int) - 1) = k := by omega
   rw [e0]
   clear e0
   obtain ⟨ba, offa, hAe, hba, hca⟩ := (hA.below hI.wrd.below).word (k := k) (by omega)
   subst hAe
   have hx := oa.at_ k
   obtain ⟨x, hxe⟩ : ∃ x, a.getD k 0 = x := ⟨_, rfl⟩
   rw [hxe] at hca hx
   obtain ⟨hx0, hx1⟩ := hx
   have hs1 : m * 4294967296 + x < d * 4294967296 := by omega
   have hN := hI.step oa hd0 (Nat.le_refl _) (s := m * 4294967296 + x) (by rw [hxe]) (by omega) hs1
   have hq : 0 ≤ (m * 4294967296 + x) / d ∧ (m * 4294967296 + x) / d < 4294967296 := ⟨Int.ediv_nonneg (by omega) (by omega), Int.ediv_lt_of_lt_mul (by omega) (by omega)⟩
   obtain ⟨hq0, hq1⟩ := hq
   have hor := or_hi (m := m) (x := x) (by omega) (by omega)
   have hf : wr.frozen? ⟨w.heap.size, k, none⟩ = false := hI.wrd.blk.frozen _
   have hco := hI.wrd.cell (i := k) (by omega)
   have hlo := hI.wrd.blk.lt
   have HN := Lib.hid hN
   clear hN hI hxe
   go_wp2
   go_roundg k
   case measure => omega
   case rel => exact ⟨_, _, rfl, by go_num, HN.out⟩
end Go.Proofs.YtcgfdfdcbamceaaGreatDoor
namespace Go.Proofs.YtcgfdfdcbamceaaGreatDoor
open Go.RowKit Go.Shelf
theorem bld_size : (Tryz.prog.info? 146).map (·.size) = some 2 := by kernel_rfl
theorem byte_info : (Tryz.prog.info? 5).map (fun i => (i.zero, i.size, i.bytes)) = some (some (.int .u8 0), 1, 1) := by kernel_rfl
set_option maxHeartbeats 1000000 in
set_option maxRecDepth 100000 in
theorem copyCheck_used (b : Nat) (w : World) (h0 : w.cell? ⟨b, 0, none⟩ = some (.pointer (some ⟨b, 0, none⟩))) :
  Calls Tryz.prog 111 #[.pointer (some ⟨b, 0, none⟩)] w fun e w' => e = .returned (.tuple #[]) ∧ w' = w := by
 obtain ⟨j, hj, _⟩ := Option.map_eq_some_iff.1 bld_size
 go_enter Tryz.func111, Tryz.ntmps111
 go_wp2
 rw [Lib.run_neq_ptr_same w _ Tryz.underlying143 hj]
 go_wp2
 go_end0
 exact ⟨rfl, rfl⟩
set_option maxHeartbeats 1000000 in
set_option maxRecDepth 100000 in
theorem copyCheck_fresh (b : Nat) (w : World) (h0 : w.cell? ⟨b, 0, none⟩ = some (.pointer none)) (hsh : w.shape? b = some (146, 2)) (hfz : w.frozen? ⟨b, 0, none⟩ = false) :
  Calls Tryz.prog 111 #[.pointer (some ⟨b, 0, none⟩)] w fun e w' => e = .returned (.tuple #[]) ∧ w' = w.setCell ⟨b, 0, none⟩ (.pointer (some ⟨b, 0, none⟩)) := by
 obtain ⟨j, hj, hjs⟩ := Option.map_eq_some_iff.1 bld_size
 go_enter Tryz.func111, Tryz.ntmps111
 go_wp2
 rw [Lib.run_to_unsafe w ⟨b, 0, none⟩ Tryz.underlying143 Tryz.underlying184 hj (by rw [hjs]; decide) hsh (Nat.zero_lt_succ 1)]
 simp only [Result.andThen]
 rw [Oper.upon_value]
 go_wp2
 rw [run_callFunc_extern Tryz.func124 (by kernel_rfl) (by kernel_rfl) (by kernel_rfl) (e := Extern.AbiNoEscape.same) (by kernel_rfl)]
 rw [Lib.run_noEscape]
 simp only [Result.andThen]
 rw [Oper.upon_value]
 go_wp2
 rw [Lib.run_from_unsafe w ⟨b, 0, none⟩ Tryz.underlying184 Tryz.underlying143 hj hsh (by kernel_rfl)]
 simp only [Result.andThen]
 rw [Oper.upon_value]
 go_wp2
 go_end0
 exact ⟨rfl, rfl⟩
theorem copyCheck_any (B b : Nat) (bs : List Value) (w : World) (h : Lib.IsBuilder 146 5 B b bs w) :
  Calls Tryz.prog 111 #[.pointer (some ⟨b, 0, none⟩)] w fun e w' => e = .returned (.tuple #[]) ∧ (Lib.BuilderAt 146 5 B b (.pointer (some ⟨b, 0, none⟩)) bs w' ∧ Below B w w') := by
 rcases h with h | h
 ·refine (copyCheck_fresh b w h.cell0 h.shape h.frozen0).mono ?_
  rintro e w' ⟨rfl, rfl⟩
  exact ⟨rfl, h.used _, (Below.refl B w).setCell (p := ⟨b, 0, none⟩) h.1 _⟩
 ·refine (copyCheck_used b w h.cell0).mono ?_
  rintro e w' ⟨rfl, rfl⟩
  exact ⟨rfl, h, Below.refl B _⟩
set_option maxHeartbeats 1000000 in
set_option maxRecDepth 100000 in
theorem writeString_any (B b : Nat) (bs : List Value) (s : ByteArray) (w : World) (h : Lib.IsBuilder 146 5 B b bs w) (hlen : bs.length + s.size ≤ 140737488355328) (hBw : B ≤ w.heap.size) :
  Calls Tryz.prog 93 #[.pointer (some ⟨b, 0, none⟩), .string s] w fun e w' => e = .returned (.tuple #[.int .i64 s.size, .nilIface]) ∧ (Lib.BuilderAt 146 5 B b (.pointer (some ⟨b, 0, none⟩)) (bs ++ Lib.strCells s) w' ∧ Below B w w') := by
 obtain ⟨i0, hi, hz0, hz1, hz2⟩ := info_parts byte_info
 go_enter Tryz.func93, Tryz.ntmps93
 go_wp2_with (go_at_call 111; refine (copyCheck_any B b bs _ h).mono ?_)
 rintro e w1 ⟨rfl, h1, hb1⟩
 obtain ⟨hB, v, hbk, hown, hne⟩ := h1
 have c0 : w1.cell? ⟨b, 0, none⟩ = some (.pointer (some ⟨b, 0, none⟩)) := by rw [Lib.cell_of_heap hbk]; rfl
 have c1 : w1.cell? ⟨b, 1, none⟩ = some v := by rw [Lib.cell_of_heap hbk]; rfl
 go_wp2_with (at_builtin; refine Lib.wpList_append_own_string _ rfl _ _ 144 9 rfl B 5 i0 Tryz.underlying144 Tryz.underlying9 hi hz0 hz1 hz2 _ _ _ rfl hown s rfl ?c3 ?c4 ?c5 ?_)
 case c3 => unfold maxLen; omega
 case c4 => omega
 case c5 => have := hb1.size; omega
 intro v' w2 hown' hgrow _
 have hlt : b < w1.heap.size := by
  rcases Nat.lt_or_ge b w1.heap.size with h' | h'
  ·exact h'
  ·simp [Array.getElem?_eq_none h'] at hbk
 have hb2 : w2.heap[b]? = some (.cells #[.pointer (some ⟨b, 0, none⟩), v] 146 (0, 0)) := by
  rw [hgrow.block b hlt (fun e => hne e.symm)]
  exact hbk
 have d0 : w2.cell? ⟨b, 0, none⟩ = some (.pointer (some ⟨b, 0, none⟩)) := by rw [Lib.cell_of_heap hb2]; rfl
 have d1 : w2.cell? ⟨b, 1, none⟩ = some v := by rw [Lib.cell_of_heap hb2]; rfl
 have f1 : w2.frozen? ⟨b, 1, none⟩ = false := Lib.frozen_of_heap hb2 1
 obtain ⟨ao, n', cap, rfl⟩ : ∃ ao n' cap, v' = .slice ao n' cap := by
  rcases hown'.2 with ⟨hv, _⟩ | ⟨g, cap, cur, hv, _⟩
  ·exact ⟨_, _, _, hv⟩
  ·exact ⟨_, _, _, hv⟩
 go_wp2
 go_ret2
 refine ⟨rfl, ?_, ?_⟩
 ·exact Lib.BuilderAt.put (T := 146) (e := 5) hB hb2 (bs' := bs ++ Lib.strCells s) (by simpa [Lib.strCells_length] using hown') (by decide)
 ·exact (hb1.grown hgrow (by have := hb1.size; omega) (fun k hk => (hown.lt k hk).1)).setCell (p := ⟨b, 1, none⟩) hB _
end Go.Proofs.YtcgfdfdcbamceaaGreatDoor
namespace Go.Proofs.YtcgfdfdcbamceaaGreatDoor
open Go.RowKit Go.Shelf Go.Sort
set_option maxRecDepth 100000 in
set_option maxHeartbeats 2000000 in
theorem fmt_in (u : Nat) (hu64 : u < 18446744073709551616) (w : World) (htab : Tab w) :
  Calls Tryz.prog 110 #[.int .u64 u, .int .i64 10] w fun e w' => e = .returned (.string ⟨(Lib.decDigits u).toArray⟩) ∧ Below w.heap.size w w' := by
 by_cases hs : u < 100
 ·have hs1 : (u : Int) < 100 := by omega
  go_enter Tryz.func110, Tryz.ntmps110
  go_wp2_with (go_at_call 120; refine (Tryz.internal_strconv_small u hs _).mono ?_; rintro e w' ⟨rfl, rfl⟩)
  go_ret
  exact ⟨rfl, Below.refl _ _⟩
 ·have hu1 : 1 ≤ u := by omega
  have hs1 : ¬ (u : Int) < 100 := by omega
  have hnd20 : Lib.nDigits u ≤ 20 := by have := Lib.numDigits_eq u hu1 hu64; split at this <;> omega
  have hal : Tryz.prog.arrayLen 179 = 24 := by kernel_rfl
  have hsl1 : ∀ W, (Instr.sliceAt 179 (.pointer (some ⟨w.heap.size, 0, none⟩)) none (some (.int .i64 (Lib.nDigits u : Int))) none).run Tryz.prog W = .ok (.slice (some ⟨w.heap.size, 0, none⟩) (Lib.nDigits u) 24) W := fun W => by
   rw [run_sliceAt_array_h W 179 ⟨w.heap.size, 0, none⟩ (by simp [Program.arrayLen, Program.elem, Tryz.underlying179]) .i64 (Lib.nDigits u : Int) (by omega) (by rw [hal]; omega)]
   go_simp
   try omega
  have hH0 := Lib.holds_zero0 w 179 (Lib.nDigits u) (by omega)
  have hfmt := Tryz.internal_strconv_formatBase10 w.heap.size 0 24 u (Array.replicate (Lib.nDigits u) 0) (w.alloc (.cells Lib.zeros24 179)) hH0 (by rw [Array.size_replicate]; exact Lib.lt_pow_nDigits u) hu64 (by rw [Array.size_replicate]; omega)
  rw [Array.size_replicate] at hfmt
  have HH0 := Lib.hid hH0
  have HF := Lib.hid hfmt
  clear hH0 hal hfmt
  go_enter Tryz.func110, Tryz.ntmps110
  go_wp2_with (go_at_call 121; refine (Tryz.internal_strconv_numDigits u hu1 hu64 _ (Lib.tabIs_alloc htab _)).mono ?_; rintro e w' ⟨rfl, rfl⟩)
  go_at_call 122
  refine HF.out.mono ?_
  rintro e w' ⟨rfl, k, v', dk, rfl, hF⟩
  have hcv : (convert 144 9 (.slice (some ⟨w.heap.size, 0, none⟩) (Lib.nDigits u) 24)).run Tryz.prog ((putRow (fun (b : UInt8) => Value.int .u8 (b.toNat : Int)) (w.alloc (.cells Lib.zeros24 179)) w.heap.size 0 dk).drewN k) = .ok (.string ⟨(Lib.decDigits u).toArray⟩) ((putRow (fun (b : UInt8) => Value.int .u8 (b.toNat : Int)) (w.alloc (.cells Lib.zeros24 179)) w.heap.size 0 dk).drewN k) := by
   have h := run_convert_bytes_back (P := Tryz.prog) ((putRow (fun (b : UInt8) => Value.int .u8 (b.toNat : Int)) (w.alloc (.cells Lib.zeros24 179)) w.heap.size 0 dk).drewN k) 144 9 5 ⟨w.heap.size, 0, none⟩ 24 (Lib.decDigits u) Tryz.underlying144 Tryz.underlying5 Tryz.underlying9 (fun j hj => by
    rw [Lib.row_is_numeral hF j hj, Lib.add_plain, World.cell?_drewN]
    exact cell?_putRow (fun (b : UInt8) => Value.int .u8 (b.toNat : Int)) _ w.heap.size 0 _ dk HH0.out (by rw [hF.size, Array.size_replicate]) j (by rw [hF.size]; rw [Lib.decDigits_length] at hj; exact hj))
   rw [Lib.decDigits_length] at h
   exact h
  go_wp2
  go_ret
  obtain ⟨os, eo⟩ := Lib.fin_at w (.cells Lib.zeros24 179) dk k 0
  exact ⟨rfl, by rw [eo]; exact below_grow w k os⟩
set_option maxRecDepth 100000 in
theorem fmt_any (u : Nat) (hu64 : u < 18446744073709551616) (w : World) (htab : Tab w) :
  Calls Tryz.prog 92 #[.int .u64 u, .int .i64 10] w fun e w' => e = .returned (.string ⟨(Lib.decDigits u).toArray⟩) ∧ Below w.heap.size w w' := by
 have HF := Lib.hid (fmt_in u hu64 w htab)
 go_enter Tryz.func92, Tryz.ntmps92
 go_wp2_with fail
 refine HF.out.mono ?_
 rintro e w1 ⟨rfl, hb⟩
 have HB := Lib.hid hb
 clear hb HF
 go_wp2
 go_ret
 exact ⟨rfl, HB.out⟩
end Go.Proofs.YtcgfdfdcbamceaaGreatDoor
namespace Go.Proofs.YtcgfdfdcbamceaaGreatDoor
theorem est_low {q V2 vl T3 xl D : Int} (hD : 0 < D) (hq : 0 ≤ q) (hvl : 0 ≤ vl) (hxl : xl < D) (h : q * (V2 * D + vl) ≤ T3 * D + xl) : q * V2 ≤ T3 := by
 have h1 : 0 ≤ q * vl := Int.mul_nonneg hq hvl
 have h2 : q * V2 * D < (T3 + 1) * D := by grind
 have := Int.lt_of_mul_lt_mul_right h2 (by omega)
 omega
theorem est_high {g V2 vl T3 xl D : Int} (hD : 0 < D) (hg : 0 ≤ g) (hg1 : g < 4294967296) (hvl : 0 ≤ vl) (hvl1 : vl < D) (hxl : 0 ≤ xl) (h : g * V2 ≤ T3) (hV : 4294967296 ≤ V2) : (g - 1) * (V2 * D + vl) ≤ T3 * D + xl := by
 have h1 : g * V2 * D ≤ T3 * D := Int.mul_le_mul_of_nonneg_right h (by omega)
 have h2 : g * vl ≤ 4294967296 * D := Int.mul_le_mul (by omega) (by omega) hvl (by omega)
 have h3 : 4294967296 * D ≤ V2 * D := Int.mul_le_mul_of_nonneg_right hV (by omega)
 grind
theorem val_zero : ∀ {l : List Int}, (∀ k, l.getD k 0 = 0) → val l = 0
 | [], _ => rfl
 | x :: l, h => by
  have h0 := h 0
  have h1 := val_zero (l := l) fun k => by have := h (k + 1); simpa using this
  simp only [List.getD_cons_zero] at h0
  rw [val, h0, h1]; rfl
theorem val_above {l : List Int} {K : Nat} (h : ∀ k, K ≤ k → l.getD k 0 = 0) : val l = val (l.take K) := by
 have h1 : val (l.drop K) = 0 := val_zero fun k => by
  have := h (K + k) (by omega)
  simpa [List.getD_eq_getElem?_getD] using this
 have h2 := val_take_drop l K
 rw [h1] at h2
 omega
theorem val_lt_above {l : List Int} (ol : Ok l) {K : Nat} (h : ∀ k, K ≤ k → l.getD k 0 = 0) : val l < P32 K := by
 have h1 := val_lt (ol.take K)
 rw [← val_above h] at h1
 have h2 := P32_mono (i := (l.take K).length) (j := K) (by rw [List.length_take]; omega)
 omega
theorem zero_above {l : List Int} (ol : Ok l) {K : Nat} (h : val l < P32 K) {k : Nat} (hk : K ≤ k) : l.getD k 0 = 0 := by
 by_cases hl : k < l.length
 ·have h1 := val_take_drop l k
  have h2 := val_nonneg (ol.take k)
  have e1 : l.drop k = l.getD k 0 :: l.drop (k + 1) := by rw [List.drop_eq_getElem_cons hl, List.getD_eq_getElem?_getD, List.getElem?_eq_getElem hl]; rfl
  have h3 := val_nonneg (ol.drop (k + 1))
  have h4 := ol.at_ k
  rw [e1, val] at h1
  have h5 := P32_mono hk
  have h6 := P32_pos k
  by_cases h7 : l.getD k 0 = 0
  ·exact h7
  ·have h8 : P32 k * 1 ≤ P32 k * (l.getD k 0 + 4294967296 * val (l.drop (k + 1))) := Int.mul_le_mul_of_nonneg_left (by omega) (by omega)
   omega
 ·rw [List.getD_eq_getElem?_getD, List.getElem?_eq_none (by omega)]; rfl
structure Tops (X Vj uh um ul vt vs : Int) : Prop where
 ex : ∃ D vl xl : Int, 0 < D ∧ Vj = (vt * 4294967296 + vs) * D + vl ∧ 0 ≤ vl ∧ vl < D ∧ X = ((uh * 4294967296 + um) * 4294967296 + ul) * D + xl ∧ 0 ≤ xl ∧ xl < D
 huh : uh ≤ vt
 hum : 0 ≤ um ∧ um < 4294967296
 hul : 0 ≤ ul ∧ ul < 4294967296
 hvt : 2147483648 ≤ vt ∧ vt < 4294967296
 hvs : 0 ≤ vs ∧ vs < 4294967296
theorem tops {u v : List Int} (ou : Ok u) (ov : Ok v) {j n : Nat} (hn : 2 ≤ n) (hv : v.length = n) (hlt : val u < val v * P32 (j + 1)) (ht : 2147483648 ≤ v.getD (n - 1) 0) :
  Tops (val u) (val v * P32 j) (u.getD (j + n) 0) (u.getD (j + n - 1) 0) (u.getD (j + n - 2) 0) (v.getD (n - 1) 0) (v.getD (n - 2) 0) := by
 obtain ⟨k, rfl⟩ : ∃ k, n = k + 2 := ⟨n - 2, by omega⟩
 have i1 : k + 2 - 1 = k + 1 := by omega
 have i2 : k + 2 - 2 = k := by omega
 have i3 : j + (k + 2) - 1 = j + k + 1 := by omega
 have i4 : j + (k + 2) - 2 = j + k := by omega
 have i5 : j + (k + 2) = j + k + 2 := by omega
 rw [i1] at ht
 rw [i1, i2, i3, i4, i5]
 have v1 := val_take_succ v (k + 1)
 have v2 := val_take_succ v k
 rw [List.take_of_length_le (by omega)] at v1
 have v3 := val_nonneg (ov.take k)
 have v4 := val_lt (ov.take k)
 rw [List.length_take, Nat.min_eq_left (by omega)] at v4
 have ht1 := ov.at_ (k + 1)
 have hs1 := ov.at_ k
 have pj := P32_pos j
 have pk := P32_pos k
 have hvb := val_lt (ov.take (k + 1))
 rw [List.length_take, Nat.min_eq_left (by omega)] at hvb
 have e0 : P32 (j + 1) = 4294967296 * P32 j := P32_succ j
 have e1 : P32 (k + 1) = 4294967296 * P32 k := P32_succ k
 have e2 : P32 (j + k) = P32 j * P32 k := P32_add j k
 have e3 : P32 (j + k + 1) = 4294967296 * (P32 j * P32 k) := by rw [P32_succ, e2]
 have e4 : P32 (j + k + 2) = 4294967296 * (4294967296 * (P32 j * P32 k)) := by rw [show j + k + 2 = (j + k + 1) + 1 from rfl, P32_succ, e3]
 have e5 : P32 (j + k + 3) = 4294967296 * (4294967296 * (4294967296 * (P32 j * P32 k))) := by rw [show j + k + 3 = (j + k + 2) + 1 from rfl, P32_succ, e4]
 have pjk : 0 < P32 j * P32 k := Int.mul_pos pj pk
 have hvl : val v < P32 (k + 2) := by have := val_lt ov; rw [hv] at this; exact this
 have e6 : P32 (k + 2) = 4294967296 * (4294967296 * P32 k) := by rw [show k + 2 = (k + 1) + 1 from rfl, P32_succ, e1]
 have hub : val u < P32 (j + k + 3) := by
  have h1 : val v * P32 (j + 1) ≤ P32 (k + 2) * P32 (j + 1) := Int.mul_le_mul_of_nonneg_right (by omega) (by omega)
  have h2 : P32 (k + 2) * P32 (j + 1) = P32 (j + k + 3) := by rw [← P32_add]; congr 1; omega
  omega
 have hz := val_above (l := u) (K := j + k + 3) fun m hm => zero_above ou hub hm
 have u1 := val_take_succ u (j + k + 2)
 have u2 := val_take_succ u (j + k + 1)
 have u3 := val_take_succ u (j + k)
 have x0 := val_nonneg (ou.take (j + k))
 have x1 := val_lt (ou.take (j + k))
 have x2 := P32_mono (i := (u.take (j + k)).length) (j := j + k) (by rw [List.length_take]; omega)
 have uh0 := ou.at_ (j + k + 2)
 have um0 := ou.at_ (j + k + 1)
 have ul0 := ou.at_ (j + k)
 refine ⟨⟨P32 j * P32 k, val (v.take k) * P32 j, val (u.take (j + k)), pjk, ?_, Int.mul_nonneg v3 (by omega), ?_, ?_, x0, by omega⟩, ?_, um0, ul0, ⟨ht, ht1.2⟩, hs1⟩
 ·rw [v1, v2, e1]; grind
 ·have := Int.mul_lt_mul_of_pos_right v4 pj
  rw [Int.mul_comm (P32 k)] at this
  exact this
 ·rw [hz, u1, u2, u3, e2, e3, e4]; grind
 ·generalize u.getD (j + k + 2) 0 = uh at *
  generalize v.getD (k + 1) 0 = vt at *
  have h1 : uh * P32 (j + k + 2) ≤ val u := by
   have h3 := val_nonneg (ou.take (j + k + 2))
   rw [hz, u1, Int.mul_comm]; omega
  have h2 : val v * P32 (j + 1) < (vt + 1) * P32 (j + k + 2) := by
   have h4 : val v < (vt + 1) * P32 (k + 1) := by rw [v1, Int.add_mul, Int.mul_comm vt]; omega
   have h5 := Int.mul_lt_mul_of_pos_right h4 (P32_pos (j + 1))
   rw [Int.mul_assoc, ← P32_add, show k + 1 + (j + 1) = j + k + 2 by omega] at h5
   exact h5
  have h6 : uh * P32 (j + k + 2) < (vt + 1) * P32 (j + k + 2) := by omega
  have := Int.lt_of_mul_lt_mul_right h6 (by have := P32_pos (j + k + 2); omega)
  omega
section
variable {X Vj uh um ul vt vs g rest q : Int}
theorem Tops.down (h : Tops X Vj uh um ul vt vs) (hq : 0 ≤ q) (hqV : q * Vj ≤ X) (hqB : q < 4294967296) (hg : g * vt + rest = uh * 4294967296 + um) (hle : q ≤ g) (ht : 4294967296 ≤ g ∨ rest * 4294967296 + ul < g * vs) : q ≤ g - 1 := by
 rcases ht with ht | ht
 ·omega
 ·obtain ⟨D, vl, xl, hD, eV, v0, v1, eX, x0, x1⟩ := h.ex
  rw [eV, eX] at hqV
  have h1 := est_low hD hq v0 x1 hqV
  have h2 : q ≠ g := by
   rintro rfl
   grind
  omega
theorem Tops.done (h : Tops X Vj uh um ul vt vs) (hg : g * vt + rest = uh * 4294967296 + um) (h0 : 0 ≤ g) (hB : g < 4294967296) (ht : g * vs ≤ rest * 4294967296 + ul) : (g - 1) * Vj ≤ X := by
 obtain ⟨D, vl, xl, hD, eV, v0, v1, eX, x0, x1⟩ := h.ex
 have hvt := h.hvt
 have hvs := h.hvs
 rw [eV, eX]
 exact est_high hD h0 hB v0 v1 x0 (by grind) (by omega)
theorem Tops.broke (h : Tops X Vj uh um ul vt vs) (hg : g * vt + rest = uh * 4294967296 + um) (h0 : 0 ≤ g) (hr : 4294967296 ≤ rest) : g < 4294967296 ∧ g * vs ≤ rest * 4294967296 + ul := by
 have hvt := h.hvt
 have hvs := h.hvs
 have hum := h.hum
 have huh := h.huh
 have hul := h.hul
 have h1 : g < 4294967296 := by
  have h2 : g * vt < 4294967296 * vt := by omega
  exact Int.lt_of_mul_lt_mul_right h2 (by omega)
 refine ⟨h1, ?_⟩
 have h3 := (mul_bound ⟨h0, h1⟩ hvs).2
 omega
end
structure Dig (X Vj q : Int) : Prop where
 q0 : 0 ≤ q
 qB : q < 4294967296
 lo : q * Vj ≤ X
 hi : X < (q + 1) * Vj
theorem dig {X V : Int} {j : Nat} (hX : 0 ≤ X) (hV : 0 < V) (h : X < V * P32 (j + 1)) : Dig X (V * P32 j) (X / (V * P32 j)) := by
 have hp : 0 < V * P32 j := Int.mul_pos hV (P32_pos j)
 have e : V * P32 (j + 1) = V * P32 j * 4294967296 := by rw [P32_succ]; grind
 rw [e] at h
 have h1 := Int.emod_add_mul_ediv X (V * P32 j)
 have h2 := Int.emod_nonneg X (show V * P32 j ≠ 0 by omega)
 have h3 := Int.emod_lt_of_pos X hp
 have h4 : X / (V * P32 j) * (V * P32 j) = V * P32 j * (X / (V * P32 j)) := Int.mul_comm _ _
 refine ⟨Int.ediv_nonneg hX (by omega), Int.ediv_lt_of_lt_mul hp (by rw [Int.mul_comm]; exact h), by omega, ?_⟩
 rw [Int.add_mul]; omega
theorem Dig.is {X Vj q g : Int} (h : Dig X Vj q) (hV : 0 < Vj) (hle : q ≤ g) (hX : g * Vj ≤ X) : g = q := by
 have := h.hi
 have h1 : g * Vj < (q + 1) * Vj := by omega
 have := Int.lt_of_mul_lt_mul_right h1 (by omega)
 omega
theorem Dig.is1 {X Vj q g : Int} (h : Dig X Vj q) (hV : 0 < Vj) (_hle : q ≤ g) (hd : (g - 1) * Vj ≤ X) (hX : X < g * Vj) : g - 1 = q := by
 have h1 := h.lo
 have h2 : q * Vj < g * Vj := by omega
 have h3 := Int.lt_of_mul_lt_mul_right h2 (by omega)
 exact h.is hV (by omega) hd
structure KM (u v : List Int) (j : Nat) (g : Int) (i : Nat) (bo c : Int) (o : List Int) : Prop where
 len : o.length = u.length
 hb : -1 ≤ bo ∧ bo ≤ 0
 hc : 0 ≤ c ∧ c < 4294967296
 sum : val o + P32 (i + j) * (bo - c) = val u - P32 j * (g * val (v.take i))
 same : ∀ k, i + j ≤ k → o.getD k 0 = u.getD k 0
theorem KM.start (u v : List Int) (j : Nat) (g : Int) : KM u v j g 0 0 0 u := ⟨rfl, by omega, by omega, by simp [val], fun _ _ => rfl⟩
theorem KM.step {u v : List Int} {j : Nat} {g : Int} {i : Nat} {bo c : Int} {o : List Int} (h : KM u v j g i bo c o) (ov : Ok v) (oo : Ok o) (hg : 0 ≤ g ∧ g < 4294967296) (hj : i + j < u.length) {c' b' : Int} (hc' : c' = c + g * v.getD i 0) (hb' : b' = bo + (o.getD (i + j) 0 - c' % 4294967296)) :
  KM u v j g (i + 1) (b' / 4294967296) (c' / 4294967296) (o.set (i + j) (b' % 4294967296)) := by
 have h1 := ov.at_ i
 have h2 := oo.at_ (i + j)
 have h3 := h.hb
 have h4 := h.hc
 have h5 := mul_bound hg h1
 have hl := h.len
 refine ⟨by simpa using hl, by omega, by omega, ?_, ?_⟩
 ·rw [val_set o (i + j) _ (by omega), val_take_succ, show i + 1 + j = (i + j) + 1 by omega, P32_succ]
  have h6 := h.sum
  have m1 := mul_split (P32 (i + j)) b'
  have m2 := mul_split (P32 (i + j)) c'
  have e1 : P32 (i + j) = P32 j * P32 i := by rw [Nat.add_comm, P32_add]
  have e2 : P32 (i + j) * b' = P32 (i + j) * bo + P32 (i + j) * o.getD (i + j) 0 - P32 (i + j) * (c' % 4294967296) := by rw [hb']; grind
  have e3 : P32 (i + j) * c' = P32 (i + j) * c + P32 j * (g * (P32 i * v.getD i 0)) := by rw [hc', e1]; grind
  have e4 : P32 j * (g * (val (v.take i) + P32 i * v.getD i 0)) = P32 j * (g * val (v.take i)) + P32 j * (g * (P32 i * v.getD i 0)) := by grind
  rw [e4]
  rw [Int.mul_sub] at h6 ⊢
  rw [Int.mul_sub]
  omega
 ·intro k hk
  rw [getD_set_ne _ _ (by omega)]
  exact h.same k (by omega)
structure KL (u v : List Int) (j n : Nat) (g : Int) (b : Int) (o : List Int) : Prop where
 len : o.length = u.length
 hb : -4294967296 ≤ b ∧ b < 4294967296
 sum : val o + P32 (n + j + 1) * (b / 4294967296) = val u - g * (val v * P32 j)
 same : ∀ k, n + j < k → o.getD k 0 = u.getD k 0
theorem KM.last {u v : List Int} {j n : Nat} {g : Int} {bo c : Int} {o : List Int} (h : KM u v j g n bo c o) (hv : v.length = n) (oo : Ok o) (hj : n + j < u.length) {b : Int} (hb : b = bo + (o.getD (n + j) 0 - c)) :
  KL u v j n g b (o.set (n + j) (b % 4294967296)) := by
 have h2 := oo.at_ (n + j)
 have h3 := h.hb
 have h4 := h.hc
 have hl := h.len
 refine ⟨by simpa using hl, by omega, ?_, ?_⟩
 ·rw [val_set o (n + j) _ (by omega), P32_succ]
  have h6 := h.sum
  rw [List.take_of_length_le (by omega)] at h6
  have m1 := mul_split (P32 (n + j)) b
  have e2 : P32 (n + j) * b = P32 (n + j) * bo + P32 (n + j) * o.getD (n + j) 0 - P32 (n + j) * c := by rw [hb]; grind
  have e3 : P32 j * (g * val v) = g * (val v * P32 j) := by grind
  rw [e3, Int.mul_sub] at h6
  rw [Int.mul_sub]
  omega
 ·intro k hk
  rw [getD_set_ne _ _ (by omega)]
  exact h.same k (by omega)
section
variable {u v : List Int} {j n : Nat} {g b q : Int} {o : List Int}
theorem KL.right (h : KL u v j n g b o) (oo : Ok o) (hV : 0 < val v) (hd : Dig (val u) (val v * P32 j) q) (hle : q ≤ g) (hb : 0 ≤ b) : g = q ∧ val o = val u - q * (val v * P32 j) := by
 have h1 := h.hb
 have h2 := h.sum
 have e : b / 4294967296 = 0 := by omega
 rw [e] at h2
 have h3 := val_nonneg oo
 have h4 := hd.is (Int.mul_pos hV (P32_pos j)) hle (by omega)
 subst h4
 exact ⟨rfl, by omega⟩
theorem KL.wrong (h : KL u v j n g b o) (ou : ∀ k, n + j < k → u.getD k 0 = 0) (oo : Ok o) (hV : 0 < val v) (hd : Dig (val u) (val v * P32 j) q) (hle : q ≤ g) (h1 : (g - 1) * (val v * P32 j) ≤ val u) (hb : b < 0) : g - 1 = q ∧ val o + val v * P32 j - P32 (n + j + 1) = val u - q * (val v * P32 j) := by
 have h0 := h.hb
 have h2 := h.sum
 have e : b / 4294967296 = -1 := by omega
 rw [e] at h2
 have h3 := val_lt_above oo (K := n + j + 1) fun k hk => by rw [h.same k (by omega)]; exact ou k (by omega)
 have h4 := hd.is1 (Int.mul_pos hV (P32_pos j)) hle h1 (by omega)
 refine ⟨h4, ?_⟩
 rw [← h4, Int.sub_mul]
 omega
end
structure KA (o1 v : List Int) (j : Nat) (i : Nat) (c : Int) (o : List Int) : Prop where
 len : o.length = o1.length
 hc : 0 ≤ c ∧ c ≤ 1
 sum : val o + P32 (i + j) * c = val o1 + P32 j * val (v.take i)
 same : ∀ k, i + j ≤ k → o.getD k 0 = o1.getD k 0
theorem KA.start (o1 v : List Int) (j : Nat) : KA o1 v j 0 0 o1 := ⟨rfl, by omega, by simp [val], fun _ _ => rfl⟩
theorem KA.step {o1 v : List Int} {j i : Nat} {c : Int} {o : List Int} (h : KA o1 v j i c o) (ov : Ok v) (oo : Ok o) (hj : i + j < o1.length) {c' : Int} (hc' : c' = c + (o.getD (i + j) 0 + v.getD i 0)) :
  KA o1 v j (i + 1) (c' / 4294967296) (o.set (i + j) (c' % 4294967296)) := by
 have h1 := ov.at_ i
 have h2 := oo.at_ (i + j)
 have h4 := h.hc
 have hl := h.len
 refine ⟨by simpa using hl, by omega, ?_, ?_⟩
 ·rw [val_set o (i + j) _ (by omega), val_take_succ, show i + 1 + j = (i + j) + 1 by omega, P32_succ]
  have h6 := h.sum
  have m1 := mul_split (P32 (i + j)) c'
  have e1 : P32 (i + j) = P32 j * P32 i := by rw [Nat.add_comm, P32_add]
  have e2 : P32 (i + j) * c' = P32 (i + j) * c + P32 (i + j) * o.getD (i + j) 0 + P32 j * (P32 i * v.getD i 0) := by rw [hc', e1]; grind
  rw [Int.mul_add, Int.mul_sub]
  omega
 ·intro k hk
  rw [getD_set_ne _ _ (by omega)]
  exact h.same k (by omega)
theorem KA.last {o1 v : List Int} {j n : Nat} {c R : Int} {o : List Int} (h : KA o1 v j n c o) (hv : v.length = n) (oo : Ok o) (hj : n + j < o1.length) (hz : ∀ k, n + j < k → o1.getD k 0 = 0) (hR : val o1 + val v * P32 j - P32 (n + j + 1) = R) (h0 : 0 ≤ R) :
  val (o.set (n + j) ((o.getD (n + j) 0 + c) % 4294967296)) = R := by
 have h2 := oo.at_ (n + j)
 have h4 := h.hc
 have hl := h.len
 have h6 := h.sum
 rw [List.take_of_length_le (by omega)] at h6
 have ho : Ok (o.set (n + j) ((o.getD (n + j) 0 + c) % 4294967296)) := oo.set _ (by omega)
 have hlt := val_lt_above ho (K := n + j + 1) fun k hk => by rw [getD_set_ne _ _ (by omega), h.same k (by omega)]; exact hz k (by omega)
 have hv2 := val_set o (n + j) ((o.getD (n + j) 0 + c) % 4294967296) (by omega)
 rw [Int.mul_sub] at hv2
 have m1 := mul_split (P32 (n + j)) (o.getD (n + j) 0 + c)
 rw [Int.mul_add (P32 (n + j)) (o.getD (n + j) 0) c, ← P32_succ] at m1
 have e3 : P32 j * val v = val v * P32 j := Int.mul_comm _ _
 have hq : (o.getD (n + j) 0 + c) / 4294967296 = 0 ∨ (o.getD (n + j) 0 + c) / 4294967296 = 1 := by omega
 rcases hq with hq | hq
 ·rw [hq] at m1; omega
 ·rw [hq] at m1; omega
structure KO (S V : Int) (r : Nat) (u q : List Int) : Prop where
 eq : val u + V * (P32 r * val (q.drop r)) = S
 lt : val u < V * P32 r
theorem KO.next {S V : Int} {j : Nat} {u u2 q : List Int} (h : KO S V (j + 1) u q) (hj : j < q.length) {d : Int} (hd : Dig (val u) (V * P32 j) d) (e : val u2 = val u - d * (V * P32 j)) : KO S V j u2 (q.set j d) := by
 have e2 : (q.set j d).drop j = d :: q.drop (j + 1) := by
  rw [List.drop_eq_getElem_cons (by simp; omega)]
  simp [List.drop_set_of_lt]
 refine ⟨?_, ?_⟩
 ·rw [e2, val, e, ← h.eq, P32_succ]; grind
 ·have := hd.hi
  rw [Int.add_mul] at this
  omega
theorem KO.start {a b : List Int} (oa : Ok a) (_hb : 0 < val b) {s la n : Nat} (hla : a.length = la) (hlow : P32 (n - 1) ≤ val b) (hn : 1 ≤ n) (hle : n ≤ la) {u : List Int} (hu : val u = val a * 2 ^ s) :
  KO (val a * 2 ^ s) (val b * 2 ^ s) (la - n + 1) u (List.replicate (la - n + 1) 0) := by
 have h2 : (0 : Int) < 2 ^ s := by have := Nat.two_pow_pos s; exact_mod_cast this
 refine ⟨?_, ?_⟩
 ·rw [List.drop_of_length_le (by simp), hu]; simp [val]
 ·rw [hu]
  have h1 := val_lt oa
  rw [hla] at h1
  have h3 : P32 la = P32 (n - 1) * P32 (la - n + 1) := by rw [← P32_add]; congr 1; omega
  have h4 : P32 (n - 1) * P32 (la - n + 1) ≤ val b * P32 (la - n + 1) := Int.mul_le_mul_of_nonneg_right hlow (by have := P32_pos (la - n + 1); omega)
  have h5 : val a < val b * P32 (la - n + 1) := by omega
  have h6 := Int.mul_lt_mul_of_pos_right h5 h2
  have e : val b * 2 ^ s * P32 (la - n + 1) = val b * P32 (la - n + 1) * 2 ^ s := by grind
  rw [e]; exact h6
theorem KO.fin {a b : Int} {s : Nat} {u q : List Int} (h : KO (a * 2 ^ s) (b * 2 ^ s) 0 u q) (ou : Ok u) (hb : 0 < b) : val q = a / b ∧ val u / 2 ^ s = a % b := by
 have h2 : (0 : Int) < 2 ^ s := by have := Nat.two_pow_pos s; exact_mod_cast this
 have h1 := h.eq
 have h3 := h.lt
 rw [P32_zero, Int.mul_one] at h3
 rw [P32_zero, Int.one_mul, List.drop_zero] at h1
 have h0 := val_nonneg ou
 generalize val u = U at *
 generalize val q = Q at *
 generalize (2 : Int) ^ s = t at *
 have e : U = (a - b * Q) * t := by grind
 have r0 : 0 ≤ a - b * Q := by
  rcases (show a - b * Q < 0 ∨ 0 ≤ a - b * Q by omega) with hl | hl
  ·have := Int.mul_neg_of_neg_of_pos hl h2; omega
  ·exact hl
 have r1 : a - b * Q < b := by
  rw [e] at h3
  exact Int.lt_of_mul_lt_mul_right h3 (by omega)
 have q1 : a / b = Q := by
  rw [show a = (a - b * Q) + b * Q by omega, Int.add_mul_ediv_left _ _ (by omega), Int.ediv_eq_zero_of_lt r0 r1]; omega
 refine ⟨q1.symm, ?_⟩
 rw [e, Int.mul_ediv_cancel _ (by omega)]
 have := Int.emod_add_mul_ediv a b
 rw [q1] at this
 omega
theorem rem_word {u : List Int} (ou : Ok u) {s : Nat} (hs : s ≤ 31) (i : Nat) : (val u / 2 ^ s) % P32 (i + 1) = (val u / 2 ^ s) % P32 i + P32 i * (((u.getD (i + 1) 0 * 4294967296 + u.getD i 0) / 2 ^ s) % 4294967296) := by
 have h2 : (0 : Int) < 2 ^ s := by have := Nat.two_pow_pos s; exact_mod_cast this
 have hp := P32_pos i
 have e1 : (val u / 2 ^ s) % P32 (i + 1) = (val u / 2 ^ s) % P32 i + P32 i * (val u / 2 ^ s / P32 i % 4294967296) := by
  rw [P32_succ, Int.mul_comm 4294967296]
  generalize val u / 2 ^ s = x
  generalize P32 i = p at *
  have a1 := Int.emod_add_mul_ediv x (p * 4294967296)
  have a2 := Int.emod_add_mul_ediv x p
  have a3 := Int.emod_add_mul_ediv (x / p) 4294967296
  have a4 : x / p / 4294967296 = x / (p * 4294967296) := Int.ediv_ediv_of_nonneg (by omega)
  rw [a4] at a3
  have a5 : p * (x / p) = p * (x / p % 4294967296) + p * 4294967296 * (x / (p * 4294967296)) := by
   have : p * (x / p) = p * (x / p % 4294967296 + 4294967296 * (x / (p * 4294967296))) := by rw [a3]
   rw [this]; grind
  omega
 rw [e1]
 congr 2
 have e2 : val u / 2 ^ s / P32 i = val u / P32 i / 2 ^ s := by
  rw [Int.ediv_ediv_of_nonneg (by omega), Int.ediv_ediv_of_nonneg (by omega), Int.mul_comm]
 have e3 : val u / P32 i = val (u.drop i) := by
  have h1 := val_take_drop u i
  have h3 := val_nonneg (ou.take i)
  have h4 := val_lt (ou.take i)
  have h5 := P32_mono (i := (u.take i).length) (j := i) (by rw [List.length_take]; omega)
  rw [h1, Int.add_mul_ediv_left _ _ (by omega), Int.ediv_eq_zero_of_lt h3 (by omega)]; omega
 have e4 : val (u.drop i) = u.getD i 0 + 4294967296 * (u.getD (i + 1) 0 + 4294967296 * val (u.drop (i + 2))) := by
  have d : ∀ k, val (u.drop k) = u.getD k 0 + 4294967296 * val (u.drop (k + 1)) := by
   intro k
   by_cases hk : k < u.length
   ·rw [List.drop_eq_getElem_cons hk, val, List.getD_eq_getElem?_getD, List.getElem?_eq_getElem hk]; rfl
   ·rw [List.drop_of_length_le (by omega), List.drop_of_length_le (by omega), List.getD_eq_getElem?_getD, List.getElem?_eq_none (by omega)]; rfl
  rw [d i, d (i + 1)]
 rw [e2, e3, e4]
 generalize val (u.drop (i + 2)) = z
 have e5 : u.getD i 0 + 4294967296 * (u.getD (i + 1) 0 + 4294967296 * z) = (u.getD (i + 1) 0 * 4294967296 + u.getD i 0) + 2 ^ s * (4294967296 * (2 ^ (32 - s) * z)) := by
  have : (4294967296 : Int) = 2 ^ s * 2 ^ (32 - s) := by rw [← Int.pow_add, show s + (32 - s) = 32 by omega]; rfl
  have e6 : (2 : Int) ^ s * (4294967296 * (2 ^ (32 - s) * z)) = 4294967296 * (2 ^ s * 2 ^ (32 - s) * z) := by grind
  rw [e6, ← this]; omega
 rw [e5, Int.add_mul_ediv_left _ _ (by omega), Int.add_mul_emod_self_left]
structure KR (u : List Int) (s i : Nat) (r : List Int) : Prop where
 sum : val (r.take i) = (val u / 2 ^ s) % P32 i
theorem KR.step {u : List Int} {s i : Nat} {r : List Int} (h : KR u s i r) (ou : Ok u) (hs : s ≤ 31) (hi : i < r.length) {x : Int} (hx : x = ((u.getD (i + 1) 0 * 4294967296 + u.getD i 0) / 2 ^ s) % 4294967296) : KR u s (i + 1) (r.set i x) := by
 refine ⟨?_⟩
 rw [val_set_take r i _ hi, rem_word ou hs, h.sum, hx]
end Go.Proofs.YtcgfdfdcbamceaaGreatDoor
namespace Go.Proofs.YtcgfdfdcbamceaaGreatDoor
open Go.RowKit
structure ShI (w : World) (g : Nat) (a : List Int) (s : Nat) (i : Nat) (c : Int) (o : List Int) (wr : World) : Prop where
 wrd : Wrd w g (a.length + 1) o wr
 hi : i ≤ a.length
 hc : 0 ≤ c ∧ c < 2 ^ s
 sum : val (o.take i) + P32 i * c = val (a.take i) * 2 ^ s
theorem or_lo {c x : Int} {s : Nat} (hs : s ≤ 31) (hc : 0 ≤ c ∧ c < 2 ^ s) (hx : 0 ≤ x ∧ x < 4294967296) : bits BinOp.or IntKind.u64 c (IntKind.u64.wrap (x * 2 ^ s)) = c + x * 2 ^ s ∧ 0 ≤ c + x * 2 ^ s ∧ c + x * 2 ^ s < 4294967296 * 2 ^ s ∧ (2 : Int) ^ s ≤ 2147483648 := by
 have hp : (2 : Int) ^ s = ((2 ^ s : Nat) : Int) := by simp
 have h1 : (2 : Nat) ^ s ≤ 2 ^ 31 := Nat.pow_le_pow_right (by decide) hs
 have h0 : 0 < (2 : Nat) ^ s := Nat.two_pow_pos s
 rw [hp] at hc ⊢
 have h2 : x * ((2 ^ s : Nat) : Int) ≤ 4294967295 * ((2 ^ s : Nat) : Int) := Int.mul_le_mul_of_nonneg_right (by omega) (by omega)
 have h3 : 0 ≤ x * ((2 ^ s : Nat) : Int) := Int.mul_nonneg hx.1 (by omega)
 have hdvd : (x * ((2 ^ s : Nat) : Int)).toNat % 2 ^ s = 0 := by
  obtain ⟨n, rfl⟩ := Int.eq_ofNat_of_zero_le hx.1
  rw [← Int.natCast_mul, Int.toNat_natCast]
  exact Nat.mul_mod_left n _
 generalize hq : (2 : Nat) ^ s = q at *
 refine ⟨?_, by omega, by omega, by omega⟩
 rw [IntKind.wrap_u64, Int.emod_eq_of_lt h3 (by omega), u64_or _ _ (by omega) (by omega) (by omega) (by omega), Nat.or_comm, nat_join s _ _ (by rw [hq]; exact hdvd) (by rw [hq]; omega)]
 omega
theorem ShI.step {w : World} {g : Nat} {a : List Int} {s i : Nat} {c : Int} {o : List Int} {wr : World} (h : ShI w g a s i c o wr) (oa : Ok a) (hs : s ≤ 31) (hlt : i < a.length) (hg : w.heap.size ≤ g) {t : Int} (ht : t = c + a.getD i 0 * 2 ^ s) :
  ShI w g a s (i + 1) (t / 4294967296) (o.set i (t % 4294967296)) (wr.setCell ⟨g, i, none⟩ (U (t % 4294967296))) := by
 obtain ⟨_, h1, h2, _⟩ := or_lo hs h.hc (oa.at_ i)
 rw [← ht] at h1 h2
 refine ⟨h.wrd.set i (by omega) hg, by omega, by omega, ?_⟩
 have hl := h.wrd.len
 rw [val_set_take o i _ (by omega), val_take_succ, P32_succ, Int.add_mul]
 have h4 := h.sum
 have h5 := mul_split (P32 i) t
 have e : P32 i * t = P32 i * c + P32 i * a.getD i 0 * 2 ^ s := by rw [ht, Int.mul_add, Int.mul_assoc]
 omega
set_option maxRecDepth 100000 in
set_option maxHeartbeats 1000000 in
theorem shifted_any (a : List Int) (A : Option Addr) (ca : Nat) (s : Nat) (w : World) (hA : Reads w w.heap.size 1 A a.length (a.map U)) (oa : Ok a) (hl : a.length ≤ 1000000000) (hs : s ≤ 31) :
  Calls Tryz.prog 130 #[.slice A a.length ca, I s] w fun e w' => ∃ o, e = .returned (.slice (some ⟨w.heap.size, 0, none⟩) (a.length + 1) (a.length + 1)) ∧ Wrd w w.heap.size (a.length + 1) o w' ∧ val o = val a * 2 ^ s := by
 have hmk := make_u32 (a.length + 1) (by omega)
 have e1 : ((a.length + 1 : Nat) : Int) = (a.length : Int) + 1 := by omega
 rw [e1] at hmk
 clear e1
 have HW := Lib.hid (Wrd.start w (a.length + 1))
 go_enter Tryz.func130, Tryz.ntmps130
 go_wp2
 go_loopg [6, 15] (a.length - 0) (fun r cv iv wr => ∃ (i : Nat) (c : Int) (o : List Int), r = a.length - i ∧ cv = .int .u64 c ∧ iv = I i ∧ ShI w w.heap.size a s i c o wr)
 case atStart => exact ⟨0, 0, _, rfl, rfl, rfl, HW.out, by omega, ⟨by omega, by have := Nat.two_pow_pos s; exact_mod_cast this⟩, by simp [val]⟩
 case round =>
  clear HW hmk
  obtain ⟨i, c, o, rfl, rfl, rfl, hI⟩ := hrel
  obtain ⟨hc0, hc1⟩ := hI.hc
  have hi := hI.hi
  by_cases hlt : i < a.length
  ·obtain ⟨ba, offa, hAe, hba, hca⟩ := (hA.below hI.wrd.below).word hlt
   subst hAe
   have hx := oa.at_ i
   obtain ⟨x, hxe⟩ : ∃ x, a.getD i 0 = x := ⟨_, rfl⟩
   rw [hxe] at hca hx
   have HXE := Lib.hid hxe
   clear hxe
   obtain ⟨hx0, hx1⟩ := hx
   have hf : wr.frozen? ⟨w.heap.size, i, none⟩ = false := hI.wrd.blk.frozen _
   have hco := hI.wrd.cell (i := i) (by omega)
   have hlo := hI.wrd.blk.lt
   obtain ⟨hor, ht0, ht1, hp⟩ := or_lo hs ⟨hc0, hc1⟩ ⟨hx0, hx1⟩
   have hN := hI.step oa hs hlt (Nat.le_refl _) (t := c + x * 2 ^ s) (by rw [HXE.out])
   have HN := Lib.hid hN
   have ht2 : c + x * 2 ^ s < 18446744073709551616 := by omega
   clear hN hI hc1 ht1 hp
   go_wp2
   go_roundg (a.length - (i + 1))
   case measure => omega
   case rel => exact ⟨i + 1, _, _, rfl, rfl, by go_num, HN.out⟩
  ·obtain rfl : i = a.length := by omega
   have hp : (2 : Int) ^ s ≤ 2147483648 := (or_lo (x := 0) hs ⟨hc0, hc1⟩ (by omega)).2.2.2
   have hcb : c < 4294967296 := by omega
   have hf : wr.frozen? ⟨w.heap.size, a.length, none⟩ = false := hI.wrd.blk.frozen _
   have hco := hI.wrd.cell (i := a.length) (by omega)
   have hlo := hI.wrd.blk.lt
   have hF := hI.wrd.set a.length (x := c) (by omega) (Nat.le_refl _)
   have hV : val (o.set a.length c) = val a * 2 ^ s := by
    have h1 := val_set_take o a.length c (by rw [hI.wrd.len]; omega)
    rw [List.take_of_length_le (by rw [List.length_set, hI.wrd.len]; omega)] at h1
    rw [h1, hI.sum, List.take_of_length_le (Nat.le_refl _)]
   have HF := Lib.hid hF
   have HV := Lib.hid hV
   clear hF hV hI hc1 hp
   go_wp2
   go_ret
   exact ⟨_, rfl, HF.out, HV.out⟩
end Go.Proofs.YtcgfdfdcbamceaaGreatDoor
