/- rat.CheckAll. matrix.CheckVec, Check, first, width; matrices of texts that are read. large.ParseAll, matrix.Values. large.Texts, matrix.TextVec, matrix.Text. matrix.Values, lin.Width, matrix.Text; matrices that are read; appending a number. -/
import Derived.Test.YtcgfdfdcbamceaaGreatDoorXAW
import Derived.Test.YtcgfdfdcbamceaaGreatDoorXAQ
import Derived.Test.YtcgfdfdcbamceaaGreatDoorXAX
namespace Go.Proofs.YtcgfdfdcbamceaaGreatDoor
open Go.RowKit
abbrev Sv (s : ByteArray) : Value := .string s
set_option maxRecDepth 100000 in
set_option maxHeartbeats 1000000 in
theorem rall_any (l : List ByteArray) (n : Nat) (A : Option Addr) (c : Nat) (w : World) (hr : Reads w w.heap.size 1 A n (l.map Sv)) (hn : n ≤ 9223372036854775807) (hs : ∀ s ∈ l, s.size ≤ 9223372036854775807) (htab : Tab w) :
  Calls Tryz.prog 41 #[.slice A n c] w fun e w' => e = .returned (I (rAll (l.map SL))) ∧ Below w.heap.size w w' := by
 have hl : l.length = n := by have := hr.1; simpa using this
 have HTB := Lib.hid htab
 have HS := Lib.hid hs
 have HRD := Lib.hid hr
 clear htab hs hr
 go_enter Tryz.func41, Tryz.ntmps41
 go_wp2
 go_loopg [8] (n - 0) (fun r v wr => ∃ k : Nat, r = n - k ∧ v = I k ∧ k ≤ n ∧ Hid (Below w.heap.size w wr) ∧ Hid (rAll (l.map SL) = rAll ((l.drop k).map SL)))
 case atStart => exact ⟨0, rfl, rfl, by omega, Below.refl _ _, rfl⟩
 case round =>
  obtain ⟨k, rfl, rfl, hk, HB, HO⟩ := hrel
  obtain ⟨wa, rfl⟩ : ∃ wa : World, wa = wr := ⟨_, rfl⟩
  by_cases hlt : k < n
  ·obtain ⟨x, hx⟩ : ∃ x, l[k]'(by omega) = x := ⟨_, rfl⟩
   obtain ⟨b, off, u, rfl, _, hu, hc⟩ := (HRD.out.below HB.out).at1 hlt
   obtain rfl : u = Sv x := by
    rw [List.getElem?_map, List.getElem?_eq_getElem (by omega), hx] at hu
    simpa using hu.symm
   have HXS := Lib.hid (HS.out x (by rw [← hx]; exact List.getElem_mem _))
   have HO2 := Lib.hid (show rAll (l.map SL) = if rchk (SL x) = 0 then rAll ((l.drop (k + 1)).map SL) else rchk (SL x) by
    rw [HO.out, List.drop_eq_getElem_cons (by omega), hx]
    rfl)
   have HL := Lib.hid hl
   clear hu hx HO hl
   go_wp2_with fail
   refine (rchk_any x wa HXS.out (tab_below HTB.out HB.out)).mono ?_
   rintro e w1 ⟨rfl, hb⟩
   have HB1 := Lib.hid (HB.out.trans (hb.mono HB.out.size))
   clear hb HB hc
   by_cases h0 : rchk (SL x) = 0
   ·have HO3 := Lib.hid (show rAll (l.map SL) = rAll ((l.drop (k + 1)).map SL) by rw [HO2.out, if_pos h0])
    rw [h0]
    clear h0 HO2
    go_wp2
    go_roundg (n - (k + 1))
    case measure => omega
    case rel => exact ⟨k + 1, rfl, by go_num, by omega, HB1, HO3⟩
   ·have HO3 := Lib.hid (show rAll (l.map SL) = rchk (SL x) by rw [HO2.out, if_neg h0])
    have tc : (rchk (SL x) != 0) = true := bne_iff_ne.2 h0
    generalize rchk (SL x) = R at *
    clear h0 HO2
    go_wp2
    go_ret
    exact ⟨ret_int HO3.out.symm, HB1.out⟩
  ·have HF := Lib.hid (show rAll (l.map SL) = 0 by
    rw [HO.out, List.drop_of_length_le (by omega)]; rfl)
   clear HO
   go_wp2
   go_ret
   exact ⟨ret_int HF.out.symm, HB.out⟩
def SS (w : World) (u : Value) (l : List ByteArray) : Prop := ∃ A c, u = .slice A l.length c ∧ Reads w w.heap.size 1 A l.length (l.map Sv)
theorem SS.below {w w' : World} {u : Value} {l : List ByteArray} (h : SS w u l) (hb : Below w.heap.size w w') : SS w' u l := by
 obtain ⟨A, c, e, h1⟩ := h
 exact ⟨A, c, e, (h1.below hb).more hb.size⟩
def SMat (w : World) (A : Option Addr) (n : Nat) (m : List (List ByteArray)) : Prop :=
 ∃ vs, Reads w w.heap.size 1 A n vs ∧ m.length = n ∧ ∀ (i : Nat) (u : Value) (l : List ByteArray), vs[i]? = some u → m[i]? = some l → SS w u l
theorem SMat.below {w w' : World} {A : Option Addr} {n : Nat} {m : List (List ByteArray)} (h : SMat w A n m) (hb : Below w.heap.size w w') : SMat w' A n m := by
 obtain ⟨vs, h1, h2, h3⟩ := h
 exact ⟨vs, (h1.below hb).more hb.size, h2, fun i u l a b => (h3 i u l a b).below hb⟩
theorem SMat.at_ {w : World} {A : Option Addr} {n : Nat} {m : List (List ByteArray)} (h : SMat w A n m) {k : Nat} (hk : k < n) (l : List ByteArray) (hl : m[k]? = some l) :
  ∃ b off B c, A = some ⟨b, off, none⟩ ∧ w.cell? ⟨b, off + k, none⟩ = some (.slice B l.length c) ∧ Reads w w.heap.size 1 B l.length (l.map Sv) := by
 obtain ⟨vs, h1, h2, h3⟩ := h
 obtain ⟨b, off, u, e, _, hu, hc⟩ := h1.at1 hk
 obtain ⟨B, c, rfl, hr⟩ := h3 k u l hu hl
 exact ⟨b, off, B, c, e, hc, hr⟩
def tx1 (l : List ByteArray) : List (List UInt8) := l.map SL
def tx2 (m : List (List ByteArray)) : MT := m.map tx1
def Sh1 (l : List ByteArray) : Prop := ∀ s ∈ l, s.size ≤ 9223372036854775807
def Sh2 (m : List (List ByteArray)) : Prop := ∀ l ∈ m, Sh1 l
theorem wd_tx (m : List (List ByteArray)) : wd (tx2 m) = (m.head?.getD []).length := by
 cases m with
 | nil => rfl
 | cons l m => simp [tx2, tx1, wd]
theorem head_get {α : Type} (m : List α) (x : α) (d : α) (h : m[0]? = some x) : m.head?.getD d = x := by
 cases m with
 | nil => cases h
 | cons y m => simpa using h
set_option maxRecDepth 100000 in
theorem chkV_any (l : List ByteArray) (n : Nat) (A : Option Addr) (c : Nat) (w : World) (hr : Reads w w.heap.size 1 A n (l.map Sv)) (hs : Sh1 l) (htab : Tab w) :
  Calls Tryz.prog 15 #[.slice A n c] w fun e w' => e = .returned (I (chkV (tx1 l))) ∧ Below w.heap.size w w' := by
 have hl : l.length = n := by have := hr.1; simpa using this
 by_cases h40 : 40 < n
 ·have t : decide (40 < (n : Int)) = true := decide_eq_true (by omega)
  have HF := Lib.hid (show chkV (tx1 l) = 2 by rw [chkV, if_pos (by rw [tx1, List.length_map]; omega)])
  clear h40
  go_enter Tryz.func15, Tryz.ntmps15
  go_wp2
  go_ret
  exact ⟨ret_int HF.out.symm, Below.refl _ _⟩
 ·have t : decide (40 < (n : Int)) = false := decide_eq_false (by omega)
  have HF := Lib.hid (show chkV (tx1 l) = rAll (l.map SL) by rw [chkV, if_neg (by rw [tx1, List.length_map]; omega)]; rfl)
  have HA := Lib.hid (rall_any l n A c w hr (by omega) hs htab)
  clear h40 hr htab hl
  go_enter Tryz.func15, Tryz.ntmps15
  go_wp2_with fail
  refine HA.out.mono ?_
  rintro e w1 ⟨rfl, hb⟩
  have HB := Lib.hid hb
  clear hb HA
  go_wp2
  go_ret
  exact ⟨ret_int HF.out.symm, HB.out⟩
set_option maxRecDepth 100000 in
set_option maxHeartbeats 1000000 in
theorem chkM_any (m : List (List ByteArray)) (n : Nat) (A : Option Addr) (c : Nat) (w : World) (hm : SMat w A n m) (hs : Sh2 m) (htab : Tab w) :
  Calls Tryz.prog 35 #[.slice A n c] w fun e w' => e = .returned (I (chkM (tx2 m))) ∧ Below w.heap.size w w' := by
 have hl : m.length = n := by obtain ⟨_, _, h, _⟩ := hm; exact h
 by_cases h40 : 40 < n
 ·have t : decide (40 < (n : Int)) = true := decide_eq_true (by omega)
  have HF := Lib.hid (show chkM (tx2 m) = 2 by rw [chkM, if_pos (by rw [tx2, List.length_map]; omega)])
  clear h40
  go_enter Tryz.func35, Tryz.ntmps35
  go_wp2
  go_ret
  exact ⟨ret_int HF.out.symm, Below.refl _ _⟩
 ·have t : decide (40 < (n : Int)) = false := decide_eq_false (by omega)
  have HF := Lib.hid (show chkM (tx2 m) = chkR (wd (tx2 m)) ((m.drop 0).map tx1) by rw [chkM, if_neg (by rw [tx2, List.length_map]; omega)]; rfl)
  have HTB := Lib.hid htab
  have HS := Lib.hid hs
  have HM := Lib.hid hm
  have HL := Lib.hid hl
  have h41 : n ≤ 40 := by omega
  clear htab hs hm h40
  go_enter Tryz.func35, Tryz.ntmps35
  go_wp2
  go_loopg [11] (n - 0) (fun r v wr => ∃ k : Nat, r = n - k ∧ v = I k ∧ k ≤ n ∧ Hid (Below w.heap.size w wr) ∧ Hid (chkM (tx2 m) = chkR (wd (tx2 m)) ((m.drop k).map tx1)))
  case atStart => exact ⟨0, rfl, rfl, by omega, Below.refl _ _, HF⟩
  case round =>
   clear HF
   obtain ⟨k, rfl, rfl, hk, HB, HO⟩ := hrel
   obtain ⟨wa, rfl⟩ : ∃ wa : World, wa = wr := ⟨_, rfl⟩
   by_cases hlt : k < n
   ·obtain ⟨x, hx⟩ : ∃ x, m[k]? = some x := ⟨_, List.getElem?_eq_getElem (by omega)⟩
    obtain ⟨x0, hx0⟩ : ∃ x, m[0]? = some x := ⟨_, List.getElem?_eq_getElem (by omega)⟩
    have hm' := HM.out.below HB.out
    obtain ⟨b, off, B, d, rfl, hc, hr⟩ := hm'.at_ hlt x hx
    obtain ⟨b', off', B0, d0, e, hc0, hr0⟩ := hm'.at_ (show 0 < n by omega) x0 hx0
    injection e with e
    injection e with e1 e2
    subst e1 e2
    rw [Nat.add_zero] at hc0
    have HR := Lib.hid hr
    have HXS := Lib.hid (HS.out x (List.mem_of_getElem? hx))
    have hdr : (m.drop k).map tx1 = tx1 x :: (m.drop (k + 1)).map tx1 := by
     obtain ⟨h1, h2⟩ := List.getElem?_eq_some_iff.1 hx
     rw [List.drop_eq_getElem_cons h1, h2, List.map_cons]
    have hw : wd (tx2 m) = x0.length := by rw [wd_tx, head_get m x0 _ hx0]
    have HO2 := Lib.hid (show chkM (tx2 m) = if x.length ≠ x0.length then 3 else if chkV (tx1 x) ≠ 0 then chkV (tx1 x) else chkR (wd (tx2 m)) ((m.drop (k + 1)).map tx1) by
     rw [HO.out, hdr, hw, chkR, tx1, List.length_map])
    clear hm' hr hr0 hx hx0 hdr hw hl HO
    by_cases hne : x.length = x0.length
    ·have tn : ((x.length : Int) != (x0.length : Int)) = false := by rw [hne]; simp
     have HO3 := Lib.hid (show chkM (tx2 m) = if chkV (tx1 x) ≠ 0 then chkV (tx1 x) else chkR (wd (tx2 m)) ((m.drop (k + 1)).map tx1) by rw [HO2.out, if_neg (by omega)])
     have HC := Lib.hid (chkV_any x x.length B d wa HR.out HXS.out (tab_below HTB.out HB.out))
     clear HO2 hne
     go_wp2_with fail
     refine HC.out.mono ?_
     rintro e w1 ⟨rfl, hb⟩
     have HB1 := Lib.hid (HB.out.trans (hb.mono HB.out.size))
     clear hb HB HC hc hc0
     by_cases h0 : chkV (tx1 x) = 0
     ·have HO4 := Lib.hid (show chkM (tx2 m) = chkR (wd (tx2 m)) ((m.drop (k + 1)).map tx1) by rw [HO3.out, if_neg (by omega)])
      rw [h0]
      clear h0 HO3
      go_wp2
      go_roundg (n - (k + 1))
      case measure => omega
      case rel => exact ⟨k + 1, rfl, by go_num, by omega, HB1, HO4⟩
     ·have HO4 := Lib.hid (show chkM (tx2 m) = chkV (tx1 x) by rw [HO3.out, if_pos h0])
      have tc : (chkV (tx1 x) != 0) = true := bne_iff_ne.2 h0
      generalize chkV (tx1 x) = R at *
      clear h0 HO3
      go_wp2
      go_ret
      exact ⟨ret_int HO4.out.symm, HB1.out⟩
    ·have tn : ((x.length : Int) != (x0.length : Int)) = true := bne_iff_ne.2 (by omega)
     have HO3 := Lib.hid (show chkM (tx2 m) = 3 by rw [HO2.out, if_pos hne])
     clear HO2 hne
     go_wp2
     go_ret
     exact ⟨ret_int HO3.out.symm, HB.out⟩
   ·have HF := Lib.hid (show chkM (tx2 m) = 0 by
     rw [HO.out, List.drop_of_length_le (by omega)]; rfl)
    clear HO
    go_wp2
    go_ret
    exact ⟨ret_int HF.out.symm, HB.out⟩
theorem info_rat : (Tryz.prog.info? ratT).map (fun i => (i.zero, i.size, i.bytes)) = some (some (.agg zRat), 4, 64) := by kernel_rfl
theorem info_row : (Tryz.prog.info? rowT).map (fun i => (i.zero, i.size, i.bytes)) = some (some (.slice none 0 0), 1, 24) := by kernel_rfl
theorem made_noWord (n : Nat) : ∀ u ∈ (madeCells zRat n).toList, noWord u := by
 intro u hu
 unfold madeCells at hu
 rw [Array.toList_map, List.mem_map] at hu
 obtain ⟨i, _, rfl⟩ := hu
 have h4 : i % 4 < 4 := Nat.mod_lt _ (by decide)
 show noWord (zRat[i % 4]!)
 generalize i % 4 = j at h4
 match j, h4 with
 | 0, _ => exact noWord_bool _
 | 1, _ => exact noWord_slice _ _ _
 | 2, _ => exact noWord_bool _
 | 3, _ => exact noWord_slice _ _ _
theorem make_rat (n : Nat) (hn : n ≤ 1099511627776) (W : World) :
  (Instr.makeSlice rowT (.int .i64 (n : Int)) (.int .i64 (n : Int))).run Tryz.prog W = .ok (.slice (some ⟨W.heap.size, 0, none⟩) n n) (W.alloc (.cells (madeCells zRat (n * 4)) ratT)) := by
 obtain ⟨i, hi, hz0, hz1, hz2⟩ := info_parts info_rat
 have := run_make (P := Tryz.prog) W rowT ratT i _ Tryz.underlying66 hi hz0 .i64 .i64 n n (by omega) (by omega) (by rw [hz2]; omega) (by omega)
 rw [this, Int.toNat_natCast, hz1]
 rfl
theorem Part.start (w : World) (n : Nat) : Part w w.heap.size n [] (w.alloc (.cells (madeCells zRat (n * 4)) ratT)) :=
 ⟨⟨(madeCells zRat (n * 4)).toList, by rw [Array.toArray_toList]; exact Blk.new _ _ _, by simp [size_madeCells], made_noWord _, rfl⟩, Nat.zero_le _, (Below.refl _ _).alloc (Nat.le_refl _) _⟩
theorem made_nil (n : Nat) : madeCells (Value.slice none 0 0).cells (n * 1) = Array.replicate n (.slice none 0 0) := by
 apply Array.ext
 ·simp [size_madeCells]
 ·intro i h1 h2
  simp [madeCells, Value.cells, Nat.mod_one]
theorem make_mat (n : Nat) (hn : n ≤ 1099511627776) (W : World) :
  (Instr.makeSlice 76 (.int .i64 (n : Int)) (.int .i64 (n : Int))).run Tryz.prog W = .ok (.slice (some ⟨W.heap.size, 0, none⟩) n n) (W.alloc (.cells (Array.replicate n (.slice none 0 0)) rowT)) := by
 obtain ⟨i, hi, hz0, hz1, hz2⟩ := info_parts info_row
 have := run_make (P := Tryz.prog) W 76 rowT i _ Tryz.underlying76 hi hz0 .i64 .i64 n n (by omega) (by omega) (by rw [hz2]; omega) (by omega)
 rw [this, Int.toNat_natCast, hz1, made_nil]
theorem LM.start (w : World) (n : Nat) (hn : n ≤ maxLen) : LM (w.alloc (.cells (Array.replicate n (.slice none 0 0)) rowT)) w.heap.size (.slice (some ⟨w.heap.size, 0, none⟩) n n) (List.replicate n (.slice none 0 0)) (List.replicate n []) := by
 refine ⟨⟨by simp, .inr ⟨w.heap.size, 0, n, _, by simp, Nat.le_refl _, Blk.new _ _ _, by simp, hn, by simp, by simp⟩⟩, fun i u qs h1 h2 => ?_, fun i j u u' g hij h1 h2 h3 => ?_⟩
 ·have h1 := List.mem_of_getElem? h1
  have h2 := List.mem_of_getElem? h2
  rw [(List.mem_replicate.1 h1).2, (List.mem_replicate.1 h2).2]
  exact RRow.nil _ _
 ·have h1 := List.mem_of_getElem? h1
  rw [(List.mem_replicate.1 h1).2] at h3
  cases h3
def RetV (w : World) (qs : List Rat) (e : Ending) (w' : World) : Prop := ∃ v, e = .returned v ∧ RRow w' w.heap.size v qs ∧ Below w.heap.size w w'
def RetLM (w : World) (m : List (List Rat)) (e : Ending) (w' : World) : Prop := ∃ v vs, e = .returned v ∧ LM w' w.heap.size v vs m ∧ Below w.heap.size w w'
def Val1 (l : List ByteArray) : Prop := ∀ s ∈ l, rchk (SL s) = 0
set_option maxRecDepth 100000 in
set_option maxHeartbeats 1000000 in
theorem parseAll_any (l : List ByteArray) (n : Nat) (A : Option Addr) (c : Nat) (w : World) (hr : Reads w w.heap.size 1 A n (l.map Sv)) (hs : Sh1 l) (hv : Val1 l) (hn : n ≤ 1000000) :
  Calls Tryz.prog 32 #[.slice A n c] w (RetV w (valsV (tx1 l))) := by
 have hl : l.length = n := by have := hr.1; simpa using this
 have hmk := make_rat n (by omega)
 have HP := Lib.hid (Part.start w n)
 have HRD := Lib.hid hr
 have HS := Lib.hid hs
 have HV := Lib.hid hv
 clear hr hs hv
 unfold rowT at hmk
 go_enter Tryz.func32, Tryz.ntmps32
 go_wp2
 clear hmk
 go_loopg [11] (n - 0) (fun r v wr => ∃ k : Nat, r = n - k ∧ v = I k ∧ k ≤ n ∧ Hid (Part w w.heap.size n (valsV (tx1 (l.take k))) wr))
 case atStart => exact ⟨0, rfl, rfl, by omega, HP⟩
 case round =>
  clear HP
  obtain ⟨k, rfl, rfl, hk, HP⟩ := hrel
  obtain ⟨wa, rfl⟩ : ∃ wa : World, wa = wr := ⟨_, rfl⟩
  by_cases hlt : k < n
  ·obtain ⟨x, hx⟩ : ∃ x, l[k]? = some x := ⟨_, List.getElem?_eq_getElem (by omega)⟩
   obtain ⟨b, off, u, rfl, _, hu, hc⟩ := (HRD.out.below HP.out.below).at1 hlt
   obtain rfl : u = Sv x := by
    rw [List.getElem?_map, hx] at hu
    simpa using hu.symm
   have hm := List.mem_of_getElem? hx
   have HC := Lib.hid (parse_any x wa (HS.out x hm) (rchk_val _ (HV.out x hm)))
   have HX := Lib.hid (show valsV (tx1 (l.take (k + 1))) = valsV (tx1 (l.take k)) ++ [rval (SL x)] by
    rw [List.take_add_one, hx]; simp [valsV, tx1])
   have hlen : (valsV (tx1 (l.take k))).length = k := by simp [valsV, tx1]; omega
   clear hu hx hm
   go_wp2_with fail
   refine HC.out.mono ?_
   rintro e w1 ⟨v, rfl, hv, hb⟩
   obtain ⟨x0, n0, c0, x1, n1, c1, rfl, -, -⟩ := hv.form
   have hp1 := HP.out.call hb
   obtain ⟨o0, o1, o2, o3, hC⟩ := hp1.cells hlt
   have hc0 := hC.c0
   have hc1 := hC.c1
   have hc2 := hC.c2
   have hc3 := hC.c3
   have f0 := hp1.frozen (k * 4)
   have f1 := hp1.frozen (k * 4 + 1)
   have f2 := hp1.frozen (k * 4 + 2)
   have f3 := hp1.frozen (k * 4 + 3)
   have HN := Lib.hid (hp1.put (by omega) (Nat.le_refl _) hv)
   rw [hlen, ← HX.out] at HN
   unfold put4 at HN
   clear hC hp1 hb HC HP hc hv hlen HX
   generalize decide ((rval (SL x)).num < 0) = nb at *
   go_wp2
   go_roundg (n - (k + 1))
   case measure => omega
   case rel => exact ⟨k + 1, rfl, by go_num, by omega, HN⟩
  ·have hkn : k = n := by omega
   subst hkn
   have HF := Lib.hid (HP.out.row (by simp [valsV, tx1]; omega) (Nat.le_refl _) (by unfold maxLen; omega))
   have HB := Lib.hid HP.out.below
   rw [List.take_of_length_le (by omega)] at HF
   clear HP
   go_wp2
   go_ret
   exact ⟨_, rfl, HF.out, HB.out⟩
abbrev strT : TypeId := 30
theorem info_str : (Tryz.prog.info? strT).map (fun i => (i.zero, i.size, i.bytes)) = some (some (.string ⟨#[]⟩), 1, 16) := by kernel_rfl
theorem made_str (n : Nat) : madeCells (Value.string ⟨#[]⟩).cells (n * 1) = Array.replicate n (Value.string ⟨#[]⟩) := by
 apply Array.ext
 ·simp [size_madeCells]
 ·intro i h1 h2
  simp [madeCells, Value.cells, Nat.mod_one]
theorem make_str (n : Nat) (hn : n ≤ 1099511627776) (W : World) :
  (Instr.makeSlice 24 (.int .i64 (n : Int)) (.int .i64 (n : Int))).run Tryz.prog W = .ok (.slice (some ⟨W.heap.size, 0, none⟩) n n) (W.alloc (.cells (Array.replicate n (Value.string ⟨#[]⟩)) strT)) := by
 obtain ⟨i, hi, hz0, hz1, hz2⟩ := info_parts info_str
 have := run_make (P := Tryz.prog) W 24 strT i _ Tryz.underlying24 hi hz0 .i64 .i64 n n (by omega) (by omega) (by rw [hz2]; omega) (by omega)
 rw [this, Int.toNat_natCast, hz1, made_str]
structure PS (w : World) (g n : Nat) (ss : List ByteArray) (wr : World) : Prop where
 blk : Blk wr g strT (ss.map Sv ++ List.replicate (n - ss.length) (Value.string ⟨#[]⟩)).toArray
 hn : ss.length ≤ n
 below : Below w.heap.size w wr
theorem PS.call {w : World} {g n : Nat} {ss : List ByteArray} {wr w' : World} (h : PS w g n ss wr) (hb : Below wr.heap.size wr w') : PS w g n ss w' := ⟨h.blk.below hb h.blk.lt, h.hn, h.below.trans (hb.mono h.below.size)⟩
theorem PS.start (w : World) (n : Nat) : PS w w.heap.size n [] (w.alloc (.cells (Array.replicate n (Value.string ⟨#[]⟩)) strT)) :=
 ⟨by have := Blk.new w strT (Array.replicate n (Value.string ⟨#[]⟩)); simpa using this, Nat.zero_le _, (Below.refl _ _).alloc (Nat.le_refl _) _⟩
theorem PS.put {w : World} {g n : Nat} {ss : List ByteArray} {wr : World} (h : PS w g n ss wr) (hlt : ss.length < n) (hg : w.heap.size ≤ g) (s : ByteArray) : PS w g n (ss ++ [s]) (wr.setCell ⟨g, ss.length, none⟩ (.string s)) := by
 refine ⟨?_, by simp; omega, h.below.setCell hg _⟩
 have := h.blk.set_ ss.length (.string s)
 obtain ⟨d, hd⟩ : ∃ d, n - ss.length = d + 1 := ⟨n - ss.length - 1, by omega⟩
 have hd2 : n - (ss ++ [s]).length = d := by simp; omega
 rw [hd, List.replicate_succ] at this
 rw [hd2]
 simpa [List.set_append_right] using this
theorem PS.cell {w : World} {g n : Nat} {ss : List ByteArray} {wr : World} (h : PS w g n ss wr) (hlt : ss.length < n) : wr.cell? ⟨g, ss.length, none⟩ = some (.string ⟨#[]⟩) := by
 rw [h.blk.cell]
 obtain ⟨d, hd⟩ : ∃ d, n - ss.length = d + 1 := ⟨n - ss.length - 1, by omega⟩
 rw [hd, List.replicate_succ]
 simp
theorem PS.row {w : World} {g n : Nat} {ss : List ByteArray} {wr : World} (h : PS w g n ss wr) (he : ss.length = n) (hg : w.heap.size ≤ g) (hm : n ≤ maxLen) : Row wr w.heap.size strT 1 (.slice (some ⟨g, 0, none⟩) n n) ss.length (ss.map Sv) := by
 have hb := h.blk
 rw [he, Nat.sub_self, List.replicate_zero, List.append_nil] at hb
 refine ⟨by simp, .inr ⟨g, 0, n, _, by rw [he], hg, hb, by omega, hm, by simp; omega, ?_⟩⟩
 rw [List.drop_zero, List.take_of_length_le (by simp)]
def mkS (l : List (List UInt8)) : List ByteArray := l.map fun s => ⟨s.toArray⟩
theorem tx_mk (l : List (List UInt8)) : tx1 (mkS l) = l := by
 unfold tx1 mkS
 rw [List.map_map]
 conv => rhs; rw [← List.map_id l]
 exact List.map_congr_left fun s _ => SL_mk s
def RetTs (w : World) (l : List Rat) (e : Ending) (w' : World) : Prop := ∃ v, e = .returned (.tuple #[v, .bool (l.all fitQ)]) ∧ (l.all fitQ = true → Row w' w.heap.size strT 1 v l.length ((mkS (l.map qText)).map Sv)) ∧ (l.all fitQ = false → v = .slice none 0 0) ∧ Below w.heap.size w w'
theorem ret_ts {v : Value} {a b : Bool} (h : a = b) : Ending.returned (.tuple #[v, .bool a]) = .returned (.tuple #[v, .bool b]) := by rw [h]
set_option maxRecDepth 100000 in
set_option maxHeartbeats 1000000 in
theorem texts_any (l : List Rat) (n : Nat) (A : Option Addr) (c : Nat) (w : World) (hr : RV w A n l) (hn : n ≤ 1000000) (htab : Tab w) :
  Calls Tryz.prog 33 #[.slice A n c] w (RetTs w l) := by
 have hl := hr.len
 have hmk := make_str n (by omega)
 have HP := Lib.hid (PS.start w n)
 have HRD := Lib.hid hr
 have HTB := Lib.hid htab
 clear hr htab
 unfold strT at hmk
 go_enter Tryz.func33, Tryz.ntmps33
 go_wp2
 clear hmk
 go_loopg [14] (n - 0) (fun r v wr => ∃ k : Nat, r = n - k ∧ v = I k ∧ k ≤ n ∧ Hid (PS w w.heap.size n (mkS ((l.take k).map qText)) wr) ∧ Hid ((l.take k).all fitQ = true))
 case atStart => exact ⟨0, rfl, rfl, by omega, HP, rfl⟩
 case round =>
  clear HP
  obtain ⟨k, rfl, rfl, hk, HP, HF⟩ := hrel
  obtain ⟨wa, rfl⟩ : ∃ wa : World, wa = wr := ⟨_, rfl⟩
  by_cases hlt : k < n
  ·obtain ⟨q, hq⟩ : ∃ x, l[k]? = some x := ⟨_, List.getElem?_eq_getElem (by omega)⟩
   obtain ⟨b, off, nb, B1, l1, c1, B2, l2, c2, rfl, hbl, hC, hrt⟩ := (HRD.out.below HP.out.below).form hlt q hq
   have hc0 := hC.c0
   have hc1 := hC.c1
   have hc2 := hC.c2
   have hc3 := hC.c3
   have hb := (boxes1 wa (.bool nb) (.slice B1 l1 c1) (.bool false) (.slice B2 l2 c2)).2
   have HC := Lib.hid (rtext_any _ q _ (hrt.ext hb) (tab_below HTB.out (HP.out.below.trans (hb.mono HP.out.below.size))))
   have HP0 := Lib.hid (HP.out.call hb)
   have HX := Lib.hid (show l.take (k + 1) = l.take k ++ [q] by rw [List.take_add_one, hq]; rfl)
   have hlen : (mkS ((l.take k).map qText)).length = k := by simp [mkS]; omega
   have HL := Lib.hid (show l = l.take k ++ q :: l.drop (k + 1) by
    obtain ⟨h1, h2⟩ := List.getElem?_eq_some_iff.1 hq
    rw [← h2, ← List.drop_eq_getElem_cons h1, List.take_append_drop])
   clear hq hC hrt hb HP
   unfold ratT at *
   go_wp2_with fail
   refine HC.out.mono ?_
   rintro e w1 ⟨s, rfl, hs, hb⟩
   have HP1 := Lib.hid (HP0.out.call hb)
   have HB1 := Lib.hid hb
   clear hb HC HP0 hc0 hc1 hc2 hc3
   by_cases hf : fitQ q = true
   ·obtain rfl := hs hf
    have hcell := HP1.out.cell (by omega)
    have hfz := HP1.out.blk.frozen k
    have HN := Lib.hid (HP1.out.put (by omega) (Nat.le_refl _) ⟨(qText q).toArray⟩)
    rw [hlen] at hcell HN
    have HFN := Lib.hid (show (l.take (k + 1)).all fitQ = true by rw [HX.out, List.all_append, HF.out]; simp [hf])
    have e2 : mkS ((l.take k).map qText) ++ [⟨(qText q).toArray⟩] = mkS ((l.take (k + 1)).map qText) := by
     rw [HX.out, List.map_append]; simp [mkS]
    rw [e2] at HN
    rw [hf]
    clear hs HP1 HB1 HX HF hlen e2 HL hf
    go_wp2
    go_roundg (n - (k + 1))
    case measure => omega
    case rel => exact ⟨k + 1, rfl, by go_num, by omega, HN, HFN⟩
   ·have hf : fitQ q = false := by simpa using hf
    have HA := Lib.hid (show l.all fitQ = false by rw [HL.out, List.all_append, List.all_cons, hf]; simp)
    have HBB := Lib.hid HP1.out.below
    rw [hf]
    clear hs HP1 HB1 HX HF hlen HL hf
    go_wp2
    go_ret2
    exact ⟨_, ret_ts HA.out.symm, fun h => (by rw [HA.out] at h; cases h), fun _ => rfl, HBB.out⟩
  ·have hkn : k = n := by omega
   subst hkn
   have HA := Lib.hid (show l.all fitQ = true by have := HF.out; rwa [List.take_of_length_le (by omega)] at this)
   have HR := Lib.hid (HP.out.row (by simp [mkS]; omega) (Nat.le_refl _) (by unfold maxLen; omega))
   have HBB := Lib.hid HP.out.below
   rw [List.take_of_length_le (by omega)] at HR
   clear HP HF
   go_wp2
   go_ret2
   refine ⟨_, ret_ts HA.out.symm, fun _ => ?_, fun h => (by rw [HA.out] at h; cases h), HBB.out⟩
   have := HR.out
   rwa [show (mkS (l.map qText)).length = l.length by simp [mkS]] at this
def fillL {α : Type} (m : List α) (d : α) (k n : Nat) : List α := m.take k ++ List.replicate (n - k) d
theorem fillL_zero {α : Type} (m : List α) (d : α) (n : Nat) : fillL m d 0 n = List.replicate n d := by simp [fillL]
theorem fillL_end {α : Type} {m : List α} (d : α) {n : Nat} (h : m.length = n) : fillL m d n n = m := by simp [fillL, ← h]
theorem fillL_len {α : Type} {m : List α} (d : α) {k n : Nat} (h : m.length = n) (hk : k ≤ n) : (fillL m d k n).length = n := by simp [fillL]; omega
theorem fillL_set {α : Type} {m : List α} (d : α) {k n : Nat} (h : m.length = n) (hk : k < n) {x : α} (hx : m[k]? = some x) : (fillL m d k n).set k x = fillL m d (k + 1) n := by
 unfold fillL
 obtain ⟨j, hj⟩ : ∃ j, n - k = j + 1 := ⟨n - k - 1, by omega⟩
 have hj2 : n - (k + 1) = j := by omega
 rw [hj, hj2, List.replicate_succ, List.take_add_one, hx, List.set_append_right _ _ (by simp; omega)]
 have : k - (m.take k).length = 0 := by simp; omega
 rw [this]
 simp
def RM (w : World) (A : Option Addr) (n : Nat) (m : List (List Rat)) : Prop :=
 ∃ vs, Reads w w.heap.size 1 A n vs ∧ m.length = n ∧ ∀ (i : Nat) (u : Value) (qs : List Rat), vs[i]? = some u → m[i]? = some qs → ∃ B c, u = .slice B qs.length c ∧ RV w B qs.length qs
theorem RM.below {w w' : World} {A : Option Addr} {n : Nat} {m : List (List Rat)} (h : RM w A n m) (hb : Below w.heap.size w w') : RM w' A n m := by
 obtain ⟨vs, h1, h2, h3⟩ := h
 exact ⟨vs, (h1.below hb).more hb.size, h2, fun i u l a b => by
  obtain ⟨B, c, e, h⟩ := h3 i u l a b
  exact ⟨B, c, e, h.below hb⟩⟩
theorem RM.len {w : World} {A : Option Addr} {n : Nat} {m : List (List Rat)} (h : RM w A n m) : m.length = n := by
 obtain ⟨_, _, h, _⟩ := h
 exact h
theorem RM.at_ {w : World} {A : Option Addr} {n : Nat} {m : List (List Rat)} (h : RM w A n m) {k : Nat} (hk : k < n) (qs : List Rat) (hl : m[k]? = some qs) :
  ∃ b off B c, A = some ⟨b, off, none⟩ ∧ b < w.heap.size ∧ w.cell? ⟨b, off + k, none⟩ = some (.slice B qs.length c) ∧ RV w B qs.length qs := by
 obtain ⟨vs, h1, h2, h3⟩ := h
 obtain ⟨b, off, u, e, hb, hu, hc⟩ := h1.at1 hk
 obtain ⟨B, c, rfl, hr⟩ := h3 k u qs hu hl
 exact ⟨b, off, B, c, e, hb, hc, hr⟩
theorem LM.val {w : World} {base : Nat} {v : Value} {vs : List Value} {m : List (List Rat)} (h : LM w base v vs m) : ∃ A c, v = .slice A m.length c := h.outer.val
theorem LM.rm {w : World} {base : Nat} {A : Option Addr} {n c : Nat} {vs : List Value} {m : List (List Rat)} (h : LM w base (.slice A n c) vs m) : RM w A n m := by
 have hn : n = m.length := by
  obtain ⟨A', c', e⟩ := h.val
  injection e
 subst hn
 refine ⟨vs, h.outer.reads, rfl, fun i u qs h1 h2 => ?_⟩
 have hr := h.inner i u qs h1 h2
 obtain ⟨B, c', rfl⟩ := hr.val
 exact ⟨B, c', rfl, hr.rv⟩
def Val2 (m : List (List ByteArray)) : Prop := ∀ l ∈ m, Val1 l ∧ l.length ≤ 1000000
set_option maxRecDepth 100000 in
set_option maxHeartbeats 1000000 in
theorem values_any (m : List (List ByteArray)) (n : Nat) (A : Option Addr) (c : Nat) (w : World) (hm : SMat w A n m) (hs : Sh2 m) (hv : Val2 m) (hn : n ≤ 1000000) :
  Calls Tryz.prog 31 #[.slice A n c] w (RetLM w (valsM (tx2 m))) := by
 have hl : m.length = n := by obtain ⟨_, _, h, _⟩ := hm; exact h
 have hvl : (valsM (tx2 m)).length = n := by simp [valsM, tx2, hl]
 have hmk := make_mat n (by omega)
 have HP := Lib.hid (show ∃ vs, LM (w.alloc (.cells (Array.replicate n (Value.slice none 0 0)) rowT)) w.heap.size (.slice (some ⟨w.heap.size, 0, none⟩) n n) vs (fillL (valsM (tx2 m)) [] 0 n) from ⟨_, by rw [fillL_zero]; exact LM.start w n (by unfold maxLen; omega)⟩)
 have HB := Lib.hid ((Below.refl w.heap.size w).alloc (Nat.le_refl _) (.cells (Array.replicate n (Value.slice none 0 0)) rowT))
 have HM := Lib.hid hm
 have HS := Lib.hid hs
 have HV := Lib.hid hv
 clear hm hs hv
 unfold rowT at hmk
 go_enter Tryz.func31, Tryz.ntmps31
 go_wp2
 clear hmk
 go_loopg [11] (n - 0) (fun r v wr => ∃ k : Nat, r = n - k ∧ v = I k ∧ k ≤ n ∧ Hid (∃ vs, LM wr w.heap.size (.slice (some ⟨w.heap.size, 0, none⟩) n n) vs (fillL (valsM (tx2 m)) [] k n)) ∧ Hid (Below w.heap.size w wr))
 case atStart => exact ⟨0, rfl, rfl, by omega, HP, HB⟩
 case round =>
  clear HP HB
  obtain ⟨k, rfl, rfl, hk, HP, HB⟩ := hrel
  obtain ⟨wa, rfl⟩ : ∃ wa : World, wa = wr := ⟨_, rfl⟩
  by_cases hlt : k < n
  ·obtain ⟨x, hx⟩ : ∃ x, m[k]? = some x := ⟨_, List.getElem?_eq_getElem (by omega)⟩
   obtain ⟨b, off, B, d, rfl, hc, hr⟩ := (HM.out.below HB.out).at_ hlt x hx
   have hmem := List.mem_of_getElem? hx
   have HC := Lib.hid (parseAll_any x x.length B d wa hr (HS.out x hmem) (HV.out x hmem).1 (HV.out x hmem).2)
   have HX := Lib.hid (show (valsM (tx2 m))[k]? = some (valsV (tx1 x)) by simp [valsM, tx2, hx])
   clear hx hmem hr
   go_wp2_with fail
   refine HC.out.mono ?_
   rintro e w1 ⟨v, rfl, hv, hb⟩
   obtain ⟨vs, hLM⟩ := HP.out
   have hfl : (fillL (valsM (tx2 m)) [] k n).length = n := fillL_len _ hvl hk
   have h1 := hLM.call hb
   have hap := hLM.newer (u := v) (fun g hg => (hv.lt hg).1)
   obtain ⟨g, o2, cap, B2, c2, e2, hg1, hg2, -, hcell, hfz, -⟩ := h1.at_ (i := k) (by omega)
   obtain ⟨rfl, rfl⟩ := sl_inj e2
   clear e2
   have h2 := h1.put (i := k) hfl hlt (hv.less HB.out.size) (fun j u' g' _ => hap j u' g')
   rw [fillL_set _ hvl hlt HX.out, Nat.zero_add] at h2
   rw [Nat.zero_add] at hcell hfz
   have HN := Lib.hid (show ∃ vs, LM (w1.setCell ⟨w.heap.size, k, none⟩ v) w.heap.size (.slice (some ⟨w.heap.size, 0, none⟩) n n) vs (fillL (valsM (tx2 m)) [] (k + 1) n) from ⟨_, h2.1⟩)
   have HB1 := Lib.hid ((HB.out.trans (hb.mono HB.out.size)).setCell (p := ⟨w.heap.size, k, none⟩) (Nat.le_refl _) v)
   obtain ⟨Av, cv, rfl⟩ := hv.val
   generalize (valsV (tx1 x)).length = lx at *
   generalize ((fillL (valsM (tx2 m)) [] k n).getD k []).length = ln at *
   have HVL := Lib.hid hvl
   clear hvl hl
   clear h1 h2 hap hLM HP HB hb HC HX hv hg1 hg2 hc hfl
   go_wp2
   go_roundg (n - (k + 1))
   case measure => omega
   case rel => exact ⟨k + 1, rfl, by go_num, by omega, HN, HB1⟩
  ·have hkn : k = n := by omega
   subst hkn
   obtain ⟨vs, hLM⟩ := HP.out
   rw [fillL_end _ hvl] at hLM
   have HF := Lib.hid hLM
   clear hLM HP
   go_wp2
   go_ret
   exact ⟨_, _, rfl, HF.out, HB.out⟩
end Go.Proofs.YtcgfdfdcbamceaaGreatDoor
