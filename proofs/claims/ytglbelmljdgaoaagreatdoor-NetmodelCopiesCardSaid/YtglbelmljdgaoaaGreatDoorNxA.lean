/- nettext.line. -/
import Derived.Test.YtglbelmljdgaoaaGreatDoorNxLaw
import Derived.Test.YtglbelmljdgaoaaGreatDoorEqS
import Derived.Test.YtglbelmljdgaoaaGreatDoorShelf
import Derived.Test.YtglbelmljdgaoaaGreatDoorSetSw
import Derived.Lib.ItoaLen
namespace Go.Proofs.YtglbelmljdgaoaaGreatDoor
open Go.RowKit Go.Shelf Go.Sort

abbrev Tab (w : World) : Prop := Lib.TabIs Tryz.prog w "internal/strconv.uint64pow10" .u64 Lib.pow10Tab
theorem tab_below {w w' : World} (h : Tab w) (hb : Below w.heap.size w w') : Tab w' := by
  unfold Tab Lib.TabIs World.var? at *
  cases hg : Tryz.prog.globalNamed "internal/strconv.uint64pow10" with
  | none => simp [hg] at h
  | some g =>
    simp only [hg, Option.bind_some] at h ⊢
    have hlt : g < w.heap.size := by
      rcases Nat.lt_or_ge g w.heap.size with h' | h'
      · exact h'
      · rw [Array.getElem?_eq_none h'] at h; simp at h
    rw [hb.block g hlt]
    exact h
theorem below_grow (w : World) (k : Nat) (os : Array Obj) : Below w.heap.size w (grow (w.drewN k) os) := by
  refine ⟨rfl, rfl, rfl, ?_, fun b hb => ?_⟩
  · simp [grow]
  · simp only [grow, World.heap_drewN]
    rw [Array.getElem?_append_left hb]
def Wd.val : Wd → Value
  | .t s => .iface 9 (.string s)
  | .n k => .iface 3 (I k)
def Wd.fine : Wd → Prop
  | .t s => s.size ≤ 1000
  | .n k => -9223372036854775808 ≤ k ∧ k ≤ 9223372036854775807
theorem Wd.txt_len {x : Wd} (h : x.fine) : (bs x.txt).length ≤ 1000 := by
  cases x with
  | t s => rw [← bs_size]; exact h
  | n k => exact Nat.le_trans (Lib.itoa_length_le k h.1 h.2) (by omega)
/-- append of one string to a row of strings, behind the block of the new element -/
theorem wpList_appS {ops : Array Oper} {rest : List Oper} {o : Oper} {a : Act} {Q : Exit → Act → World → Prop} {W : World} (hgd : o.guard = none) (s x : Operand)
    (ho : o.op = .call { callee := .builtin .append, args := #[s, x], argTypes := #[22, 22] }) (base : Nat) (v : Value) (q : List ByteArray) (y : ByteArray) (N : Nat) (hN : W.heap.size = N)
    (hsv : a.eval s = v) (hx : a.eval x = .slice (some ⟨N, 0, none⟩) 1 1) (hr : Row W base 9 1 v q.length (q.map S)) (hq : q.length ≤ 1000000) (hb : base ≤ W.heap.size)
    (h : ∀ v' w', Row w' base 9 1 v' (q.length + 1) (q.map S ++ [S y]) → Below base (W.alloc (.cells #[.string y] 9)) w' → wpList Tryz.prog ops Q rest (a.put o.dst v') w') :
    wpList Tryz.prog ops Q (o :: rest) a (W.alloc (.cells #[.string y] 9)) := by
  obtain ⟨i0, hi0, hz0, hz1, hz2⟩ := info_parts Tryz.info9
  subst hN
  exact wpList_append_row hgd s x 22 ho base 9 i0 _ 1 16 Tryz.underlying22 hi0 hz0 hz1 hz2 rfl (by decide) v q.length (q.map S) hsv (hr.alloc _) (W.heap.size + 1) (some ⟨W.heap.size, 0, none⟩) 1 1 [.string y] hx
    (reads_one W 9 (.string y)) (by simp [Value.oneCell']) (by unfold maxLen; omega) (by omega) (by simp; omega) h
theorem lens_le : ∀ (l : List (List UInt8)), (∀ x ∈ l, x.length ≤ 1000) → Lib.lens l ≤ l.length * 1000
  | [], _ => by simp [Lib.lens]
  | x :: l, h => by
    have ih := lens_le l fun y hy => h y (List.mem_cons_of_mem _ hy)
    have h1 := h x (by simp)
    have e : Lib.lens (x :: l) = x.length + Lib.lens l := by simp [Lib.lens]
    rw [e, List.length_cons]
    omega
theorem join_le {l : List (List UInt8)} {sep : List UInt8} (h : ∀ x ∈ l, x.length ≤ 1000) (hs : sep.length ≤ 1) : (Lib.join l sep).length ≤ l.length * 1001 := by
  cases l with
  | nil => simp [Lib.join_nil]
  | cons x r =>
    rw [Lib.join_length]
    have h1 := lens_le (x :: r) h
    have h2 : sep.length * r.length ≤ 1 * r.length := Nat.mul_le_mul_right _ hs
    rw [List.length_cons] at h1 ⊢
    omega
theorem join_any (xs : List ByteArray) (n : Nat) (A : Option Addr) (c : Nat) (sep : ByteArray) (base : Nat) (w : World) (hn : xs.length = n) (hr : Row w base 9 1 (.slice A n c) n (xs.map S)) (hl : n ≤ 1000000) (hs : (Lib.join (xs.map bs) (bs sep)).length ≤ 140737488355328) :
    Calls Tryz.prog 63 #[.slice A n c, .string sep] w fun e w' => e = .returned (.string (ba (Lib.join (xs.map bs) (bs sep)))) ∧ Below w.heap.size w w' := by
  subst hn
  by_cases h0 : xs.length = 0
  · have e : xs = [] := List.eq_nil_of_length_eq_zero h0
    subst e
    exact (Tryz.strings_Join_none A c sep w).mono fun e w' ⟨h1, h2⟩ => ⟨by rw [h1]; rfl, by rw [h2]; exact Below.refl _ _⟩
  · obtain ⟨g, off, cap, cur, hv, hb, hh, hnc, hcm, hcs, htake⟩ := hr.form (by omega)
    injection hv with hA _ hc
    subst hA hc
    refine Tryz.strings_Join g off c xs sep w (fun j x hx => ?_) hh.lt (by omega) hnc hs
    exact hr.cell_at (j := j) (u := .string x) (by rw [List.getElem?_map, hx]; rfl)
set_option maxRecDepth 100000 in
set_option maxHeartbeats 2000000 in
theorem line_any (ws : List Wd) (n : Nat) (A : Option Addr) (c : Nat) (w : World) (hr : Reads w w.heap.size 1 A n (ws.map Wd.val)) (hl : n ≤ 100) (hf : ∀ x ∈ ws, x.fine) (htab : Tab w) :
    Calls Tryz.prog 56 #[.slice A n c] w fun e w' => e = .returned (.string (lineT ws)) ∧ Below w.heap.size w w' := by
  have hln : ws.length = n := by have := hr.1; simpa using this
  have HR := Lib.hid hr
  have HF := Lib.hid hf
  have HTB := Lib.hid htab
  have HLN := Lib.hid hln
  clear hr hf htab hln
  have HN0 := Lib.hid (show Row w w.heap.size 9 1 (.slice none 0 0) ((ws.take 0).map Wd.txt).length (((ws.take 0).map Wd.txt).map S) from Row.nil _ _ _ _)
  have HB0 := Lib.hid (Below.refl w.heap.size w)
  have q1 : ∀ (v : Value) (w : World), (Instr.typeAssert (.iface 3 v) 20 3 true).run Tryz.prog w = .ok (.tuple #[v, .bool true]) w := fun v w => by kernel_rfl
  have q2 : ∀ (v : Value) (w : World), (Instr.typeAssert (.iface 9 v) 20 9 true).run Tryz.prog w = .ok (.tuple #[v, .bool true]) w := fun v w => by kernel_rfl
  have q3 : ∀ (v : Value) (w : World), (Instr.typeAssert (.iface 9 v) 20 3 true).run Tryz.prog w = .ok (.tuple #[I 0, .bool false]) w := fun v w => by kernel_rfl
  go_enter Tryz.func56, Tryz.ntmps56
  go_wp2
  go_loopg [3, 10] (n - 0) (fun r o v wr => ∃ k : Nat, ∃ vo : Value, o = vo ∧ r = n - k ∧ v = I k ∧ k ≤ n ∧ Hid (Row wr w.heap.size 9 1 vo ((ws.take k).map Wd.txt).length (((ws.take k).map Wd.txt).map S)) ∧ Hid (Below w.heap.size w wr))
  case atStart => exact ⟨0, _, rfl, rfl, rfl, by omega, HN0, HB0⟩
  case round =>
    clear HN0 HB0
    obtain ⟨k, vo, hvo, rfl, rfl, hk, HN, HB⟩ := hrel
    replace hvo := hvo.symm
    subst hvo
    obtain ⟨wa, rfl⟩ : ∃ wa : World, wa = wr := ⟨_, rfl⟩
    by_cases hlt : k < n
    · obtain ⟨b, off, u, rfl, _, hu, hc⟩ := (HR.out.below HB.out).at1 hlt
      obtain ⟨x, hx⟩ : ∃ x, ws[k]? = some x := ⟨_, List.getElem?_eq_getElem (by rw [HLN.out]; exact hlt)⟩
      obtain rfl : u = x.val := by
        rw [List.getElem?_map, hx] at hu
        simpa using hu.symm
      have hfx := HF.out x (List.mem_of_getElem? hx)
      have HT := Lib.hid (show (ws.take (k + 1)).map Wd.txt = (ws.take k).map Wd.txt ++ [x.txt] by rw [List.take_add_one, hx, List.map_append]; rfl)
      have hql : ((ws.take k).map Wd.txt).length ≤ 1000000 := by rw [List.length_map, List.length_take]; omega
      generalize (ws.take k).map Wd.txt = q at *
      clear hu hx
      cases x with
      | n z =>
        have hc' : wa.cell? ⟨b, off + k, none⟩ = some (.iface 3 (I z)) := hc
        have HC := Lib.hid (Tryz.strconv_Itoa z hfx.1 hfx.2 wa (tab_below HTB.out HB.out))
        have HT2 := Lib.hid (show (Wd.n z).txt = ⟨(Lib.itoa z).toArray⟩ from rfl)
        rw [HT2.out] at HT
        clear hc hfx HT2
        go_wp2_with fail
        refine HC.out.mono ?_
        rintro e w1 ⟨rfl, k1, os, rfl⟩
        have hb := below_grow wa k1 os
        generalize grow (wa.drewN k1) os = w1 at *
        have HN1 := Lib.hid (HN.out.call hb)
        have HB1 := Lib.hid (HB.out.trans (hb.mono HB.out.size))
        clear hb HC HN HB
        generalize Lib.itoa z = tx at *
        go_wp2_with (at_builtin; refine wpList_appS rfl _ _ rfl w.heap.size vo q ⟨tx.toArray⟩ w1.heap.size rfl rfl rfl HN1.out hql HB1.out.size ?_)
        intro v' w2 hrow hb2
        have HNN := Lib.hid (show Row w2 w.heap.size 9 1 v' ((ws.take (k + 1)).map Wd.txt).length (((ws.take (k + 1)).map Wd.txt).map S) by rw [HT.out, List.length_append, List.map_append]; exact hrow)
        have HBN := Lib.hid (HB1.out.trans (((Below.refl _ w1).alloc (Nat.le_refl _) _).mono HB1.out.size |>.trans hb2))
        clear hrow hb2 HN1 HB1 HT
        go_wp2
        go_roundg (n - (k + 1))
        case measure => omega
        case rel => exact ⟨k + 1, _, rfl, rfl, by go_num, by omega, HNN, HBN⟩
      | t s =>
        have hc' : wa.cell? ⟨b, off + k, none⟩ = some (.iface 9 (.string s)) := hc
        have HT2 := Lib.hid (show (Wd.t s).txt = s from rfl)
        rw [HT2.out] at HT
        clear hc hfx HT2
        go_wp2_with (at_builtin; refine wpList_appS rfl _ _ rfl w.heap.size vo q s wa.heap.size rfl rfl rfl HN.out hql HB.out.size ?_)
        intro v' w2 hrow hb2
        have HNN := Lib.hid (show Row w2 w.heap.size 9 1 v' ((ws.take (k + 1)).map Wd.txt).length (((ws.take (k + 1)).map Wd.txt).map S) by rw [HT.out, List.length_append, List.map_append]; exact hrow)
        have HBN := Lib.hid (HB.out.trans (((Below.refl _ wa).alloc (Nat.le_refl _) _).mono HB.out.size |>.trans hb2))
        clear hrow hb2 HN HB HT
        go_wp2
        go_roundg (n - (k + 1))
        case measure => omega
        case rel => exact ⟨k + 1, _, rfl, rfl, by go_num, by omega, HNN, HBN⟩
    · have hkn : k = n := by omega
      subst hkn
      have hg := HN.out
      rw [List.take_of_length_le (by rw [HLN.out]; exact Nat.le_refl _)] at hg
      have hll : (ws.map Wd.txt).length = k := by rw [List.length_map, HLN.out]
      rw [hll] at hg
      obtain ⟨A9, c9, rfl⟩ : ∃ A9 c9, vo = .slice A9 k c9 := hg.val
      have HJ := Lib.hid (show Calls Tryz.prog 63 #[.slice A9 k c9, .string ⟨#[32]⟩] wa (fun e w' => e = .returned (.string (lineT ws)) ∧ Below wa.heap.size wa w') from join_any (ws.map Wd.txt) k A9 c9 ⟨#[32]⟩ w.heap.size wa hll hg (by omega) (by
        have h1 := join_le (l := (ws.map Wd.txt).map bs) (sep := bs ⟨#[32]⟩) (fun y hy => by
          obtain ⟨z, hz, rfl⟩ := List.mem_map.1 hy
          obtain ⟨x, hx, rfl⟩ := List.mem_map.1 hz
          exact Wd.txt_len (HF.out x hx)) (by decide)
        rw [List.length_map] at h1
        omega))
      clear hg HN
      go_wp2_with fail
      refine HJ.out.mono ?_
      rintro e w1 ⟨rfl, hb⟩
      have HB1 := Lib.hid (HB.out.trans (hb.mono HB.out.size))
      clear HJ hb HB
      go_wp2
      go_ret
      exact ⟨rfl, HB1.out⟩
end Go.Proofs.YtglbelmljdgaoaaGreatDoor
