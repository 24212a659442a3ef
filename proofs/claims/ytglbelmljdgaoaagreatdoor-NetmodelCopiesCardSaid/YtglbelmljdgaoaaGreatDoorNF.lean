/- nettext.numbers, and splitting at one byte. nettext.add: words; a network in the making. strings.Split at one byte, in any memory. -/
import Derived.Test.YtglbelmljdgaoaaGreatDoorNxC
import Derived.Lib.AtoiAllCases
import Derived.Lib.AtoiErrMem
import Derived.Shelf.Strconv.ErrVarAll
import Derived.Test.YtglbelmljdgaoaaGreatDoorEdges
import Derived.Test.YtglbelmljdgaoaaGreatDoorDJ
import Derived.Test.YtglbelmljdgaoaaGreatDoorBuses
import Derived.Test.YtglbelmljdgaoaaGreatDoorNxPl
import Derived.Test.YtglbelmljdgaoaaGreatDoorNetMem
import Derived.Shelf.Strings.Split
namespace Go.Proofs.YtglbelmljdgaoaaGreatDoor
open Go.RowKit Go.Shelf Go.Sort

/-! ### strconv.Atoi -/
/-- the two error variables hold errors -/
def ErrV (w : World) (x : String) : Prop := ∃ tp p, w.var? Tryz.prog x = some #[.iface tp p]
theorem errV_below {x : String} {w w' : World} (h : ErrV w x) (hb : Below w.heap.size w w') : ErrV w' x := by
  obtain ⟨tp, p, h⟩ := h
  refine ⟨tp, p, ?_⟩
  unfold World.var? at *
  cases hg : Tryz.prog.globalNamed x with
  | none => simp [hg] at h
  | some g =>
    simp only [hg, Option.bind_some] at h ⊢
    have hlt : g < w.heap.size := by
      rcases Nat.lt_or_ge g w.heap.size with h' | h'
      · exact h'
      · rw [Array.getElem?_eq_none h'] at h; simp at h
    rw [hb.block g hlt]
    exact h
structure Vars (w : World) : Prop where
  tab : Tab w
  e1 : ErrV w "strconv.ErrSyntax"
  e2 : ErrV w "strconv.ErrRange"
theorem Vars.below {w w' : World} (h : Vars w) (hb : Below w.heap.size w w') : Vars w' := ⟨tab_below h.tab hb, errV_below h.e1 hb, errV_below h.e2 hb⟩
theorem atoi_any (s : ByteArray) (w : World) (hs : s.size ≤ 1000000) (hv : Vars w) :
    Calls Tryz.prog 67 #[.string s] w fun e w' => Below w.heap.size w w' ∧ ∃ z er, e = .returned (.tuple #[I z, er]) ∧ ((er = .nilIface ∧ Lib.atoiAll (bs s) = .ok z) ∨ ((∃ t p, er = .iface t p) ∧ numW s = none)) := by
  rcases h : Lib.atoiAll (bs s) with v | _ | _
  · refine (Tryz.strconv_Atoi_ok s (by omega) v h w).mono fun e w' ⟨h1, h2⟩ => ⟨?_, v, _, h1, .inl ⟨rfl, rfl⟩⟩
    rcases h2 with rfl | ⟨t, rfl⟩
    · exact Below.refl _ _
    · exact Lib.bytesWorld_below _ _ _
  · obtain ⟨tp, p, hvar⟩ := hv.e1
    refine (Any.strconv_Atoi_syntax_var Tryz.laysC172 s (by omega) h tp p w hvar).mono fun e w' ⟨N, h1, _, _, h2⟩ => ⟨h2, _, _, h1, .inr ⟨⟨_, _, rfl⟩, by rw [numW, h]⟩⟩
  · obtain ⟨tp, p, hvar⟩ := hv.e2
    refine (Tryz.strconv_Atoi_range_var s (by omega) h tp p w hvar).mono fun e w' ⟨N, h1, _, _, h2⟩ => ⟨h2, _, _, h1, .inr ⟨⟨_, _, rfl⟩, by rw [numW, h]⟩⟩
/-! ### numbers -/
def numsL : List ByteArray → Option (List Int)
  | [] => some []
  | x :: r => (numW x).bind fun z => (numsL r).map (z :: ·)
def putN : Array Value → Nat → List Int → Array Value
  | cs, _, [] => cs
  | cs, o, z :: zs => putN (cs.setIfInBounds o (I z)) (o + 1) zs
theorem putN_snoc (z : Int) : ∀ (zs : List Int) (cs : Array Value) (o : Nat), putN cs o (zs ++ [z]) = (putN cs o zs).setIfInBounds (o + zs.length) (I z)
  | [], cs, o => rfl
  | y :: zs, cs, o => by
    rw [List.cons_append, putN, putN_snoc z zs, putN, List.length_cons]
    congr 1
    omega
theorem putN_ge : ∀ (zs : List Int) (cs : Array Value) (o j : Nat), o + zs.length ≤ j → (putN cs o zs)[j]? = cs[j]?
  | [], _, _, _, _ => rfl
  | y :: zs, cs, o, j, h => by
    rw [List.length_cons] at h
    rw [putN, putN_ge zs _ _ j (by omega), Array.getElem?_setIfInBounds]
    rw [if_neg (by omega)]
theorem numsL_step {l : List ByteArray} {i : Nat} {x : ByteArray} {zs : List Int} {z : Int} (hx : l[i]? = some x) (h : numsL l = (numsL (l.drop i)).map (zs ++ ·)) (hz : numW x = some z) : numsL l = (numsL (l.drop (i + 1))).map ((zs ++ [z]) ++ ·) := by
  have e : l.drop i = x :: l.drop (i + 1) := by
    obtain ⟨hi, e⟩ := List.getElem?_eq_some_iff.1 hx
    rw [List.drop_eq_getElem_cons hi, e]
  rw [h, e, numsL, hz]
  cases numsL (l.drop (i + 1)) <;> simp
theorem numsL_bad {l : List ByteArray} {i : Nat} {x : ByteArray} {zs : List Int} (hx : l[i]? = some x) (h : numsL l = (numsL (l.drop i)).map (zs ++ ·)) (hz : numW x = none) : numsL l = none := by
  have e : l.drop i = x :: l.drop (i + 1) := by
    obtain ⟨hi, e⟩ := List.getElem?_eq_some_iff.1 hx
    rw [List.drop_eq_getElem_cons hi, e]
  rw [h, e, numsL, hz]
  rfl
def ptrs (g o k : Nat) : List Value := (List.range k).map fun i => .pointer (some ⟨g, o + i, none⟩)
theorem Reads.set_int {w : World} {B sz n : Nat} {A : Option Addr} {xs : List Value} (h : Reads w B sz A n xs) (hk : ∀ u ∈ xs, ∀ z, u ≠ I z) {p : Addr} {y : Int} (hp : w.cell? p = some (I y)) (u : Value) : Reads (w.setCell p u) B sz A n xs := by
  refine ⟨h.1, fun hn => ?_⟩
  obtain ⟨b, off, e, hb, hc⟩ := h.2 hn
  refine ⟨b, off, e, hb, fun j x hx => ?_⟩
  have h1 := hc j x hx
  rw [World.cell?_setCell_other _ _ _ _ ?_]
  · exact h1
  · rintro rfl
    rw [h1] at hp
    injection hp with hp
    exact hk x (List.mem_of_getElem? hx) y hp
theorem ptrs_no (g o k : Nat) : ∀ u ∈ ptrs g o k, ∀ z, u ≠ I z := by
  intro u hu z e
  obtain ⟨i, _, rfl⟩ := List.mem_map.1 hu
  cases e
/-- what nettext.numbers does: r whether all are numbers, zs the numbers that are stored -/
def RetNums (w : World) (g o : Nat) (T : TypeId) (cs : Array Value) (l : List ByteArray) (k : Nat) (e : Ending) (w' : World) : Prop :=
  ∃ zs : List Int, zs.length ≤ k ∧ e = .returned (.bool (numsL l).isSome) ∧ Blk w' g T (putN cs o zs) ∧ Below g w w' ∧ ∀ ys, numsL l = some ys → zs = ys
set_option maxRecDepth 100000 in
set_option maxHeartbeats 4000000 in
theorem numbers_any (l : List ByteArray) (k : Nat) (A : Option Addr) (c : Nat) (B : Option Addr) (d g o : Nat) (T : TypeId) (cs : Array Value) (w : World) (hl : Reads w g 1 A k (l.map S)) (hp : Reads w w.heap.size 1 B k (ptrs g o k)) (hg : Blk w g T cs)
    (hcs : ∀ j, j < k → ∃ z, cs[o + j]? = some (I z)) (hs : ∀ s ∈ l, s.size ≤ 1000000) (hk : k ≤ 1000000) (w0 : World) (hv : Vars w0) (h0 : Below w0.heap.size w0 w) (hg0 : w0.heap.size ≤ g) :
    Calls Tryz.prog 61 #[.slice A k c, .slice B k d] w (RetNums w g o T cs l k) := by
  have hln : l.length = k := by have := hl.1; simpa using this
  have HL := Lib.hid hl
  have HP := Lib.hid hp
  have HC := Lib.hid hcs
  have HS := Lib.hid hs
  have HV0 := Lib.hid hv
  have H00 := Lib.hid h0
  have HG0 := Lib.hid hg0
  have HLN := Lib.hid hln
  have HG := Lib.hid hg.lt
  have HBG := Lib.hid (show Blk w g T (putN cs o []) from hg)
  have HB := Lib.hid (Below.refl w.heap.size w)
  have HQ := Lib.hid (show numsL l = (numsL (l.drop 0)).map (([] : List Int) ++ ·) by rw [List.drop_zero]; cases numsL l <;> simp)
  have HW := Lib.hid (Below.refl g w)
  clear hl hp hcs hs hv hln hg h0 hg0
  go_enter Tryz.func61, Tryz.ntmps61
  go_wp2
  go_loopg [16] (k - 0) (fun r v wr => ∃ i : Nat, ∃ zs : List Int, r = k - i ∧ v = I i ∧ i ≤ k ∧ zs.length = i ∧ Hid (Blk wr g T (putN cs o zs)) ∧ Hid (Below g w wr) ∧ Hid (Reads wr wr.heap.size 1 B k (ptrs g o k)) ∧ Hid (numsL l = (numsL (l.drop i)).map (zs ++ ·)))
  case atStart => exact ⟨0, [], rfl, rfl, by omega, rfl, HBG, HW, HP, HQ⟩
  case round =>
    clear HBG HW HP HQ HB
    obtain ⟨i, zs, rfl, rfl, hi, hzl, HBG, HW, HP, HQ⟩ := hrel
    obtain ⟨wa, rfl⟩ : ∃ wa : World, wa = wr := ⟨_, rfl⟩
    have HV := Lib.hid (HV0.out.below (H00.out.trans (HW.out.mono HG0.out)))
    by_cases hlt : i < k
    · obtain ⟨b, off, u, rfl, _, hu, hc⟩ := (HL.out.below HW.out).at1 hlt
      obtain ⟨x, hx⟩ : ∃ x, l[i]? = some x := ⟨_, List.getElem?_eq_getElem (by rw [HLN.out]; exact hlt)⟩
      obtain rfl : u = S x := by rw [List.getElem?_map, hx] at hu; simpa using hu.symm
      have HX := Lib.hid hx
      have HAT := Lib.hid (atoi_any x wa (HS.out x (List.mem_of_getElem? hx)) HV.out)
      clear hu hx
      go_wp2_with fail
      refine HAT.out.mono ?_
      rintro e w1 ⟨hb, z, er, rfl, hz⟩
      clear HAT hc
      replace HBG := Lib.hid (HBG.out.below hb HBG.out.lt)
      replace HW := Lib.hid (HW.out.trans (hb.mono (Nat.le_of_lt (Nat.lt_of_lt_of_le HG.out HW.out.size))))
      replace HP := Lib.hid ((HP.out.below hb).more hb.size)
      replace HV := Lib.hid (HV.out.below hb)
      clear hb
      rcases hz with ⟨rfl, hz⟩ | ⟨⟨t, p, rfl⟩, hz⟩
      · have hzb := Lib.atoiAll_bounds hz
        have HZ := Lib.hid (show numW x = if Lib.itoa z = bs x then some z else none by rw [numW, hz])
        have HIT := Lib.hid (Tryz.strconv_Itoa z hzb.1 hzb.2 w1 HV.out.tab)
        clear hz hzb
        go_wp2_with fail
        refine HIT.out.mono ?_
        rintro e w2 ⟨rfl, k1, os, rfl⟩
        have hb := below_grow w1 k1 os
        generalize grow (w1.drewN k1) os = w2 at *
        clear HIT
        replace HBG := Lib.hid (HBG.out.below hb HBG.out.lt)
        replace HW := Lib.hid (HW.out.trans (hb.mono (Nat.le_of_lt (Nat.lt_of_lt_of_le HG.out HW.out.size))))
        replace HP := Lib.hid ((HP.out.below hb).more hb.size)
        replace HV := Lib.hid (HV.out.below hb)
        clear hb
        by_cases he : Lib.itoa z = bs x
        · have HZ2 := Lib.hid (HZ.out.trans (if_pos he))
          have tc : (Lib.itoa z == x.toList) = true := by rw [Lib.toList_data]; exact beq_iff_eq.2 he
          clear HZ he
          obtain ⟨bp, op, up, rfl, _, hup, hcp⟩ := HP.out.at1 hlt
          obtain rfl : up = .pointer (some ⟨g, o + i, none⟩) := by
            rw [ptrs, List.getElem?_map, List.getElem?_range hlt] at hup
            simpa using hup.symm
          obtain ⟨z0, hz0⟩ := HC.out i hlt
          have hcell : w2.cell? ⟨g, o + i, none⟩ = some (I z0) := by rw [HBG.out.cell, putN_ge _ _ _ _ (by omega)]; exact hz0
          have hfr := HBG.out.frozen (o + i)
          have HNB := Lib.hid (show Blk (w2.setCell ⟨g, o + i, none⟩ (I z)) g T (putN cs o (zs ++ [z])) by rw [putN_snoc, hzl]; exact HBG.out.set_ (o + i) (I z))
          have HNW := Lib.hid (HW.out.setCell (p := ⟨g, o + i, none⟩) (Nat.le_refl g) (I z))
          have HNP := Lib.hid (show Reads (w2.setCell ⟨g, o + i, none⟩ (I z)) (w2.setCell ⟨g, o + i, none⟩ (I z)).heap.size 1 (some ⟨bp, op, none⟩) k (ptrs g o k) by rw [World.size_setCell]; exact HP.out.set_int (ptrs_no _ _ _) hcell (I z))
          have HNQ := Lib.hid (numsL_step HX.out HQ.out HZ2.out)
          clear hup hz0 HBG HW HP HQ HZ2
          go_wp2
          go_roundg (k - (i + 1))
          case measure => omega
          case rel => exact ⟨i + 1, zs ++ [z], rfl, by go_num, by omega, by rw [List.length_append, hzl]; rfl, HNB, HNW, HNP, HNQ⟩
        · have HZ2 := Lib.hid (HZ.out.trans (if_neg he))
          have tc : (Lib.itoa z == x.toList) = false := by rw [Lib.toList_data]; exact beq_eq_false_iff_ne.2 he
          have HR := Lib.hid (numsL_bad HX.out HQ.out HZ2.out)
          go_wp2
          go_ret
          exact ⟨zs, by omega, by rw [HR.out]; rfl, HBG.out, HW.out, fun ys h => by rw [HR.out] at h; cases h⟩
      · have HR := Lib.hid (numsL_bad HX.out HQ.out hz)
        go_wp2
        go_ret
        exact ⟨zs, by omega, by rw [HR.out]; rfl, HBG.out, HW.out, fun ys h => by rw [HR.out] at h; cases h⟩
    · have hkn : i = k := by omega
      subst hkn
      have HR := Lib.hid (show numsL l = some zs by rw [HQ.out, List.drop_of_length_le (by rw [HLN.out]; exact Nat.le_refl _), numsL]; simp)
      go_wp2
      go_ret
      exact ⟨zs, by omega, by rw [HR.out]; rfl, HBG.out, HW.out, fun ys h => by rw [HR.out] at h; injection h⟩
end Go.Proofs.YtglbelmljdgaoaaGreatDoor
namespace Go.Proofs.YtglbelmljdgaoaaGreatDoor
open Go.RowKit

/-- slices of type t have elements of type e that take sz cells -/
structure AppE (t e : TypeId) (sz bytes : Nat) : Prop where
  und : Tryz.prog.underlying t = some (.slice e)
  inf : ∃ i z, Tryz.prog.info? e = some i ∧ i.zero = some z ∧ i.size = sz ∧ i.bytes = bytes ∧ z.cells.size = sz
  pos : 0 < sz
  few : bytes ≤ 1000
theorem step_appE {w : World} {ops : Array Oper} {o : Oper} {a : Act} {K : Act → World → Prop} {Q : Exit → Act → World → Prop} {E : Prop} (hgd : o.guard = none) (s x : Operand) {t e : TypeId} {sz bytes : Nat} (h : AppE t e sz bytes)
    (ho : o.op = .call { callee := .builtin .append, args := #[s, x], argTypes := #[t, t] }) (base : Nat) (v : Value) (n : Nat) (xs : List Value) (hsv : a.eval s = v) (hr : Row w base e sz v n xs)
    (A : Option Addr) (m c : Nat) (news : List Value) (hx : a.eval x = .slice A m c) (hs : Reads w w.heap.size sz A m news) (h1 : ∀ u ∈ news, u.oneCell' = true) (hlen : n + m ≤ 1000000) (hbase : base ≤ w.heap.size)
    (hk : ∀ v' w', Row w' base e sz v' (n + m) (xs ++ news) → w.grownBy w' v.ownBlock → K (a.put o.dst v') w') : if Region.wanted o (yielded ops a.tmps) = true then Oper.wp Tryz.prog o a w K Q else E := by
  obtain ⟨i, z, h2, h3, h4, h5, h6⟩ := h.inf
  have hb : (n + m) * bytes ≤ 1000000 * 1000 := Nat.mul_le_mul hlen h.few
  exact step_append_rowG hgd s x t ho base e i z sz bytes h.und h2 h3 h4 h5 h6 h.pos v n xs hsv hr w.heap.size A m c news hx hs h1 (by unfold maxLen; omega) (by omega) hbase hk
theorem infoE0 : (Tryz.prog.info? 9).map (fun i => (i.zero, i.size, i.bytes)) = some (some (.string ⟨#[]⟩), 1, 16) := by kernel_rfl
theorem appE0 : AppE 22 9 1 16 := ⟨Tryz.underlying22, by
  obtain ⟨i, hi, hz0, hz1, hz2⟩ := info_parts infoE0
  exact ⟨i, _, hi, hz0, hz1, hz2, rfl⟩, by decide, by decide⟩
theorem infoE1 : (Tryz.prog.info? 39).map (fun i => (i.zero, i.size, i.bytes)) = some (some (.agg #[.string ⟨#[]⟩, .string ⟨#[]⟩, .string ⟨#[]⟩, .bool false, .bool false]), 5, 56) := by kernel_rfl
theorem appE1 : AppE 23 39 5 56 := ⟨Tryz.underlying23, by
  obtain ⟨i, hi, hz0, hz1, hz2⟩ := info_parts infoE1
  exact ⟨i, _, hi, hz0, hz1, hz2, rfl⟩, by decide, by decide⟩
theorem infoE2 : (Tryz.prog.info? 48).map (fun i => (i.zero, i.size, i.bytes)) = some (some (.agg #[.string ⟨#[]⟩, .string ⟨#[]⟩, .string ⟨#[]⟩, .int .i64 0, .int .i64 0, .int .i64 0, .int .i64 0, .int .i64 0, .int .i64 0]), 9, 96) := by kernel_rfl
theorem appE2 : AppE 24 48 9 96 := ⟨Tryz.underlying24, by
  obtain ⟨i, hi, hz0, hz1, hz2⟩ := info_parts infoE2
  exact ⟨i, _, hi, hz0, hz1, hz2, rfl⟩, by decide, by decide⟩
theorem infoE3 : (Tryz.prog.info? 64).map (fun i => (i.zero, i.size, i.bytes)) = some (some (.agg #[.string ⟨#[]⟩, .string ⟨#[]⟩, .int .i64 0, .int .i64 0, .int .i64 0]), 5, 56) := by kernel_rfl
theorem appE3 : AppE 25 64 5 56 := ⟨Tryz.underlying25, by
  obtain ⟨i, hi, hz0, hz1, hz2⟩ := info_parts infoE3
  exact ⟨i, _, hi, hz0, hz1, hz2, rfl⟩, by decide, by decide⟩
theorem infoE4 : (Tryz.prog.info? 59).map (fun i => (i.zero, i.size, i.bytes)) = some (some (.agg #[.string ⟨#[]⟩, .string ⟨#[]⟩, .int .i64 0]), 3, 40) := by kernel_rfl
theorem appE4 : AppE 26 59 3 40 := ⟨Tryz.underlying26, by
  obtain ⟨i, hi, hz0, hz1, hz2⟩ := info_parts infoE4
  exact ⟨i, _, hi, hz0, hz1, hz2, rfl⟩, by decide, by decide⟩
theorem infoE5 : (Tryz.prog.info? 68).map (fun i => (i.zero, i.size, i.bytes)) = some (some (.agg #[.string ⟨#[]⟩, .string ⟨#[]⟩, .int .i64 0, .int .i64 0, .int .i64 0]), 5, 56) := by kernel_rfl
theorem appE5 : AppE 27 68 5 56 := ⟨Tryz.underlying27, by
  obtain ⟨i, hi, hz0, hz1, hz2⟩ := info_parts infoE5
  exact ⟨i, _, hi, hz0, hz1, hz2, rfl⟩, by decide, by decide⟩
theorem reads_blkE {w : World} {g : Nat} {t : TypeId} {cs : Array Value} (h : Blk w g t cs) {sz : Nat} (hs : cs.size = sz) : Reads w w.heap.size sz (some ⟨g, 0, none⟩) 1 cs.toList :=
  ⟨by rw [Array.length_toList, hs, Nat.one_mul], fun _ => ⟨g, 0, rfl, h.lt, fun j u hu => by
    rw [Nat.zero_add, h.cell, ← Array.getElem?_toList]; exact hu⟩⟩
theorem Blk.apart {w w' : World} {base g : Nat} {T e : TypeId} {sz m : Nat} {cs : Array Value} {u : Value} {ys : List Value} (h : Blk w g T cs) (hu : Row w base e sz u m ys) (hne : T ≠ e) (hg : w.grownBy w' u.ownBlock) : Blk w' g T cs := by
  refine (hg.block g h.lt ?_).trans h
  rcases hu.2 with ⟨rfl, _⟩ | ⟨g', off', cap', cur', rfl, _, hh', _⟩
  · simp [Value.ownBlock]
  · intro he
    have hgg : g = g' := by simpa [Value.ownBlock] using he
    subst hgg
    unfold Blk at h hh'
    rw [h] at hh'
    injection hh' with hh'
    injection hh' with _ ht
    exact hne ht
theorem Row.offBlk {w : World} {base : Nat} {e T : TypeId} {sz n b : Nat} {v : Value} {xs : List Value} {ds : Array Value} (h : Row w base e sz v n xs) (hB : Blk w b T ds) (hne : e ≠ T) (o : Nat) (u : Value) : Row (w.setCell ⟨b, o, none⟩ u) base e sz v n xs := by
  obtain ⟨h1, h2⟩ := h
  refine ⟨h1, ?_⟩
  rcases h2 with ⟨hv, h0⟩ | ⟨g, off, cap, cur, hv, hb, hh, r⟩
  · exact .inl ⟨hv, h0⟩
  · refine .inr ⟨g, off, cap, cur, hv, hb, (Below.heap_setCell w ⟨b, o, none⟩ u g ?_).trans hh, r⟩
    rintro rfl
    unfold Blk at hh hB
    rw [hh] at hB
    injection hB with hB
    injection hB with _ hB
    exact hne hB
/-- a network in the making: its six slices lie in block g -/
structure NMk (w : World) (base g : Nat) (n : NetD) (v0 v1 v2 v3 v4 v5 : Value) : Prop where
  blk : Blk w g 29 #[v0, v1, v2, v3, v4, v5]
  r0 : Row w base 9 1 v0 n.nodes.length (n.nodes.map S)
  r1 : Row w base 39 5 v1 n.switches.length (cellsBy SwitchD.cells n.switches)
  r2 : Row w base 48 9 v2 n.branches.length (cellsBy BranchD.cells n.branches)
  r3 : Row w base 64 5 v3 n.gens.length (cellsBy GenD.cells n.gens)
  r4 : Row w base 59 3 v4 n.loads.length (cellsBy LoadD.cells n.loads)
  r5 : Row w base 68 5 v5 n.stores.length (cellsBy StoreD.cells n.stores)
  hb : base ≤ g
section
variable {w w' : World} {base g : Nat} {n : NetD} {v0 v1 v2 v3 v4 v5 v : Value}
theorem NMk.call (h : NMk w base g n v0 v1 v2 v3 v4 v5) (hb : Below w.heap.size w w') : NMk w' base g n v0 v1 v2 v3 v4 v5 := ⟨h.blk.below hb h.blk.lt, h.r0.call hb, h.r1.call hb, h.r2.call hb, h.r3.call hb, h.r4.call hb, h.r5.call hb, h.hb⟩
theorem NMk.app0 (h : NMk w base g n v0 v1 v2 v3 v4 v5) (a : ByteArray) (hr : Row w' base 9 1 v (n.nodes.length + 1) ((n.nodes.map S) ++ [S a])) (hg : w.grownBy w' v0.ownBlock) : NMk (w'.setCell ⟨g, 0, none⟩ v) base g { n with nodes := n.nodes ++ [a] } v v1 v2 v3 v4 v5 := by
  have hk := h.blk.apart h.r0 (by decide) hg
  exact ⟨hk.set_ 0 v, by
    have := hr.offBlk hk (by decide) 0 v
    simpa [List.map_append] using this, (h.r1.apart h.r0 (by decide) hg).offBlk hk (by decide) 0 v, (h.r2.apart h.r0 (by decide) hg).offBlk hk (by decide) 0 v, (h.r3.apart h.r0 (by decide) hg).offBlk hk (by decide) 0 v, (h.r4.apart h.r0 (by decide) hg).offBlk hk (by decide) 0 v, (h.r5.apart h.r0 (by decide) hg).offBlk hk (by decide) 0 v, h.hb⟩
theorem NMk.app1 (h : NMk w base g n v0 v1 v2 v3 v4 v5) (a : SwitchD) (hr : Row w' base 39 5 v (n.switches.length + 1) ((cellsBy SwitchD.cells n.switches) ++ a.cells)) (hg : w.grownBy w' v1.ownBlock) : NMk (w'.setCell ⟨g, 1, none⟩ v) base g { n with switches := n.switches ++ [a] } v0 v v2 v3 v4 v5 := by
  have hk := h.blk.apart h.r1 (by decide) hg
  exact ⟨hk.set_ 1 v, (h.r0.apart h.r1 (by decide) hg).offBlk hk (by decide) 1 v, by
    have := hr.offBlk hk (by decide) 1 v
    simpa [cellsBy, List.flatMap_append] using this, (h.r2.apart h.r1 (by decide) hg).offBlk hk (by decide) 1 v, (h.r3.apart h.r1 (by decide) hg).offBlk hk (by decide) 1 v, (h.r4.apart h.r1 (by decide) hg).offBlk hk (by decide) 1 v, (h.r5.apart h.r1 (by decide) hg).offBlk hk (by decide) 1 v, h.hb⟩
theorem NMk.app2 (h : NMk w base g n v0 v1 v2 v3 v4 v5) (a : BranchD) (hr : Row w' base 48 9 v (n.branches.length + 1) ((cellsBy BranchD.cells n.branches) ++ a.cells)) (hg : w.grownBy w' v2.ownBlock) : NMk (w'.setCell ⟨g, 2, none⟩ v) base g { n with branches := n.branches ++ [a] } v0 v1 v v3 v4 v5 := by
  have hk := h.blk.apart h.r2 (by decide) hg
  exact ⟨hk.set_ 2 v, (h.r0.apart h.r2 (by decide) hg).offBlk hk (by decide) 2 v, (h.r1.apart h.r2 (by decide) hg).offBlk hk (by decide) 2 v, by
    have := hr.offBlk hk (by decide) 2 v
    simpa [cellsBy, List.flatMap_append] using this, (h.r3.apart h.r2 (by decide) hg).offBlk hk (by decide) 2 v, (h.r4.apart h.r2 (by decide) hg).offBlk hk (by decide) 2 v, (h.r5.apart h.r2 (by decide) hg).offBlk hk (by decide) 2 v, h.hb⟩
theorem NMk.app3 (h : NMk w base g n v0 v1 v2 v3 v4 v5) (a : GenD) (hr : Row w' base 64 5 v (n.gens.length + 1) ((cellsBy GenD.cells n.gens) ++ a.cells)) (hg : w.grownBy w' v3.ownBlock) : NMk (w'.setCell ⟨g, 3, none⟩ v) base g { n with gens := n.gens ++ [a] } v0 v1 v2 v v4 v5 := by
  have hk := h.blk.apart h.r3 (by decide) hg
  exact ⟨hk.set_ 3 v, (h.r0.apart h.r3 (by decide) hg).offBlk hk (by decide) 3 v, (h.r1.apart h.r3 (by decide) hg).offBlk hk (by decide) 3 v, (h.r2.apart h.r3 (by decide) hg).offBlk hk (by decide) 3 v, by
    have := hr.offBlk hk (by decide) 3 v
    simpa [cellsBy, List.flatMap_append] using this, (h.r4.apart h.r3 (by decide) hg).offBlk hk (by decide) 3 v, (h.r5.apart h.r3 (by decide) hg).offBlk hk (by decide) 3 v, h.hb⟩
theorem NMk.app4 (h : NMk w base g n v0 v1 v2 v3 v4 v5) (a : LoadD) (hr : Row w' base 59 3 v (n.loads.length + 1) ((cellsBy LoadD.cells n.loads) ++ a.cells)) (hg : w.grownBy w' v4.ownBlock) : NMk (w'.setCell ⟨g, 4, none⟩ v) base g { n with loads := n.loads ++ [a] } v0 v1 v2 v3 v v5 := by
  have hk := h.blk.apart h.r4 (by decide) hg
  exact ⟨hk.set_ 4 v, (h.r0.apart h.r4 (by decide) hg).offBlk hk (by decide) 4 v, (h.r1.apart h.r4 (by decide) hg).offBlk hk (by decide) 4 v, (h.r2.apart h.r4 (by decide) hg).offBlk hk (by decide) 4 v, (h.r3.apart h.r4 (by decide) hg).offBlk hk (by decide) 4 v, by
    have := hr.offBlk hk (by decide) 4 v
    simpa [cellsBy, List.flatMap_append] using this, (h.r5.apart h.r4 (by decide) hg).offBlk hk (by decide) 4 v, h.hb⟩
theorem NMk.app5 (h : NMk w base g n v0 v1 v2 v3 v4 v5) (a : StoreD) (hr : Row w' base 68 5 v (n.stores.length + 1) ((cellsBy StoreD.cells n.stores) ++ a.cells)) (hg : w.grownBy w' v5.ownBlock) : NMk (w'.setCell ⟨g, 5, none⟩ v) base g { n with stores := n.stores ++ [a] } v0 v1 v2 v3 v4 v := by
  have hk := h.blk.apart h.r5 (by decide) hg
  exact ⟨hk.set_ 5 v, (h.r0.apart h.r5 (by decide) hg).offBlk hk (by decide) 5 v, (h.r1.apart h.r5 (by decide) hg).offBlk hk (by decide) 5 v, (h.r2.apart h.r5 (by decide) hg).offBlk hk (by decide) 5 v, (h.r3.apart h.r5 (by decide) hg).offBlk hk (by decide) 5 v, (h.r4.apart h.r5 (by decide) hg).offBlk hk (by decide) 5 v, by
    have := hr.offBlk hk (by decide) 5 v
    simpa [cellsBy, List.flatMap_append] using this, h.hb⟩
end
end Go.Proofs.YtglbelmljdgaoaaGreatDoor
namespace Go.Proofs.YtglbelmljdgaoaaGreatDoor
open Go.RowKit

/-- what strings.Split returns at one byte -/
def RetSpl (w : World) (l : List ByteArray) (e : Ending) (w' : World) : Prop := e = .returned (.slice (some ⟨w.heap.size, 0, none⟩) l.length l.length) ∧ w' = w.alloc (.cells (l.map S).toArray 9)
theorem infoSpl : (Tryz.prog.info? 9).map (fun i => (i.zero, i.size, i.bytes)) = some (some (.string ByteArray.empty), 1, 16) := by kernel_rfl
set_option maxRecDepth 100000 in
set_option maxHeartbeats 1000000 in
theorem split_any (s : ByteArray) (c : UInt8) (w : World) (hs : s.size ≤ 1000000) : Calls Tryz.prog 41 #[.string s, .string ⟨#[c]⟩] w (RetSpl w (cutB c s)) := by
  have h1 : 1 ≤ (⟨#[c]⟩ : ByteArray).size := Nat.le_refl 1
  have hle := Lib.countB_le ⟨#[c]⟩ h1 s.size s (Nat.le_refl _)
  have hlen := Lib.splitB_all ⟨#[c]⟩ h1 0 _ s rfl
  have hc := Any.strings_genSplit_core Tryz.lays221 infoSpl s ⟨#[c]⟩ 0 (-1) (Lib.countB s ⟨#[c]⟩ + 1) w (by omega) h1 (Nat.zero_le _)
    (fun x cs _ => (Tryz.strings_Index_one x c _).mono fun e w' h => ⟨by rw [h.1, ← Lib.index_one], h.2⟩)
    ((Tryz.strings_Count_one s c w).mono fun e w' h => ⟨by rw [h.1]; show _ = Ending.returned (Value.int .i64 ((Lib.count s.data.toList [c] : Nat) : Int)); rw [Lib.count_one]; first | done | rfl, h.2⟩) (by decide) (by decide) (by rw [if_pos (by decide)]; omega)
  rw [Nat.add_sub_cancel, hlen] at hc
  have e2 : Lib.cellsOf (Lib.splitB ⟨#[c]⟩ 0 (Lib.countB s ⟨#[c]⟩) s) (Lib.countB s ⟨#[c]⟩ + 1) = ((Lib.splitB ⟨#[c]⟩ 0 (Lib.countB s ⟨#[c]⟩) s).map Value.string).toArray := by rw [← hlen]; exact Lib.cellsOf_full _
  rw [e2, splitB_cut] at hc
  rw [splitB_cut] at hlen
  rw [← hlen] at hc
  have HC := Lib.hid (show Calls Tryz.prog 58 #[.string s, .string ⟨#[c]⟩, .int .i64 0, .int .i64 (-1)] w (RetSpl w (cutB c s)) from hc)
  clear hc hlen e2 hle h1
  generalize cutB c s = l at *
  go_enter Tryz.func41, Tryz.ntmps41
  go_wp2_with fail
  refine HC.out.mono ?_
  rintro e w1 ⟨rfl, hw⟩
  rw [hw]
  go_wp2
  go_ret
  exact ⟨rfl, rfl⟩
theorem cutB_ne (c : UInt8) (s : ByteArray) : cutB c s ≠ [] := by rw [cutB]; simpa using cut1_ne c (bs s)
end Go.Proofs.YtglbelmljdgaoaaGreatDoor
