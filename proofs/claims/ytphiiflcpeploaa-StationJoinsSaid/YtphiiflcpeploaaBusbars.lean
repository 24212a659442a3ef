/- station.Busbars. -/
import Derived.Test.YtphiiflcpeploaaBars
import Derived.Test.YtphiiflcpeploaaNums
import Derived.Test.YtphiiflcpeploaaIsol
import Derived.Deep.RegionLaw
namespace Go.Proofs.Ytphiiflcpeploaa
open Go.RowKit

theorem Try.info40 : (Try.prog.info? 40).map (fun i => (i.zero, i.size, i.bytes)) = some (some (.slice none 0 0), 1, 24) := by kernel_rfl
def RetBars (w : World) (r : List (List ByteArray) × Int) (e : Ending) (w' : World) : Prop := ∃ v vs, e = .returned (.tuple #[v, I r.2]) ∧ Strs2 w' w.heap.size v vs r.1 ∧ Below w.heap.size w w'
theorem modify_len {α : Type} (f : α → α) (l : List α) (i : Nat) : (l.modify i f).length = l.length := by simp
theorem bars_len {bus : List Int} {nodes : List ByteArray} (h : ∀ k, k < bus.length → 0 ≤ at_ bus k ∧ at_ bus k ≤ manyL (bus.take k)) : ∀ k, k ≤ bus.length → ((barsFrom bus nodes k).length : Int) = manyL (bus.take k)
  | 0, _ => rfl
  | k + 1, hk => by
    have ih := bars_len (nodes := nodes) h k (by omega)
    have hb := h k (by omega)
    have he : at_ bus k = bus.getD k 0 := by simp [at_]
    rw [he] at hb
    rw [List.take_succ_eq_append_getElem (by omega), many_snoc, barsFrom, barStep, List.length_modify]
    have hg : bus[k] = bus.getD k 0 := by rw [List.getD_eq_getElem?_getD, List.getElem?_eq_getElem (by omega)]; rfl
    rw [hg]
    split
    · rw [List.length_append]; simp only [List.length_cons, List.length_nil]; omega
    · omega
theorem stCheck_nil (n : NetD) : stCheck n [] = checkN n := by
  rw [stCheck]
  split
  · rename_i h; simp [h]
  · rfl
/-- what the region holds on to -/
theorem bar_hold {w : World} {g o nb no ng k : Nat} {u x s : Value} (h1 : w.cell? ⟨g, o, none⟩ = some u) (h2 : w.frozen? ⟨g, o, none⟩ = false) (h3 : w.cell? ⟨nb, no, none⟩ = some x) (h4 : w.cell? ⟨ng, k, none⟩ = some s) :
    w.cell? ⟨g, o, none⟩ = some (oldCell w ⟨g, o, none⟩) ∧ w.frozen? ⟨g, o, none⟩ = false ∧ w.cell? ⟨nb, no, none⟩ = some x ∧ w.cell? ⟨ng, k, none⟩ = some s := ⟨old_of h1, h2, h3, h4⟩
theorem Row.cell_far_blk {w w' : World} {base g : Nat} {e t : TypeId} {sz n : Nat} {v : Value} {xs : List Value} {cs : Array Value} (h : Row w base e sz v n xs) (hB : Blk w g t cs) (hne : e ≠ t) (hg : w.grownBy w' v.ownBlock) {o : Nat} {u : Value} (hc : w.cell? ⟨g, o, none⟩ = some u) : w'.cell? ⟨g, o, none⟩ = some u :=
  hg.cell hc (fun e => h.ne_blk hB hne g (by simpa using e.symm) rfl)
theorem grown_frozen {w w' : World} {g : Nat} {t : TypeId} {cs : Array Value} {row : Option Nat} (hg : w.grownBy w' row) (hB : Blk w g t cs) (hne : ∀ b, row = some b → b ≠ g) (o : Nat) : w'.frozen? ⟨g, o, none⟩ = false := by
  have : Blk w' g t cs := (hg.block g hB.lt (fun e => hne g e.symm rfl)).trans hB
  exact this.frozen o
theorem bar_set {w : World} {g o nb no ng k : Nat} {x s : Value} (h : w.cell? ⟨g, o, none⟩ = some (oldCell w ⟨g, o, none⟩) ∧ w.frozen? ⟨g, o, none⟩ = false ∧ w.cell? ⟨nb, no, none⟩ = some x ∧ w.cell? ⟨ng, k, none⟩ = some s) (v : Value) (h1 : nb ≠ g) (h2 : ng ≠ g) :
    (w.setCell ⟨g, o, none⟩ v).cell? ⟨g, o, none⟩ = some (oldCell (w.setCell ⟨g, o, none⟩ v) ⟨g, o, none⟩) ∧ (w.setCell ⟨g, o, none⟩ v).frozen? ⟨g, o, none⟩ = false ∧ (w.setCell ⟨g, o, none⟩ v).cell? ⟨nb, no, none⟩ = some x ∧ (w.setCell ⟨g, o, none⟩ v).cell? ⟨ng, k, none⟩ = some s :=
  ⟨old_of (World.cell?_setCell_same _ _ _ h.1), by simpa using h.2.1, cell_set_far (p := ⟨g, o, none⟩) h.2.2.1 h1, cell_set_far (p := ⟨g, o, none⟩) h.2.2.2 h2⟩
theorem modify_set {l : List (List ByteArray)} {b : Nat} {ys : List ByteArray} {s : ByteArray} (h : l[b]? = some ys) : l.modify b (· ++ [s]) = l.set b (ys ++ [s]) := by
  apply List.ext_getElem?
  intro i
  rw [List.getElem?_modify, List.getElem?_set]
  by_cases hb : b = i
  · subst hb
    have hlt := (List.getElem?_eq_some_iff.1 h).1
    have he : l[b] = ys := by have := List.getElem?_eq_getElem hlt; rw [h] at this; injection this with this; exact this.symm
    simp [hlt, he]
  · simp [hb]
theorem Strs2.less {w : World} {base base' : Nat} {v : Value} {vs : List Value} {out : List (List ByteArray)} (h : Strs2 w base v vs out) (hb : base' ≤ base) : Strs2 w base' v vs out :=
  ⟨h.outer.less hb, fun i u ys h1 h2 => (h.inner i u ys h1 h2).less hb, h.apart⟩
structure BarInv (w2 : World) (bus : List Int) (nodes : List ByteArray) (k : Nat) (v : Value) (vs : List Value) (wr : World) : Prop where
  strs : Strs2 wr w2.heap.size v vs (barsFrom bus nodes k)
  below : Below w2.heap.size w2 wr
  few : (barsFrom bus nodes k).length ≤ 24
  each : ∀ ys ∈ barsFrom bus nodes k, ys.length ≤ k

set_option maxRecDepth 100000 in
set_option maxHeartbeats 4000000 in
theorem busbars_any (n : NetD) (v : NetV) (w : World) (hN : Net w n v) : Calls Try.prog 27 #[v.val n] w (RetBars w (busbarsE n)) := by
  have hb0 : Below w.heap.size w (w.alloc (Obj.cells (v.parts n) 47)) := (Below.refl _ w).alloc (Nat.le_refl _) _
  have HC := Lib.hid (stCheck_any n v [] none 0 _ (hN.below hb0) Reads.nil (by simp))
  rw [stCheck_nil] at HC
  have HN := Lib.hid hN
  have HB0 := Lib.hid hb0
  have HBX := Lib.hid (Blk.new w 47 (v.parts n))
  have HD := Lib.hid (show busbarsE n = if checkN n = 0 then (barsFrom (busesL n) n.nodes n.nodes.length, 0) else ([], checkN n) from rfl)
  have HBU := Lib.hid (fun w hn h1 h2 => buses_any n v w hn h1 h2)
  have HVN := Lib.hid (@vnet n)
  clear hb0 hN
  unfold NetV.val NetV.parts at *
  obtain ⟨er, her⟩ : ∃ er, checkN n = er := ⟨_, rfl⟩
  rw [her] at HC HD HVN
  clear her
  obtain ⟨na, hna⟩ : ∃ na, v.na = na := ⟨_, rfl⟩
  rw [hna] at HC HBX HB0 HBU ⊢
  have HNA := Lib.hid hna
  clear hna
  go_enter Try.func27, Try.ntmps27
  go_wp2_with fail
  refine HC.out.mono ?_
  rintro e w1 ⟨rfl, b1⟩
  have HB1 := Lib.hid (HB0.out.trans (b1.mono HB0.out.size))
  have HBX1 := Lib.hid (HBX.out.below b1 HBX.out.lt)
  clear b1 HC HBX HB0
  by_cases h0 : er = 0
  · subst h0
    have HV := Lib.hid (HVN.out rfl)
    have HD2 := Lib.hid (show busbarsE n = (barsFrom (busesL n) n.nodes n.nodes.length, 0) by rw [HD.out]; simp)
    have hw := HV.out.hw
    have hnn := HV.out.hn
    have x0 := HBX1.out.cell 0
    have x1 := HBX1.out.cell 1
    have x2 := HBX1.out.cell 2
    have x3 := HBX1.out.cell 3
    have x4 := HBX1.out.cell 4
    have x5 := HBX1.out.cell 5
    have hl1 : w.heap.size < w1.heap.size := HBX1.out.lt
    have HB := Lib.hid (HBU.out w1 (HN.out.below HB1.out).net (by omega) (by omega))
    have HBF := Lib.hid (fun k hk => bus_first HV.out (k := k) hk)
    have HBM := Lib.hid (bus_small HV.out)
    have HBL := Lib.hid (buses_len HV.out)
    go_wp2_with fail
    refine HB.out.mono ?_
    rintro e w2 ⟨bv, rfl, hbr, hb2⟩
    obtain ⟨BA, bcc, rfl⟩ := hbr.val
    have HB2 := Lib.hid (HB1.out.trans (hb2.mono HB1.out.size))
    have HBX2 := Lib.hid (HBX1.out.below hb2 HBX1.out.lt)
    have HBR := Lib.hid hbr
    have hz12 := hb2.size
    clear hbr hb2 HB HBU HD HVN x0 x1 x2 x3 x4 x5 HV
    generalize busesL n = bus at *
    have hbl := HBL.out
    have hbl24 : bus.length ≤ 24 := by omega
    have HBL2 := Lib.hid hbl
    clear hbl
    have HBARS := Lib.hid (fun k hk => bars_len (nodes := n.nodes) HBF.out k hk)
    go_wp2
    have HI : BarInv w2 bus n.nodes 0 (.slice none 0 0) [] w2 := ⟨Strs2.nil _ _, Below.refl _ _, by simp [barsFrom], by simp [barsFrom]⟩
    go_loopg [5, 16] (bus.length - 0) (fun r lv iv wr => ∃ (k : Nat) (vs : List Value), r = bus.length - k ∧ iv = I k ∧ k ≤ bus.length ∧ BarInv w2 bus n.nodes k lv vs wr)
    case atStart => exact ⟨0, [], rfl, rfl, by omega, HI⟩
    case round =>
      clear HI
      obtain ⟨k, vs, rfl, rfl, hk, hG⟩ := hrel
      obtain ⟨wa, rfl⟩ : ∃ wa : World, wa = wr := ⟨_, rfl⟩
      have hza : w2.heap.size ≤ wa.heap.size := hG.below.size
      by_cases hlt : k < bus.length
      · have hro := HBR.out.keep (w' := wa) fun g _ hg => hG.below.block g hg
        obtain ⟨bb, boff, bcap, hv2, hbb', hnc, hbs⟩ := hro.ints (by omega)
        injection hv2 with hBA _ hbc
        subst hBA hbc
        have hb2' : bb < w2.heap.size := by have := HBR.out.own_block (g := bb) rfl; exact this.2
        have hcb := hbs k hlt
        have hxb := HBM.out (bus.getD k 0) (by rw [List.getD_eq_getElem?_getD, List.getElem?_eq_getElem hlt]; exact List.getElem_mem hlt)
        have hfo := (HBF.out k hlt).2
        rw [show at_ bus k = bus.getD k 0 by simp [at_], ← HBARS.out k (by omega)] at hfo
        have hkn : k < n.nodes.length := by rw [← HBL2.out]; exact hlt
        obtain ⟨ng, noff, nu, hna2, hng, hnu, hnc2⟩ := ((HN.out.net.nodes.below HB2.out).more HB2.out.size).at1 hkn
        have hnw : wa.cell? ⟨ng, noff + k, none⟩ = some nu := (hG.below.cell (p := ⟨ng, _, none⟩) hng).trans hnc2
        obtain ⟨s, hs⟩ : ∃ s, n.nodes.getD k ⟨#[]⟩ = s := ⟨_, rfl⟩
        obtain rfl : nu = .string s := by
          rw [List.getElem?_map, List.getElem?_eq_getElem hkn] at hnu
          rw [List.getD_eq_getElem?_getD, List.getElem?_eq_getElem hkn] at hs
          simp at hnu hs
          rw [← hnu, hs]
        have hnae := HNA.out.symm.trans hna2
        subst hnae
        have HST : Hid (barsFrom bus n.nodes (k + 1) = barStep (barsFrom bus n.nodes k) (bus.getD k 0) s) := by rw [← hs]; exact rfl
        obtain ⟨out, hout⟩ : ∃ out, barsFrom bus n.nodes k = out := ⟨_, rfl⟩
        have hst := hG.strs
        have HFEW := Lib.hid hG.few
        have HEACH := Lib.hid hG.each
        have HBE := Lib.hid hG.below
        have HL1 := Lib.hid (HBARS.out (k + 1) (by omega))
        have HM1 := Lib.hid (many_range (l := bus.take (k + 1)) (N := 24) (by omega) (fun x hx => HBM.out x (List.mem_of_mem_take hx)))
        rw [hout] at hst HFEW HEACH HST hfo
        generalize bus.getD k 0 = y at *
        obtain ⟨b, rfl⟩ := Int.eq_ofNat_of_zero_le hxb.1
        have hbo : b ≤ out.length := by omega
        have hboxb : Blk wa w.heap.size 47 _ := HBX2.out.below hG.below HBX2.out.lt
        have x0 : wa.cell? ⟨w.heap.size, 0, none⟩ = some (.slice (some ⟨ng, noff, none⟩) n.nodes.length v.nc) := hboxb.cell 0
        have hwl : w.heap.size < wa.heap.size := hboxb.lt
        have hw2 : w.heap.size < w2.heap.size := HBX2.out.lt
        have hol : out.length ≤ 24 := HFEW.out
        clear hbs hro hs hout hG hnu hnc2 hna2 hxb hfo hboxb
        have HSTR := Lib.hid hst
        clear hst
        have hout0 : 0 ≤ (k : Int) := by omega
        have hkn1 : (k : Int) < n.nodes.length := by omega
        by_cases hnew : b = out.length
        · have ht : ((b : Int) == (out.length : Int)) = true := beq_iff_eq.2 (by omega)
          have hnew1 : out.length ≤ b := by omega
          clear hnew
          have HS1 := Lib.hid (HSTR.out.call ((Below.refl _ wa).alloc (Nat.le_refl _) (.cells #[.slice none 0 0] 40)))
          obtain ⟨oA, oc0, rfl⟩ := HSTR.out.outer.val
          obtain ⟨j0, hj0, hy0, hy1, hy2⟩ := info_parts Try.info40
          have HJ0 := Lib.hid hj0
          have HY0 := Lib.hid hy0
          have HY1 := Lib.hid hy1
          have HY2 := Lib.hid hy2
          clear hj0 hy0 hy1 hy2
          go_wp2_with (at_builtin; refine wpList_append_rowG rfl _ _ 57 rfl w2.heap.size 40 j0 _ 1 24 Try.underlying57 HJ0.out HY0.out HY1.out HY2.out rfl (by decide) _ out.length vs rfl HS1.out.outer (wa.heap.size + 1) (some ⟨wa.heap.size, 0, none⟩) 1 1 [.slice none 0 0] rfl (reads_one wa 40 _) (by simp [Value.oneCell']) ?c1 ?c2 ?c3 ?_)
          case c1 => unfold maxLen; omega
          case c2 => omega
          case c3 => first | omega | (simp; omega)
          intro v1 wn hr1 hg1
          obtain ⟨oA1, c1, rfl⟩ := hr1.val
          have HS2 := Lib.hid (HS1.out.snoc hr1 hg1)
          have HBE2 := Lib.hid ((HBE.out.alloc hza (.cells #[.slice none 0 0] 40)).trans (HS1.out.outer.belowG hg1 (by simp; omega)))
          have HEACH2 : Hid (∀ ys ∈ out ++ [[]], ys.length ≤ k) := fun ys hys => by
            rcases List.mem_append.1 hys with h | h
            · exact HEACH.out ys h
            · simp at h; subst h; simp
          have x0' : wn.cell? ⟨w.heap.size, 0, none⟩ = some (.slice (some ⟨ng, noff, none⟩) n.nodes.length v.nc) := HSTR.out.outer.cell_far hg1 ((World.cell?_alloc_lt wa _ _ hwl).trans x0) (by omega)
          have hn' : wn.cell? ⟨ng, noff + k, none⟩ = some (.string s) := HSTR.out.outer.cell_far hg1 ((World.cell?_alloc_lt wa _ _ (World.block_lt_of_cell? wa _ hnw)).trans hnw) (by omega)
          have hzn : w2.heap.size ≤ wn.heap.size := HBE2.out.size
          clear hr1 hg1 HS1
          go_wp2

          obtain ⟨og, ooff, ocap, ocur, hov, hog, hoh, _⟩ := HS2.out.outer.form (by first | omega | (simp; done) | (simp; omega))
          have hol2 : (out ++ [[]]).length = out.length + 1 := by simp
          have HS2' := HS2
          rw [hol2] at hov
          injection hov with hov1 _ hov2
          subst hov1 hov2
          have hbl2 : b < (out ++ [[]]).length := by first | omega | (simp; done) | (simp; omega)
          obtain ⟨ys, hys⟩ : ∃ ys, (out ++ [[]])[b]? = some ys := ⟨_, List.getElem?_eq_getElem hbl2⟩
          have hvl := HS2.out.len
          obtain ⟨u, hu⟩ : ∃ u, (vs ++ [Value.slice none 0 0])[b]? = some u := ⟨_, List.getElem?_eq_getElem (by rw [hvl]; exact hbl2)⟩
          have hoo := HS2.out.outer
          rw [hol2] at hoo
          have oc := hoo.cell_at hu
          have ofz := hoo.frozen_at (ooff + b)
          have hiu := HS2.out.inner b u ys hu hys
          have hyl : ys.length ≤ 24 := by have := HEACH2.out ys (List.mem_of_getElem? hys); omega
          have H0 := Lib.hid (bar_hold oc ofz x0' hn')
          have hold1 : oldCell wn.drew ⟨og, ooff + b, none⟩ = u := by unfold oldCell; rw [show wn.drew.cell? ⟨og, ooff + b, none⟩ = some u from oc]; rfl
          have H1 := Lib.hid (bar_hold (w := wn.drew) oc ofz x0' hn')
          have al : ∀ {g o : Nat} {z : Value}, wn.cell? ⟨g, o, none⟩ = some z → (wn.alloc (.cells #[.string s] 9)).drew.cell? ⟨g, o, none⟩ = some z := fun hc => (World.cell?_alloc_lt wn _ _ (World.block_lt_of_cell? wn _ hc)).trans hc
          have HFZ := Lib.hid (show (wn.alloc (.cells #[.string s] 9)).drew.frozen? ⟨og, ooff + b, none⟩ = false from (hoh.alloc (.cells #[.string s] 9)).frozen (ooff + b))
          have H2 := Lib.hid (bar_hold (w := (wn.alloc (.cells #[.string s] 9)).drew) (al oc) HFZ.out (al x0') (al hn'))
          have HAC := Lib.hid (show (wn.alloc (.cells #[.string s] 9)).drew.cell? ⟨og, ooff + b, none⟩ = some u ∧ (wn.alloc (.cells #[.string s] 9)).drew.cell? ⟨w.heap.size, 0, none⟩ = some (.slice (some ⟨ng, noff, none⟩) n.nodes.length v.nc) ∧ (wn.alloc (.cells #[.string s] 9)).drew.cell? ⟨ng, noff + k, none⟩ = some (.string s) from ⟨al oc, al x0', al hn'⟩)
          have hold2 : oldCell (wn.alloc (.cells #[.string s] 9)).drew ⟨og, ooff + b, none⟩ = u := by unfold oldCell; rw [HAC.out.1]; rfl
          have hoglt := hoh.lt
          have HIU := Lib.hid hiu
          have HU := Lib.hid hu
          have HY := Lib.hid hys
          have HOB := Lib.hid (hoh.alloc (.cells #[.string s] 9)).drew
          obtain ⟨i0, hi0, hz0, hz1', hz2'⟩ := info_parts Try.info9
          have HI0 := Lib.hid hi0
          have HZ0 := Lib.hid hz0
          have HZ1 := Lib.hid hz1'
          have HZ2 := Lib.hid hz2'
          have hb1' : (b : Int) < ((out.length + 1 : Nat) : Int) := by omega
          have hb2' : (b : Int) < (out.length : Int) + 1 := by omega
          have hWw : w.heap.size < wn.heap.size := World.block_lt_of_cell? _ _ x0'
          clear hiu hu hys hoh hoo hi0 hz0 hz1' hz2' hvl al
          go_region_law ((refine step_append_rowF (by rfl) _ _ 40 (by rfl) w2.heap.size 9 i0 _ 1 16 Try.underlying40 HI0.out HZ0.out HZ1.out HZ2.out rfl (by decide) u ys.length (ys.map S) (by kernel_rfl) (HIU.out.alloc _).drew ⟨wn.heap.size, 0, none⟩ 1 1 [.string s] (by kernel_rfl) ((reads_oneD wn 9 _).more (by simp)) (by decide) (by simp [Value.oneCell']) (by unfold maxLen; omega) (by omega) (by simp; omega) ?_; intro v' w4 hr4 hg4 hw4; obtain ⟨A4, c4, rfl⟩ := hr4.val; have hc4 : w4.cell? ⟨og, ooff + b, none⟩ = some u := ((HIU.out.alloc (.cells #[.string s] 9)).drew.cell_far_blk HOB.out (by decide) hg4 HAC.out.1); have hf4 : w4.frozen? ⟨og, ooff + b, none⟩ = false := (grown_frozen hg4 HOB.out ((HIU.out.alloc (.cells #[.string s] 9)).drew.ne_blk HOB.out (by decide)) (ooff + b))))
          all_goals
            have hnv : Hid (barsFrom bus n.nodes (k + 1) = (out ++ [[]]).set b (ys ++ [s])) := by
              show barsFrom bus n.nodes (k + 1) = (out ++ [[]]).set b (ys ++ [s])
              rw [HST.out, barStep, Int.toNat_natCast]
              rw [if_pos (by omega)]
              exact modify_set HY.out
            have hgr : wn.grownBy w4 u.ownBlock := ⟨hg4.os, hg4.tape, hg4.output, by have := hg4.size; simp at this; omega, fun i hi hne => (hg4.block i (by simp; omega) hne).trans (Below.heap_alloc wn _ i hi)⟩
            have hst1 : Strs2 wn w2.heap.size (.slice (some ⟨og, ooff, none⟩) (out ++ [[]]).length c1) (vs ++ [Value.slice none 0 0]) (out ++ [[]]) := by rw [hol2]; exact HS2'.out
            have hst2 := hst1.put HU.out HY.out hr4 hgr (fun g hg => (hw4 g hg).imp id (fun h => by simp at h; omega))
            have hbe2 := (HIU.out.belowG hgr (by omega))
            have HNEW : Hid (BarInv w2 bus n.nodes (k + 1) (.slice (some ⟨og, ooff, none⟩) (out.length + 1) c1) ((vs ++ [Value.slice none 0 0]).set b (.slice A4 (ys.length + 1) c4)) (w4.setCell ⟨og, ooff + b, none⟩ (.slice A4 (ys.length + 1) c4))) := by
              refine ⟨?_, (HBE2.out.trans hbe2).setCell (by simpa using hog) _, ?_, ?_⟩
              · rw [hnv.out]; have := hst2; simpa using this
              · have h1 := HL1.out; have h2 := HM1.out; omega
              · rw [hnv.out]
                intro zs hzs
                rcases List.mem_or_eq_of_mem_set hzs with h | h
                · have := HEACH2.out zs h; omega
                · subst h; have := HEACH2.out ys (List.mem_of_getElem? HY.out); simp; omega
            clear hst1 hst2 hbe2 hgr hr4 hg4 hw4
            go_wp2
            go_roundg (bus.length - (k + 1))
            case measure => omega
            case rel => exact ⟨k + 1, _, rfl, by go_num, by omega, HNEW.out⟩
        · have ht : ((b : Int) == (out.length : Int)) = false := beq_eq_false_iff_ne.2 (by omega)
          have HS2 := HSTR
          have HEACH2 := HEACH
          have HBE2 := HBE
          have x0' := x0
          have hn' := hnw
          obtain ⟨oA, oc0, rfl⟩ := HSTR.out.outer.val
          go_wp2
          obtain ⟨og, ooff, ocap, ocur, hov, hog, hoh, _⟩ := HS2.out.outer.form (by first | omega | (simp; done) | (simp; omega))
          have hol2 : out.length = out.length := by simp
          have HS2' := HS2
          rw [hol2] at hov
          injection hov with hov1 _ hov2
          subst hov1 hov2
          have hbl2 : b < out.length := by first | omega | (simp; done) | (simp; omega)
          obtain ⟨ys, hys⟩ : ∃ ys, out[b]? = some ys := ⟨_, List.getElem?_eq_getElem hbl2⟩
          have hvl := HS2.out.len
          obtain ⟨u, hu⟩ : ∃ u, vs[b]? = some u := ⟨_, List.getElem?_eq_getElem (by rw [hvl]; exact hbl2)⟩
          have hoo := HS2.out.outer
          rw [hol2] at hoo
          have oc := hoo.cell_at hu
          have ofz := hoo.frozen_at (ooff + b)
          have hiu := HS2.out.inner b u ys hu hys
          have hyl : ys.length ≤ 24 := by have := HEACH2.out ys (List.mem_of_getElem? hys); omega
          have H0 := Lib.hid (bar_hold oc ofz x0' hn')
          have hold1 : oldCell wa.drew ⟨og, ooff + b, none⟩ = u := by unfold oldCell; rw [show wa.drew.cell? ⟨og, ooff + b, none⟩ = some u from oc]; rfl
          have H1 := Lib.hid (bar_hold (w := wa.drew) oc ofz x0' hn')
          have al : ∀ {g o : Nat} {z : Value}, wa.cell? ⟨g, o, none⟩ = some z → (wa.alloc (.cells #[.string s] 9)).drew.cell? ⟨g, o, none⟩ = some z := fun hc => (World.cell?_alloc_lt wa _ _ (World.block_lt_of_cell? wa _ hc)).trans hc
          have HFZ := Lib.hid (show (wa.alloc (.cells #[.string s] 9)).drew.frozen? ⟨og, ooff + b, none⟩ = false from (hoh.alloc (.cells #[.string s] 9)).frozen (ooff + b))
          have H2 := Lib.hid (bar_hold (w := (wa.alloc (.cells #[.string s] 9)).drew) (al oc) HFZ.out (al x0') (al hn'))
          have HAC := Lib.hid (show (wa.alloc (.cells #[.string s] 9)).drew.cell? ⟨og, ooff + b, none⟩ = some u ∧ (wa.alloc (.cells #[.string s] 9)).drew.cell? ⟨w.heap.size, 0, none⟩ = some (.slice (some ⟨ng, noff, none⟩) n.nodes.length v.nc) ∧ (wa.alloc (.cells #[.string s] 9)).drew.cell? ⟨ng, noff + k, none⟩ = some (.string s) from ⟨al oc, al x0', al hn'⟩)
          have hold2 : oldCell (wa.alloc (.cells #[.string s] 9)).drew ⟨og, ooff + b, none⟩ = u := by unfold oldCell; rw [HAC.out.1]; rfl
          have hoglt := hoh.lt
          have HIU := Lib.hid hiu
          have HU := Lib.hid hu
          have HY := Lib.hid hys
          have HOB := Lib.hid (hoh.alloc (.cells #[.string s] 9)).drew
          obtain ⟨i0, hi0, hz0, hz1', hz2'⟩ := info_parts Try.info9
          have HI0 := Lib.hid hi0
          have HZ0 := Lib.hid hz0
          have HZ1 := Lib.hid hz1'
          have HZ2 := Lib.hid hz2'
          have hb1' : (b : Int) < ((out.length : Nat) : Int) := by omega
          have hb2' : (b : Int) < (out.length : Int) + 1 := by omega
          have hWw : w.heap.size < wa.heap.size := World.block_lt_of_cell? _ _ x0'
          clear hiu hu hys hoh hoo hi0 hz0 hz1' hz2' hvl al
          go_region_law ((refine step_append_rowF (by rfl) _ _ 40 (by rfl) w2.heap.size 9 i0 _ 1 16 Try.underlying40 HI0.out HZ0.out HZ1.out HZ2.out rfl (by decide) u ys.length (ys.map S) (by kernel_rfl) (HIU.out.alloc _).drew ⟨wa.heap.size, 0, none⟩ 1 1 [.string s] (by kernel_rfl) ((reads_oneD wa 9 _).more (by simp)) (by decide) (by simp [Value.oneCell']) (by unfold maxLen; omega) (by omega) (by simp; omega) ?_; intro v' w4 hr4 hg4 hw4; obtain ⟨A4, c4, rfl⟩ := hr4.val; have hc4 : w4.cell? ⟨og, ooff + b, none⟩ = some u := ((HIU.out.alloc (.cells #[.string s] 9)).drew.cell_far_blk HOB.out (by decide) hg4 HAC.out.1); have hf4 : w4.frozen? ⟨og, ooff + b, none⟩ = false := (grown_frozen hg4 HOB.out ((HIU.out.alloc (.cells #[.string s] 9)).drew.ne_blk HOB.out (by decide)) (ooff + b))))
          all_goals
            have hnv : Hid (barsFrom bus n.nodes (k + 1) = out.set b (ys ++ [s])) := by
              show barsFrom bus n.nodes (k + 1) = out.set b (ys ++ [s])
              rw [HST.out, barStep, Int.toNat_natCast]
              rw [if_neg (by omega)]
              exact modify_set HY.out
            have hgr : wa.grownBy w4 u.ownBlock := ⟨hg4.os, hg4.tape, hg4.output, by have := hg4.size; simp at this; omega, fun i hi hne => (hg4.block i (by simp; omega) hne).trans (Below.heap_alloc wa _ i hi)⟩
            have hst1 : Strs2 wa w2.heap.size (.slice (some ⟨og, ooff, none⟩) out.length oc0) vs out := by rw [hol2]; exact HS2'.out
            have hst2 := hst1.put HU.out HY.out hr4 hgr (fun g hg => (hw4 g hg).imp id (fun h => by simp at h; omega))
            have hbe2 := (HIU.out.belowG hgr (by omega))
            have HNEW : Hid (BarInv w2 bus n.nodes (k + 1) (.slice (some ⟨og, ooff, none⟩) (out.length) oc0) (vs.set b (.slice A4 (ys.length + 1) c4)) (w4.setCell ⟨og, ooff + b, none⟩ (.slice A4 (ys.length + 1) c4))) := by
              refine ⟨?_, (HBE2.out.trans hbe2).setCell (by simpa using hog) _, ?_, ?_⟩
              · rw [hnv.out]; have := hst2; simpa using this
              · have h1 := HL1.out; have h2 := HM1.out; omega
              · rw [hnv.out]
                intro zs hzs
                rcases List.mem_or_eq_of_mem_set hzs with h | h
                · have := HEACH2.out zs h; omega
                · subst h; have := HEACH2.out ys (List.mem_of_getElem? HY.out); simp; omega
            clear hst1 hst2 hbe2 hgr hr4 hg4 hw4
            go_wp2
            go_roundg (bus.length - (k + 1))
            case measure => omega
            case rel => exact ⟨k + 1, _, rfl, by go_num, by omega, HNEW.out⟩
      · obtain rfl : k = bus.length := by omega
        have HROW := Lib.hid hG.strs
        rw [HBL2.out] at HROW
        have HBW := Lib.hid (HB2.out.trans (hG.below.mono HB2.out.size))
        have hw2 : w.heap.size < w2.heap.size := HBX2.out.lt
        clear hG
        go_wp2
        go_ret2
        rw [HD2.out]
        exact ⟨_, vs, rfl, HROW.out.less (by omega), HBW.out⟩
  · have t1 : (er == 0) = false := beq_eq_false_iff_ne.2 h0
    have t2 : (er != 0) = true := by rw [bne_iff_ne]; exact h0
    have HX := Lib.hid (show busbarsE n = ([], er) by rw [HD.out, if_neg h0])
    clear h0
    go_wp2
    go_ret2
    rw [HX.out]
    exact ⟨_, [], rfl, Strs2.nil _ _, HB1.out⟩
end Go.Proofs.Ytphiiflcpeploaa
