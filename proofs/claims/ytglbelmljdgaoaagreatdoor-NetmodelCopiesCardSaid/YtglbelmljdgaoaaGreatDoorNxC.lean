/- nettext.Print. -/
import Derived.Test.YtglbelmljdgaoaaGreatDoorNxB
namespace Go.Proofs.YtglbelmljdgaoaaGreatDoor
open Go.RowKit

theorem bs_app (a b : ByteArray) : bs (a ++ b) = bs a ++ bs b := by simp 
theorem size_app (a b : ByteArray) : (a ++ b).size = a.size + b.size := ByteArray.size_append
theorem line_size {ws : List Wd} (hf : ∀ w ∈ ws, w.fine) (hl : ws.length ≤ 10) : (lineT ws).size ≤ 11000 := by
  rw [bs_size, lineT, lineW, bs_ba]
  have h1 := join_le (l := (ws.map Wd.txt).map bs) (sep := [32]) (fun y hy => by
    obtain ⟨z, hz, rfl⟩ := List.mem_map.1 hy
    obtain ⟨x, hx, rfl⟩ := List.mem_map.1 hz
    exact Wd.txt_len (hf x hx)) (by decide)
  rw [List.length_map, List.length_map] at h1
  omega
theorem lines_size {n : NetD} (h : NOk n) : ∀ x ∈ linesN n, x.size ≤ 11000 := by
  intro x hx
  simp only [linesN, List.mem_append, List.mem_map] at hx
  rcases hx with ⟨s, hs, rfl⟩ | ⟨s, hs, rfl⟩ | ⟨s, hs, rfl⟩ | ⟨s, hs, rfl⟩ | ⟨s, hs, rfl⟩ | ⟨s, hs, rfl⟩
  · exact line_size (nodeW_fine (h.no s hs)) (by simp [nodeW])
  · exact line_size (switchW_fine (h.sw s hs)) (by simp [switchW])
  · exact line_size (branchW_fine (h.br s hs)) (by simp [branchW])
  · exact line_size (genW_fine (h.ge s hs)) (by simp [genW])
  · exact line_size (loadW_fine (h.lo s hs)) (by simp [loadW])
  · exact line_size (storeW_fine (h.st s hs)) (by simp [storeW])
theorem lines_len {n : NetD} (h : VNet n) : (linesN n).length ≤ 106 := by
  have h1 := h.hn; have h2 := h.hw; have h3 := h.hb; have h4 := h.hg; have h5 := h.hl; have h6 := h.hs
  simp only [linesN, List.length_append, List.length_map]
  omega
/-- what nettext.Print returns -/
def RetPr (w : World) (r : ByteArray × Int) (e : Ending) (w' : World) : Prop := e = .returned (.tuple #[.string r.1, I r.2]) ∧ Below w.heap.size w w'
/-- the text so far -/
def textK (ls : List ByteArray) (k : Nat) : ByteArray := ba (textL (ls.take k))
theorem textK_zero (ls : List ByteArray) : textK ls 0 = ⟨#[]⟩ := by rw [textK, List.take_zero]; rfl
theorem textK_succ {ls : List ByteArray} {k : Nat} {x : ByteArray} (h : ls[k]? = some x) : textK ls k ++ (x ++ ⟨#[10]⟩) = textK ls (k + 1) := by
  refine bs_inj ?_
  rw [bs_app, bs_app, textK, textK, bs_ba, bs_ba, List.take_add_one, h]
  simp [textL]
theorem textK_size {ls : List ByteArray} (h : ∀ x ∈ ls, x.size ≤ 11000) (k : Nat) : (textK ls k).size ≤ k * 11001 := by
  induction k with
  | zero => rw [textK_zero]; decide
  | succ k ih =>
    cases e : ls[k]? with
    | none =>
      have e2 : textK ls (k + 1) = textK ls k := by rw [textK, textK, List.take_add_one, e]; simp
      rw [e2]; exact Nat.le_trans ih (Nat.mul_le_mul_right _ (Nat.le_succ k))
    | some x =>
      have hx := h x (List.mem_of_getElem? e)
      rw [← textK_succ e, size_app, size_app]
      have e3 : (⟨#[10]⟩ : ByteArray).size = 1 := rfl
      rw [Nat.succ_mul]
      omega
set_option maxRecDepth 100000 in
set_option maxHeartbeats 4000000 in
theorem print_any (n : NetD) (v : NetV) (w : World) (hN : Net w n v) (htab : Tab w) : Calls Tryz.prog 14 #[v.val n] w (RetPr w (printN n)) := by
  have hb0 : Below w.heap.size w (w.alloc (Obj.cells (v.parts n) 29)) := (Below.refl _ w).alloc (Nat.le_refl _) _
  have HC := Lib.hid (netCheck_any n v _ (hN.below hb0))
  have HN := Lib.hid (hN.below hb0)
  have HB := Lib.hid hb0
  have HBX := Lib.hid (Blk.new w 29 (v.parts n))
  have HTB := Lib.hid htab
  clear hN htab hb0
  have hw := HBX.out.lt
  have x0 := HBX.out.cell 0
  have x1 := HBX.out.cell 1
  have x2 := HBX.out.cell 2
  have x3 := HBX.out.cell 3
  have x4 := HBX.out.cell 4
  have x5 := HBX.out.cell 5
  unfold NetV.val NetV.parts at *
  go_enter Tryz.func14, Tryz.ntmps14
  go_wp2_with fail
  refine HC.out.mono ?_
  rintro e w1 ⟨rfl, hb⟩
  clear HC x0 x1 x2 x3 x4 x5
  replace HN := Lib.hid (HN.out.below hb)
  replace HBX := Lib.hid (HBX.out.below hb HBX.out.lt)
  replace HB := Lib.hid (HB.out.trans (hb.mono HB.out.size))
  clear hb hw
  by_cases h0 : checkN n = 0
  · have HL := Lib.hid (lines_any n v w1 HN.out.net h0 (tab_below HTB.out HB.out))
    have HLS := Lib.hid (lines_size (nok h0))
    have hll := lines_len (vnet h0)
    have HP := Lib.hid (show printN n = if 8192 < (textN n).size then (⟨#[]⟩, 2) else (textN n, 0) by rw [printN, if_neg (fun k => k h0)])
    unfold NetV.val NetV.parts at HL
    rw [h0]
    clear h0
    have hw := HBX.out.lt
    have x0 := HBX.out.cell 0
    have x1 := HBX.out.cell 1
    have x2 := HBX.out.cell 2
    have x3 := HBX.out.cell 3
    have x4 := HBX.out.cell 4
    have x5 := HBX.out.cell 5
    go_wp2_with fail
    refine HL.out.mono ?_
    rintro e w2 ⟨v2, rfl, hr, hb⟩
    clear HL x0 x1 x2 x3 x4 x5 hw
    have HLT := Lib.hid (show textN n = textK (linesN n) (linesN n).length by rw [textK, List.take_length]; rfl)
    rw [HLT.out] at HP
    generalize linesN n = ls at *
    obtain ⟨m, hm⟩ : ∃ m, ls.length = m := ⟨_, rfl⟩
    rw [hm] at hr hll HP
    have HM := Lib.hid hm
    obtain ⟨A2, c2, rfl⟩ : ∃ A2 c2, v2 = .slice A2 m c2 := hr.val
    have HR := Lib.hid (show Reads w2 w2.heap.size 1 A2 m (ls.map S) from hr.reads)
    replace HB := Lib.hid (HB.out.trans (hb.mono HB.out.size))
    clear hr hb hm
    have HT0 := Lib.hid (textK_zero ls)
    go_wp2
    go_loopg [5, 16] (m - 0) (fun r o u wr => ∃ k : Nat, r = m - k ∧ o = .string (textK ls k) ∧ u = I k ∧ k ≤ m ∧ w2 = wr)
    case atStart => exact ⟨0, rfl, by rw [HT0.out], rfl, by omega, rfl⟩
    case round =>
      obtain ⟨k, rfl, rfl, rfl, hk, rfl⟩ := hrel
      by_cases hlt : k < m
      · obtain ⟨b, off, u, rfl, _, hu, hc⟩ := HR.out.at1 hlt
        obtain ⟨x, hx⟩ : ∃ x, ls[k]? = some x := ⟨_, List.getElem?_eq_getElem (by rw [HM.out]; exact hlt)⟩
        obtain rfl : u = S x := by rw [List.getElem?_map, hx] at hu; simpa using hu.symm
        have hxs := HLS.out x (List.mem_of_getElem? hx)
        have HT := Lib.hid (textK_succ hx)
        have htk := textK_size HLS.out k
        clear hu hx
        have e3 : (⟨#[10]⟩ : ByteArray).size = 1 := rfl
        have q1 := run_string_add_sum (P := Tryz.prog) w2 x ⟨#[10]⟩ (by omega)
        have q2 := run_string_add_sum (P := Tryz.prog) w2 (textK ls k) (x ++ ⟨#[10]⟩) (by rw [size_app]; omega)
        rw [HT.out] at q2
        clear htk hxs
        go_wp2
        go_roundg (m - (k + 1))
        case measure => omega
        case rel => exact ⟨k + 1, rfl, rfl, by go_num, by omega, rfl⟩
      · have hkm : k = m := by omega
        subst hkm
        generalize textK ls k = t at *
        by_cases h8 : 8192 < t.size
        · have HP2 := Lib.hid (HP.out.trans (if_pos h8))
          have h8i : (8192 : Int) < t.size := by omega
          clear HP
          go_wp2
          go_ret2
          rw [HP2.out]
          exact ⟨rfl, HB.out⟩
        · have HP2 := Lib.hid (HP.out.trans (if_neg h8))
          have h8i : ¬ (8192 : Int) < t.size := by omega
          clear HP
          go_wp2
          go_ret2
          rw [HP2.out]
          exact ⟨rfl, HB.out⟩
  · have tc : (checkN n != 0) = true := bne_iff_ne.2 h0
    have HP := Lib.hid (show printN n = (⟨#[]⟩, checkN n) by rw [printN, if_pos h0])
    clear h0
    generalize checkN n = cc at *
    go_wp2
    go_ret2
    rw [HP.out]
    exact ⟨rfl, HB.out⟩
end Go.Proofs.YtglbelmljdgaoaaGreatDoor
