/- slices.Equal and slices.ContainsFunc at the lists of rating.Left. -/
import Derived.Test.YtfigffaghaaaoaaGreatDoorRX2
import Derived.Deep.LoopGhost
namespace Go.Proofs.YtfigffaghaaaoaaGreatDoor
open Go.RowKit

theorem lf_reads {w : World} {B n : Nat} {A : Option Addr} {l : List (ByteArray × Int)} (h : Reads w B 2 A n (cellsBy lfC l)) {k : Nat} (hk : k < l.length) : ∃ b off, A = some ⟨b, off, none⟩ ∧ b < B ∧ w.cell? ⟨b, off + k * 2, none⟩ = some (.string l[k].1) ∧ w.cell? ⟨b, off + k * 2 + 1, none⟩ = some (I l[k].2) := by
  obtain ⟨b, off, e, hb, hc⟩ := reads_by (f := lfC) (sz := 2) (fun _ => rfl) (by decide) h hk
  exact ⟨b, off, e, hb, hc 0 _ rfl, by rw [Nat.add_assoc]; exact hc 1 _ rfl⟩
theorem lf_len {w : World} {B n : Nat} {A : Option Addr} {l : List (ByteArray × Int)} (h : Reads w B 2 A n (cellsBy lfC l)) : l.length = n := by
  have h1 := h.1
  rw [cellsBy_len (f := lfC) (sz := 2) (fun _ => rfl)] at h1
  omega
theorem lf_ne {x1 y1 : ByteArray} {x2 y2 : Int} (h : ¬ (x1 = y1 ∧ x2 = y2)) : ¬ (x1.toList = y1.toList ∧ x2 = y2) := fun k => h ⟨(Lib.bytes_beq_iff x1 y1).1 (by rw [k.1]; exact beq_self_eq_true _), k.2⟩
set_option maxRecDepth 100000 in
set_option maxHeartbeats 4000000 in
theorem equalL_any (xs ys : List (ByteArray × Int)) (n m : Nat) (A B : Option Addr) (c d : Nat) (w : World) (K L : Nat) (hx : Reads w K 2 A n (cellsBy lfC xs)) (hy : Reads w L 2 B m (cellsBy lfC ys)) (hn : n ≤ 1000000) (hm : m ≤ 1000000) :
    Calls Tryz.prog 14 #[.slice A n c, .slice B m d] w fun e w' => e = .returned (.bool (decide (xs = ys))) ∧ Below w.heap.size w w' := by
  have hxl := lf_len hx
  have hyl := lf_len hy
  by_cases hl : n = m
  · subst hl
    have tn : ((n : Int) != n) = false := bne_self_eq_false _
    have HX := Lib.hid hx
    have HY := Lib.hid hy
    have HXL := Lib.hid hxl
    have HYL := Lib.hid hyl
    have HB0 := Lib.hid (Below.refl w.heap.size w)
    clear hx hy hxl hyl
    go_enter Tryz.func14, Tryz.ntmps14
    go_wp2
    go_loopg [13] (n - 0) (fun r v wr => ∃ k : Nat, r = n - k ∧ v = I k ∧ k ≤ n ∧ Hid (decide (xs = ys) = decide (xs.drop k = ys.drop k)) ∧ Hid (Reads wr K 2 A n (cellsBy lfC xs)) ∧ Hid (Reads wr L 2 B n (cellsBy lfC ys)) ∧ Hid (Below w.heap.size w wr))
    case atStart => exact ⟨0, rfl, rfl, by omega, rfl, HX, HY, HB0⟩
    case round =>
      clear HX HY HB0
      obtain ⟨k, rfl, rfl, hk, HO, HX, HY, HB⟩ := hrel
      obtain ⟨wa, rfl⟩ : ∃ wa : World, wa = wr := ⟨_, rfl⟩
      by_cases hlt : k < n
      · have l1 : k < xs.length := by rw [HXL.out]; exact hlt
        have l2 : k < ys.length := by rw [HYL.out]; exact hlt
        obtain ⟨b1, o1, rfl, _, c0, c1⟩ := lf_reads HX.out l1
        obtain ⟨b2, o2, rfl, _, d0, d1⟩ := lf_reads HY.out l2
        have HO2 := Lib.hid (show decide (xs = ys) = (decide (xs[k] = ys[k]) && decide (xs.drop (k + 1) = ys.drop (k + 1))) by
          rw [HO.out, List.drop_eq_getElem_cons l1, List.drop_eq_getElem_cons l2, Bool.eq_iff_iff]
          simp only [List.cons.injEq, Bool.and_eq_true, decide_eq_true_eq])
        generalize xs[k] = x at *
        generalize ys[k] = y at *
        obtain ⟨x1, x2⟩ := x
        obtain ⟨y1, y2⟩ := y
        simp only at c0 c1 d0 d1
        have C0 := Lib.hid c0
        have C1 := Lib.hid c1
        have D0 := Lib.hid d0
        have D1 := Lib.hid d1
        clear c0 c1 d0 d1
        go_upto_region 6 with (fail)
        have hd := below_draw wa
        replace HB := Lib.hid (HB.out.trans (hd.mono HB.out.size))
        replace HX := Lib.hid HX.out.drew
        replace HY := Lib.hid HY.out.drew
        replace C0 := Lib.hid (cell_below C0.out hd)
        replace C1 := Lib.hid (cell_below C1.out hd)
        replace D0 := Lib.hid (cell_below D0.out hd)
        replace D1 := Lib.hid (cell_below D1.out hd)
        clear hd
        refine wp_region_c (fun w' => w'.cell? ⟨b1, o1 + k * 2, none⟩ = some (.string x1) ∧ w'.cell? ⟨b1, o1 + k * 2 + 1, none⟩ = some (I x2) ∧ w'.cell? ⟨b2, o2 + k * 2, none⟩ = some (.string y1) ∧ w'.cell? ⟨b2, o2 + k * 2 + 1, none⟩ = some (I y2)) 8 (by kernel_rfl) ?_
        generalize wa.drew = W at *
        refine wpAnyC_take8 (i := 0) (oi := _) (v := .slice (some ⟨b1, o1, none⟩) n c) rfl (by kernel_rfl) (by kernel_rfl) (by kernel_rfl) (by kernel_rfl) (by kernel_rfl) (by kernel_rfl) (fun _ _ _ h => h) (Or.inl ⟨by rfl, ?_⟩) ⟨C0.out, C1.out, D0.out, D1.out⟩ ?_
        · intro w hSw
          obtain ⟨s0, s1, s2, s3⟩ := hSw
          go_simp
        try simp only [Act.put, List.setIfInBounds_toArray]
        refine wpAnyC_take8 (i := 1) (oi := _) (v := I k) rfl (by kernel_rfl) (by kernel_rfl) (by kernel_rfl) (by kernel_rfl) (by kernel_rfl) (by kernel_rfl) (fun _ _ _ h => h) (Or.inl ⟨by rfl, ?_⟩) ⟨C0.out, C1.out, D0.out, D1.out⟩ ?_
        · intro w hSw
          obtain ⟨s0, s1, s2, s3⟩ := hSw
          go_simp
        try simp only [Act.put]
        refine wpAnyC_take8 (i := 2) (oi := _) (v := .pointer (some ⟨b1, o1 + k * 2, none⟩)) rfl (by kernel_rfl) (by kernel_rfl) (by kernel_rfl) (by kernel_rfl) (by kernel_rfl) (by kernel_rfl) (fun _ _ _ h => h) (Or.inl ⟨by rfl, ?_⟩) ⟨C0.out, C1.out, D0.out, D1.out⟩ ?_
        · intro w hSw
          obtain ⟨s0, s1, s2, s3⟩ := hSw
          go_simp
        try simp only [Act.put]
        refine wpAnyC_take8 (i := 3) (oi := _) (v := .agg #[.string x1, I x2]) rfl (by kernel_rfl) (by kernel_rfl) (by kernel_rfl) (by kernel_rfl) (by kernel_rfl) (by kernel_rfl) (fun _ _ _ h => h) (Or.inl ⟨by rfl, ?_⟩) ⟨C0.out, C1.out, D0.out, D1.out⟩ ?_
        · intro w hSw
          obtain ⟨s0, s1, s2, s3⟩ := hSw
          go_simp
        try simp only [Act.put]
        refine wpAnyC_take8 (i := 4) (oi := _) (v := .slice (some ⟨b2, o2, none⟩) n d) rfl (by kernel_rfl) (by kernel_rfl) (by kernel_rfl) (by kernel_rfl) (by kernel_rfl) (by kernel_rfl) (fun _ _ _ h => h) (Or.inl ⟨by rfl, ?_⟩) ⟨C0.out, C1.out, D0.out, D1.out⟩ ?_
        · intro w hSw
          obtain ⟨s0, s1, s2, s3⟩ := hSw
          go_simp
        try simp only [Act.put]
        refine wpAnyC_take8 (i := 5) (oi := _) (v := I k) rfl (by kernel_rfl) (by kernel_rfl) (by kernel_rfl) (by kernel_rfl) (by kernel_rfl) (by kernel_rfl) (fun _ _ _ h => h) (Or.inl ⟨by rfl, ?_⟩) ⟨C0.out, C1.out, D0.out, D1.out⟩ ?_
        · intro w hSw
          obtain ⟨s0, s1, s2, s3⟩ := hSw
          go_simp
        try simp only [Act.put]
        refine wpAnyC_take8 (i := 6) (oi := _) (v := .pointer (some ⟨b2, o2 + k * 2, none⟩)) rfl (by kernel_rfl) (by kernel_rfl) (by kernel_rfl) (by kernel_rfl) (by kernel_rfl) (by kernel_rfl) (fun _ _ _ h => h) (Or.inl ⟨by rfl, ?_⟩) ⟨C0.out, C1.out, D0.out, D1.out⟩ ?_
        · intro w hSw
          obtain ⟨s0, s1, s2, s3⟩ := hSw
          go_simp
        try simp only [Act.put]
        refine wpAnyC_take8 (i := 7) (oi := _) (v := .agg #[.string y1, I y2]) rfl (by kernel_rfl) (by kernel_rfl) (by kernel_rfl) (by kernel_rfl) (by kernel_rfl) (by kernel_rfl) (fun _ _ _ h => h) (Or.inl ⟨by rfl, ?_⟩) ⟨C0.out, C1.out, D0.out, D1.out⟩ ?_
        · intro w hSw
          obtain ⟨s0, s1, s2, s3⟩ := hSw
          go_simp
        try simp only [Act.put]
        clear C0 C1 D0 D1
        by_cases he : x1 = y1 ∧ x2 = y2
        · obtain ⟨rfl, rfl⟩ := he
          have HN := Lib.hid (show decide (xs = ys) = decide (xs.drop (k + 1) = ys.drop (k + 1)) by rw [HO2.out]; simp)
          clear HO2 HO
          refine wpAnyC_one (i := 8) (by kernel_rfl) rfl (fun K hK => ?_)
          go_simp
          refine hK.out _ _ (fun h => absurd h (by decide)) ?_
          clear hK K
          try simp only [Act.put, List.setIfInBounds_toArray, List.set_cons_zero, List.set_cons_succ]
          refine wpAnyC_done (by kernel_rfl) ?_ _
          go_wp2
          go_roundg (n - (k + 1))
          case measure => omega
          case rel => exact ⟨k + 1, rfl, by go_num, by omega, HN, HX, HY, HB⟩
        · have HN := Lib.hid (show decide (xs = ys) = false by rw [HO2.out, Bool.and_eq_false_iff]; exact .inl (decide_eq_false (by simpa using he)))
          have he2 := lf_ne he
          clear HO2 HO he
          refine wpAnyC_one (i := 8) (by kernel_rfl) rfl (fun K hK => ?_)
          go_simp
          by_cases e1 : x1.toList = y1.toList
          · have e2 : ¬ x2 = y2 := fun k => he2 ⟨e1, k⟩
            rw [if_pos e1, if_neg e2]
            clear e1 e2 he2
            refine hK.out _ _ (fun h => absurd h (by decide)) ?_
            clear hK K
            try simp only [Act.put, List.setIfInBounds_toArray, List.set_cons_zero, List.set_cons_succ]
            refine wpAnyC_done (by kernel_rfl) ?_ _
            go_wp2
            go_ret
            rw [HN.out]
            exact ⟨rfl, HB.out⟩
          · skip
            rw [if_neg e1]
            clear e1 he2
            refine hK.out _ _ (fun h => absurd h (by decide)) ?_
            clear hK K
            try simp only [Act.put, List.setIfInBounds_toArray, List.set_cons_zero, List.set_cons_succ]
            refine wpAnyC_done (by kernel_rfl) ?_ _
            go_wp2
            go_ret
            rw [HN.out]
            exact ⟨rfl, HB.out⟩
      · have HN := Lib.hid (show decide (xs = ys) = true by rw [HO.out, List.drop_of_length_le (by rw [HXL.out]; omega), List.drop_of_length_le (by rw [HYL.out]; omega)]; rfl)
        clear HO
        go_wp2
        go_ret
        rw [HN.out]
        exact ⟨rfl, HB.out⟩
  · have hne : xs ≠ ys := fun e => hl (by rw [← hxl, ← hyl, e])
    have tn : ((n : Int) != (m : Int)) = true := bne_iff_ne.2 (by omega)
    have HN := Lib.hid (show decide (xs = ys) = false from decide_eq_false hne)
    clear hx hy hxl hyl hne
    go_enter Tryz.func14, Tryz.ntmps14
    go_wp2
    go_ret
    rw [HN.out]
    exact ⟨rfl, Below.refl _ _⟩
set_option maxRecDepth 100000 in
set_option maxHeartbeats 400000 in
theorem lfne_any (s : ByteArray) (w : World) : Calls Tryz.prog 19 #[.agg #[.string s, I (-1)]] w fun e w' => e = .returned (.bool false) ∧ Below w.heap.size w w' := by
  have hz := below_new w (Obj.cells #[.string s, I (-1)] 43)
  have HB := Lib.hid hz
  have x1 := (Blk.new w 43 #[.string s, I (-1)]).cell 1
  change _ = some (I (-1)) at x1
  clear hz
  go_enter Tryz.func19, Tryz.ntmps19
  go_wp2
  go_ret
  exact ⟨rfl, HB.out⟩
/-- in a list of -1 nothing is found -/
theorem idxlf_any (l : List (ByteArray × Int)) (hall : ∀ x ∈ l, x.2 = -1) (n : Nat) (A : Option Addr) (c : Nat) (w : World) (hr : Reads w w.heap.size 2 A n (cellsBy lfC l)) (hn : n ≤ 1000000) :
    Calls Tryz.prog 33 #[.slice A n c, .func (.func 19) #[] #[]] w fun e w' => e = .returned (I (-1)) ∧ Below w.heap.size w w' := by
  have HL := Lib.hid (lf_len hr)
  have HA := Lib.hid hall
  have HR := Lib.hid hr
  have HB0 := Lib.hid (Below.refl w.heap.size w)
  clear hr hall
  go_enter Tryz.func33, Tryz.ntmps33
  go_wp2
  go_loopg [8] (n - 0) (fun r v wr => ∃ k : Nat, r = n - k ∧ v = I k ∧ k ≤ n ∧ Hid (Below w.heap.size w wr))
  case atStart => exact ⟨0, rfl, rfl, by omega, HB0⟩
  case round =>
    clear HB0
    obtain ⟨k, rfl, rfl, hk, HB⟩ := hrel
    obtain ⟨wa, rfl⟩ : ∃ wa : World, wa = wr := ⟨_, rfl⟩
    by_cases hlt : k < n
    · have l1 : k < l.length := by rw [HL.out]; exact hlt
      obtain ⟨b1, o1, rfl, _, c0, c1⟩ := lf_reads (HR.out.below HB.out) l1
      rw [HA.out _ (List.getElem_mem l1)] at c1
      generalize l[k].1 = s at *
      have HC := Lib.hid (lfne_any s wa)
      clear l1
      go_wp2_with fail
      refine HC.out.mono ?_
      rintro e wb ⟨rfl, hb⟩
      clear HC c0 c1
      replace HB := Lib.hid (HB.out.trans (hb.mono HB.out.size))
      clear hb
      go_wp2
      go_roundg (n - (k + 1))
      case measure => omega
      case rel => exact ⟨k + 1, rfl, by go_num, by omega, HB⟩
    · go_wp2
      go_ret
      exact ⟨rfl, HB.out⟩
set_option maxRecDepth 100000 in
set_option maxHeartbeats 400000 in
theorem hasLf_any (l : List (ByteArray × Int)) (hall : ∀ x ∈ l, x.2 = -1) (n : Nat) (A : Option Addr) (c : Nat) (w : World) (hr : Reads w w.heap.size 2 A n (cellsBy lfC l)) (hn : n ≤ 1000000) :
    Calls Tryz.prog 18 #[.slice A n c, .func (.func 19) #[] #[]] w fun e w' => e = .returned (.bool false) ∧ Below w.heap.size w w' := by
  have HX := Lib.hid (idxlf_any l hall n A c w hr hn)
  clear hr hall
  go_enter Tryz.func18, Tryz.ntmps18
  go_wp2_with fail
  refine HX.out.mono ?_
  rintro e w1 ⟨rfl, hb⟩
  have HB := Lib.hid hb
  clear HX hb
  go_wp2
  go_ret
  exact ⟨rfl, HB.out⟩
end Go.Proofs.YtfigffaghaaaoaaGreatDoor
