/- TopologyNumbers: the plain law and the walk. -/
import Derived.Test.YtphiiflcpeploaaTFact
namespace Go.Proofs.Ytphiiflcpeploaa
open Go.RowKit

theorem fold_ge : ∀ (l : List Int) (m : Int), m ≤ l.foldl (fun m b => max m (b + 1)) m ∧ ∀ x ∈ l, x + 1 ≤ l.foldl (fun m b => max m (b + 1)) m
  | [], m => ⟨Int.le_refl _, by simp⟩
  | y :: l, m => by
    obtain ⟨h1, h2⟩ := fold_ge l (max m (y + 1))
    refine ⟨?_, fun x hx => ?_⟩
    · show m ≤ l.foldl (fun m b => max m (b + 1)) (max m (y + 1)); omega
    · show x + 1 ≤ l.foldl (fun m b => max m (b + 1)) (max m (y + 1))
      rcases List.mem_cons.1 hx with rfl | hx
      · omega
      · exact h2 x hx
theorem many_ge {l : List Int} {x : Int} (h : x ∈ l) : x + 1 ≤ manyL l := (fold_ge l 0).2 x h
theorem many_nonneg (l : List Int) : 0 ≤ manyL l := (fold_ge l 0).1
theorem first_order {n : Nat} {l : List (Int × Int)} (hv : Valid n l) {k : Nat} (hk : k < n) : 0 ≤ at_ (parts n l (-1)) k ∧ at_ (parts n l (-1)) k ≤ manyL ((parts n l (-1)).take k) := by
  obtain ⟨m, hm⟩ := parts_num (wo := -1) hv
  refine ⟨hm.low k (by omega) (by omega), ?_⟩
  rcases Int.lt_or_le (manyL ((parts n l (-1)).take k)) (at_ (parts n l (-1)) k) with h | h
  · obtain ⟨u, u0, u1, u2⟩ := hm.rg k (by omega) (by omega) _ (many_nonneg _) h
    have hmem : at_ (parts n l (-1)) u ∈ (parts n l (-1)).take k := by
      have hl := parts_len n l (-1)
      have : u.toNat < ((parts n l (-1)).take k).length := by rw [List.length_take]; omega
      have hg : ((parts n l (-1)).take k)[u.toNat] = at_ (parts n l (-1)) u := by
        rw [List.getElem_take, at_, List.getD_eq_getElem?_getD, List.getElem?_eq_getElem (by omega)]; rfl
      rw [← hg]
      exact List.getElem_mem this
    have := many_ge hmem
    omega
  · exact h
theorem bus_first {n : NetD} (h : VNet n) {k : Nat} (hk : k < (busesL n).length) : 0 ≤ at_ (busesL n) k ∧ at_ (busesL n) k ≤ manyL ((busesL n).take k) := by
  have hl := buses_len h
  rw [buses_eq h]
  exact first_order (edges_valid h false) (by omega)
theorem at_mem {l : List Int} {v : Int} (h0 : 0 ≤ v) (h1 : v < l.length) : at_ l v ∈ l := by
  have hv : v.toNat < l.length := by omega
  rw [at_, List.getD_eq_getElem?_getD, List.getElem?_eq_getElem hv]
  exact List.getElem_mem hv
theorem branch_valid {n : NetD} (h : VNet n) : Valid (manyL (busesL n)).toNat (branchEdges n) := by
  have hl := buses_len h
  intro x hx
  obtain ⟨b, hb, rfl⟩ := List.mem_map.1 hx
  obtain ⟨ha, hd, _, _⟩ := h.br b hb
  have ia := idx_mem ha
  have ib := idx_mem hd
  have ra := bus_range h _ ia.1 ia.2
  have rb := bus_range h _ ib.1 ib.2
  have ma := many_ge (at_mem (l := busesL n) ia.1 (by omega))
  have mb := many_ge (at_mem (l := busesL n) ib.1 (by omega))
  have := many_nonneg (busesL n)
  simp only
  omega
theorem bus_small {n : NetD} (h : VNet n) : ∀ x ∈ busesL n, 0 ≤ x ∧ x < 24 := by
  intro x hx
  obtain ⟨i, hi, rfl⟩ := List.getElem_of_mem hx
  have hl := buses_len h
  have := bus_range h i (by omega) (by omega)
  have hn := h.hn
  simp only [at_, Int.toNat_natCast, List.getD_eq_getElem?_getD, List.getElem?_eq_getElem hi, Option.getD_some] at this
  omega
theorem isl_eq {n : NetD} (h : VNet n) : islandsL n = parts (manyL (busesL n)).toNat (branchEdges n) (-1) := by
  have hm := many_range (l := busesL n) (N := 24) (by omega) (bus_small h)
  have hb := h.hb
  have hc := chk_of_valid (n := (manyL (busesL n)).toNat) (l := branchEdges n) (by omega) (by simp [branchEdges]; omega) (branch_valid h)
  rw [Int.toNat_of_nonneg hm.1] at hc
  rw [islandsL, guardE, if_pos hc]
theorem isl_len {n : NetD} (h : VNet n) : ((islandsL n).length : Int) = manyL (busesL n) := by
  rw [isl_eq h, parts_len]
  have := many_nonneg (busesL n)
  omega
theorem isl_first {n : NetD} (h : VNet n) {k : Nat} (hk : k < (islandsL n).length) : 0 ≤ at_ (islandsL n) k ∧ at_ (islandsL n) k ≤ manyL ((islandsL n).take k) := by
  rw [isl_eq h] at hk ⊢
  rw [parts_len] at hk
  exact first_order (branch_valid h) hk

theorem isl_small {n : NetD} (h : VNet n) : ∀ x ∈ islandsL n, 0 ≤ x ∧ x < 24 := by
  have hm := many_range (l := busesL n) (N := 24) (by omega) (bus_small h)
  intro x hx
  obtain ⟨i, hi, rfl⟩ := List.getElem_of_mem hx
  have hl := isl_len h
  have hr := parts_range (branch_valid h) i (by omega) (by omega)
  rw [← isl_eq h] at hr
  simp only [at_, Int.toNat_natCast, List.getD_eq_getElem?_getD, List.getElem?_eq_getElem hi, Option.getD_some] at hr
  omega
theorem many_step {l : List Int} {k : Nat} {m : Int} (hk : k < l.length) (h : manyL (l.take k) = m + 1) : manyL (l.take (k + 1)) = max m (l.getD k 0) + 1 := by
  rw [List.take_succ_eq_append_getElem hk, many_snoc, h, List.getD_eq_getElem?_getD, List.getElem?_eq_getElem hk]
  simp only [Option.getD_some]
  omega

set_option maxRecDepth 100000 in
set_option maxHeartbeats 2000000 in
theorem nums_any (n : NetD) (v : NetV) (w : World) (hN : Net w n v) : Calls Try.prog 7 #[v.val n] w fun e w' => e = .returned (.bool true) ∧ Below w.heap.size w w' := by
  have hb0 : Below w.heap.size w (w.alloc (Obj.cells (v.parts n) 47)) := (Below.refl _ w).alloc (Nat.le_refl _) _
  have HN := Lib.hid hN
  have HB0 := Lib.hid hb0
  have HBX := Lib.hid (Blk.new w 47 (v.parts n))
  have HO := Lib.hid (fun w hn => of_any n v w hn)
  have HD := Lib.hid (show ofL n = if checkN n = 0 then ((busesL n, islandsL n), 0) else (([], []), checkN n) from rfl)
  clear hb0 hN
  unfold NetV.val NetV.parts at *
  go_enter Try.func7, Try.ntmps7
  go_wp2_with fail
  refine (topologyFact_any _).mono ?_
  rintro e w1 ⟨rfl, b1⟩
  have HB1 := Lib.hid (HB0.out.trans (b1.mono HB0.out.size))
  have HBX1 := Lib.hid (HBX.out.below b1 HBX.out.lt)
  clear b1 HB0 HBX
  have x0 := HBX1.out.cell 0
  have x1 := HBX1.out.cell 1
  have x2 := HBX1.out.cell 2
  have x3 := HBX1.out.cell 3
  have x4 := HBX1.out.cell 4
  have x5 := HBX1.out.cell 5
  have hl1 : w.heap.size < w1.heap.size := HBX1.out.lt
  go_wp2_with fail
  refine (HO.out w1 (HN.out.below HB1.out)).mono ?_
  by_cases h0 : checkN n = 0
  · rw [HD.out, if_pos h0]
    have HV := Lib.hid (vnet h0)
    clear h0 HD HO x1 x2 x3 x4 x5 x0
    rintro e w2 ⟨bv, iv, rfl, hr1, hr2, hb2⟩
    obtain ⟨bA, bc, rfl⟩ := hr1.val
    obtain ⟨iA, ic, rfl⟩ := hr2.val
    have HBF := Lib.hid (fun k hk => bus_first HV.out (k := k) hk)
    have HBM := Lib.hid (bus_small HV.out)
    have HIF := Lib.hid (fun k hk => isl_first HV.out (k := k) hk)
    have HIM := Lib.hid (isl_small HV.out)
    have hbl := bus_le HV.out
    have hil := isl_le HV.out
    have HLB := Lib.hid (buses_len HV.out)
    have HLI := Lib.hid (isl_len HV.out)
    simp only at hr1 hr2 ⊢
    generalize busesL n = bus at *
    generalize islandsL n = isl at *
    have hal := (Below.refl _ w2).alloc (Nat.le_refl _) (Obj.cells #[Value.slice bA bus.length bc, Value.slice iA isl.length ic] 49)
    have HBR := Lib.hid (hr1.call hal)
    have HIR := Lib.hid (hr2.call hal)
    have HT := Lib.hid (Blk.new w2 49 #[Value.slice bA bus.length bc, Value.slice iA isl.length ic])
    have HB2 := Lib.hid ((HB1.out.trans (hb2.mono HB1.out.size)).trans (hal.mono (Nat.le_trans HB1.out.size hb2.size)))
    have HX2 := Lib.hid ((HBX1.out.below hb2 HBX1.out.lt).below hal (Nat.lt_of_lt_of_le HBX1.out.lt hb2.size))
    clear hr1 hr2 hb2 HBX1 HV
    go_wp2
    generalize w2.alloc (Obj.cells #[Value.slice bA bus.length bc, Value.slice iA isl.length ic] 49) = W at *
    clear hal
    have t0 := HT.out.cell 0
    have t1 := HT.out.cell 1
    have x0 : W.cell? ⟨w.heap.size, 0, none⟩ = some (.slice v.na n.nodes.length v.nc) := HX2.out.cell 0
    have hl2 : w2.heap.size < W.heap.size := HT.out.lt
    have hl3 : w.heap.size < W.heap.size := HX2.out.lt
    go_loopg [5, 30] (bus.length - 0) (fun r mv iv wr => ∃ (k : Nat) (m : Int), r = bus.length - k ∧ iv = I k ∧ k ≤ bus.length ∧ W = wr ∧ mv = I m ∧ Hid (manyL (bus.take k) = m + 1))
    case atStart => exact ⟨0, -1, rfl, rfl, by omega, rfl, rfl, rfl⟩
    case round =>
      obtain ⟨k, m, rfl, rfl, hk, rfl, rfl, HM⟩ := hrel
      have hmr := many_range (l := bus.take k) (N := 24) (by omega) (fun x hx => HBM.out x (List.mem_of_mem_take hx))
      have hm0 : -1 ≤ m := by have := HM.out; omega
      have hm1 : m ≤ 23 := by have := HM.out; omega
      by_cases hlt : k < bus.length
      · obtain ⟨b, off, cap, hv, hbl', hnc, hcs⟩ := HBR.out.ints (by omega)
        injection hv with hv _ hvc
        subst hv hvc
        have hc := hcs k hlt
        have hx := HBM.out (bus.getD k 0) (by rw [List.getD_eq_getElem?_getD, List.getElem?_eq_getElem hlt]; exact List.getElem_mem hlt)
        have hle : bus.getD k 0 ≤ m + 1 := by
          have h1 := (HBF.out k hlt).2
          have h2 := HM.out
          have h3 : at_ bus k = bus.getD k 0 := by simp [at_]
          omega
        have HS := Lib.hid (many_step hlt HM.out)
        obtain ⟨hx0, hx1⟩ := hx
        clear hmr HM hcs
        generalize bus.getD k 0 = x at *
        go_wp2
        go_roundg (bus.length - (k + 1))
        case measure => omega
        case rel => exact ⟨k + 1, max m x, rfl, by go_num, by omega, rfl, rfl, HS⟩
      · obtain rfl : k = bus.length := by omega
        have hmm := HM.out
        rw [List.take_of_length_le (Nat.le_refl _)] at hmm
        clear hmr HM
        have hq1 : (isl.length : Int) = m + 1 := by rw [HLI.out]; exact hmm
        have hq2 : ((isl.length : Int) != m + 1) = false := by simp [hq1]
        have hq3 : ((bus.length : Int) != (n.nodes.length : Int)) = false := by rw [HLB.out]; simp
        clear hq1 hmm
        go_wp2
        go_loopg [5, 64] (isl.length - 0) (fun r mv iv wr => ∃ (k : Nat) (m : Int), r = isl.length - k ∧ iv = I k ∧ k ≤ isl.length ∧ W = wr ∧ mv = I m ∧ Hid (manyL (isl.take k) = m + 1))
        case atStart => exact ⟨0, -1, rfl, rfl, by omega, rfl, rfl, rfl⟩
        case round =>
          obtain ⟨k, m, rfl, rfl, hk, rfl, rfl, HM⟩ := hrel
          have hmr := many_range (l := isl.take k) (N := 24) (by omega) (fun x hx => HIM.out x (List.mem_of_mem_take hx))
          have hm0 : -1 ≤ m := by have := HM.out; omega
          have hm1 : m ≤ 23 := by have := HM.out; omega
          by_cases hlt : k < isl.length
          · obtain ⟨b, off, cap, hv, hbl', hnc, hcs⟩ := HIR.out.ints (by omega)
            injection hv with hv _ hvc
            subst hv hvc
            have hc := hcs k hlt
            have hx := HIM.out (isl.getD k 0) (by rw [List.getD_eq_getElem?_getD, List.getElem?_eq_getElem hlt]; exact List.getElem_mem hlt)
            have hle : isl.getD k 0 ≤ m + 1 := by
              have h1 := (HIF.out k hlt).2
              have h2 := HM.out
              have h3 : at_ isl k = isl.getD k 0 := by simp [at_]
              omega
            have HS := Lib.hid (many_step hlt HM.out)
            obtain ⟨hx0, hx1⟩ := hx
            clear hmr HM hcs
            generalize isl.getD k 0 = x at *
            go_wp2
            go_roundg (isl.length - (k + 1))
            case measure => omega
            case rel => exact ⟨k + 1, max m x, rfl, by go_num, by omega, rfl, rfl, HS⟩
          · obtain rfl : k = isl.length := by omega
            have hmm := HM.out
            rw [List.take_of_length_le (Nat.le_refl _)] at hmm
            clear hmr HM
            go_wp2
            go_ret
            exact ⟨rfl, HB2.out⟩
  · rw [HD.out, if_neg h0]
    obtain ⟨er, her⟩ : ∃ er, checkN n = er := ⟨_, rfl⟩
    rw [her] at h0 ⊢
    have t1 : (er == 0) = false := beq_eq_false_iff_ne.2 h0
    have t2 : (er != 0) = true := by rw [bne_iff_ne]; exact h0
    clear h0 HD HO her
    rintro e w2 ⟨bv, iv, rfl, hr1, hr2, hb2⟩
    obtain ⟨bA, bc, rfl⟩ := hr1.val
    obtain ⟨iA, ic, rfl⟩ := hr2.val
    have HB2 := Lib.hid (HB1.out.trans (hb2.mono HB1.out.size))
    clear hr1 hr2 hb2
    simp only [List.length_nil]
    go_wp2
    go_ret
    exact ⟨rfl, HB2.out.alloc HB2.out.size _⟩
end Go.Proofs.Ytphiiflcpeploaa
