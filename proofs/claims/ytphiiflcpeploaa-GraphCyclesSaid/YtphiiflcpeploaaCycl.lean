/- GraphCycles: its walk answers true. -/
import Derived.Test.YtphiiflcpeploaaBrid
namespace Go.Proofs.Ytphiiflcpeploaa
open Go.RowKit

/-- the edges that close a cycle -/
def others (n : Nat) (l : List (Int × Int)) : List Nat := (List.range l.length).filter (cycB n l)
theorem cycles_at {n : Nat} {l : List (Int × Int)} {j : Nat} (hj : j < (others n l).length) (h : j < (cyclesL n l).length) : (cyclesL n l)[j] = ((others n l)[j] : Int) :: way n l (others n l)[j] := by
  simp [cyclesL, cycTo, others, cycleAt_eq]
theorem others_len (n : Nat) (l : List (Int × Int)) : (others n l).length = (cyclesL n l).length := by simp [others, cyclesL, cycTo]
theorem others_in {n : Nat} {l : List (Int × Int)} {j : Nat} (hj : j < (others n l).length) : (others n l)[j] < l.length ∧ ((others n l)[j] : Int) ∉ treeL n l := by
  have h := List.getElem_mem hj
  generalize (others n l)[j] = k at h ⊢
  simp only [others, List.mem_filter, List.mem_range, cycB] at h
  exact ⟨h.1, by simpa using h.2⟩
theorem others_lt {n : Nat} {l : List (Int × Int)} {i j : Nat} (hij : i < j) (hj : j < (others n l).length) : (others n l)[i] < (others n l)[j] := by
  have hp : (others n l).Pairwise (· < ·) := List.pairwise_lt_range.filter _
  exact List.pairwise_iff_getElem.1 hp i j (by omega) hj hij

/-- what is known of the j-th cycle in memory -/
theorem Reads2.at_ {w : World} {A : Option Addr} {n : Nat} {ys : List (List Int)} (h : Reads2 w A n ys) {j : Nat} (hj : j < ys.length) (hp : 0 < ys[j].length) :
    ∃ b off b1 off1 c, A = some ⟨b, off, none⟩ ∧ w.cell? ⟨b, off + j, none⟩ = some (.slice (some ⟨b1, off1, none⟩) ys[j].length c) ∧ ys[j].length ≤ c ∧ Reads w w.heap.size 1 (some ⟨b1, off1, none⟩) ys[j].length (ys[j].map I) := by
  obtain ⟨h0, vs, h1, h2⟩ := h
  subst h0
  obtain ⟨b, off, u, e, _, hu, hc⟩ := h1.at1 hj
  obtain ⟨B, c, hB, hc', hR⟩ := h2 j hj
  rw [hu] at hB
  injection hB with hB
  subst hB
  obtain ⟨b1, off1, rfl, _, _⟩ := hR.2 hp
  exact ⟨b, off, b1, off1, c, e, hc, hc', hR⟩

structure CycO (wc : World) (n : Nat) (l : List (Int × Int)) (j : Nat) (lst : Int) (wr : World) : Prop where
  hj : j ≤ (others n l).length
  lo : ∀ i (hi : i < (others n l).length), j ≤ i → lst < ((others n l)[i] : Int)
  lb : -1 ≤ lst ∧ lst < 1000
  ext : Ext wc wr
structure CycI (wc : World) (n : Nat) (l : List (Int × Int)) (ws : List Int) (x1 : Int) (i : Nat) (a : Int) (wr : World) : Prop where
  hi : i ≤ ws.length
  ok : okRun l a (ws.drop i)
  run : runTo l a (ws.drop i) = x1
  ha : 0 ≤ a ∧ a < n
  ext : Ext wc wr

theorem cut_val (b off m c : Nat) : ∃ X, sliced (some ⟨b, off, none⟩) 1 (m + 1) c 1 = .slice X m (c - 1) ∧ (0 < m → m + 1 ≤ c → X = some ⟨b, off + 1, none⟩) := by
  unfold sliced
  by_cases h : c = 1
  · exact ⟨_, rfl, fun h0 h1 => by omega⟩
  · exact ⟨_, rfl, fun _ _ => by simp [h, Addr.add_lit]⟩

set_option maxRecDepth 100000 in
set_option maxHeartbeats 2000000 in
theorem cyclesLaw_any (n : Int) (l : List (Int × Int)) (A : Option Addr) (c : Nat) (w : World) (hG : GArgs w n l A c) :
    Calls Try.prog 3 #[I n, .slice A l.length c] w fun e w' => e = .returned (.bool true) ∧ Below w.heap.size w w' := by
  by_cases h0 : chk n l = 0
  · obtain ⟨hn0, hn, hl, hv⟩ := chk_ok h0
    obtain ⟨n, rfl⟩ := Int.eq_ofNat_of_zero_le hn0
    simp only [Int.toNat_natCast] at hv
    have hn : n ≤ 24 := by omega
    have HTE := Lib.hid (show guardE (n : Int) l [] (treeL n l) = (treeL n l, 0) by rw [guardE, if_pos h0])
    have HCE := Lib.hid (show guardE (n : Int) l [] (cyclesL n l) = (cyclesL n l, 0) by rw [guardE, if_pos h0])
    have htl := tree_len n l
    have hcount := cycles_count (n := n) (l := l)
    have hcl : (cyclesL n l).length ≤ l.length := by omega
    have tcount : ((((cyclesL n l).length : Nat) : Int) != (l.length : Int) - ((treeL n l).length : Int)) = false := by rw [bne_eq_false_iff_eq]; omega
    have HOL := Lib.hid (others_len n l)
    have HY := Lib.hid (cycle_len hv hn)
    have HV := Lib.hid hv
    have HW := Lib.hid (tree_within n l)
    clear h0 hv hcount
    go_enter Try.func3, Try.ntmps3
    go_wp2_with (first | (go_at_call 10; refine (graphFact_any _).mono ?_; rintro e w0 ⟨rfl, hb0⟩) | (go_at_call 11; refine (cycles_any n l _ _ _ (hG.below hb0)).mono ?_; rw [Int.toNat_natCast, HCE.out]; rintro e wc ⟨vc, rfl, hcrow, hbc⟩; obtain ⟨CA, cn, cc, rfl⟩ : ∃ CA cn cc, vc = .slice CA cn cc := ⟨_, _, _, hcrow.choose_spec.1.val.choose_spec.choose_spec⟩; obtain ⟨hR2, hcn⟩ := hcrow.reads2; subst hcn; have HR2 := Lib.hid hR2; clear hR2 hcrow) | (go_at_call 12; refine (tree_E n l _ _ _ ((hG.below hb0).below hbc)).mono ?_; rw [Int.toNat_natCast, HTE.out]; rintro e wt ⟨vt, rfl, htrow, hbt⟩; obtain ⟨TA, tc, rfl⟩ := htrow.val))
    have X0 : Hid (Ext w wt) := (Ext.trans (Ext.trans hb0 hbc) hbt)
    have HTR := Lib.hid htrow.reads
    have HRC := Lib.hid (HR2.out.ext hbt)
    have HGT := Lib.hid (hG.below X0.out)
    clear htrow HR2 hb0 hbc hbt tcount
    go_loopg [9, 53] ((cyclesL n l).length - 0) (fun r v9 v53 wr => ∃ (j : Nat) (lst : Int), r = (cyclesL n l).length - j ∧ v9 = I lst ∧ v53 = I j ∧ CycO wt n l j lst wr)
    case atStart => exact ⟨0, -1, rfl, rfl, rfl, ⟨by omega, fun i hi _ => by omega, by omega, Ext.refl _⟩⟩
    case round =>
      obtain ⟨j, lst, rfl, rfl, rfl, hO⟩ := hrel
      obtain ⟨wa, rfl⟩ : ∃ wa : World, wa = wr := ⟨_, rfl⟩
      have hj := hO.hj
      rw [HOL.out] at hj
      obtain ⟨hlb0, hlb1⟩ := hO.lb
      by_cases hlt : j < (cyclesL n l).length
      · have hlo : j < (others n l).length := by rw [HOL.out]; exact hlt
        obtain ⟨hk1, hk2⟩ := others_in hlo
        have hgt := hO.lo j hlo (Nat.le_refl _)
        have hcy := cycles_at hlo hlt
        have HNX : Hid (∀ i (hi : i < (others n l).length), j + 1 ≤ i → ((others n l)[j] : Int) < ((others n l)[i] : Int)) := fun i hi hij => by
          have := others_lt (n := n) (l := l) (i := j) (j := i) (by omega) hi
          omega
        obtain ⟨kk, hkk⟩ : ∃ kk, (others n l)[j] = kk := ⟨_, rfl⟩
        rw [hkk] at hk1 hk2 hgt hcy HNX
        clear hkk hlo
        obtain ⟨w1, w2, w3, w4⟩ := way_ok HV.out hk1
        have hyl := HY.out (cyclesL n l)[j] (List.getElem_mem hlt)
        obtain ⟨b, off, b1, off1, cB, rfl, hcell, hcB, hRw⟩ := (HRC.out.ext hO.ext).at_ hlt (by rw [hcy]; simp)
        rw [hcy] at hcell hcB hRw hyl
        simp only [List.length_cons] at hcell hcB hRw hyl
        have he := edgeAt_ok HV.out (k := (kk : Int)) (by omega) (by omega)
        obtain ⟨bl, ol, hA, _, hx0, hx1⟩ := reads2_at ((HGT.out.below hO.ext).reads) hk1
        obtain ⟨x1, hx1e⟩ : ∃ x, (edgeAt l kk).1 = x := ⟨_, rfl⟩
        obtain ⟨x2, hx2e⟩ : ∃ x, (edgeAt l kk).2 = x := ⟨_, rfl⟩
        have eE : edgeAt l kk = l[kk] := edge_at hk1
        rw [← eE, hx1e] at hx0
        rw [← eE, hx2e] at hx1
        rw [hx1e, hx2e] at he
        rw [hx2e] at w1 w2
        rw [hx1e] at w2
        clear hx1e hx2e eE hcy
        obtain ⟨ws, hws⟩ : ∃ ws, way n l kk = ws := ⟨_, rfl⟩
        rw [hws] at w1 w2 w3 w4 hcell hcB hRw hyl
        clear hws
        have hA' : A = some ⟨bl, ol, none⟩ := hA
        subst hA'
        have hc0 : wa.cell? ⟨b1, off1, none⟩ = some (I kk) := by
          obtain ⟨b', off', e', _, hc⟩ := hRw.2 (by omega)
          injection e' with e'
          injection e' with e1 e2
          subst e1 e2
          exact hc 0 _ rfl
        have HTA := Lib.hid (HTR.out.ext hO.ext)
        have HK2 := Lib.hid (show (treeL n l).contains (kk : Int) = false by simpa using hk2)
        have hcut := run_cut (P := Try.prog) Try.underlying28 Try.sizeOf3 (some ⟨b1, off1, none⟩) (ws.length + 1) cB 1 (by omega) (by omega)
        obtain ⟨X, hX1, hX2⟩ := cut_val b1 off1 ws.length cB
        simp only [Int.toNat_one] at hcut
        rw [hX1] at hcut
        have HX2 := Lib.hid hX2
        have HW1 := Lib.hid w1
        have HW2 := Lib.hid w2
        have HW3 := Lib.hid w3
        have HW4 := Lib.hid w4
        have HRW := Lib.hid hRw
        have HNK := Lib.hid hk2
        have tm : (((ws.length + 1 : Nat) : Int) == 0) = false := by simp; omega
        have tm2 : ((ws.length : Int) + 1 == 0) = false := by simp; omega
        obtain ⟨he1, he2, he3, he4⟩ := he
        have td1 : decide ((kk : Int) ≤ lst) = false := by simp; omega
        have td2 : decide (l.length ≤ kk) = false := by simp; omega
        clear w1 w2 w3 w4 hRw hk2 hX1 hX2 hA
        go_wp2_with (first | (go_at_call 13; refine (contains_any (treeL n l) _ TA tc kk _ rfl HTA.out (by omega)).mono ?_; rintro e w1 ⟨rfl, rfl⟩; rw [HK2.out]))
        have HI0 : CycI wa n l ws x1 0 x2 wa := ⟨by omega, HW1.out, HW2.out, ⟨he3, he4⟩, Ext.refl _⟩
        have HWA := Lib.hid hO.ext
        clear hO hcut hcell
        go_loopg [12, 95] (ws.length - 0) (fun r v12 v95 wr => ∃ (i : Nat) (a : Int), r = ws.length - i ∧ v12 = I a ∧ v95 = I i ∧ CycI wa n l ws x1 i a wr)
        case atStart => exact ⟨0, x2, rfl, rfl, rfl, HI0⟩
        case round =>
          clear HI0
          obtain ⟨i, a, rfl, rfl, rfl, hI⟩ := hrel
          have hi := hI.hi
          obtain ⟨ha0, ha1⟩ := hI.ha
          have HRI := Lib.hid (HRW.out.ext hI.ext)
          have hGI := HGT.out.below (HWA.out.trans hI.ext)
          by_cases hil : i < ws.length
          · obtain ⟨kv, hkv⟩ : ∃ kv, ws[i] = kv := ⟨_, rfl⟩
            have hkt : kv ∈ treeL n l := HW3.out kv (by rw [← hkv]; exact List.getElem_mem hil)
            obtain ⟨hkv0, hkv1⟩ := HW.out kv hkt
            have hkn : kv.toNat < l.length := by omega
            obtain ⟨bl', ol', hAe, _, hy0, hy1⟩ := reads2_at hGI.reads hkn
            injection hAe with hAe
            injection hAe with hAe1 hAe2
            subst hAe1 hAe2
            have hval := HV.out l[kv.toNat] (List.getElem_mem hkn)
            have hok := hI.ok
            have hrun := hI.run
            rw [List.drop_eq_getElem_cons hil, hkv] at hok hrun
            obtain ⟨hinc, hok2⟩ := hok
            rw [inc_iff] at hinc
            have eE : edgeAt l kv = l[kv.toNat] := by simp [edgeAt, hkn]
            rw [eE] at hinc
            have HNX2 := Lib.hid (show nxt l a kv = l[kv.toNat].1 + l[kv.toNat].2 - a by rw [nxt, eE])
            obtain ⟨y1, hy1e⟩ : ∃ y, l[kv.toNat].1 = y := ⟨_, rfl⟩
            obtain ⟨y2, hy2e⟩ : ∃ y, l[kv.toNat].2 = y := ⟨_, rfl⟩
            rw [hy1e] at hy0 hval hinc HNX2
            rw [hy2e] at hy1 hval hinc HNX2
            clear hy1e hy2e eE
            obtain ⟨hva, hvb, hvc, hvd⟩ := hval
            have hXe : X = some ⟨b1, off1 + 1, none⟩ := HX2.out (by omega) hcB
            subst hXe
            have hck : wr.cell? ⟨b1, off1 + 1 + i, none⟩ = some (I kv) := by
              obtain ⟨b', off', e', _, hc⟩ := HRI.out.2 (by omega)
              injection e' with e'
              injection e' with e1 e2
              subst e1 e2
              have := hc (i + 1) (I kv) (by simp [hil, hkv])
              rw [show off1 + (i + 1) = off1 + 1 + i by omega] at this
              exact this
            have HRT := Lib.hid (HTA.out.ext hI.ext)
            have HRS := Lib.hid (show Reads wr wr.heap.size 1 (some ⟨b1, off1, none⟩) (i + 1) ((((kk : Int) :: ws).take (i + 1)).map I) by
              have := HRI.out.take (k := i + 1) (by omega)
              rw [Nat.mul_one, ← List.map_take] at this
              exact this)
            have HSL := Lib.hid (show (((kk : Int) :: ws).take (i + 1)).length = i + 1 by simp; omega)
            have HT1 := Lib.hid (show (treeL n l).contains kv = true by simpa using hkt)
            have HT2 := Lib.hid (show (((kk : Int) :: ws).take (i + 1)).contains kv = false by
              rw [Bool.eq_false_iff]
              intro h
              rw [List.contains_iff_mem, List.take_succ_cons] at h
              rcases List.mem_cons.1 h with h | h
              · exact HNK.out (h ▸ hkt)
              · obtain ⟨m, hm, he⟩ := List.getElem_of_mem h
                simp at hm
                rw [List.getElem_take] at he
                have := (List.getElem_inj HW4.out).1 (he.trans hkv.symm)
                omega)
            have HOK := Lib.hid hok2
            have HRUN := Lib.hid hrun
            have HEX := Lib.hid hI.ext
            have HTN := Lib.hid (nxt_ok HV.out hkv0 hkv1 (inc_iff.2 (by have e : edgeAt l kv = l[kv.toNat] := by simp [edgeAt, hkn]
                                                                        rw [e]; exact hI.ok |> fun h => by rw [List.drop_eq_getElem_cons hil, hkv] at h; have := h.1; rw [inc_iff, e] at this; exact this)))
            clear hok2 hrun hI hGI hkv hkt
            have s1 : IntKind.i64.wrap (y1 + y2) = y1 + y2 := IntWalk.i64_in _ (by omega)
            have s2 : IntKind.i64.wrap (y1 + y2 - a) = y1 + y2 - a := IntWalk.i64_in _ (by omega)
            have HS1 := Lib.hid s1
            have HS2 := Lib.hid s2
            clear s1 s2
            have bi0 : (0 : Int) ≤ kv := hkv0
            have hcap1 : ((i : Int) + 1) ≤ cB := by omega
            have h4 : y1 = a ∨ (y1 ≠ a ∧ y2 = a) := by omega
            clear hinc
            rcases h4 with h4 | ⟨h4, h5⟩
            · have t2 : (y1 != a) = false := by simpa using h4
              clear h4
              go_wp2_with (first | (go_at_call 13; ((with_reducible refine (contains_any (treeL n l) _ TA tc kv _ rfl HRT.out (by omega)).mono ?_); rintro e w1 ⟨rfl, rfl⟩; rw [HT1.out])) | (go_at_call 13; ((with_reducible refine (contains_any (((kk : Int) :: ws).take (i + 1)) (i + 1) (some ⟨b1, off1, none⟩) cB kv _ HSL.out HRS.out (by omega)).mono ?_); rintro e w1 ⟨rfl, rfl⟩; rw [HT2.out])))
              have s1 := HS1.out
              have s2 := HS2.out
              go_quiet (fail)
              clear s1 s2
              go_wp2
              go_roundg (ws.length - (i + 1))
              case measure => omega
              case rel => exact ⟨i + 1, y1 + y2 - a, rfl, rfl, by go_num, ⟨by omega, by rw [← HNX2.out]; exact HOK.out, by rw [← HNX2.out]; exact HRUN.out, by rw [← HNX2.out]; exact HTN.out, HEX.out.drewN _⟩⟩
            · have t2 : (y1 != a) = true := by simpa using h4
              have t3 : (y2 != a) = false := by simpa using h5
              clear h4 h5
              go_wp2_with (first | (go_at_call 13; ((with_reducible refine (contains_any (treeL n l) _ TA tc kv _ rfl HRT.out (by omega)).mono ?_); rintro e w1 ⟨rfl, rfl⟩; rw [HT1.out])) | (go_at_call 13; ((with_reducible refine (contains_any (((kk : Int) :: ws).take (i + 1)) (i + 1) (some ⟨b1, off1, none⟩) cB kv _ HSL.out HRS.out (by omega)).mono ?_); rintro e w1 ⟨rfl, rfl⟩; rw [HT2.out])))
              have s1 := HS1.out
              have s2 := HS2.out
              go_quiet (fail)
              clear s1 s2
              go_wp2
              go_roundg (ws.length - (i + 1))
              case measure => omega
              case rel => exact ⟨i + 1, y1 + y2 - a, rfl, rfl, by go_num, ⟨by omega, by rw [← HNX2.out]; exact HOK.out, by rw [← HNX2.out]; exact HRUN.out, by rw [← HNX2.out]; exact HTN.out, HEX.out.drewN _⟩⟩
          · obtain rfl : i = ws.length := by omega
            have hax : a = x1 := by have := hI.run; rw [List.drop_of_length_le (Nat.le_refl _)] at this; exact this
            subst hax
            have hcz : wr.cell? ⟨b1, off1, none⟩ = some (I kk) := (Below.cell hI.ext (World.block_lt_of_cell? _ _ hc0)).trans hc0
            have hxz : wr.cell? ⟨bl, ol + kk * 2, none⟩ = some (I a) := (Below.cell hI.ext (World.block_lt_of_cell? _ _ hx0)).trans hx0
            have HEX := Lib.hid (HWA.out.trans hI.ext)
            clear hI hGI
            go_wp2
            go_roundg ((cyclesL n l).length - (j + 1))
            case measure => omega
            case rel => exact ⟨j + 1, kk, rfl, rfl, by go_num, ⟨by rw [HOL.out]; omega, HNX.out, by omega, HEX.out⟩⟩
      · have HEX := Lib.hid hO.ext
        go_wp2
        go_ret
        exact ⟨rfl, X0.out.trans HEX.out⟩
  · have HTE := Lib.hid (show guardE n l [] (treeL n.toNat l) = ([], chk n l) by rw [guardE, if_neg h0])
    have HCE := Lib.hid (show guardE n l [] (cyclesL n.toNat l) = ([], chk n l) by rw [guardE, if_neg h0])
    have t0 : (chk n l != 0) = true := by simp [h0]
    clear h0
    go_enter Try.func3, Try.ntmps3
    go_wp2_with (first | (go_at_call 10; refine (graphFact_any _).mono ?_; rintro e w0 ⟨rfl, hb0⟩) | (go_at_call 11; refine (cycles_any n l _ _ _ (hG.below hb0)).mono ?_; rw [HCE.out]; rintro e wc ⟨vc, rfl, ⟨vs, hcrow, _⟩, hbc⟩; obtain ⟨CA, cc, rfl⟩ := hcrow.val) | (go_at_call 12; refine (tree_E n l _ _ _ ((hG.below hb0).below hbc)).mono ?_; rw [HTE.out]; rintro e wt ⟨vt, rfl, htrow, hbt⟩; obtain ⟨TA, tc, rfl⟩ := htrow.val))
    go_ret
    exact ⟨rfl, Ext.trans (Ext.trans hb0 hbc) hbt⟩
end Go.Proofs.Ytphiiflcpeploaa
