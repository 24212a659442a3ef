/- loss.tangents. loss.chords. loss.texts. loss.Tangents, loss.Chords. -/
import Derived.Test.YtmnedfkinepnfaaGreatDoorLJB
import Derived.Test.YtmnedfkinepnfaaGreatDoorJT
import Derived.Test.YtmnedfkinepnfaaGreatDoorJW
namespace Go.Proofs.YtmnedfkinepnfaaGreatDoor
open Go.RowKit

/-- a call that returns a row of pieces of its own -/
def RetPs (w : World) (ps : List PcQ) (e : Ending) (w' : World) : Prop := ∃ v, e = .returned v ∧ PRow w' w.heap.size v ps ∧ Below w.heap.size w w'
set_option maxRecDepth 100000 in
set_option maxHeartbeats 4000000 in
theorem tangents_any (u : Value) (x : Rat) (l : List Rat) (n : Nat) (A : Option Addr) (c : Nat) (w : World) (hx : Rt w u x) (hl : RV w A n l) (hn : n ≤ 1000000) {N : Nat} (hN : N ≤ 10000000) (fx : FitR N x) (fl : ∀ q ∈ l, FitR N q) :
    Calls Tryz.prog 59 #[u, .slice A n c] w (RetPs w (tanQ x l)) := by
  have hll := hl.len
  obtain ⟨rb, R1, r1, s1, R2, r2, s2, rfl⟩ := hx.bools
  obtain ⟨vr, hb0⟩ := boxes1 w (.bool rb) (.slice R1 r1 s1) (.bool false) (.slice R2 r2 s2)
  have VR := Lib.hid vr
  have HB0 := Lib.hid hb0
  have HX := Lib.hid (hx.ext hb0)
  have HL := Lib.hid (hl.below hb0)
  have HLL := Lib.hid hll
  have FX := Lib.hid fx
  have FL := Lib.hid fl
  clear vr hb0 hx hl fx fl hll
  unfold ratT at *
  go_enter Tryz.func59, Tryz.ntmps59
  go_wp2
  generalize w.alloc (Obj.cells #[Value.bool rb, Value.slice R1 r1 s1, Value.bool false, Value.slice R2 r2 s2] 82) = w0 at *
  have HW := Lib.hid HB0.out.size
  go_loopg [5, 10] (n - 0) (fun r o v wr => ∃ i : Nat, r = n - i ∧ v = I i ∧ i ≤ n ∧ Hid (PRow wr w0.heap.size o ((tanQ x l).take i)) ∧ Hid (Below w0.heap.size w0 wr))
  case atStart => exact ⟨0, rfl, rfl, by omega, PRow.nil _ _, Below.refl _ _⟩
  case round =>
    obtain ⟨i, rfl, rfl, hi, HP, HB⟩ := hrel
    obtain ⟨wa, rfl⟩ : ∃ wa : World, wa = wr := ⟨_, rfl⟩
    by_cases hlt : i < n
    · obtain ⟨q, hq⟩ : ∃ q, l[i]? = some q := ⟨_, List.getElem?_eq_getElem (by rw [HLL.out]; exact hlt)⟩
      obtain ⟨b, o, nb, B1, l1, c1, B2, l2, c2, rfl, _, hC, hrt⟩ := (HL.out.below HB.out).form hlt q hq
      have FQ := Lib.hid (FL.out q (List.mem_of_getElem? hq))
      have HXX := Lib.hid (show (tanQ x l).take (i + 1) = (tanQ x l).take i ++ [thru x q q] by rw [List.take_add_one, tanQ, List.getElem?_map, hq]; rfl)
      have HLN := Lib.hid (show ((tanQ x l).take i).length ≤ 1000000 by rw [List.length_take]; omega)
      obtain ⟨vq, hb1⟩ := boxes1 wa (.bool nb) (.slice B1 l1 c1) (.bool false) (.slice B2 l2 c2)
      have HB1 := Lib.hid (HB.out.trans (hb1.mono HB.out.size))
      have HP1 := Lib.hid (HP.out.call hb1)
      have hvr := (VR.out.below HB.out).below hb1
      have HC := Lib.hid (thru_any _ _ _ x q q _ (HX.out.ext HB1.out) (hrt.ext hb1) (hrt.ext hb1) hN FX.out FQ.out FQ.out)
      have c0 := hC.c0
      have c1' := hC.c1
      have c2' := hC.c2
      have c3 := hC.c3
      have v0 := hvr.c0
      have v1 := hvr.c1
      have v2 := hvr.c2
      have v3 := hvr.c3
      have q0 := vq.c0
      have q1 := vq.c1
      have q2 := vq.c2
      have q3 := vq.c3
      clear hq hC hrt hb1 hvr vq HP HB
      unfold ratT at *
      go_wp2_with fail
      refine HC.out.mono ?_
      rintro e w6 ⟨v3', rfl, hv3, hb⟩
      obtain ⟨ab, A1, n1, k1, A2, n2, k2, bb, B3, m1, j1, B4, m2, j2, rfl, ha, hb'⟩ := hv3.form
      have hb3 := below_new w6 (.cells #[.bool ab, .slice A1 n1 k1, .bool false, .slice A2 n2 k2, .bool bb, .slice B3 m1 j1, .bool false, .slice B4 m2 j2] pcT)
      have HB6 := Lib.hid ((HB1.out.trans (hb.mono HB1.out.size)).trans (hb3.mono (HB1.out.trans (hb.mono HB1.out.size)).size))
      have HR6 := Lib.hid ((HP1.out.call hb).call hb3)
      have HV6 := Lib.hid (And.intro (ha.ext hb3) (hb'.ext hb3))
      have HBK := Lib.hid (Blk.new w6 pcT #[.bool ab, .slice A1 n1 k1, .bool false, .slice A2 n2 k2, .bool bb, .slice B3 m1 j1, .bool false, .slice B4 m2 j2])
      unfold pcT at *
      clear hb hb3 hv3 ha hb' HC HP1 HB1 c0 c1' c2' c3 v0 v1 v2 v3 q0 q1 q2 q3
      go_wp2_with (at_builtin; refine wpList_appP rfl _ _ rfl w0.heap.size _ _ rfl HR6.out w6.heap.size rfl HBK.out HV6.out HLN.out HB6.out.size ?_)
      intro v7 w7 hap
      have HN := Lib.hid (show PRow w7 w0.heap.size v7 ((tanQ x l).take (i + 1)) by rw [HXX.out]; exact hap.row)
      have HB7 := Lib.hid (HB6.out.trans (hap.below HR6.out HB6.out.size))
      obtain ⟨A7, c7, rfl⟩ := hap.row.val
      generalize ((tanQ x l).take i ++ [thru x q q]).length = l7 at *
      clear hap HR6 HB6 HBK HV6 HXX HLN
      go_wp2
      go_roundg (n - (i + 1))
      case measure => omega
      case rel => exact ⟨i + 1, rfl, by go_num, by omega, HN, HB7⟩
    · have hin : i = n := by omega
      subst hin
      have hr := HP.out
      rw [List.take_of_length_le (by rw [tanQ, List.length_map, HLL.out]; omega)] at hr
      obtain ⟨A7, c7, rfl⟩ := hr.val
      have HR := Lib.hid (hr.less HB0.out.size)
      have HBT := Lib.hid (HB0.out.trans (HB.out.mono HB0.out.size))
      generalize (tanQ x l).length = lt at *
      clear hr HP HB
      go_wp2
      go_ret
      exact ⟨_, rfl, HR.out, HBT.out⟩
end Go.Proofs.YtmnedfkinepnfaaGreatDoor
namespace Go.Proofs.YtmnedfkinepnfaaGreatDoor
open Go.RowKit

theorem choQ_len (r : Rat) : ∀ l : List Rat, (choQ r l).length = l.length - 1
  | [] => rfl
  | [_] => rfl
  | a :: b :: l => by
    have := choQ_len r (b :: l)
    rw [choQ, List.length_cons, this]; simp
theorem choQ_get (r : Rat) {a b : Rat} : ∀ {l : List Rat} {i : Nat}, l[i]? = some a → l[i + 1]? = some b → (choQ r l)[i]? = some (thru r a b)
  | [], _, h, _ => by simp at h
  | [_], _, _, h => by simp at h
  | c :: d :: l, 0, h, k => by
    simp at h k
    subst h; subst k; rfl
  | c :: d :: l, i + 1, h, k => by
    have := choQ_get r (l := d :: l) (i := i) (by simpa using h) (by simpa using k)
    rw [choQ, List.getElem?_cons_succ, this]
set_option maxRecDepth 100000 in
set_option maxHeartbeats 4000000 in
theorem chords_any (u : Value) (x : Rat) (l : List Rat) (n : Nat) (A : Option Addr) (c : Nat) (w : World) (hx : Rt w u x) (hl : RV w A n l) (hn : n ≤ 1000000) (hn1 : 1 ≤ n) {N : Nat} (hN : N ≤ 10000000) (fx : FitR N x) (fl : ∀ q ∈ l, FitR N q) :
    Calls Tryz.prog 75 #[u, .slice A n c] w (RetPs w (choQ x l)) := by
  have hll := hl.len
  obtain ⟨rb, R1, r1, s1, R2, r2, s2, rfl⟩ := hx.bools
  obtain ⟨vr, hb0⟩ := boxes1 w (.bool rb) (.slice R1 r1 s1) (.bool false) (.slice R2 r2 s2)
  have VR := Lib.hid vr
  have HB0 := Lib.hid hb0
  have HX := Lib.hid (hx.ext hb0)
  have HL := Lib.hid (hl.below hb0)
  have HLL := Lib.hid hll
  have FX := Lib.hid fx
  have FL := Lib.hid fl
  clear vr hb0 hx hl fx fl hll
  unfold ratT at *
  go_enter Tryz.func75, Tryz.ntmps75
  go_wp2
  generalize w.alloc (Obj.cells #[Value.bool rb, Value.slice R1 r1 s1, Value.bool false, Value.slice R2 r2 s2] 82) = w0 at *
  have HW := Lib.hid HB0.out.size
  go_loopg [5, 6] (n - 0) (fun r o v wr => ∃ k : Nat, r = n - k ∧ v = I ((k : Int) + 1) ∧ k + 1 ≤ n ∧ Hid (PRow wr w0.heap.size o ((choQ x l).take k)) ∧ Hid (Below w0.heap.size w0 wr))
  case atStart => exact ⟨0, rfl, rfl, by omega, PRow.nil _ _, Below.refl _ _⟩
  case round =>
    obtain ⟨k, rfl, rfl, hk, HP, HB⟩ := hrel
    obtain ⟨wa, rfl⟩ : ∃ wa : World, wa = wr := ⟨_, rfl⟩
    by_cases hlt : k + 1 < n
    · obtain ⟨p, hp⟩ : ∃ p, l[k]? = some p := ⟨_, List.getElem?_eq_getElem (by rw [HLL.out]; omega)⟩
      obtain ⟨q, hq⟩ : ∃ q, l[k + 1]? = some q := ⟨_, List.getElem?_eq_getElem (by rw [HLL.out]; omega)⟩
      obtain ⟨b, o, nb, B1, l1, c1, B2, l2, c2, rfl, _, hC, hrt⟩ := (HL.out.below HB.out).form (k := k) (by omega) p hp
      obtain ⟨b', o', mb, D1, m1, d1, D2, m2, d2, e', _, hD, hrd⟩ := (HL.out.below HB.out).form hlt q hq
      obtain ⟨rfl, rfl⟩ : b = b' ∧ o = o' := by injection e' with e'; injection e' with e1 e2; exact ⟨e1, e2⟩
      have HXX := Lib.hid (show (choQ x l).take (k + 1) = (choQ x l).take k ++ [thru x p q] by rw [List.take_add_one, choQ_get x hp hq]; rfl)
      have HLN := Lib.hid (show ((choQ x l).take k).length ≤ 1000000 by rw [List.length_take]; omega)
      have hd := below_draw wa
      have HC := Lib.hid (thru_any _ _ _ x p q wa.drew (HX.out.ext (HB.out.trans (hd.mono HB.out.size))) (hrt.ext hd) (hrd.ext hd) hN FX.out (FL.out p (List.mem_of_getElem? hp)) (FL.out q (List.mem_of_getElem? hq)))
      have VR1 := Lib.hid ((VR.out.below HB.out).below hd)
      have CP1 := Lib.hid (hC.below hd)
      have CQ1 := Lib.hid (hD.below hd)
      have HP1 := Lib.hid (HP.out.call hd)
      have HB1 := Lib.hid (HB.out.trans (hd.mono HB.out.size))
      obtain ⟨A7, c7, rfl⟩ := HP.out.val
      generalize hlk : ((choQ x l).take k).length = lk at *
      have HLK := Lib.hid hlk
      clear hlk
      have hs1 : (k : Int) + 1 - 1 = k := by omega
      have hwk : IntKind.i64.wrap ((k : Int)) = k := IntWalk.i64_in _ (by omega)
      have hnk : ¬ n ≤ k := by omega
      have hkl : k < n := by omega
      have hp0 : ¬ ((k : Int) + 1 < 0) := by omega
      clear e' hp hq hrt hrd hd hC hD HP HB
      try unfold ratT at *
      go_upto_region 5 with (fail)
      refine wp_region_c (fun w' => w'.cell? ⟨w.heap.size, 0, none⟩ = some (.bool rb) ∧ w'.cell? ⟨w.heap.size, 1, none⟩ = some (.slice R1 r1 s1) ∧ w'.cell? ⟨w.heap.size, 2, none⟩ = some (.bool false) ∧ w'.cell? ⟨w.heap.size, 3, none⟩ = some (.slice R2 r2 s2) ∧ w'.cell? ⟨b, o + k * 4, none⟩ = some (.bool nb) ∧ w'.cell? ⟨b, o + k * 4 + 1, none⟩ = some (.slice B1 l1 c1) ∧ w'.cell? ⟨b, o + k * 4 + 2, none⟩ = some (.bool false) ∧ w'.cell? ⟨b, o + k * 4 + 3, none⟩ = some (.slice B2 l2 c2) ∧ w'.cell? ⟨b, o + (k + 1) * 4, none⟩ = some (.bool mb) ∧ w'.cell? ⟨b, o + (k + 1) * 4 + 1, none⟩ = some (.slice D1 m1 d1) ∧ w'.cell? ⟨b, o + (k + 1) * 4 + 2, none⟩ = some (.bool false) ∧ w'.cell? ⟨b, o + (k + 1) * 4 + 3, none⟩ = some (.slice D2 m2 d2)) 13 (by kernel_rfl) ?_
      generalize wa.drew = W1 at *
      refine wpAnyC_take8 (i := 0) (oi := _) (v := .slice A7 lk c7) rfl (by kernel_rfl) (by kernel_rfl) (by kernel_rfl) (by kernel_rfl) (by kernel_rfl) (by kernel_rfl) (fun _ _ _ h => h) (Or.inl ⟨by rfl, ?_⟩) ⟨VR1.out.c0, VR1.out.c1, VR1.out.c2, VR1.out.c3, CP1.out.c0, CP1.out.c1, CP1.out.c2, CP1.out.c3, CQ1.out.c0, CQ1.out.c1, CQ1.out.c2, CQ1.out.c3⟩ ?_
      · intro w hSw
        obtain ⟨s0, s1, s2, s3, s4, s5, s6, s7, s8, s9, s10, s11⟩ := hSw
        go_simp
      try simp only [Act.put, List.setIfInBounds_toArray]
      refine wpAnyC_take8 (i := 1) (oi := _) (v := .agg #[.bool rb, .slice R1 r1 s1, .bool false, .slice R2 r2 s2]) rfl (by kernel_rfl) (by kernel_rfl) (by kernel_rfl) (by kernel_rfl) (by kernel_rfl) (by kernel_rfl) (fun _ _ _ h => h) (Or.inl ⟨by rfl, ?_⟩) ⟨VR1.out.c0, VR1.out.c1, VR1.out.c2, VR1.out.c3, CP1.out.c0, CP1.out.c1, CP1.out.c2, CP1.out.c3, CQ1.out.c0, CQ1.out.c1, CQ1.out.c2, CQ1.out.c3⟩ ?_
      · intro w hSw
        obtain ⟨s0, s1, s2, s3, s4, s5, s6, s7, s8, s9, s10, s11⟩ := hSw
        go_simp
      try simp only [Act.put]
      refine wpAnyC_take8 (i := 2) (oi := _) (v := .slice (some ⟨b, o, none⟩) n c) rfl (by kernel_rfl) (by kernel_rfl) (by kernel_rfl) (by kernel_rfl) (by kernel_rfl) (by kernel_rfl) (fun _ _ _ h => h) (Or.inl ⟨by rfl, ?_⟩) ⟨VR1.out.c0, VR1.out.c1, VR1.out.c2, VR1.out.c3, CP1.out.c0, CP1.out.c1, CP1.out.c2, CP1.out.c3, CQ1.out.c0, CQ1.out.c1, CQ1.out.c2, CQ1.out.c3⟩ ?_
      · intro w hSw
        obtain ⟨s0, s1, s2, s3, s4, s5, s6, s7, s8, s9, s10, s11⟩ := hSw
        go_simp
      try simp only [Act.put]
      refine wpAnyC_take8 (i := 3) (oi := _) (v := I ((k : Int) + 1)) rfl (by kernel_rfl) (by kernel_rfl) (by kernel_rfl) (by kernel_rfl) (by kernel_rfl) (by kernel_rfl) (fun _ _ _ h => h) (Or.inl ⟨by rfl, ?_⟩) ⟨VR1.out.c0, VR1.out.c1, VR1.out.c2, VR1.out.c3, CP1.out.c0, CP1.out.c1, CP1.out.c2, CP1.out.c3, CQ1.out.c0, CQ1.out.c1, CQ1.out.c2, CQ1.out.c3⟩ ?_
      · intro w hSw
        obtain ⟨s0, s1, s2, s3, s4, s5, s6, s7, s8, s9, s10, s11⟩ := hSw
        go_simp
      try simp only [Act.put]
      refine wpAnyC_take8 (i := 4) (oi := _) (v := I k) rfl (by kernel_rfl) (by kernel_rfl) (by kernel_rfl) (by kernel_rfl) (by kernel_rfl) (by kernel_rfl) (fun _ _ _ h => h) (Or.inl ⟨by rfl, ?_⟩) ⟨VR1.out.c0, VR1.out.c1, VR1.out.c2, VR1.out.c3, CP1.out.c0, CP1.out.c1, CP1.out.c2, CP1.out.c3, CQ1.out.c0, CQ1.out.c1, CQ1.out.c2, CQ1.out.c3⟩ ?_
      · intro w hSw
        obtain ⟨s0, s1, s2, s3, s4, s5, s6, s7, s8, s9, s10, s11⟩ := hSw
        go_simp
      try simp only [Act.put]
      refine wpAnyC_take8 (i := 5) (oi := _) (v := .pointer (some ⟨b, o + k * 4, none⟩)) rfl (by kernel_rfl) (by kernel_rfl) (by kernel_rfl) (by kernel_rfl) (by kernel_rfl) (by kernel_rfl) (fun _ _ _ h => h) (Or.inl ⟨by rfl, ?_⟩) ⟨VR1.out.c0, VR1.out.c1, VR1.out.c2, VR1.out.c3, CP1.out.c0, CP1.out.c1, CP1.out.c2, CP1.out.c3, CQ1.out.c0, CQ1.out.c1, CQ1.out.c2, CQ1.out.c3⟩ ?_
      · intro w hSw
        obtain ⟨s0, s1, s2, s3, s4, s5, s6, s7, s8, s9, s10, s11⟩ := hSw
        go_simp
      try simp only [Act.put]
      refine wpAnyC_take8 (i := 6) (oi := _) (v := .agg #[.bool nb, .slice B1 l1 c1, .bool false, .slice B2 l2 c2]) rfl (by kernel_rfl) (by kernel_rfl) (by kernel_rfl) (by kernel_rfl) (by kernel_rfl) (by kernel_rfl) (fun _ _ _ h => h) (Or.inl ⟨by rfl, ?_⟩) ⟨VR1.out.c0, VR1.out.c1, VR1.out.c2, VR1.out.c3, CP1.out.c0, CP1.out.c1, CP1.out.c2, CP1.out.c3, CQ1.out.c0, CQ1.out.c1, CQ1.out.c2, CQ1.out.c3⟩ ?_
      · intro w hSw
        obtain ⟨s0, s1, s2, s3, s4, s5, s6, s7, s8, s9, s10, s11⟩ := hSw
        go_simp
      try simp only [Act.put]
      refine wpAnyC_take8 (i := 7) (oi := _) (v := .slice (some ⟨b, o, none⟩) n c) rfl (by kernel_rfl) (by kernel_rfl) (by kernel_rfl) (by kernel_rfl) (by kernel_rfl) (by kernel_rfl) (fun _ _ _ h => h) (Or.inl ⟨by rfl, ?_⟩) ⟨VR1.out.c0, VR1.out.c1, VR1.out.c2, VR1.out.c3, CP1.out.c0, CP1.out.c1, CP1.out.c2, CP1.out.c3, CQ1.out.c0, CQ1.out.c1, CQ1.out.c2, CQ1.out.c3⟩ ?_
      · intro w hSw
        obtain ⟨s0, s1, s2, s3, s4, s5, s6, s7, s8, s9, s10, s11⟩ := hSw
        go_simp
      try simp only [Act.put]
      refine wpAnyC_take8 (i := 8) (oi := _) (v := I ((k : Int) + 1)) rfl (by kernel_rfl) (by kernel_rfl) (by kernel_rfl) (by kernel_rfl) (by kernel_rfl) (by kernel_rfl) (fun _ _ _ h => h) (Or.inl ⟨by rfl, ?_⟩) ⟨VR1.out.c0, VR1.out.c1, VR1.out.c2, VR1.out.c3, CP1.out.c0, CP1.out.c1, CP1.out.c2, CP1.out.c3, CQ1.out.c0, CQ1.out.c1, CQ1.out.c2, CQ1.out.c3⟩ ?_
      · intro w hSw
        obtain ⟨s0, s1, s2, s3, s4, s5, s6, s7, s8, s9, s10, s11⟩ := hSw
        go_simp
      try simp only [Act.put]
      refine wpAnyC_take8 (i := 9) (oi := _) (v := .pointer (some ⟨b, o + (k + 1) * 4, none⟩)) rfl (by kernel_rfl) (by kernel_rfl) (by kernel_rfl) (by kernel_rfl) (by kernel_rfl) (by kernel_rfl) (fun _ _ _ h => h) (Or.inl ⟨by rfl, ?_⟩) ⟨VR1.out.c0, VR1.out.c1, VR1.out.c2, VR1.out.c3, CP1.out.c0, CP1.out.c1, CP1.out.c2, CP1.out.c3, CQ1.out.c0, CQ1.out.c1, CQ1.out.c2, CQ1.out.c3⟩ ?_
      · intro w hSw
        obtain ⟨s0, s1, s2, s3, s4, s5, s6, s7, s8, s9, s10, s11⟩ := hSw
        go_simp
      try simp only [Act.put]
      refine wpAnyC_take8 (i := 10) (oi := _) (v := .agg #[.bool mb, .slice D1 m1 d1, .bool false, .slice D2 m2 d2]) rfl (by kernel_rfl) (by kernel_rfl) (by kernel_rfl) (by kernel_rfl) (by kernel_rfl) (by kernel_rfl) (fun _ _ _ h => h) (Or.inl ⟨by rfl, ?_⟩) ⟨VR1.out.c0, VR1.out.c1, VR1.out.c2, VR1.out.c3, CP1.out.c0, CP1.out.c1, CP1.out.c2, CP1.out.c3, CQ1.out.c0, CQ1.out.c1, CQ1.out.c2, CQ1.out.c3⟩ ?_
      · intro w hSw
        obtain ⟨s0, s1, s2, s3, s4, s5, s6, s7, s8, s9, s10, s11⟩ := hSw
        go_simp
      try simp only [Act.put]
      refine wpAnyC_one (i := 11) (by kernel_rfl) rfl (fun K hK => ?_)
      go_simp
      go_at_call 62
      refine (HC.out).mono ?_
      rintro e w6 ⟨v3, rfl, hv3, hb⟩
      obtain ⟨ab, A1, n1, k1, A2, n2, k2, bb, B3, m3, j1, B4, m4, j2, rfl, ha, hb'⟩ := hv3.form
      have VR2 := Lib.hid (VR1.out.below hb)
      have CP2 := Lib.hid (CP1.out.below hb)
      have CQ2 := Lib.hid (CQ1.out.below hb)
      have HP2 := Lib.hid (HP1.out.call hb)
      have HB2 := Lib.hid (HB1.out.trans (hb.mono HB1.out.size))
      have HV2 := Lib.hid (And.intro ha hb')
      clear hb hv3 ha hb'
      refine hK.out _ _ (fun _ => ⟨VR2.out.c0, VR2.out.c1, VR2.out.c2, VR2.out.c3, CP2.out.c0, CP2.out.c1, CP2.out.c2, CP2.out.c3, CQ2.out.c0, CQ2.out.c1, CQ2.out.c2, CQ2.out.c3⟩) ?_
      clear hK K
      try simp only [Act.put, List.setIfInBounds_toArray, List.set_cons_zero, List.set_cons_succ]
      clear HC VR1 CP1 CQ1 HP1 HB1
      refine wpAnyC_one (i := 12) (by kernel_rfl) rfl (fun K hK => ?_)
      go_simp
      have hb3 := below_new w6 (.cells #[.bool ab, .slice A1 n1 k1, .bool false, .slice A2 n2 k2, .bool bb, .slice B3 m3 j1, .bool false, .slice B4 m4 j2] 89)
      have VR3 := Lib.hid (VR2.out.below hb3)
      have CP3 := Lib.hid (CP2.out.below hb3)
      have CQ3 := Lib.hid (CQ2.out.below hb3)
      have HP3 := Lib.hid (HP2.out.call hb3)
      have HB3 := Lib.hid (HB2.out.trans (hb3.mono HB2.out.size))
      have HV3 := Lib.hid (And.intro (HV2.out.1.ext hb3) (HV2.out.2.ext hb3))
      have hBlk := Blk.new w6 89 #[.bool ab, .slice A1 n1 k1, .bool false, .slice A2 n2 k2, .bool bb, .slice B3 m3 j1, .bool false, .slice B4 m4 j2]
      refine hK.out _ _ (fun _ => ⟨VR3.out.c0, VR3.out.c1, VR3.out.c2, VR3.out.c3, CP3.out.c0, CP3.out.c1, CP3.out.c2, CP3.out.c3, CQ3.out.c0, CQ3.out.c1, CQ3.out.c2, CQ3.out.c3⟩) ?_
      clear hK K hb3 VR2 CP2 CQ2 HP2 HB2 HV2
      try simp only [Act.put, List.setIfInBounds_toArray, List.set_cons_zero, List.set_cons_succ]
      generalize hgx : w6.heap.size = gx at *
      generalize w6.alloc (.cells #[.bool ab, .slice A1 n1 k1, .bool false, .slice A2 n2 k2, .bool bb, .slice B3 m3 j1, .bool false, .slice B4 m4 j2] 89) = W3 at *
      refine wpAnyC_one (i := 13) (by kernel_rfl) rfl (fun K hK => ?_)
      refine step_appP (by rfl) _ _ (by rfl) w0.heap.size (.slice A7 lk c7) _ (by kernel_rfl) HP3.out gx (by kernel_rfl) hBlk HV3.out (by rw [HLK.out]; exact HLN.out) HB3.out.size ?_
      intro v7 w7 hap
      have HN := Lib.hid (show PRow w7 w0.heap.size v7 ((choQ x l).take (k + 1)) by rw [HXX.out]; exact hap.row)
      have hb7 := hap.below HP3.out HB3.out.size
      have HB7 := Lib.hid (HB3.out.trans hb7)
      obtain ⟨A8, c8, rfl⟩ := hap.row.val
      generalize ((choQ x l).take k ++ [thru x p q]).length = l7 at *
      refine hK.out _ _ (fun h => absurd h (by decide)) ?_
      clear hK K hap hb7 VR3 CP3 CQ3 HP3 HB3 HV3 hBlk HXX HLN HLK
      try simp only [Act.put, List.setIfInBounds_toArray]
      refine wpAnyC_one (i := 14) (by kernel_rfl) rfl (fun K hK => ?_)
      go_simp
      refine hK.out _ _ (fun h => absurd h (by decide)) ?_
      clear hK K
      refine wpAnyC_done (by kernel_rfl) ?_ _
      go_wp2
      go_roundg (n - (k + 1))
      case measure => omega
      case rel => exact ⟨k + 1, rfl, by go_num, by omega, HN, HB7⟩
    · have hin : k + 1 = n := by omega
      subst hin
      have hr := HP.out
      rw [List.take_of_length_le (by rw [choQ_len, HLL.out]; omega)] at hr
      obtain ⟨A7, c7, rfl⟩ := hr.val
      have HR := Lib.hid (hr.less HB0.out.size)
      have HBT := Lib.hid (HB0.out.trans (HB.out.mono HB0.out.size))
      generalize (choQ x l).length = lt at *
      clear hr HP HB
      go_wp2
      go_ret
      exact ⟨_, rfl, HR.out, HBT.out⟩
end Go.Proofs.YtmnedfkinepnfaaGreatDoor
namespace Go.Proofs.YtmnedfkinepnfaaGreatDoor
open Go.RowKit

/-- a slice of pieces that is read -/
def PV (w : World) (A : Option Addr) (n : Nat) (ps : List PcQ) : Prop := ∃ xs, Reads w w.heap.size 8 A n xs ∧ RtL w xs (flat ps)
theorem PV.len {w : World} {A : Option Addr} {n : Nat} {ps : List PcQ} (h : PV w A n ps) : ps.length = n := by
  obtain ⟨xs, h1, h2⟩ := h
  have := h1.1
  have := h2.len
  have := flat_len ps
  omega
theorem PV.below {w w' : World} {A : Option Addr} {n : Nat} {ps : List PcQ} (h : PV w A n ps) (hb : Below w.heap.size w w') : PV w' A n ps := by
  obtain ⟨xs, h1, h2⟩ := h
  exact ⟨xs, (h1.below hb).more hb.size, h2.kw (kw_below hb)⟩
/-- the eight cells of piece k -/
structure C8 (w : World) (b o : Nat) (x0 x1 x2 x3 x4 x5 x6 x7 : Value) : Prop where
  c0 : w.cell? ⟨b, o, none⟩ = some x0
  c1 : w.cell? ⟨b, o + 1, none⟩ = some x1
  c2 : w.cell? ⟨b, o + 2, none⟩ = some x2
  c3 : w.cell? ⟨b, o + 3, none⟩ = some x3
  c4 : w.cell? ⟨b, o + 4, none⟩ = some x4
  c5 : w.cell? ⟨b, o + 5, none⟩ = some x5
  c6 : w.cell? ⟨b, o + 6, none⟩ = some x6
  c7 : w.cell? ⟨b, o + 7, none⟩ = some x7
theorem PV.form {w : World} {A : Option Addr} {n : Nat} {ps : List PcQ} (h : PV w A n ps) {k : Nat} (hk : k < n) (p : PcQ) (hp : ps[k]? = some p) :
    ∃ b off ab A1 n1 k1 A2 n2 k2 bb B1 m1 j1 B2 m2 j2, A = some ⟨b, off, none⟩ ∧ b < w.heap.size ∧ C8 w b (off + k * 8) (.bool ab) (.slice A1 n1 k1) (.bool false) (.slice A2 n2 k2) (.bool bb) (.slice B1 m1 j1) (.bool false) (.slice B2 m2 j2) ∧
      Rt w (.agg #[.bool ab, .slice A1 n1 k1, .bool false, .slice A2 n2 k2]) p.1 ∧ Rt w (.agg #[.bool bb, .slice B1 m1 j1, .bool false, .slice B2 m2 j2]) p.2 := by
  obtain ⟨xs, h1, h2⟩ := h
  obtain ⟨b, off, e, hb, hc⟩ := h1.2 (by omega)
  obtain ⟨x0, x1, x2, x3, x4, x5, x6, x7, e0, e1, e2, e3, e4, e5, e6, e7, r1, r2⟩ := flat_at k p h2 hp
  obtain ⟨ab, A1, n1, k1, A2, n2, k2, q1⟩ := r1.bools
  obtain ⟨bb, B1, m1, j1, B2, m2, j2, q2⟩ := r2.bools
  injection q1 with q1
  injection q2 with q2
  obtain ⟨rfl, rfl, rfl, rfl⟩ : x0 = _ ∧ x1 = _ ∧ x2 = _ ∧ x3 = _ := by simpa using q1
  obtain ⟨rfl, rfl, rfl, rfl⟩ : x4 = _ ∧ x5 = _ ∧ x6 = _ ∧ x7 = _ := by simpa using q2
  exact ⟨b, off, _, _, _, _, _, _, _, _, _, _, _, _, _, _, e, hb, ⟨hc _ _ e0, hc _ _ e1, hc _ _ e2, hc _ _ e3, hc _ _ e4, hc _ _ e5, hc _ _ e6, hc _ _ e7⟩, r1, r2⟩
theorem PRow.pv {w : World} {base : Nat} {A : Option Addr} {n c : Nat} {ps : List PcQ} (h : PRow w base (.slice A n c) ps) : PV w A n ps := by
  obtain ⟨⟨xs, h1, h2⟩, _⟩ := h
  have hn : n = ps.length := by
    obtain ⟨A', c', e⟩ := h1.val
    injection e
  subst hn
  exact ⟨xs, h1.reads, h2⟩
abbrev lpT : TypeId := 43
abbrev lpsT_ : TypeId := 36
theorem info_lp : (Tryz.prog.info? lpT).map (fun i => (i.zero, i.size, i.bytes)) = some (some (.agg #[.string ⟨#[]⟩, .string ⟨#[]⟩]), 2, 32) := by kernel_rfl
/-- the cells of the texts of pieces -/
def lpCells (ps : List PcQ) : List Value := (mkS ((flat ps).map qText)).map Sv
theorem lpCells_snoc (ps : List PcQ) (p : PcQ) : lpCells (ps ++ [p]) = lpCells ps ++ [Sv ⟨(qText p.1).toArray⟩, Sv ⟨(qText p.2).toArray⟩] := by
  unfold lpCells
  rw [flat_app]
  simp [mkS, flat]
theorem reads_pair (w : World) (t : TypeId) (u v : Value) : Reads (w.alloc (.cells #[u, v] t)) (w.heap.size + 1) 2 (some ⟨w.heap.size, 0, none⟩) 1 [u, v] := by
  have hB := Blk.new w t #[u, v]
  exact ⟨rfl, fun _ => ⟨w.heap.size, 0, rfl, Nat.lt_succ_self _, fun j x hx => by
    rw [Nat.zero_add, hB.cell]
    simpa using hx⟩⟩
theorem ret_tp {v : Value} {a b : Int} (h : a = b) : Ending.returned (.tuple #[v, I a]) = .returned (.tuple #[v, I b]) := by rw [h]
/-- what texts returns -/
def RetTP (w : World) (ps : List PcQ) (e : Ending) (w' : World) : Prop := ∃ v, e = .returned (.tuple #[v, I (pcsT ps).2]) ∧ (ps.all fitP = true → Row w' w.heap.size lpT 2 v ps.length (lpCells ps)) ∧ (ps.all fitP = false → v = .slice none 0 0) ∧ Below w.heap.size w w'
set_option maxRecDepth 100000 in
set_option maxHeartbeats 4000000 in
theorem ltexts_any (ps : List PcQ) (n : Nat) (A : Option Addr) (c : Nat) (w : World) (hr : PV w A n ps) (hn : n ≤ 1000000) (htab : Tab w) :
    Calls Tryz.prog 74 #[.slice A n c] w (RetTP w ps) := by
  have hl := hr.len
  have HRD := Lib.hid hr
  have HTB := Lib.hid htab
  obtain ⟨i0, hi, hz0, hz1, hz2⟩ := info_parts info_lp
  have HI := Lib.hid hi
  have HZ0 := Lib.hid hz0
  have HZ1 := Lib.hid hz1
  have HZ2 := Lib.hid hz2
  clear hr htab hi hz0 hz1 hz2
  unfold lpT at *
  go_enter Tryz.func74, Tryz.ntmps74
  go_wp2
  go_loopg [4, 13] (n - 0) (fun r o v wr => ∃ k : Nat, r = n - k ∧ v = I k ∧ k ≤ n ∧ Hid (Row wr w.heap.size 43 2 o k (lpCells (ps.take k))) ∧ Hid ((ps.take k).all fitP = true) ∧ Hid (Below w.heap.size w wr))
  case atStart => exact ⟨0, rfl, rfl, by omega, Row.nil _ _ _ _, rfl, Below.refl _ _⟩
  case round =>
    obtain ⟨k, rfl, rfl, hk, HS, HF, HB⟩ := hrel
    obtain ⟨wa, rfl⟩ : ∃ wa : World, wa = wr := ⟨_, rfl⟩
    by_cases hlt : k < n
    · obtain ⟨p, hp⟩ : ∃ x, ps[k]? = some x := ⟨_, List.getElem?_eq_getElem (by omega)⟩
      obtain ⟨b, off, ab, A1, n1, k1, A2, n2, k2, bb, B1, m1, j1, B2, m2, j2, rfl, hbl, hC, h1, h2⟩ := (HRD.out.below HB.out).form hlt p hp
      have hc0 := hC.c0
      have hc1 := hC.c1
      have hc2 := hC.c2
      have hc3 := hC.c3
      have hc4 := hC.c4
      have hc5 := hC.c5
      have hc6 := hC.c6
      have hc7 := hC.c7
      have H1 := Lib.hid h1
      have H2 := Lib.hid h2
      have HX := Lib.hid (show ps.take (k + 1) = ps.take k ++ [p] by rw [List.take_add_one, hp]; rfl)
      have HL := Lib.hid (show ps = ps.take k ++ p :: ps.drop (k + 1) by
        obtain ⟨h1, h2⟩ := List.getElem?_eq_some_iff.1 hp
        rw [← h2, ← List.drop_eq_getElem_cons h1, List.take_append_drop])
      have hb := below_new wa (.cells #[.bool ab, .slice A1 n1 k1, .bool false, .slice A2 n2 k2, .bool bb, .slice B1 m1 j1, .bool false, .slice B2 m2 j2] 89)
      have HV := Lib.hid ((Blk.new wa 89 #[.bool ab, .slice A1 n1 k1, .bool false, .slice A2 n2 k2, .bool bb, .slice B1 m1 j1, .bool false, .slice B2 m2 j2]).v8)
      have HB0 := Lib.hid (HB.out.trans (hb.mono HB.out.size))
      have HS0 := Lib.hid (HS.out.call hb)
      have HC := Lib.hid (lossText_any _ p.1 _ (H1.out.ext hb) (tab_below HTB.out HB0.out))
      have H20 := Lib.hid (H2.out.ext hb)
      clear hp hC h1 h2 hb HB HS H1 H2
      go_wp2_with fail
      generalize wa.alloc (.cells #[.bool ab, .slice A1 n1 k1, .bool false, .slice A2 n2 k2, .bool bb, .slice B1 m1 j1, .bool false, .slice B2 m2 j2] 89) = w0 at *
      refine HC.out.mono ?_
      rintro e w1 ⟨rfl, hb⟩
      have hv := HV.out.below hb
      have HB1 := Lib.hid (HB0.out.trans (hb.mono HB0.out.size))
      have HS1 := Lib.hid (HS0.out.call hb)
      have HD := Lib.hid (lossText_any _ p.2 _ (H20.out.ext hb) (tab_below HTB.out HB1.out))
      have v4 := hv.c4
      have v5 := hv.c5
      have v6 := hv.c6
      have v7 := hv.c7
      clear HC HV HB0 HS0 H20 hb hv hc0 hc1 hc2 hc3 hc4 hc5 hc6 hc7 hbl
      go_wp2_with fail
      refine HD.out.mono ?_
      rintro e w2 ⟨rfl, hb⟩
      have HB2 := Lib.hid (HB1.out.trans (hb.mono HB1.out.size))
      have HS2 := Lib.hid (HS1.out.call hb)
      clear HD HB1 HS1 hb v4 v5 v6 v7
      by_cases hf : fitP p = true
      · obtain ⟨f1, f2⟩ : fitQ p.1 = true ∧ fitQ p.2 = true := by simpa [fitP] using hf
        have HF1 := Lib.hid (show (ps.take (k + 1)).all fitP = true by rw [HX.out, List.all_append, HF.out]; simp [hf])
        have hlc : lpCells (ps.take (k + 1)) = lpCells (ps.take k) ++ [Sv ⟨(qText p.1).toArray⟩, Sv ⟨(qText p.2).toArray⟩] := by rw [HX.out, lpCells_snoc]
        have HLC := Lib.hid hlc
        rw [ratTx_ok f1, ratTx_ok f2]
        clear hf f1 f2 hlc HF HL HX
        go_wp2_with (at_builtin; refine wpList_append_rowG rfl _ _ 36 rfl w.heap.size 43 i0 _ 2 32 Tryz.underlying36 HI.out HZ0.out HZ1.out HZ2.out rfl (by decide) _ k (lpCells (ps.take k)) rfl (HS2.out.alloc _) (w2.heap.size + 1) (some ⟨w2.heap.size, 0, none⟩) 1 1 [Sv ⟨(qText p.1).toArray⟩, Sv ⟨(qText p.2).toArray⟩] rfl (reads_pair w2 _ _ _) (by intro u hu; simp at hu; rcases hu with rfl | rfl <;> rfl) ?c1 ?c2 ?c3 ?_)
        case c1 => unfold maxLen; omega
        case c2 => omega
        case c3 => have := HB2.out.size; simp; omega
        intro v' w3 hr3 hg3
        have HSN := Lib.hid hr3
        rw [← HLC.out] at HSN
        have HB3 := Lib.hid (show Below w.heap.size w w3 from (HB2.out.alloc HB2.out.size _).trans ((HS2.out.alloc _).belowG hg3 (by have := HB2.out.size; simp; omega)))
        obtain ⟨A3, c3, rfl⟩ := hr3.val
        clear hr3 hg3 HS2 HB2 HLC
        go_wp2
        go_roundg (n - (k + 1))
        case measure => omega
        case rel => exact ⟨k + 1, rfl, by go_num, by omega, HSN, HF1, HB3⟩
      · have hf : fitP p = false := by simpa using hf
        have HA := Lib.hid (show ps.all fitP = false by rw [HL.out, List.all_append, List.all_cons, hf]; simp)
        have HE := Lib.hid (show (pcsT ps).2 = 2 by rw [pcsT, if_neg (by rw [HA.out]; decide)])
        have HQ := Lib.hid (show RetTP w ps (.returned (.tuple #[.slice none 0 0, I 2])) w2 from ⟨_, ret_tp HE.out.symm, fun h => (by rw [HA.out] at h; cases h), fun _ => rfl, HB2.out⟩)
        by_cases f1 : fitQ p.1 = true
        · have f2 : ¬ fitQ p.2 = true := by
            intro h
            rw [fitP, f1, h] at hf; cases hf
          rw [ratTx_ok f1, show ratTx p.2 = ([], 2) by rw [ratTx, if_neg f2]]
          clear hf f1 f2 HF HL HX HS2 HB2
          go_wp2
          go_ret2
          exact HQ.out
        · rw [show ratTx p.1 = ([], 2) by rw [ratTx, if_neg f1]]
          generalize ratTx p.2 = r2
          clear hf f1 HF HL HX HS2 HB2
          go_wp2
          go_ret2
          exact HQ.out
    · have hkn : k = n := by omega
      subst hkn
      have HA := Lib.hid (show ps.all fitP = true by have := HF.out; rwa [List.take_of_length_le (by omega)] at this)
      have HE := Lib.hid (show (pcsT ps).2 = 0 by rw [pcsT, if_pos HA.out])
      have hr := HS.out
      rw [List.take_of_length_le (by omega)] at hr
      obtain ⟨A3, c3, rfl⟩ := hr.val
      have HQ := Lib.hid (show RetTP w ps (.returned (.tuple #[.slice A3 k c3, I 0])) wa from ⟨_, ret_tp HE.out.symm, fun _ => by rw [hl]; exact hr, fun h => (by rw [HA.out] at h; cases h), HB.out⟩)
      clear hr HS HF HB
      go_wp2
      go_ret2
      exact HQ.out
end Go.Proofs.YtmnedfkinepnfaaGreatDoor
namespace Go.Proofs.YtmnedfkinepnfaaGreatDoor
open Go.RowKit

/-- what a check that found nothing tells -/
structure LOk (r : List UInt8) (l : List (List UInt8)) : Prop where
  res : resE r = 0
  rok : rchk r = 0
  nonneg : 0 ≤ rval r
  two : 2 ≤ l.length
  few : l.length ≤ 16
  vec : chkV l = 0
  inc : incB (valsV l) = true
theorem lchk_ok {r : List UInt8} {l : List (List UInt8)} (h : lchk r l = 0) : LOk r l := by
  unfold lchk at h
  by_cases h1 : resE r = 0
  · rw [if_neg (fun k => k h1)] at h
    have h2 : rchk r = 0 := by
      unfold resE at h1
      split at h1
      · rename_i k; exact absurd h1 k
      · rename_i k; exact Decidable.not_not.1 k
    have h3 : 0 ≤ rval r := by
      unfold resE at h1
      rw [if_neg (fun k => k h2)] at h1
      split at h1
      · cases h1
      · rename_i k; exact Rat.not_lt.1 k
    unfold ptsE at h
    by_cases k1 : 16 < l.length
    · rw [if_pos k1] at h; cases h
    · rw [if_neg k1] at h
      by_cases k2 : l.length < 2
      · rw [if_pos k2] at h; cases h
      · rw [if_neg k2] at h
        by_cases k3 : rAll l = 0
        · rw [if_neg (fun k => k k3)] at h
          by_cases k4 : incB (valsV l) = true
          · exact ⟨h1, h2, h3, by omega, by omega, by rw [chkV, if_neg (by omega)]; exact k3, k4⟩
          · rw [if_neg k4] at h; cases h
        · rw [if_pos k3] at h; exact absurd h k3
  · rw [if_pos h1] at h; exact absurd h h1
/-- what Tangents and Chords return -/
def RetLP (w : World) (r : List (List UInt8 × List UInt8) × Int) (e : Ending) (w' : World) : Prop := ∃ v, e = .returned (.tuple #[v, I r.2]) ∧ Row w' w.heap.size lpT 2 v r.1.length ((mkS (r.1.flatMap fun p => [p.1, p.2])).map Sv) ∧ Below w.heap.size w w'
theorem lp_flat (ps : List PcQ) : ((ps.map fun p => (qText p.1, qText p.2)).flatMap fun p => [p.1, p.2]) = (flat ps).map qText := by
  induction ps with
  | nil => rfl
  | cons p ps ih => simp only [List.map_cons, List.flatMap_cons, ih, flat, List.map_append, List.map_nil]
theorem RetLP.of {w w0 w' : World} {ps : List PcQ} {e : Ending} (hb0 : Below w.heap.size w w0) (h : RetTP w0 ps e w') : RetLP w (pcsT ps) e w' := by
  obtain ⟨v, rfl, h1, h2, hb⟩ := h
  cases hf : ps.all fitP with
  | true =>
    refine ⟨v, rfl, ?_, hb0.trans (hb.mono hb0.size)⟩
    have := (h1 hf).less hb0.size
    rw [pcsT, if_pos hf]
    show Row _ _ _ _ _ (ps.map fun p => (qText p.1, qText p.2)).length ((mkS ((ps.map fun p => (qText p.1, qText p.2)).flatMap fun p => [p.1, p.2])).map Sv)
    rw [lp_flat, List.length_map]
    exact this
  | false =>
    refine ⟨v, rfl, ?_, hb0.trans (hb.mono hb0.size)⟩
    rw [h2 hf, pcsT, if_neg (by rw [hf]; decide)]
    exact Row.nil _ _ _ _
theorem RetLP.bad {w w' : World} {r : List (List UInt8 × List UInt8) × Int} {c : Int} (h : r = ([], c)) (hb : Below w.heap.size w w') : RetLP w r (.returned (.tuple #[.slice none 0 0, I c])) w' := by
  rw [h]
  exact ⟨_, rfl, Row.nil _ _ _ _, hb⟩
set_option maxRecDepth 100000 in
set_option maxHeartbeats 4000000 in
theorem tangentsT_any (r : ByteArray) (l : List ByteArray) (n : Nat) (A : Option Addr) (c : Nat) (w : World) (sr : r.size ≤ 9223372036854775807) (hr : Reads w w.heap.size 1 A n (l.map Sv)) (hs : Sh1 l) (htab : Tab w) :
    Calls Tryz.prog 23 #[.string r, .slice A n c] w (RetLP w (tanT (SL r) (tx1 l))) := by
  have HC := Lib.hid (lchk_any r l n A c w sr hr hs htab)
  have HRD := Lib.hid hr
  have HS := Lib.hid hs
  have HTB := Lib.hid htab
  have hl : l.length = n := by have := hr.1; simpa using this
  have HL := Lib.hid (show (tx1 l).length = n by rw [tx1, List.length_map, hl])
  clear hr hs htab hl
  by_cases h0 : lchk (SL r) (tx1 l) = 0
  · have HO := Lib.hid (lchk_ok h0)
    have HRES := Lib.hid (show tanT (SL r) (tx1 l) = pcsT (tanQ (rval (SL r)) (valsV (tx1 l))) by rw [tanT, if_neg (fun k => k h0)])
    rw [h0] at HC
    rw [HRES.out]
    clear h0 HRES
    go_enter Tryz.func23, Tryz.ntmps23
    go_wp2_with fail
    refine HC.out.mono ?_
    rintro e w1 ⟨rfl, hb⟩
    have HB1 := Lib.hid hb
    have HP := Lib.hid (parse_any r w1 sr (rchk_val _ HO.out.rok))
    clear hb HC
    go_wp2_with fail
    refine HP.out.mono ?_
    rintro e w2 ⟨v2, rfl, hv, hb⟩
    have HB2 := Lib.hid (HB1.out.trans (hb.mono HB1.out.size))
    have HV2 := Lib.hid hv
    have hn16 : n ≤ 16 := by rw [← HL.out]; exact HO.out.few
    have hn2 : 2 ≤ n := by rw [← HL.out]; exact HO.out.two
    have HQ := Lib.hid (parseAll_any l n A c w2 ((HRD.out.below HB2.out).more HB2.out.size) HS.out (val1_of HO.out.vec) (by omega))
    clear hb hv HP HB1
    go_wp2_with fail
    refine HQ.out.mono ?_
    rintro e w3 ⟨v3, rfl, hrow, hb⟩
    have HB3 := Lib.hid (HB2.out.trans (hb.mono HB2.out.size))
    have HV3 := Lib.hid (HV2.out.ext hb)
    have hlv : (valsV (tx1 l)).length = n := by rw [valsV, List.length_map, HL.out]
    obtain ⟨A3, c3, rfl⟩ := hrow.val
    rw [hlv] at hrow ⊢
    have HX := Lib.hid (tangents_any v2 (rval (SL r)) (valsV (tx1 l)) n A3 c3 w3 HV3.out hrow.rv (by omega) (N := 210) (by decide) (val_fit (rchk_val _ HO.out.rok)) (fit1_of HO.out.vec))
    clear hb hrow hlv HQ HB2 HV2 HV3
    go_wp2_with fail
    refine HX.out.mono ?_
    rintro e w4 ⟨v4, rfl, hp, hb⟩
    have HB4 := Lib.hid (HB3.out.trans (hb.mono HB3.out.size))
    obtain ⟨A4, c4, rfl⟩ := hp.val
    have HY := Lib.hid (ltexts_any (tanQ (rval (SL r)) (valsV (tx1 l))) _ A4 c4 w4 hp.pv (by rw [show (tanQ (rval (SL r)) (valsV (tx1 l))).length = _ from List.length_map _]; rw [valsV, List.length_map, HL.out]; omega) (tab_below HTB.out HB4.out))
    generalize (tanQ (rval (SL r)) (valsV (tx1 l))).length = l4 at *
    clear hb hp HX HB3
    go_wp2_with fail
    refine HY.out.mono ?_
    intro e w5 hq
    have hq' := RetLP.of HB4.out hq
    obtain ⟨v5, rfl, _, _, _⟩ := hq
    have HQ := Lib.hid hq'
    clear hq' HY HB4
    go_wp2
    go_ret2
    exact HQ.out
  · have HRES := Lib.hid (show tanT (SL r) (tx1 l) = ([], lchk (SL r) (tx1 l)) by rw [tanT, if_pos h0])
    have hne : (lchk (SL r) (tx1 l) != 0) = true := bne_iff_ne.2 h0
    generalize lchk (SL r) (tx1 l) = ce at *
    clear h0
    go_enter Tryz.func23, Tryz.ntmps23
    go_wp2_with fail
    refine HC.out.mono ?_
    rintro e w1 ⟨rfl, hb⟩
    have HQ := Lib.hid (RetLP.bad HRES.out hb)
    clear HC hb
    go_wp2
    go_ret2
    exact HQ.out
set_option maxRecDepth 100000 in
set_option maxHeartbeats 4000000 in
theorem chordsT_any (r : ByteArray) (l : List ByteArray) (n : Nat) (A : Option Addr) (c : Nat) (w : World) (sr : r.size ≤ 9223372036854775807) (hr : Reads w w.heap.size 1 A n (l.map Sv)) (hs : Sh1 l) (htab : Tab w) :
    Calls Tryz.prog 24 #[.string r, .slice A n c] w (RetLP w (choT (SL r) (tx1 l))) := by
  have HC := Lib.hid (lchk_any r l n A c w sr hr hs htab)
  have HRD := Lib.hid hr
  have HS := Lib.hid hs
  have HTB := Lib.hid htab
  have hl : l.length = n := by have := hr.1; simpa using this
  have HL := Lib.hid (show (tx1 l).length = n by rw [tx1, List.length_map, hl])
  clear hr hs htab hl
  by_cases h0 : lchk (SL r) (tx1 l) = 0
  · have HO := Lib.hid (lchk_ok h0)
    have HRES := Lib.hid (show choT (SL r) (tx1 l) = pcsT (choQ (rval (SL r)) (valsV (tx1 l))) by rw [choT, if_neg (fun k => k h0)])
    rw [h0] at HC
    rw [HRES.out]
    clear h0 HRES
    go_enter Tryz.func24, Tryz.ntmps24
    go_wp2_with fail
    refine HC.out.mono ?_
    rintro e w1 ⟨rfl, hb⟩
    have HB1 := Lib.hid hb
    have HP := Lib.hid (parse_any r w1 sr (rchk_val _ HO.out.rok))
    clear hb HC
    go_wp2_with fail
    refine HP.out.mono ?_
    rintro e w2 ⟨v2, rfl, hv, hb⟩
    have HB2 := Lib.hid (HB1.out.trans (hb.mono HB1.out.size))
    have HV2 := Lib.hid hv
    have hn16 : n ≤ 16 := by rw [← HL.out]; exact HO.out.few
    have hn2 : 2 ≤ n := by rw [← HL.out]; exact HO.out.two
    have HQ := Lib.hid (parseAll_any l n A c w2 ((HRD.out.below HB2.out).more HB2.out.size) HS.out (val1_of HO.out.vec) (by omega))
    clear hb hv HP HB1
    go_wp2_with fail
    refine HQ.out.mono ?_
    rintro e w3 ⟨v3, rfl, hrow, hb⟩
    have HB3 := Lib.hid (HB2.out.trans (hb.mono HB2.out.size))
    have HV3 := Lib.hid (HV2.out.ext hb)
    have hlv : (valsV (tx1 l)).length = n := by rw [valsV, List.length_map, HL.out]
    obtain ⟨A3, c3, rfl⟩ := hrow.val
    rw [hlv] at hrow ⊢
    have HX := Lib.hid (chords_any v2 (rval (SL r)) (valsV (tx1 l)) n A3 c3 w3 HV3.out hrow.rv (by omega) (by omega) (N := 210) (by decide) (val_fit (rchk_val _ HO.out.rok)) (fit1_of HO.out.vec))
    clear hb hrow hlv HQ HB2 HV2 HV3
    go_wp2_with fail
    refine HX.out.mono ?_
    rintro e w4 ⟨v4, rfl, hp, hb⟩
    have HB4 := Lib.hid (HB3.out.trans (hb.mono HB3.out.size))
    obtain ⟨A4, c4, rfl⟩ := hp.val
    have HY := Lib.hid (ltexts_any (choQ (rval (SL r)) (valsV (tx1 l))) _ A4 c4 w4 hp.pv (by rw [show (choQ (rval (SL r)) (valsV (tx1 l))).length = _ from choQ_len _ _]; rw [valsV, List.length_map, HL.out]; omega) (tab_below HTB.out HB4.out))
    generalize (choQ (rval (SL r)) (valsV (tx1 l))).length = l4 at *
    clear hb hp HX HB3
    go_wp2_with fail
    refine HY.out.mono ?_
    intro e w5 hq
    have hq' := RetLP.of HB4.out hq
    obtain ⟨v5, rfl, _, _, _⟩ := hq
    have HQ := Lib.hid hq'
    clear hq' HY HB4
    go_wp2
    go_ret2
    exact HQ.out
  · have HRES := Lib.hid (show choT (SL r) (tx1 l) = ([], lchk (SL r) (tx1 l)) by rw [choT, if_pos h0])
    have hne : (lchk (SL r) (tx1 l) != 0) = true := bne_iff_ne.2 h0
    generalize lchk (SL r) (tx1 l) = ce at *
    clear h0
    go_enter Tryz.func24, Tryz.ntmps24
    go_wp2_with fail
    refine HC.out.mono ?_
    rintro e w1 ⟨rfl, hb⟩
    have HQ := Lib.hid (RetLP.bad HRES.out hb)
    clear HC hb
    go_wp2
    go_ret2
    exact HQ.out
end Go.Proofs.YtmnedfkinepnfaaGreatDoor
