/- (*simplex.table).end. -/
import Derived.Test.YtcgfdfdcbamceaaGreatDoorXBC
namespace Go.Proofs.YtcgfdfdcbamceaaGreatDoor
open Go.RowKit
set_option maxRecDepth 100000 in
set_option maxHeartbeats 16000000 in
theorem end_any (base g cv bt ot ct cb m V W i : Nat) (A Ab : Option Addr) (vs : List Value) (t : TabQ) (w : World) (h : TBx w base g A cv vs bt ot ct Ab cb m V W t) (hi : i < m) (_hm : m ≤ 900) (hW : W ≤ 900) :
  Calls Tryz.prog 85 #[.pointer (some ⟨g, 0, none⟩), I i] w (RetRt w (ent t.rows i W)) := by
 have hvw := h.hv
 obtain ⟨gv, ov, b, o, k0, hA, hu, _, _, _, _, _, hbl, _⟩ := h.row hi
 subst hA
 obtain ⟨vr, hb⟩ := boxes1 w (.bool false) (.slice none 0 0) (.bool false) (.slice none 0 0)
 have hd := below_draw (w.alloc (.cells #[.bool false, .slice none 0 0, .bool false, .slice none 0 0] 71))
 have HVR := Lib.hid (vr.below hd)
 have HB := Lib.hid (hb.trans (hd.mono hb.size))
 have hT := (h.call hb).call hd
 obtain ⟨nb, B1, l1, q1, B2, l2, q2, hE, hrt⟩ := hT.el (k := W) hi (Nat.le_refl _) hu
 have EL := Lib.hid hE
 have RX := Lib.hid hrt
 have G0 := Lib.hid (show _ = some (Value.slice (some ⟨gv, ov, none⟩) m cv) from hT.blk.cell 0)
 have GR := Lib.hid (hT.rowCell hi hu)
 clear h hT hE hrt hb hd vr hu
 unfold ratT at *
 go_enter Tryz.func85, Tryz.ntmps85
 go_upto_region 1 with (fail)
 have hwv : W < V := by omega
 have HSV := Lib.hid (show (V : Int) - 1 = (W : Int) by omega)
 clear hvw
 refine wp_region_c (fun w' => w'.cell? ⟨g, 0, none⟩ = some (.slice (some ⟨gv, ov, none⟩) m cv) ∧ w'.cell? ⟨gv, ov + i, none⟩ = some (.slice (some ⟨b, o, none⟩) V k0) ∧ w'.cell? ⟨b, o + W * 4, none⟩ = some (.bool nb) ∧ w'.cell? ⟨b, o + W * 4 + 1, none⟩ = some (.slice B1 l1 q1) ∧ w'.cell? ⟨b, o + W * 4 + 2, none⟩ = some (.bool false) ∧ w'.cell? ⟨b, o + W * 4 + 3, none⟩ = some (.slice B2 l2 q2)) 18 (by kernel_rfl) ?_
 generalize (w.alloc (Obj.cells #[Value.bool false, Value.slice none 0 0, Value.bool false, Value.slice none 0 0] 71)).drew = w2 at *
 refine tkS ⟨G0.out, GR.out, EL.out.c0, EL.out.c1, EL.out.c2, EL.out.c3⟩ fun hSS => ?_
 refine tq 0 (.pointer (some ⟨g, 0, none⟩)) rfl ?_ hSS ?_
 ·rintro w ⟨s0, s1, s2, s3, s4, s5⟩
  go_simp
 try simp only [Act.put, putA]
 refine tq 1 (.pointer (some ⟨g, 0, none⟩)) rfl ?_ hSS ?_
 ·rintro w ⟨s0, s1, s2, s3, s4, s5⟩
  go_simp
 try simp only [Act.put]
 refine tq 2 (.pointer (some ⟨g, 0, none⟩)) rfl ?_ hSS ?_
 ·rintro w ⟨s0, s1, s2, s3, s4, s5⟩
  go_simp
 try simp only [Act.put]
 refine tq 3 (.slice (some ⟨gv, ov, none⟩) m cv) rfl ?_ hSS ?_
 ·rintro w ⟨s0, s1, s2, s3, s4, s5⟩
  go_simp
 try simp only [Act.put]
 refine tq 4 (I i) rfl ?_ hSS ?_
 ·rintro w ⟨s0, s1, s2, s3, s4, s5⟩
  go_simp
 try simp only [Act.put]
 refine tq 5 (.pointer (some ⟨gv, ov + i, none⟩)) rfl ?_ hSS ?_
 ·rintro w ⟨s0, s1, s2, s3, s4, s5⟩
  go_simp
 try simp only [Act.put]
 refine tq 6 (.slice (some ⟨b, o, none⟩) V k0) rfl ?_ hSS ?_
 ·rintro w ⟨s0, s1, s2, s3, s4, s5⟩
  go_simp
 try simp only [Act.put]
 refine tq 7 (.pointer (some ⟨g, 0, none⟩)) rfl ?_ hSS ?_
 ·rintro w ⟨s0, s1, s2, s3, s4, s5⟩
  go_simp
 try simp only [Act.put]
 refine tq 8 (.pointer (some ⟨g, 0, none⟩)) rfl ?_ hSS ?_
 ·rintro w ⟨s0, s1, s2, s3, s4, s5⟩
  go_simp
 try simp only [Act.put]
 refine tq 9 (.pointer (some ⟨g, 0, none⟩)) rfl ?_ hSS ?_
 ·rintro w ⟨s0, s1, s2, s3, s4, s5⟩
  go_simp
 try simp only [Act.put]
 refine tq 10 (.slice (some ⟨gv, ov, none⟩) m cv) rfl ?_ hSS ?_
 ·rintro w ⟨s0, s1, s2, s3, s4, s5⟩
  go_simp
 try simp only [Act.put]
 refine tq 11 (I i) rfl ?_ hSS ?_
 ·rintro w ⟨s0, s1, s2, s3, s4, s5⟩
  go_simp
 try simp only [Act.put]
 refine tq 12 (.pointer (some ⟨gv, ov + i, none⟩)) rfl ?_ hSS ?_
 ·rintro w ⟨s0, s1, s2, s3, s4, s5⟩
  go_simp
 try simp only [Act.put]
 refine tq 13 (.slice (some ⟨b, o, none⟩) V k0) rfl ?_ hSS ?_
 ·rintro w ⟨s0, s1, s2, s3, s4, s5⟩
  go_simp
 try simp only [Act.put]
 refine tq 14 (I V) rfl ?_ hSS ?_
 ·rintro w ⟨s0, s1, s2, s3, s4, s5⟩
  go_simp
 try simp only [Act.put]
 refine tq 15 (I W) rfl ?_ hSS ?_
 ·rintro w ⟨s0, s1, s2, s3, s4, s5⟩
  go_simp
  rw [HSV.out]
  exact IntWalk.i64_in (W : Int) (by omega)
 try simp only [Act.put]
 refine tq 16 (.pointer (some ⟨b, o + W * 4, none⟩)) rfl ?_ hSS ?_
 ·rintro w ⟨s0, s1, s2, s3, s4, s5⟩
  go_simp
 try simp only [Act.put]
 refine tq 17 (.agg #[.bool nb, .slice B1 l1 q1, .bool false, .slice B2 l2 q2]) rfl ?_ hSS ?_
 ·rintro w ⟨s0, s1, s2, s3, s4, s5⟩
  go_simp
 try simp only [Act.put]
 have z0 := HVR.out.c0
 have y0 := HVR.out.f0
 have z1 := HVR.out.c1
 have y1 := HVR.out.f1
 have z2 := HVR.out.c2
 have y2 := HVR.out.f2
 have z3 := HVR.out.c3
 have y3 := HVR.out.f3
 refine on1 18 fun K hK => ?_
 go_simp
 refine hK.out _ _ (fun h => absurd h (by decide)) ?_
 clear hK K z0 z1 z2 z3 y0 y1 y2 y3
 refine wpAnyC_done (by kernel_rfl) ?_ _
 have HVS := Lib.hid (HVR.out.set (.bool nb) (.slice B1 l1 q1) (.bool false) (.slice B2 l2 q2))
 have HRS := Lib.hid (RX.out.set4 HVR.out (.bool nb) (.slice B1 l1 q1) (.bool false) (.slice B2 l2 q2))
 have HBS := Lib.hid (below_set4 HB.out (Nat.le_refl _) (.bool nb) (.slice B1 l1 q1) (.bool false) (.slice B2 l2 q2))
 unfold set4 at HVS HRS HBS
 go_wp2
 have z0 := HVS.out.c0
 have z1 := HVS.out.c1
 have z2 := HVS.out.c2
 have z3 := HVS.out.c3
 generalize ((((w2.setCell ⟨w.heap.size, 0, none⟩ (.bool nb)).setCell ⟨w.heap.size, 1, none⟩ (.slice B1 l1 q1)).setCell ⟨w.heap.size, 2, none⟩ (.bool false)).setCell ⟨w.heap.size, 3, none⟩ (.slice B2 l2 q2)) = W3 at *
 exact bodyPost_ret (v := .agg #[.bool nb, .slice B1 l1 q1, .bool false, .slice B2 l2 q2]) (by simp [results, Tryz.results85, go_sem, z0, z1, z2, z3]) rfl ⟨_, rfl, HRS.out, HBS.out⟩
end Go.Proofs.YtcgfdfdcbamceaaGreatDoor
