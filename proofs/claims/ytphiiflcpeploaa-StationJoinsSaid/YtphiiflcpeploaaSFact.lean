/- stationFact returns true. -/
import Derived.Test.YtphiiflcpeploaaBusbars
import Derived.Test.YtphiiflcpeploaaJoin
namespace Go.Proofs.Ytphiiflcpeploaa
open Go.RowKit

theorem pair_bars : busbarsE (pairN false) = ([[⟨#[65]⟩, ⟨#[66]⟩], [⟨#[67]⟩]], 0) := by decide +kernel
theorem pair_path : stPath (pairN false) ⟨#[65]⟩ ⟨#[66]⟩ = ([⟨#[83]⟩], 0) := by decide +kernel
theorem pair_iso : isoE (pairN false) ⟨#[65]⟩ = ([⟨#[83]⟩], 0) := by decide +kernel
theorem pair_join : stJoin (pairN true) ⟨#[66]⟩ ⟨#[65]⟩ = ([⟨#[83]⟩], 0) := by decide +kernel

theorem equalS_lit (xs : List ByteArray) (n : Nat) (A B : Option Addr) (c d : Nat) (w : World) (K L : Nat) (hx : Reads w K 1 A n (xs.map S)) (hy : Reads w L 1 B n (xs.map S)) (hn : n ≤ 1000000) (h0 : 0 < n) :
    Calls Try.prog 30 #[.slice A n c, .slice B n d] w fun e w' => e = .returned (.bool true) ∧ ∃ q, w' = w.drewN q := by
  have hxl : xs.length = n := by have := hx.1; simpa using this
  subst hxl
  obtain ⟨b1, o1, rfl, _, hc1⟩ := hx.2 h0
  obtain ⟨b2, o2, rfl, _, hc2⟩ := hy.2 h0
  refine (Try.slices_Equal_string b1 o1 xs.length c b2 o2 xs.length d xs xs w (Nat.le_refl _) (Nat.le_refl _) (by omega) (by omega) (fun j hj => hc1 j _ (by simp [hj])) (fun j hj => hc2 j _ (by simp [hj]))).mono fun e w' ⟨h1, h2⟩ => ⟨by rw [h1]; simp, h2⟩

set_option maxRecDepth 100000 in
set_option maxHeartbeats 2000000 in
theorem stationFact_any (w : World) : Calls Try.prog 24 #[] w fun e w' => e = .returned (.bool true) ∧ Below w.heap.size w w' := by
  go_enter Try.func24, Try.ntmps24
  go_wp2_with fail
  refine (pair_any w).mono ?_
  rintro e w1 ⟨v, rfl, n1, ro1, b1⟩
  have hro := ro1 (by decide)
  obtain ⟨g, off, cap, cur, hv, hbg, hh, _⟩ := hro.form (by decide)
  injection hv with hsa _ hsc
  have HSA := Lib.hid hsa
  have HRO := Lib.hid hro
  have HN1 := Lib.hid n1
  have HB1 := Lib.hid b1
  have hgl := hh.lt
  have HBX := Lib.hid (Blk.new w1 47 (v.parts (pairN false)))
  have HX1 : Hid (Ext w1 (w1.alloc (.cells (v.parts (pairN false)) 47))) := (Ext.refl w1).alloc _
  have HBB := Lib.hid (fun w hn => busbars_any (pairN false) v w hn)
  have HPP := Lib.hid (fun w hn => stPath_any (pairN false) v ⟨#[65]⟩ ⟨#[66]⟩ w hn)
  have HII := Lib.hid (fun w hn => isolate_any (pairN false) v ⟨#[65]⟩ w hn)
  have HJJ := Lib.hid (fun w hn => stJoin_any (pairN true) v ⟨#[66]⟩ ⟨#[65]⟩ w hn)
  rw [pair_bars] at HBB
  rw [pair_path] at HPP
  rw [pair_iso] at HII
  rw [pair_join] at HJJ
  have hval : ∀ o, v.val (pairN o) = .agg #[.slice v.na 3 v.nc, .slice v.sa 1 v.sc, .slice v.ba 2 v.bc, .slice v.ga 1 v.gc, .slice v.la 1 v.lc, .slice v.ta 0 v.tc] := fun o => rfl
  have hparts : v.parts (pairN false) = #[.slice v.na 3 v.nc, .slice v.sa 1 v.sc, .slice v.ba 2 v.bc, .slice v.ga 1 v.gc, .slice v.la 1 v.lc, .slice v.ta 0 v.tc] := rfl
  rw [hval false, hsa] at HBB HPP HII
  rw [hval true, hsa] at HJJ
  rw [hval false]
  rw [hparts, hsa] at HBX HX1
  rw [hsa]
  clear hval hparts hro ro1 n1 b1 hh hsa hsc
  go_wp2_with fail
  refine (HBB.out _ (pair_net (HN1.out.below HX1.out))).mono ?_
  rintro e w2 ⟨bv, bvs, rfl, st2, b2⟩
  have X2 : Hid (Ext w1 w2) := HX1.out.trans b2
  have B2 := Lib.hid (HBX.out.below b2 HBX.out.lt)
  obtain ⟨og, ooff, ocap, ocur, rfl, _, hoh, _⟩ := st2.outer.form (by simp)
  have hvl := st2.len
  obtain ⟨u0, u1, rfl⟩ : ∃ u0 u1, bvs = [u0, u1] := by
    match bvs, hvl with
    | [u0, u1], _ => exact ⟨u0, u1, rfl⟩
  have hin0 := st2.inner 0 u0 _ rfl rfl
  obtain ⟨UA, uc, rfl⟩ := hin0.val
  have hoc : w2.cell? ⟨og, ooff, none⟩ = some (.slice UA 2 uc) := st2.outer.cell_at (j := 0) rfl
  have RU := Lib.hid hin0.reads
  clear st2 b2 hoh hvl hin0
  have x0 : w2.cell? ⟨w1.heap.size, 0, none⟩ = some (.slice v.na 3 v.nc) := B2.out.cell 0
  have x1 : w2.cell? ⟨w1.heap.size, 1, none⟩ = some (.slice (some ⟨g, off, none⟩) 1 v.sc) := B2.out.cell 1
  have x2 : w2.cell? ⟨w1.heap.size, 2, none⟩ = some (.slice v.ba 2 v.bc) := B2.out.cell 2
  have x3 : w2.cell? ⟨w1.heap.size, 3, none⟩ = some (.slice v.ga 1 v.gc) := B2.out.cell 3
  have x4 : w2.cell? ⟨w1.heap.size, 4, none⟩ = some (.slice v.la 1 v.lc) := B2.out.cell 4
  have x5 : w2.cell? ⟨w1.heap.size, 5, none⟩ = some (.slice v.ta 0 v.tc) := B2.out.cell 5
  have hlx : w1.heap.size < w2.heap.size := B2.out.lt
  go_wp2_with fail
  refine (HPP.out w2 (pair_net (HN1.out.below X2.out))).mono ?_
  rintro e w3 ⟨pv, rfl, r3, b3⟩
  obtain ⟨PA, pc, rfl⟩ := r3.val
  have RP := Lib.hid r3.reads
  have X3 : Hid (Ext w2 w3) := b3
  have B3 := Lib.hid (B2.out.below b3 B2.out.lt)
  clear r3 b3
  clear x0 x1 x2 x3 x4 x5 hlx
  have x0 : w3.cell? ⟨w1.heap.size, 0, none⟩ = some (.slice v.na 3 v.nc) := B3.out.cell 0
  have x1 : w3.cell? ⟨w1.heap.size, 1, none⟩ = some (.slice (some ⟨g, off, none⟩) 1 v.sc) := B3.out.cell 1
  have x2 : w3.cell? ⟨w1.heap.size, 2, none⟩ = some (.slice v.ba 2 v.bc) := B3.out.cell 2
  have x3 : w3.cell? ⟨w1.heap.size, 3, none⟩ = some (.slice v.ga 1 v.gc) := B3.out.cell 3
  have x4 : w3.cell? ⟨w1.heap.size, 4, none⟩ = some (.slice v.la 1 v.lc) := B3.out.cell 4
  have x5 : w3.cell? ⟨w1.heap.size, 5, none⟩ = some (.slice v.ta 0 v.tc) := B3.out.cell 5
  have hlx : w1.heap.size < w3.heap.size := B3.out.lt
  go_wp2_with fail
  refine (HII.out w3 (pair_net (HN1.out.below (X2.out.trans X3.out)))).mono ?_
  rintro e w4 ⟨iv, rfl, r4, b4⟩
  obtain ⟨IA, ic, rfl⟩ := r4.val
  have RI := Lib.hid r4.reads
  have X4 : Hid (Ext w3 w4) := b4
  have B4 := Lib.hid (B3.out.below b4 B3.out.lt)
  clear r4 b4
  clear x0 x1 x2 x3 x4 x5 hlx
  have x0 : w4.cell? ⟨w1.heap.size, 0, none⟩ = some (.slice v.na 3 v.nc) := B4.out.cell 0
  have x1 : w4.cell? ⟨w1.heap.size, 1, none⟩ = some (.slice (some ⟨g, off, none⟩) 1 v.sc) := B4.out.cell 1
  have x2 : w4.cell? ⟨w1.heap.size, 2, none⟩ = some (.slice v.ba 2 v.bc) := B4.out.cell 2
  have x3 : w4.cell? ⟨w1.heap.size, 3, none⟩ = some (.slice v.ga 1 v.gc) := B4.out.cell 3
  have x4 : w4.cell? ⟨w1.heap.size, 4, none⟩ = some (.slice v.la 1 v.lc) := B4.out.cell 4
  have x5 : w4.cell? ⟨w1.heap.size, 5, none⟩ = some (.slice v.ta 0 v.tc) := B4.out.cell 5
  have hlx : w1.heap.size < w4.heap.size := B4.out.lt
  have XA : Hid (Ext w1 w4) := X2.out.trans (X3.out.trans X4.out)
  have hro4 := HRO.out.call XA.out
  have hsw := (HN1.out.below XA.out).swSet HSA.out hro4 (i := 0) (by decide) true
  have hro5 := hro4
  rw [HSA.out] at hro5
  have d0 : w4.cell? ⟨g, off + 4, none⟩ = some (.bool false) := hro5.cell_at (j := 4) rfl
  have d1 : w4.frozen? ⟨g, off + 4, none⟩ = false := hro5.frozen_at (off + 4)
  have HN5 : Hid (NetIn (w4.setCell ⟨g, off + 4, none⟩ (.bool true)) (pairN true) v) := hsw.1
  have hgl4 : g < w4.heap.size := Nat.lt_of_lt_of_le hgl (Below.size XA.out)
  have g1 : ¬ g = w1.heap.size := by omega
  have g2 : ¬ w1.heap.size = g := by omega
  have RP5 := Lib.hid ((RP.out.ext X4.out).set_bool (nbS _) d0 (.bool true))
  have RI5 := Lib.hid (RI.out.set_bool (nbS _) d0 (.bool true))
  have RU5 := Lib.hid ((RU.out.ext (X3.out.trans X4.out)).set_bool (nbS _) d0 (.bool true))
  have hoc4 : w4.cell? ⟨og, ooff, none⟩ = some (.slice UA 2 uc) := (X3.out.trans X4.out).cell hoc
  have hoc5 : (w4.setCell ⟨g, off + 4, none⟩ (.bool true)).cell? ⟨og, ooff, none⟩ = some (.slice UA 2 uc) := by
    rw [World.cell?_setCell_other _ _ _ _ ?_]
    · exact hoc4
    · intro e
      rw [e, hoc4] at d0
      cases d0
  have HB5 : Hid (Below w.heap.size w (w4.setCell ⟨g, off + 4, none⟩ (.bool true))) := (HB1.out.trans (Below.mono XA.out HB1.out.size)).setCell (by simpa using hbg) _
  have B5 := Lib.hid (B4.out.far (p := ⟨g, off + 4, none⟩) g2 (.bool true))
  clear hsw hro4 hro5 hoc hoc4
  go_upto_region 6 with (fail)
  have hz5 : (w4.setCell ⟨g, off + 4, none⟩ (.bool true)).heap.size = w4.heap.size := by simp [World.setCell]
  rw [← hz5] at RP5 RI5 RU5
  clear hz5 d0 d1
  generalize w4.setCell ⟨g, off + 4, none⟩ (.bool true) = w5 at *
  clear x0 x1 x2 x3 x4 x5 hlx
  have x0 : w5.cell? ⟨w1.heap.size, 0, none⟩ = some (.slice v.na 3 v.nc) := B5.out.cell 0
  have x1 : w5.cell? ⟨w1.heap.size, 1, none⟩ = some (.slice (some ⟨g, off, none⟩) 1 v.sc) := B5.out.cell 1
  have x2 : w5.cell? ⟨w1.heap.size, 2, none⟩ = some (.slice v.ba 2 v.bc) := B5.out.cell 2
  have x3 : w5.cell? ⟨w1.heap.size, 3, none⟩ = some (.slice v.ga 1 v.gc) := B5.out.cell 3
  have x4 : w5.cell? ⟨w1.heap.size, 4, none⟩ = some (.slice v.la 1 v.lc) := B5.out.cell 4
  have x5 : w5.cell? ⟨w1.heap.size, 5, none⟩ = some (.slice v.ta 0 v.tc) := B5.out.cell 5
  have hlx : w1.heap.size < w5.heap.size := B5.out.lt
  go_wp2_with fail
  refine (HJJ.out w5 (pair_net HN5.out)).mono ?_
  rintro e w6 ⟨jv, rfl, r6, b6⟩
  obtain ⟨JA, jc, rfl⟩ := r6.val
  have RJ := Lib.hid r6.reads
  have X6 : Hid (Ext w5 w6) := b6
  clear r6 b6
  clear x0 x1 x2 x3 x4 x5 hlx
  simp only [List.length_cons, List.length_nil, Nat.zero_add] at RP5 RI5 RJ RU5 ⊢
  have RP6 := Lib.hid (RP5.out.ext X6.out)
  have RI6 := Lib.hid (RI5.out.ext X6.out)
  have RU6 := Lib.hid (RU5.out.ext X6.out)
  have hoc6 := X6.out.cell hoc5
  have hol6 : og < w6.heap.size := World.block_lt_of_cell? _ _ hoc6
  have hol7 : og < w6.heap.size + 1 := by omega
  go_wp2_with fail
  refine (fine_ok 4 _ _ _ _ (reads_new w6 25 (List.replicate 4 (I 0)) 4 1 rfl) (by omega)).mono ?_
  rintro e w6' ⟨rfl, rfl⟩
  go_wp2_with fail
  refine (equalS_lit [⟨#[65]⟩, ⟨#[66]⟩] 2 _ _ _ _ _ _ _ (RU6.out.ext (by repeat (first | exact Ext.refl _ | apply Ext.alloc | apply Ext.drewN))) (reads_at0 _ 9 [.string ⟨#[65]⟩, .string ⟨#[66]⟩] 2 1 _ (by first | rfl | simp) rfl) (by omega) (by omega)).mono ?_
  rintro e w7 ⟨rfl, q1, rfl⟩
  go_wp2_with fail
  refine (equalS_lit [⟨#[83]⟩] 1 _ _ _ _ _ _ _ (RP6.out.ext (by repeat (first | exact Ext.refl _ | apply Ext.alloc | apply Ext.drewN))) (reads_at0 _ 9 [.string ⟨#[83]⟩] 1 1 _ (by first | rfl | simp) rfl) (by omega) (by omega)).mono ?_
  rintro e w7 ⟨rfl, q2, rfl⟩
  go_wp2_with fail
  refine (equalS_lit [⟨#[83]⟩] 1 _ _ _ _ _ _ _ (RI6.out.ext (by repeat (first | exact Ext.refl _ | apply Ext.alloc | apply Ext.drewN))) (RP6.out.ext (by repeat (first | exact Ext.refl _ | apply Ext.alloc | apply Ext.drewN))) (by omega) (by omega)).mono ?_
  rintro e w7 ⟨rfl, q3, rfl⟩
  go_wp2_with fail
  refine (equalS_lit [⟨#[83]⟩] 1 _ _ _ _ _ _ _ (RJ.out.ext (by repeat (first | exact Ext.refl _ | apply Ext.alloc | apply Ext.drewN))) (RP6.out.ext (by repeat (first | exact Ext.refl _ | apply Ext.alloc | apply Ext.drewN))) (by omega) (by omega)).mono ?_
  rintro e w7 ⟨rfl, q4, rfl⟩
  go_wp2
  go_ret
  exact ⟨rfl, Ext.trans (show Ext w w5 from HB5.out) (X6.out.trans (by repeat (first | exact Ext.refl _ | apply Ext.alloc | apply Ext.drewN)))⟩
end Go.Proofs.Ytphiiflcpeploaa
