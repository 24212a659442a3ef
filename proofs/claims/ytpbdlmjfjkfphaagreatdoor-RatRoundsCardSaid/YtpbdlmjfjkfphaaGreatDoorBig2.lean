/- large.Int: Sub, Cmp, Of. -/
import Derived.Test.YtpbdlmjfjkfphaaGreatDoorBig
namespace Go.Proofs.YtpbdlmjfjkfphaaGreatDoor
open Go.RowKit

theorem RetBig.of_eq {w : World} {z z' : Int} {e : Ending} {w' : World} (h : RetBig w z e w') (hz : z = z') : RetBig w z' e w' := by rw [← hz]; exact h
set_option maxRecDepth 100000 in
set_option maxHeartbeats 2000000 in
theorem sub_any (u v : Value) (x y : Int) (w : World) (hx : Big w u x) (hy : Big w v y) {N : Nat} (hN : N ≤ 1000000) (fx : Fits N x) (fy : Fits N y) : Calls Tryz.prog 58 #[u, v] w (RetBig w (x - y)) := by
  obtain ⟨bx, A, lx, ca, rfl⟩ := hx.ofWords
  obtain ⟨by_, B, ly, cb, rfl⟩ := hy.ofWords
  have hb1 : Below w.heap.size w (((w.alloc (.cells #[.bool bx, .slice A lx ca] bigT)).alloc (.cells #[.bool by_, .slice B ly cb] bigT)).alloc (.cells #[.bool false, .slice none 0 0] bigT)) := (((Below.refl _ _).alloc (Nat.le_refl _) _).alloc (by simp) _).alloc (by simp; omega) _
  have HX := Lib.hid (((Blk.new w bigT #[.bool bx, .slice A lx ca]).alloc (.cells #[.bool by_, .slice B ly cb] bigT)).alloc (.cells #[.bool false, .slice none 0 0] bigT))
  have HY := Lib.hid ((Blk.new (w.alloc (.cells #[.bool bx, .slice A lx ca] bigT)) bigT #[.bool by_, .slice B ly cb]).alloc (.cells #[.bool false, .slice none 0 0] bigT))
  have HR := Lib.hid (Blk.new ((w.alloc (.cells #[.bool bx, .slice A lx ca] bigT)).alloc (.cells #[.bool by_, .slice B ly cb] bigT)) bigT #[.bool false, .slice none 0 0])
  rw [World.size_alloc w] at HY
  rw [World.size_alloc _, World.size_alloc w] at HR
  have HBX := Lib.hid (hx.ext hb1)
  have HBY := Lib.hid (hy.ext hb1)
  have HB := Lib.hid hb1
  clear hx hy hb1
  unfold bigT at *
  go_enter Tryz.func58, Tryz.ntmps58
  go_wp2
  generalize hW0 : ((w.alloc (Obj.cells #[Value.bool bx, Value.slice A lx ca] 45)).alloc (Obj.cells #[Value.bool by_, Value.slice B ly cb] 45)).alloc (Obj.cells #[Value.bool false, Value.slice none 0 0] 45) = W0 at *
  clear hW0
  go_region_held3 (fun w' => w'.cell? ⟨w.heap.size, 0, none⟩ = some (.bool bx) ∧ w'.cell? ⟨w.heap.size, 1, none⟩ = some (.slice A lx ca) ∧ w'.cell? ⟨w.heap.size + 1, 0, none⟩ = some (.bool by_) ∧ w'.cell? ⟨w.heap.size + 1, 1, none⟩ = some (.slice B ly cb) ∧ w'.frozen? ⟨w.heap.size + 1 + 1, 0, none⟩ = false ∧ w'.frozen? ⟨w.heap.size + 1 + 1, 1, none⟩ = false ∧ w'.cell? ⟨w.heap.size + 1 + 1, 0, none⟩ = some (oldCell w' ⟨w.heap.size + 1 + 1, 0, none⟩) ∧ w'.cell? ⟨w.heap.size + 1 + 1, 1, none⟩ = some (oldCell w' ⟨w.heap.size + 1 + 1, 1, none⟩))
    (first | (with_reducible exact hold3 HX.out HY.out HR.out) | (with_reducible exact hold3 HX.out.drew HY.out.drew HR.out.drew) | (with_reducible exact hold3 HX1.out HY1.out HR1.out) | (with_reducible exact hold3 HX2.out HY2.out HR2.out) | (with_reducible exact hold3 HX3.out HY3.out HR3.out))
    (first | (go_at_call 54; (with_reducible refine (neg_any _ y _ HBY.out.drew).mono ?_); rintro e w1 ⟨v1, rfl, hv1, hb1⟩; have HX1 := Lib.hid (HX.out.drew.below hb1 HX.out.lt); have HY1 := Lib.hid (HY.out.drew.below hb1 HY.out.lt); have HR1 := Lib.hid (HR.out.drew.below hb1 HR.out.lt); have HB1 := Lib.hid (HB.out.trans ((below_undrew hb1).mono HB.out.size)); have HBX1 := Lib.hid (HBX.out.drew.ext hb1); clear hb1) | (go_at_call 50; (with_reducible refine (add_any _ _ x (-y) _ HBX1.out hv1 hN fx fy.neg).mono ?_); rintro e w2 ⟨v2, rfl, hv2, hb2⟩; obtain ⟨b2, A2, n2, c2, rfl⟩ := hv2.ofWords; have HX2 := Lib.hid (HX1.out.below hb2 HX1.out.lt); have HY2 := Lib.hid (HY1.out.below hb2 HY1.out.lt); have HR2 := Lib.hid (HR1.out.below hb2 HR1.out.lt); have HQ := Lib.hid (ret_big_set (HB1.out.trans (hb2.mono HB1.out.size)) (by omega) HR2.out hv2); have HX3 := Lib.hid ((HX2.out.far (p := ⟨w.heap.size + 1 + 1, 0, none⟩) (by simp only; omega) (.bool b2)).far (p := ⟨w.heap.size + 1 + 1, 1, none⟩) (by simp only; omega) (.slice A2 n2 c2)); have HY3 := Lib.hid ((HY2.out.far (p := ⟨w.heap.size + 1 + 1, 0, none⟩) (by simp only; omega) (.bool b2)).far (p := ⟨w.heap.size + 1 + 1, 1, none⟩) (by simp only; omega) (.slice A2 n2 c2)); have HR3 := Lib.hid (HR2.out.set2 (.bool b2) (.slice A2 n2 c2)); clear hv2 hb2))
  have z0 := HR3.out.cell 0
  have z1 := HR3.out.cell 1
  generalize (w2.setCell ⟨w.heap.size + 1 + 1, 0, none⟩ (.bool b2)).setCell ⟨w.heap.size + 1 + 1, 1, none⟩ (.slice A2 n2 c2) = W at *
  go_wp2
  exact bodyPost_ret (v := .agg #[.bool b2, .slice A2 n2 c2]) (by simp [results, Tryz.results58, go_sem, z0, z1]) rfl (HQ.out.of_eq Int.sub_eq_add_neg.symm)
theorem Fits.sub {n : Nat} {a b : Int} (ha : Fits n a) (hb : Fits n b) : Fits (n + 1) (a - b) := by rw [Int.sub_eq_add_neg]; exact ha.add hb.neg
set_option maxRecDepth 100000 in
set_option maxHeartbeats 2000000 in
theorem cmp_any (u v : Value) (x y : Int) (w : World) (hx : Big w u x) (hy : Big w v y) {N : Nat} (hN : N ≤ 1000000) (fx : Fits N x) (fy : Fits N y) : Calls Tryz.prog 53 #[u, v] w fun e w' => e = .returned (I (x - y).sign) ∧ Below w.heap.size w w' := by
  obtain ⟨bx, A, lx, ca, rfl⟩ := hx.ofWords
  obtain ⟨by_, B, ly, cb, rfl⟩ := hy.ofWords
  have hb1 : Below w.heap.size w ((w.alloc (.cells #[.bool bx, .slice A lx ca] bigT)).alloc (.cells #[.bool by_, .slice B ly cb] bigT)) := ((Below.refl _ _).alloc (Nat.le_refl _) _).alloc (by simp) _
  have HC := Lib.hid (sub_any _ _ x y _ (hx.ext hb1) (hy.ext hb1) hN fx fy)
  have HB := Lib.hid hb1
  clear hx hy hb1
  unfold bigT at *
  go_enter Tryz.func53, Tryz.ntmps53
  go_wp2_with fail
  refine HC.out.mono ?_
  rintro e w1 ⟨v1, rfl, hv1, hb1⟩
  have HB1 := Lib.hid (HB.out.trans (hb1.mono HB.out.size))
  have HS := Lib.hid (sign_any _ _ _ hv1)
  clear hb1 hv1 HC HB
  go_wp2_with fail
  refine HS.out.mono ?_
  rintro e w2 ⟨rfl, hb2⟩
  have HB2 := Lib.hid (HB1.out.trans (hb2.mono HB1.out.size))
  clear hb2
  go_wp2
  go_ret
  exact ⟨rfl, HB2.out⟩
theorem reads_two (w : World) (t : TypeId) (x y : Value) : Reads (w.alloc (.cells #[x, y] t)) (w.alloc (.cells #[x, y] t)).heap.size 1 (some ⟨w.heap.size, 0, none⟩) 2 [x, y] := by
  refine ⟨rfl, fun _ => ⟨_, _, rfl, by simp, fun j u hu => ?_⟩⟩
  rw [(Blk.new w t #[x, y]).cell, Nat.zero_add]
  rw [← hu]
  simp
theorem of_words {n lo hi : Int} (e1 : lo + 4294967296 * hi = (n.natAbs : Int)) (h0 : 0 ≤ lo ∧ lo < 4294967296) (h1 : 0 ≤ hi ∧ hi < 4294967296) : val [lo, hi] = (n.natAbs : Int) ∧ Ok [lo, hi] := by
  refine ⟨by simp only [val]; omega, fun x hx => ?_⟩
  rcases List.mem_cons.1 hx with rfl | hx
  · exact h0
  · rcases List.mem_cons.1 hx with rfl | hx
    · exact h1
    · simp at hx
theorem two_norm {n lo hi : Int} (m : Bool) (w : World) (e1 : lo + 4294967296 * hi = (n.natAbs : Int)) (h0 : 0 ≤ lo ∧ lo < 4294967296) (h1 : 0 ≤ hi ∧ hi < 4294967296) (hm : sgn m (n.natAbs : Int) = n) :
    Calls Tryz.prog 68 #[.bool m, .slice (some ⟨w.heap.size, 0, none⟩) 2 2] (w.alloc (.cells #[U lo, U hi] 78)) (RetBig (w.alloc (.cells #[U lo, U hi] 78)) n) := by
  obtain ⟨hv, ho⟩ := of_words e1 h0 h1
  have := norm_any m [lo, hi] (some ⟨w.heap.size, 0, none⟩) 2 (w.alloc (.cells #[U lo, U hi] 78)) (reads_two w _ _ _) (Nat.le_refl _) (by unfold maxLen; omega) ho
  rw [hv, hm] at this
  exact this
set_option maxRecDepth 100000 in
theorem of_any (n : Int) (w : World) (h0 : -9223372036854775808 ≤ n) (h1 : n ≤ 9223372036854775807) : Calls Tryz.prog 52 #[I n] w (RetBig w n) := by
  have hb0 : ∀ o, Below w.heap.size w ((w.alloc (.cells #[.bool false, .slice none 0 0] 45)).alloc o) := fun o => ((Below.refl _ _).alloc (Nat.le_refl _) _).alloc (by simp) _
  by_cases hn : n < 0
  · have hm : sgn true (n.natAbs : Int) = n := by simp [sgn]; omega
    have e1 : IntKind.u64.wrap (-IntKind.u64.wrap n) % 4294967296 + 4294967296 * (IntKind.u64.wrap (-IntKind.u64.wrap n) / 4294967296 % 4294967296) = (n.natAbs : Int) := by rw [IntKind.wrap_u64, IntKind.wrap_u64]; omega
    have h2 := two_norm (n := n) true (w.alloc (.cells #[.bool false, .slice none 0 0] 45)) e1 (by omega) (by omega) hm
    have hbk := (Blk.new w bigT #[.bool false, .slice none 0 0]).alloc (.cells #[U (IntKind.u64.wrap (-IntKind.u64.wrap n) % 4294967296), U (IntKind.u64.wrap (-IntKind.u64.wrap n) / 4294967296 % 4294967296)] 78)
    have HN := Lib.hid h2
    have HB := Lib.hid (hb0 (.cells #[U (IntKind.u64.wrap (-IntKind.u64.wrap n) % 4294967296), U (IntKind.u64.wrap (-IntKind.u64.wrap n) / 4294967296 % 4294967296)] 78))
    have HR := Lib.hid hbk
    rw [World.size_alloc w] at HN
    clear hm e1 h2 hbk hb0
    go_enter Tryz.func52, Tryz.ntmps52
    go_wp2_with fail
    refine HN.out.mono ?_
    rintro e w1 ⟨v, rfl, hv, hb⟩
    obtain ⟨b1, A1, n1, c1, rfl⟩ := hv.ofWords
    have hR1 := HR.out.below hb HR.out.lt
    have y0 := hR1.cell 0
    have y1 := hR1.cell 1
    have f0 := hR1.frozen 0
    have f1 := hR1.frozen 1
    have HQ := Lib.hid (ret_big_set (HB.out.trans (hb.mono HB.out.size)) (by omega) hR1 hv)
    have HR2 := Lib.hid (hR1.set2 (.bool b1) (.slice A1 n1 c1))
    clear hv hb hR1 HB HN HR
    go_wp2
    have z0 := HR2.out.cell 0
    have z1 := HR2.out.cell 1
    generalize (w1.setCell ⟨w.heap.size, 0, none⟩ (.bool b1)).setCell ⟨w.heap.size, 1, none⟩ (.slice A1 n1 c1) = W at *
    exact bodyPost_ret (v := .agg #[.bool b1, .slice A1 n1 c1]) (by simp [results, Tryz.results52, go_sem, z0, z1]) rfl HQ.out
  · have hm : sgn false (n.natAbs : Int) = n := by simp [sgn]; omega
    have e1 : n % 4294967296 + 4294967296 * (n / 4294967296) = (n.natAbs : Int) := by omega
    have h2 := two_norm (n := n) false (w.alloc (.cells #[.bool false, .slice none 0 0] 45)) e1 (by omega) (by omega) hm
    have hbk := (Blk.new w bigT #[.bool false, .slice none 0 0]).alloc (.cells #[U (n % 4294967296), U (n / 4294967296)] 78)
    have HN := Lib.hid h2
    have HB := Lib.hid (hb0 (.cells #[U (n % 4294967296), U (n / 4294967296)] 78))
    have HR := Lib.hid hbk
    rw [World.size_alloc w] at HN
    clear hm e1 h2 hbk hb0
    go_enter Tryz.func52, Tryz.ntmps52
    go_wp2_with fail
    refine HN.out.mono ?_
    rintro e w1 ⟨v, rfl, hv, hb⟩
    obtain ⟨b1, A1, n1, c1, rfl⟩ := hv.ofWords
    have hR1 := HR.out.below hb HR.out.lt
    have y0 := hR1.cell 0
    have y1 := hR1.cell 1
    have f0 := hR1.frozen 0
    have f1 := hR1.frozen 1
    have HQ := Lib.hid (ret_big_set (HB.out.trans (hb.mono HB.out.size)) (by omega) hR1 hv)
    have HR2 := Lib.hid (hR1.set2 (.bool b1) (.slice A1 n1 c1))
    clear hv hb hR1 HB HN HR
    go_wp2
    have z0 := HR2.out.cell 0
    have z1 := HR2.out.cell 1
    generalize (w1.setCell ⟨w.heap.size, 0, none⟩ (.bool b1)).setCell ⟨w.heap.size, 1, none⟩ (.slice A1 n1 c1) = W at *
    exact bodyPost_ret (v := .agg #[.bool b1, .slice A1 n1 c1]) (by simp [results, Tryz.results52, go_sem, z0, z1]) rfl HQ.out
end Go.Proofs.YtpbdlmjfjkfphaaGreatDoor
