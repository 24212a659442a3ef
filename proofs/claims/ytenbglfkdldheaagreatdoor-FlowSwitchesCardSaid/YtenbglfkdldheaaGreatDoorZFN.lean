/- The network of the facts: gridhallkeep1.pair. flow.Inject at the network of the facts. -/
import Derived.Test.YtenbglfkdldheaaGreatDoorZFH
set_option maxRecDepth 100000
set_option maxHeartbeats 16000000
namespace Go.Proofs.YtenbglfkdldheaaGreatDoor
open Go.RowKit
def bA : ByteArray := ⟨#[65]⟩
def pairN (o : Bool) : NetD where
 nodes := [⟨#[65]⟩, ⟨#[66]⟩, ⟨#[67]⟩]
 switches := [⟨⟨#[83]⟩, ⟨#[65]⟩, ⟨#[66]⟩, false, o⟩]
 branches := [⟨⟨#[76, 49]⟩, ⟨#[65]⟩, ⟨#[67]⟩, 1000, 1000, 0, 10, 20, 60⟩, ⟨⟨#[76, 50]⟩, ⟨#[65]⟩, ⟨#[67]⟩, 1000, 1000, 0, 10, 20, 60⟩]
 gens := [⟨⟨#[71]⟩, ⟨#[66]⟩, 1, 30, 5⟩]
 loads := [⟨⟨#[68]⟩, ⟨#[67]⟩, 8⟩]
 stores := []
theorem reads_blk {w : World} {g n sz : Nat} {t : TypeId} {cs : Array Value} (h : Blk w g t cs) (hl : cs.size = n * sz) : Reads w w.heap.size sz (some ⟨g, 0, none⟩) n cs.toList := by
 refine ⟨by simpa using hl, fun _ => ⟨g, 0, rfl, h.lt, fun j u hu => ?_⟩⟩
 rw [h.cell, Nat.zero_add]
 simpa using hu
theorem row_blk {w : World} {g n sz base : Nat} {t : TypeId} {cs : Array Value} (h : Blk w g t cs) (hb : base ≤ g) (hl : cs.size = n * sz) (hm : n ≤ 1000000) : Row w base t sz (.slice (some ⟨g, 0, none⟩) n n) n cs.toList := by
 refine ⟨by simpa using hl, .inr ⟨g, 0, n, cs, rfl, hb, h, Nat.le_refl _, by unfold maxLen; omega, by omega, ?_⟩⟩
 rw [List.drop_zero, List.take_of_length_le (by simp [hl])]
structure Chain8 (w : World) (o4 o5 o6 o7 o8 : Obj) (W : World) : Prop where
 a4 : W.heap[w.heap.size + 1 + 1 + 1]? = some o4
 a5 : W.heap[w.heap.size + 1 + 1 + 1 + 1]? = some o5
 a6 : W.heap[w.heap.size + 1 + 1 + 1 + 1 + 1]? = some o6
 a7 : W.heap[w.heap.size + 1 + 1 + 1 + 1 + 1 + 1]? = some o7
 a8 : W.heap[w.heap.size + 1 + 1 + 1 + 1 + 1 + 1 + 1]? = some o8
 below : Below w.heap.size w W
theorem chain8 (w : World) (o1 o2 o3 o4 o5 o6 o7 o8 : Obj) : Chain8 w o4 o5 o6 o7 o8 ((((((((w.alloc o1).alloc o2).alloc o3).alloc o4).alloc o5).alloc o6).alloc o7).alloc o8) := by
 refine ⟨?_, ?_, ?_, ?_, ?_, ?_⟩
 ·have := heap_alloc_new (((w.alloc o1).alloc o2).alloc o3) o4
  simp only [World.size_alloc] at this
  rw [Below.heap_alloc _ _ _ (by simp only [World.size_alloc]; omega), Below.heap_alloc _ _ _ (by simp only [World.size_alloc]; omega), Below.heap_alloc _ _ _ (by simp only [World.size_alloc]; omega), Below.heap_alloc _ _ _ (by simp only [World.size_alloc]; omega)]
  exact this
 ·have := heap_alloc_new ((((w.alloc o1).alloc o2).alloc o3).alloc o4) o5
  simp only [World.size_alloc] at this
  rw [Below.heap_alloc _ _ _ (by simp only [World.size_alloc]; omega), Below.heap_alloc _ _ _ (by simp only [World.size_alloc]; omega), Below.heap_alloc _ _ _ (by simp only [World.size_alloc]; omega)]
  exact this
 ·have := heap_alloc_new (((((w.alloc o1).alloc o2).alloc o3).alloc o4).alloc o5) o6
  simp only [World.size_alloc] at this
  rw [Below.heap_alloc _ _ _ (by simp only [World.size_alloc]; omega), Below.heap_alloc _ _ _ (by simp only [World.size_alloc]; omega)]
  exact this
 ·have := heap_alloc_new ((((((w.alloc o1).alloc o2).alloc o3).alloc o4).alloc o5).alloc o6) o7
  simp only [World.size_alloc] at this
  rw [Below.heap_alloc _ _ _ (by simp only [World.size_alloc]; omega)]
  exact this
 ·have := heap_alloc_new (((((((w.alloc o1).alloc o2).alloc o3).alloc o4).alloc o5).alloc o6).alloc o7) o8
  simp only [World.size_alloc] at this
  exact this
 ·have h := Below.refl w.heap.size w
  exact (((((((h.alloc lR o1).alloc (by simp only [World.size_alloc]; omega) o2).alloc (by simp only [World.size_alloc]; omega) o3).alloc (by simp only [World.size_alloc]; omega) o4).alloc (by simp only [World.size_alloc]; omega) o5).alloc (by simp only [World.size_alloc]; omega) o6).alloc (by simp only [World.size_alloc]; omega) o7).alloc (by simp only [World.size_alloc]; omega) o8
theorem pair_fin {w W : World} (h : Chain8 w (.cells #[.string ⟨#[65]⟩, .string ⟨#[66]⟩, .string ⟨#[67]⟩] 9) (.cells #[.string ⟨#[83]⟩, .string ⟨#[65]⟩, .string ⟨#[66]⟩, .bool false, .bool false] 134)
   (.cells #[.string ⟨#[76, 49]⟩, .string ⟨#[65]⟩, .string ⟨#[67]⟩, I 1000, I 1000, I 0, I 10, I 20, I 60, .string ⟨#[76, 50]⟩, .string ⟨#[65]⟩, .string ⟨#[67]⟩, I 1000, I 1000, I 0, I 10, I 20, I 60] 41)
   (.cells #[.string ⟨#[71]⟩, .string ⟨#[66]⟩, I 1, I 30, I 5] 138) (.cells #[.string ⟨#[68]⟩, .string ⟨#[67]⟩, I 8] 141) W) :
  CopyOf w (pairN false) (.returned (.agg #[Value.slice (some { block := w.heap.size + 1 + 1 + 1, off := 0 }) 3 3, Value.slice (some { block := w.heap.size + 1 + 1 + 1 + 1, off := 0 }) 1 1, Value.slice (some { block := w.heap.size + 1 + 1 + 1 + 1 + 1, off := 0 }) 2 2,
   Value.slice (some { block := w.heap.size + 1 + 1 + 1 + 1 + 1 + 1, off := 0 }) 1 1, Value.slice (some { block := w.heap.size + 1 + 1 + 1 + 1 + 1 + 1 + 1, off := 0 }) 1 1, Value.slice none 0 0])) W :=
 ⟨⟨some ⟨w.heap.size + 1 + 1 + 1, 0, none⟩, 3, some ⟨w.heap.size + 1 + 1 + 1 + 1, 0, none⟩, 1, some ⟨w.heap.size + 1 + 1 + 1 + 1 + 1, 0, none⟩, 2, some ⟨w.heap.size + 1 + 1 + 1 + 1 + 1 + 1, 0, none⟩, 1, some ⟨w.heap.size + 1 + 1 + 1 + 1 + 1 + 1 + 1, 0, none⟩, 1, none, 0⟩, rfl,
  ⟨reads_blk (n := 3) (sz := 1) h.a4 rfl, reads_blk (n := 1) (sz := 5) h.a5 rfl, reads_blk (n := 2) (sz := 9) h.a6 rfl, reads_blk (n := 1) (sz := 5) h.a7 rfl, reads_blk (n := 1) (sz := 3) h.a8 rfl, Reads.nil⟩,
  fun _ => row_blk (n := 1) (sz := 5) h.a5 (by omega) rfl (by omega), h.below⟩
theorem pair_any (w : World) : Calls Tryz.prog 54 #[] w (CopyOf w (pairN false)) := by
 go_enter Tryz.func54, Tryz.ntmps54
 go_wp2
 refine bodyPost_ret (v := .agg #[Value.slice (some { block := w.heap.size + 1 + 1 + 1, off := 0 }) 3 3, Value.slice (some { block := w.heap.size + 1 + 1 + 1 + 1, off := 0 }) 1 1, Value.slice (some { block := w.heap.size + 1 + 1 + 1 + 1 + 1, off := 0 }) 2 2,
   Value.slice (some { block := w.heap.size + 1 + 1 + 1 + 1 + 1 + 1, off := 0 }) 1 1, Value.slice (some { block := w.heap.size + 1 + 1 + 1 + 1 + 1 + 1 + 1, off := 0 }) 1 1, Value.slice none 0 0]) (by simp [results, go_sem]) rfl ?_
 exact pair_fin (chain8 w _ _ _ _ _ _ _ _)
theorem small_ok {s : ByteArray} (h : s.data.size ≤ 2) : s.size ≤ 9223372036854775807 := by
 have : s.size = s.data.size := rfl
 omega
theorem pair_ok (o : Bool) : NetOk (pairN o) := by
 refine ⟨fun s hs => ?_, fun s hs => ?_, fun s hs => ?_, fun s hs => ?_, fun s hs => ?_, fun s hs => ?_⟩ <;> simp only [pairN, List.mem_cons, List.not_mem_nil, or_false] at hs
 ·rcases hs with rfl | rfl | rfl <;> exact small_ok (by decide)
 ·subst hs; cases o <;> exact ⟨small_ok (by decide), small_ok (by decide), small_ok (by decide)⟩
 ·rcases hs with rfl | rfl <;> exact ⟨small_ok (by decide), small_ok (by decide), small_ok (by decide)⟩
 ·subst hs; exact ⟨small_ok (by decide), small_ok (by decide)⟩
 ·subst hs; exact ⟨small_ok (by decide), small_ok (by decide)⟩
theorem pair_net {w : World} {o : Bool} {v : NetV} (h : NetIn w (pairN o) v) : Net w (pairN o) v := ⟨h, pair_ok o, by simp [pairN], by simp [pairN], by simp [pairN], by simp [pairN], by simp [pairN], by simp [pairN]⟩
theorem pair_check (o : Bool) : checkN (pairN o) = 0 := by cases o <;> decide +kernel
theorem pair_gen {w : World} {v : NetV} (h : NetIn w (pairN false) v) : ∃ b o, v.ga = some ⟨b, o, none⟩ ∧ b < w.heap.size ∧ w.cell? ⟨b, o, none⟩ = some (.string ⟨#[71]⟩) ∧ w.cell? ⟨b, o + 1, none⟩ = some (.string ⟨#[66]⟩) ∧ w.cell? ⟨b, o + 2, none⟩ = some (I 1) ∧ w.cell? ⟨b, o + 3, none⟩ = some (I 30) ∧ w.cell? ⟨b, o + 4, none⟩ = some (I 5) := by
 obtain ⟨b, o, e, hb, hc⟩ := h.gens.2 (by decide)
 exact ⟨b, o, e, hb, hc 0 _ rfl, hc 1 _ rfl, hc 2 _ rfl, hc 3 _ rfl, hc 4 _ rfl⟩
theorem pair_load {w : World} {v : NetV} (h : NetIn w (pairN false) v) : ∃ b o, v.la = some ⟨b, o, none⟩ ∧ b < w.heap.size ∧ w.cell? ⟨b, o, none⟩ = some (.string ⟨#[68]⟩) ∧ w.cell? ⟨b, o + 1, none⟩ = some (.string ⟨#[67]⟩) ∧ w.cell? ⟨b, o + 2, none⟩ = some (I 8) := by
 obtain ⟨b, o, e, hb, hc⟩ := h.loads.2 (by decide)
 exact ⟨b, o, e, hb, hc 0 _ rfl, hc 1 _ rfl, hc 2 _ rfl⟩
theorem idx_B : Lib.idxOfS (pairN false).nodes ⟨#[66]⟩ = 1 := by decide +kernel
theorem idx_C : Lib.idxOfS (pairN false).nodes ⟨#[67]⟩ = 2 := by decide +kernel
theorem inject_pair (v : NetV) (b : Nat) (w : World) (hN : NetIn w (pairN false) v) (h8 : Blk w b 3 #[I 8]) : Calls Tryz.prog 87 #[.agg #[.slice v.na 3 v.nc, .slice v.sa 1 v.sc, .slice v.ba 2 v.bc, .slice v.ga 1 v.gc, .slice v.la 1 v.lc, .slice v.ta 0 v.tc], .slice (some ⟨b, 0, none⟩) 1 1, .slice none 0 0] w fun e w' => ∃ g, e = .returned (.tuple #[.slice (some ⟨g, 0, none⟩) 3 3, I 0]) ∧ Blk w' g 3 #[I 0, I 8, I (-8)] ∧ w.heap.size ≤ g ∧ Below w.heap.size w w' := by
 obtain ⟨na, nc, sa, sc, bra, brc, ga, gc, la, lc, ta, tc⟩ := v
 obtain ⟨bg, og, rfl, -⟩ := pair_gen hN
 obtain ⟨bl, ol, rfl, -⟩ := pair_load hN
 have hz := below_new w (Obj.cells #[.slice na 3 nc, .slice sa 1 sc, .slice bra 2 brc, .slice (some ⟨bg, og, none⟩) 1 gc, .slice (some ⟨bl, ol, none⟩) 1 lc, .slice ta 0 tc] 29)
 have HG := aH (Blk.new w 29 #[.slice na 3 nc, .slice sa 1 sc, .slice bra 2 brc, .slice (some ⟨bg, og, none⟩) 1 gc, .slice (some ⟨bl, ol, none⟩) 1 lc, .slice ta 0 tc])
 have HN := aH (hN.below hz)
 have H8 := aH (h8.below hz h8.lt)
 have H80 := aH h8
 have HN0 := aH hN
 have HB := aH hz
 clear hz hN h8
 go_enter Tryz.func87, Tryz.ntmps87
 go_upto_region 1 with (fail)
 generalize w.alloc (Obj.cells #[.slice na 3 nc, .slice sa 1 sc, .slice bra 2 brc, .slice (some ⟨bg, og, none⟩) 1 gc, .slice (some ⟨bl, ol, none⟩) 1 lc, .slice ta 0 tc] 29) = w2 at *
 have HC := aH (netCheck_any (pairN false) _ w2 (pair_net HN.out))
 rw [pair_check] at HC
 unfold NetV.val NetV.parts at HC
 simp only at HC
 have x0 := HG.out.cell 0
 have x1 := HG.out.cell 1
 have x2 := HG.out.cell 2
 have x3 := HG.out.cell 3
 have x4 := HG.out.cell 4
 have x5 := HG.out.cell 5
 go_wp2_with fail
 refine HC.out.mono ?_
 rintro e w3 ⟨rfl, hb⟩
 clear HC x0 x1 x2 x3 x4 x5
 replace HN := aH (HN.out.below hb)
 replace HG := bL HG hb
 replace H8 := bL H8 hb
 replace HB := bT HB hb
 clear hb
 have x0 := HG.out.cell 0
 have x1 := HG.out.cell 1
 have x2 := HG.out.cell 2
 have x3 := HG.out.cell 3
 have x4 := HG.out.cell 4
 have x5 := HG.out.cell 5
 have hmk : ∀ W : World, (Instr.makeSlice 31 (.int .i64 3) (.int .i64 3)).run Tryz.prog W = .ok (.slice (some ⟨W.heap.size, 0, none⟩) 3 3) (W.alloc (.cells (Array.replicate 3 (I 0)) 3)) := make28 3 (by omega)
 go_upto_region 7 with (fail)
 clear hmk x0 x1 x2 x3 x4 x5
 have hb := below_new w3 (.cells (Array.replicate 3 (I 0)) 3)
 have HO := aH (show Blk (w3.alloc (.cells (Array.replicate 3 (I 0)) 3)) w3.heap.size 3 #[I 0, I 0, I 0] from Blk.new w3 3 #[I 0, I 0, I 0])
 have HOG := aH HB.out.size
 replace HN := aH (HN.out.below hb)
 replace HG := bL HG hb
 replace H8 := bL H8 hb
 replace HB := bT HB hb
 clear hb
 generalize w3.alloc (.cells (Array.replicate 3 (I 0)) 3) = w4 at *
 generalize w3.heap.size = go at *
 have x0 := HG.out.cell 0
 have x1 := HG.out.cell 1
 have x2 := HG.out.cell 2
 have x3 := HG.out.cell 3
 have x4 := HG.out.cell 4
 have x5 := HG.out.cell 5
 have c8 := H8.out.cell 0
 change _ = some (I 8) at c8
 obtain ⟨_, _, e1, _, y0, y1, y2, y3, y4⟩ := pair_gen HN.out
 injection e1 with e1
 injection e1 with e1 e2 _
 subst e1 e2
 go_wp2
 refine wp_loop_rounds 2 ?_
 rw [rounds_succ]
 go_upto_region 10 with (fail)
 clear x0 x1 x2 x3 x4 x5 y0 y1 y2 y3 y4 c8
 have hb := below_new w4 (Obj.cells #[.string ⟨#[71]⟩, .string ⟨#[66]⟩, I 1, I 30, I 5] 138)
 have HX := aH (Blk.new w4 138 #[.string ⟨#[71]⟩, .string ⟨#[66]⟩, I 1, I 30, I 5])
 replace HN := aH (HN.out.below hb)
 replace HG := bL HG hb
 replace H8 := bL H8 hb
 replace HB := bT HB hb
 replace HO := bL HO hb
 clear hb
 generalize w4.alloc (Obj.cells #[.string ⟨#[71]⟩, .string ⟨#[66]⟩, I 1, I 30, I 5] 138) = w5 at *
 generalize w4.heap.size = gx at *
 have c8 := H8.out.cell 0
 change _ = some (I 8) at c8
 have z2 := HX.out.cell 2
 change _ = some (I 1) at z2
 have z3 := HX.out.cell 3
 change _ = some (I 30) at z3
 have g1 : ((8 : Int) != 0) = true := by decide
 have g2 : decide ((8 : Int) < 1) = false := by decide
 have g3 : decide ((8 : Int) > 30) = false := by decide
 go_quiet (fail)
 go_upto_region 12 with (fail)
 clear g1 g2 g3 z2 z3 c8
 have hb : Below w5.heap.size w5 (w5.drewN nq) := below_drewT w5 nq
 replace HN := aH (HN.out.below hb)
 replace HG := bL HG hb
 replace H8 := bL H8 hb
 replace HB := bT HB hb
 replace HO := bL HO hb
 replace HX := bL HX hb
 clear hb
 generalize w5.drewN nq = w6 at *
 have hb := below_draw w6
 replace HN := aH (HN.out.below hb)
 replace HG := bL HG hb
 replace H8 := bL H8 hb
 replace HB := bT HB hb
 replace HO := bL HO hb
 replace HX := bL HX hb
 clear hb
 have q0 := HG.out.cell 0
 change _ = some (Value.slice na 3 nc) at q0
 have q1 := HX.out.cell 1
 change _ = some (Value.string ⟨#[66]⟩) at q1
 have q2 := HO.out.cell 1
 change _ = some (I 0) at q2
 have q3 := H8.out.cell 0
 change _ = some (I 8) at q3
 have y2 := HO.out.frozen 1
 refine wp_region_c (fun w' => w'.cell? ⟨w.heap.size, 0, none⟩ = some (.slice na 3 nc) ∧ w'.cell? ⟨gx, 1, none⟩ = some (.string ⟨#[66]⟩) ∧ w'.cell? ⟨go, 1, none⟩ = some (I 0) ∧ w'.cell? ⟨b, 0, none⟩ = some (I 8)) 14 (by kernel_rfl) ?_
 generalize w6.drew = w7 at *
 refine aZ 0 (.slice (some ⟨go, 0, none⟩) 3 3) rfl ⟨q0, q1, q2, q3⟩ ?_
 refine aZ 1 (.pointer (some ⟨w.heap.size, 0, none⟩)) rfl ⟨q0, q1, q2, q3⟩ ?_
 refine aZ 2 (.slice na 3 nc) rfl ⟨q0, q1, q2, q3⟩ ?_
 refine aZ 3 (.pointer (some ⟨gx, 1, none⟩)) rfl ⟨q0, q1, q2, q3⟩ ?_
 refine aZ 4 (.string ⟨#[66]⟩) rfl ⟨q0, q1, q2, q3⟩ ?_
 refine aZ 8 (.slice (some ⟨b, 0, none⟩) 1 1) rfl ⟨q0, q1, q2, q3⟩ ?_
 refine aZ 9 (I 0) rfl ⟨q0, q1, q2, q3⟩ ?_
 refine aZ 10 (.pointer (some ⟨b, 0, none⟩)) rfl ⟨q0, q1, q2, q3⟩ ?_
 refine aZ 11 (I 8) rfl ⟨q0, q1, q2, q3⟩ ?_
 refine on1 5 fun K hK => ?_
 go_simp
 go_at_call 18
 refine (idxS_any (pairN false).nodes 3 na nc ⟨#[66]⟩ w7 _ rfl HN.out.nodes (by decide)).mono ?_
 rintro e w' ⟨rfl, rfl⟩
 rw [idx_B]
 refine hK.out _ _ (fun _ => ⟨q0, q1, q2, q3⟩) ?_
 clear hK K
 refine aZ 6 (.pointer (some ⟨go, 1, none⟩)) rfl ⟨q0, q1, q2, q3⟩ ?_
 refine aZ 7 (I 0) rfl ⟨q0, q1, q2, q3⟩ ?_
 refine tq 12 (I 8) rfl ?_ ⟨q0, q1, q2, q3⟩ ?_
 ·rintro w ⟨s0, s1, s2, s3⟩
  go_simp
  decide
 refine aZ 13 (.pointer (some ⟨go, 1, none⟩)) rfl ⟨q0, q1, q2, q3⟩ ?_
 refine on1 14 fun K hK => ?_
 go_simp
 refine hK.out _ _ (fun h => absurd h (by decide)) ?_
 clear hK K
 refine wpAnyC_done (by kernel_rfl) ?_ _
 clear q0 q1 q2 q3 y2
 have HO2 := aH (HO.out.set_ 1 (I (8)))
 change Hid (Blk _ go 3 #[I 0, I 8, I 0]) at HO2
 have HB2 := aH (HB.out.setCell (p := ⟨go, 1, none⟩) HOG.out (I (8)))
 have HG2 := aH (HG.out.far (p := ⟨go, 1, none⟩) (blk_ne HG.out HO.out (by decide)) (I (8)))
 clear HO HB HG HN H8 HX
 generalize w7.setCell ⟨go, 1, none⟩ (I (8)) = w8 at *
 have HO := HO2
 have HB := HB2
 have HG := HG2
 have HN := aH (HN0.out.below HB.out)
 have H8 := aH (H80.out.below HB.out H80.out.lt)
 clear HO2 HB2 HG2
 go_wp2
 rw [rounds_succ]
 have x0 := HG.out.cell 0
 have x1 := HG.out.cell 1
 have x2 := HG.out.cell 2
 have x3 := HG.out.cell 3
 have x4 := HG.out.cell 4
 have x5 := HG.out.cell 5
 go_wp2
 refine wp_loop_rounds 1 ?_
 rw [rounds_succ]
 go_wp2
 refine wp_loop_rounds 2 ?_
 rw [rounds_succ]
 obtain ⟨_, _, e1, _, y0, y1, y2⟩ := pair_load HN.out
 injection e1 with e1
 injection e1 with e1 e2 _
 subst e1 e2
 go_upto_region 24 with (fail)
 clear x0 x1 x2 x3 x4 x5 y0 y1 y2
 have hb := below_new w8 (Obj.cells #[.string ⟨#[68]⟩, .string ⟨#[67]⟩, I 8] 141)
 have HX := aH (Blk.new w8 141 #[.string ⟨#[68]⟩, .string ⟨#[67]⟩, I 8])
 replace HN := aH (HN.out.below hb)
 replace HG := bL HG hb
 replace H8 := bL H8 hb
 replace HB := bT HB hb
 replace HO := bL HO hb
 clear hb
 generalize w8.alloc (Obj.cells #[.string ⟨#[68]⟩, .string ⟨#[67]⟩, I 8] 141) = w9 at *
 generalize w8.heap.size = gy at *
 have hb := below_draw w9
 replace HN := aH (HN.out.below hb)
 replace HG := bL HG hb
 replace H8 := bL H8 hb
 replace HB := bT HB hb
 replace HO := bL HO hb
 replace HX := bL HX hb
 clear hb
 have q0 := HG.out.cell 0
 change _ = some (Value.slice na 3 nc) at q0
 have q1 := HX.out.cell 1
 change _ = some (Value.string ⟨#[67]⟩) at q1
 have q2 := HO.out.cell 2
 change _ = some (I 0) at q2
 have q3 := HX.out.cell 2
 change _ = some (I 8) at q3
 have y2 := HO.out.frozen 2
 refine wp_region_c (fun w' => w'.cell? ⟨w.heap.size, 0, none⟩ = some (.slice na 3 nc) ∧ w'.cell? ⟨gy, 1, none⟩ = some (.string ⟨#[67]⟩) ∧ w'.cell? ⟨go, 2, none⟩ = some (I 0) ∧ w'.cell? ⟨gy, 2, none⟩ = some (I 8)) 12 (by kernel_rfl) ?_
 generalize w9.drew = w10 at *
 refine aZ 0 (.slice (some ⟨go, 0, none⟩) 3 3) rfl ⟨q0, q1, q2, q3⟩ ?_
 refine aZ 1 (.pointer (some ⟨w.heap.size, 0, none⟩)) rfl ⟨q0, q1, q2, q3⟩ ?_
 refine aZ 2 (.slice na 3 nc) rfl ⟨q0, q1, q2, q3⟩ ?_
 refine aZ 3 (.pointer (some ⟨gy, 1, none⟩)) rfl ⟨q0, q1, q2, q3⟩ ?_
 refine aZ 4 (.string ⟨#[67]⟩) rfl ⟨q0, q1, q2, q3⟩ ?_
 refine aZ 8 (.pointer (some ⟨gy, 2, none⟩)) rfl ⟨q0, q1, q2, q3⟩ ?_
 refine aZ 9 (I 8) rfl ⟨q0, q1, q2, q3⟩ ?_
 refine on1 5 fun K hK => ?_
 go_simp
 go_at_call 18
 refine (idxS_any (pairN false).nodes 3 na nc ⟨#[67]⟩ w10 _ rfl HN.out.nodes (by decide)).mono ?_
 rintro e w' ⟨rfl, rfl⟩
 rw [idx_C]
 refine hK.out _ _ (fun _ => ⟨q0, q1, q2, q3⟩) ?_
 clear hK K
 refine aZ 6 (.pointer (some ⟨go, 2, none⟩)) rfl ⟨q0, q1, q2, q3⟩ ?_
 refine aZ 7 (I 0) rfl ⟨q0, q1, q2, q3⟩ ?_
 refine tq 10 (I (-8)) rfl ?_ ⟨q0, q1, q2, q3⟩ ?_
 ·rintro w ⟨s0, s1, s2, s3⟩
  go_simp
  decide
 refine aZ 11 (.pointer (some ⟨go, 2, none⟩)) rfl ⟨q0, q1, q2, q3⟩ ?_
 refine on1 12 fun K hK => ?_
 go_simp
 refine hK.out _ _ (fun h => absurd h (by decide)) ?_
 clear hK K
 refine wpAnyC_done (by kernel_rfl) ?_ _
 clear q0 q1 q2 q3 y2
 have HO2 := aH (HO.out.set_ 2 (I (-8)))
 change Hid (Blk _ go 3 #[I 0, I 8, I (-8)]) at HO2
 have HB2 := aH (HB.out.setCell (p := ⟨go, 2, none⟩) HOG.out (I (-8)))
 have HG2 := aH (HG.out.far (p := ⟨go, 2, none⟩) (blk_ne HG.out HO.out (by decide)) (I (-8)))
 clear HO HB HG HN H8 HX
 generalize w10.setCell ⟨go, 2, none⟩ (I (-8)) = w11 at *
 have HO := HO2
 have HB := HB2
 have HG := HG2
 have HN := aH (HN0.out.below HB.out)
 have H8 := aH (H80.out.below HB.out H80.out.lt)
 clear HO2 HB2 HG2
 go_wp2
 rw [rounds_succ]
 have o0 := HO.out.cell 0
 have o1 := HO.out.cell 1
 have o2 := HO.out.cell 2
 change _ = some (I 0) at o0
 change _ = some (I 8) at o1
 change _ = some (I (-8)) at o2
 go_wp2
 refine wp_loop_rounds 4 ?_
 rw [rounds_succ]
 go_wp2
 rw [rounds_succ]
 go_wp2
 rw [rounds_succ]
 go_wp2
 rw [rounds_succ]
 go_wp2
 go_ret2
 exact ⟨go, rfl, HO.out, HOG.out, HB.out⟩
end Go.Proofs.YtenbglfkdldheaaGreatDoor
