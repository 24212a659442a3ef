/- What the law uses besides the joined base. -/
import Derived.Test.YtenbglfkdldheaaGreatDoorZAD
import Derived.Test.YtenbglfkdldheaaGreatDoorZDR
set_option maxRecDepth 100000
set_option maxHeartbeats 1000000
namespace Go.Proofs.YtenbglfkdldheaaGreatDoor
section
theorem sI_neg (f : Nat → Int) : ∀ k, sI k (fun j => - f j) = - sI k f
 | 0 => rfl
 | k + 1 => by rw [sI, sI, sI_neg f k]; omega
theorem sI_none {f : Nat → Int} : ∀ k, (∀ j, j < k → f j = 0) → sI k f = 0
 | 0, _ => rfl
 | k + 1, h => by rw [sI, sI_none k fun j hj => h j (by omega), h k (by omega)]; rfl
theorem sI_one {f : Nat → Int} (i : Nat) : ∀ k, i < k → (∀ j, j < k → j ≠ i → f j = 0) → sI k f = f i
 | 0, h, _ => by omega
 | k + 1, h, hz => by
  rw [sI]
  by_cases e : i = k
  ·subst e
   rw [sI_none i fun j hj => hz j (by omega) (by omega)]
   omega
  ·rw [sI_one i k (by omega) fun j hj hn => hz j (by omega) hn, hz k (by omega) (fun h => e h.symm)]
   omega
theorem smI_ext {bus inj inj2 : List Int} {nb N : Nat} (h : ∀ b, b < nb → (sI N fun j => if (bus.getD j 0).toNat = b then inj.getD j 0 else 0) = sI N fun j => if (bus.getD j 0).toNat = b then inj2.getD j 0 else 0) : smI bus inj nb N = smI bus inj2 nb N := by
 refine List.ext_getElem (by rw [smI_len, smI_len]) fun b h1 h2 => ?_
 rw [smI_len] at h1
 have e1 := smI_at (bus := bus) (inj := inj) h1 N
 have e2 := smI_at (bus := bus) (inj := inj2) h1 N
 rw [gD, gE (by rw [smI_len]; exact h1), Option.getD_some] at e1 e2
 rw [e1, e2, h b h1]
theorem sI_pick (X : Nat → Int) {i N : Nat} (hi : i < N) : (sI N fun j => if i = j then X j else 0) = X i :=
 (sI_one (f := fun j => if i = j then X j else 0) i N hi fun _j _ hn => if_neg fun h => hn h.symm).trans (if_pos rfl)
def moveL (l : List Int) (i k : Nat) (y : Int) : List Int := (l.set i (l.getD i 0 + y)).set k ((l.set i (l.getD i 0 + y)).getD k 0 - y)
theorem moveL_len (l : List Int) (i k : Nat) (y : Int) : (moveL l i k y).length = l.length := by simp [moveL]
theorem moveL_at {l : List Int} {i k : Nat} (hi : i < l.length) (hk : k < l.length) (y : Int) (j : Nat) : (moveL l i k y).getD j 0 = l.getD j 0 + ((if i = j then y else 0) + -(if k = j then y else 0)) := by
 unfold moveL
 rw [getD_setI, getD_setI, getD_setI, List.length_set]
 by_cases e1 : k = j
 ·subst e1
  rw [if_pos ⟨rfl, hk⟩, if_pos rfl]
  by_cases e2 : i = k
  ·subst e2
   rw [if_pos ⟨rfl, hi⟩, if_pos rfl]
   omega
  ·rw [if_neg (fun h => e2 h.1), if_neg e2]
   omega
 ·rw [if_neg (fun h => e1 h.1), if_neg e1]
  by_cases e2 : i = j
  ·subst e2
   rw [if_pos ⟨rfl, hi⟩, if_pos rfl]
   omega
  ·rw [if_neg (fun h => e2 h.1), if_neg e2]
   omega
theorem move_sum {l keys : List Int} {i k N : Nat} {y x : Int} (g : Int → Int) (hl : l.length = N) (hi : i < N) (hk : k < N) (he : keys.getD i 0 = keys.getD k 0) :
  (sI N fun j => if g (keys.getD j 0) = x then (moveL l i k y).getD j 0 else 0) = sI N fun j => if g (keys.getD j 0) = x then l.getD j 0 else 0 := by
 subst hl
 have e : (fun j => if g (keys.getD j 0) = x then (moveL l i k y).getD j 0 else 0) = fun j => (if g (keys.getD j 0) = x then l.getD j 0 else 0) + ((if i = j then (if g (keys.getD j 0) = x then y else 0) else 0) + -(if k = j then (if g (keys.getD j 0) = x then y else 0) else 0)) := by
  funext j
  rw [moveL_at hi hk]
  by_cases h1 : g (keys.getD j 0) = x
  ·simp only [h1, if_true]
  ·simp only [h1, if_false]
   split <;> split <;> rfl
 rw [e, sI_add, sI_add, sI_neg, sI_pick (fun j => if g (keys.getD j 0) = x then y else 0) hi, sI_pick (fun j => if g (keys.getD j 0) = x then y else 0) hk]
 simp only [he]
 omega
theorem move_bus {n : NetD} {inj : List Int} {i k : Nat} {y : Int} (hl : inj.length = n.nodes.length) (hi : i < inj.length) (hk : k < inj.length) (he : (busesL n).getD i 0 = (busesL n).getD k 0) : smN n (moveL inj i k y) = smN n inj := by
 unfold smN smQ
 rw [smI_ext (inj2 := inj) fun b _ => ?_]
 have := move_sum (keys := busesL n) (x := (b : Int)) (y := y) (fun z => ((z.toNat : Nat) : Int)) hl (by omega) (by omega) he
 have hc : ∀ f : Nat → Int, (fun j => if ((((busesL n).getD j 0).toNat : Nat) : Int) = (b : Int) then f j else 0) = fun j => if ((busesL n).getD j 0).toNat = b then f j else 0 := fun f => by
  funext j
  by_cases h : ((busesL n).getD j 0).toNat = b
  ·rw [if_pos h, if_pos (by omega)]
  ·rw [if_neg h, if_neg (by omega)]
 rw [hc, hc] at this
 exact this
theorem keys_at {n : NetD} {i : Nat} (hi : i < n.nodes.length) : (keysL n).getD i 0 = keyAt n i := by
 rw [gD, keysL_get hi]; rfl
theorem move_chk {n : NetD} {inj : List Int} {i k : Nat} {y : Int} (h : flowChk n inj = 0) (hi : i < inj.length) (hk : k < inj.length) (he : (busesL n).getD i 0 = (busesL n).getD k 0) : flowChk n (moveL inj i k y) = 0 ∨ flowChk n (moveL inj i k y) = 4 := by
 obtain ⟨h1, h2, h3⟩ := chk_bal h
 rw [chk_range h1 (by rw [moveL_len]; exact h2)]
 by_cases h4 : (moveL inj i k y).any outP = true
 ·rw [if_pos h4]; exact .inr rfl
 ·rw [if_neg h4, if_pos ?_]
  ·exact .inl rfl
  ·refine List.all_eq_true.2 fun x hx => ?_
   have e := h3 x hx
   rw [sumK_sI _ _ _ (by rw [keysL_len, h2]), keysL_len] at e
   rw [beq_iff_eq, sumK_sI _ _ _ (by rw [keysL_len, moveL_len, h2]), keysL_len]
   have hke : (keysL n).getD i 0 = (keysL n).getD k 0 := by
    rw [keys_at (by omega), keys_at (by omega)]
    unfold keyAt at_
    rw [Int.toNat_natCast, Int.toNat_natCast, he]
   exact (move_sum (keys := keysL n) (x := x) (y := y) (fun z => z) h2 (by omega) (by omega) hke).trans e
theorem switch_law {n : NetD} {inj : List Int} {i k : Nat} {y : Int} (hw : wideN n = false) (h : codeF n inj = 0) (hi : i < inj.length) (hk : k < inj.length) (he : (busesL n).getD i 0 = (busesL n).getD k 0) :
  codeF n (moveL inj i k y) = 4 ∨ (codeF n (moveL inj i k y) = 0 ∧ solF n (moveL inj i k y) = solF n inj ∧ flwF n (moveL inj i k y) = flwF n inj) := by
 have hc := (code_ok h).1
 have h2 := (flowChk_ok hc).2.1
 have hs := move_bus (y := y) h2 hi hk he
 rw [code_eq hw]
 rcases move_chk (y := y) hc hi hk he with h1 | h1
 ·refine .inr ⟨h1, ?_, ?_⟩
  ·unfold solF
   rw [hs]
  ·unfold flwF solF
   rw [hs]
 ·exact .inl h1
end
section
open Go.RowKit
def pickN (x n : Int) : Int := IntKind.u64.wrap x % n
theorem pickN_range (x : Int) {n : Int} (h : 0 < n) : 0 ≤ pickN x n ∧ pickN x n < n := ⟨Int.emod_nonneg _ (by omega), Int.emod_lt_of_pos _ h⟩
theorem pick_at (x n : Int) (w : World) (h0 : 0 < n) (h1 : n ≤ 1000000) : Calls Tryz.prog 17 #[I x, I n] w fun e w' => e = .returned (I (pickN x n)) ∧ w' = w := by
 have hb := pickN_range x h0
 have hn : IntKind.u64.wrap n = n := by rw [IntKind.wrap_u64]; omega
 have HE := aH (show wrap64 ((IntKind.u64.wrap x).tmod n) = pickN x n by
  rw [show (IntKind.u64.wrap x).tmod n = pickN x n from Int.tmod_eq_emod_of_nonneg (by rw [IntKind.wrap_u64]; exact Int.emod_nonneg _ (by decide))]
  exact IntWalk.wrap64_in _ (by omega))
 have hz : (n == 0) = false := by simp; omega
 clear hb
 go_enter Tryz.func17, Tryz.ntmps17
 go_wp2
 go_ret
 exact ⟨by rw [← HE.out]; rfl, rfl⟩
def ofL (n : NetD) : (List Int × List Int) × Int := if checkN n = 0 then ((busesL n, islandsL n), 0) else (([], []), checkN n)
def RetTop (w : World) (r : (List Int × List Int) × Int) (e : Ending) (w' : World) : Prop :=
 ∃ bv iv, e = .returned (.tuple #[.agg #[bv, iv], I r.2]) ∧ Row w' w.heap.size 3 1 bv r.1.1.length (r.1.1.map I) ∧ Row w' w.heap.size 3 1 iv r.1.2.length (r.1.2.map I) ∧ Below w.heap.size w w'
theorem topOf_any (n : NetD) (v : NetV) (w : World) (hN : Net w n v) : Calls Tryz.prog 15 #[v.val n] w (RetTop w (ofL n)) := by
 have hb0 := below2 w (Obj.cells (v.parts n) 29) (Obj.cells #[Value.slice none 0 0, Value.slice none 0 0] 33)
 have HC := aH (netCheck_any n v _ (hN.below hb0))
 have HB0 := aH hb0
 have HN := aH hN
 have HD := aH (show ofL n = if checkN n = 0 then ((busesL n, islandsL n), 0) else (([], []), checkN n) from rfl)
 have HBX := aH ((Blk.new w 29 (v.parts n)).alloc (Obj.cells #[Value.slice none 0 0, Value.slice none 0 0] 33))
 have HRX : Hid (Blk ((w.alloc (Obj.cells (v.parts n) 29)).alloc (Obj.cells #[Value.slice none 0 0, Value.slice none 0 0] 33)) (w.heap.size + 1) 33 #[Value.slice none 0 0, Value.slice none 0 0]) := by
  have := Blk.new (w.alloc (Obj.cells (v.parts n) 29)) 33 #[Value.slice none 0 0, Value.slice none 0 0]
  rw [World.size_alloc w] at this
  exact this
 have HVN := aH (@vnet n)
 have HGT := aH (fun w hn hv => get_any n v w hn hv)
 clear hb0 hN
 unfold NetV.val NetV.parts at *
 obtain ⟨er, her⟩ : ∃ er, checkN n = er := ⟨_, rfl⟩
 rw [her] at HC HD HVN
 clear her
 go_enter Tryz.func15, Tryz.ntmps15
 go_wp2_with fail
 refine HC.out.mono ?_
 rintro e w1 ⟨rfl, hb1⟩
 have hz1 : w.heap.size + 1 + 1 ≤ w1.heap.size := by have := hb1.size; simpa using this
 have HBX1 := aH (HBX.out.below hb1 (by simp; omega))
 have HRX1 := aH (HRX.out.below hb1 (by simp))
 have HBE := aH (HB0.out.trans (hb1.mono HB0.out.size))
 clear hb1 HBX HRX HC HB0
 by_cases h0 : er = 0
 ·subst h0
  have HD2 := aH (show ofL n = ((busesL n, islandsL n), 0) by rw [HD.out]; simp)
  have x0 := HBX1.out.cell 0
  have x1 := HBX1.out.cell 1
  have x2 := HBX1.out.cell 2
  have x3 := HBX1.out.cell 3
  have x4 := HBX1.out.cell 4
  have x5 := HBX1.out.cell 5
  have HG := aH (HGT.out w1 (HN.out.below HBE.out).net (HVN.out rfl))
  go_wp2_with fail
  refine HG.out.mono ?_
  rintro e w2 ⟨bv, iv, rfl, hr1, hr2, hb2⟩
  obtain ⟨bA, bc, rfl⟩ := hr1.val
  obtain ⟨iA, ic, rfl⟩ := hr2.val
  have hR2 := HRX1.out.below hb2 HRX1.out.lt
  have r0 := hR2.cell 0
  have r1 := hR2.cell 1
  have g0 := hR2.frozen 0
  have g1 := hR2.frozen 1
  have HRB := aH hr1
  have HRI := aH hr2
  have HBE2 := aH (HBE.out.trans (hb2.mono HBE.out.size))
  clear hr1 hr2 hb2 hR2 HG HGT x0 x1 x2 x3 x4 x5
  generalize busesL n = bus at *
  generalize islandsL n = isl at *
  go_wp2
  refine bodyPost_ret (v := .tuple #[.agg #[Value.slice bA bus.length bc, Value.slice iA isl.length ic], I 0]) (by simp [results, go_sem, r0, r1]) rfl ?_
  rw [HD2.out]
  refine ⟨_, _, rfl, ?_, ?_, (HBE2.out.setCell (by simp) _).setCell (by simp) _⟩
  ·exact (((HRB.out.set_away (fun g hg => by have := (HRB.out.own_block hg).1; simp; omega) _).set_away (fun g hg => by have := (HRB.out.own_block hg).1; simp; omega) _)).less (by omega)
  ·exact (((HRI.out.set_away (fun g hg => by have := (HRI.out.own_block hg).1; simp; omega) _).set_away (fun g hg => by have := (HRI.out.own_block hg).1; simp; omega) _)).less (by omega)
 ·have t1 : (er == 0) = false := beq_eq_false_iff_ne.2 h0
  have t2 : (er != 0) = true := by rw [bne_iff_ne]; exact h0
  have HD2 := aH (show ofL n = (([], []), er) by rw [HD.out, if_neg h0])
  have r0 := HRX1.out.cell 0
  have r1 := HRX1.out.cell 1
  have g0 := HRX1.out.frozen 0
  have g1 := HRX1.out.frozen 1
  clear h0
  go_wp2
  refine bodyPost_ret (v := .tuple #[.agg #[Value.slice none 0 0, Value.slice none 0 0], I er]) (by simp [results, go_sem, r0, r1]) rfl ?_
  rw [HD2.out]
  exact ⟨_, _, rfl, Row.nil _ _ _ _, Row.nil _ _ _ _, (HBE.out.setCell (by simp) _).setCell (by simp) _⟩
end
section
open Go.ChangeShapes Go.WideShapes Go.ChangeAt Go.RowKit Go.Deep
theorem bounds64 {x : Int} (h : (Lit.int .i64 x).wf = true) : -9223372036854775808 ≤ x ∧ x ≤ 9223372036854775807 := bounds_i64 h
end
end Go.Proofs.YtenbglfkdldheaaGreatDoor
