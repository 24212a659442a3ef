/- The sizes of the numbers of a small determinant. lin.Rank, solve.Rank. lin.Solve. slices.Repeat at rows of numbers, of one element; large.Zeros. lin.Inverse. -/
import Derived.Test.YtgecdcjfncfmcaaGreatDoorSJD
import Derived.Test.YtgecdcjfncfmcaaGreatDoorJU
import Derived.Test.YtgecdcjfncfmcaaGreatDoorSJA
import Derived.Test.YtgecdcjfncfmcaaGreatDoorSJC
import Derived.Test.YtgecdcjfncfmcaaGreatDoorJR
import Derived.Test.YtgecdcjfncfmcaaGreatDoorJW
import Derived.Test.YtgecdcjfncfmcaaGreatDoorJQ
namespace Go.Proofs.YtgecdcjfncfmcaaGreatDoor

theorem fitR_ng {N : Nat} {x : Rat} (h : FitR N x) : FitR N (-x) := ⟨by have := h.1; unfold Fits at *; rw [Rat.neg_num, Int.natAbs_neg]; exact this, by have := h.2; unfold Fits at *; rw [Rat.neg_den]; exact this⟩
theorem fitR_sb {N M : Nat} {x y : Rat} (hx : FitR N x) (hy : FitR M y) : FitR (N + M + 1) (x - y) := by
 rw [Rat.sub_eq_add_neg]
 exact fitR_add hx (fitR_ng hy)
theorem fitR_mn {N M : Nat} {x y : Rat} (hx : FitR N x) (hy : FitR M y) : FitR (N + M + (N + M)) (x * y) := fitR_mul (hx.mono (by omega)) (hy.mono (by omega))
def zk : Nat → Nat
 | 0 => 14
 | k + 1 => 5 * zk k + 1
def dk : Nat → Nat
 | 0 => 1
 | k + 1 => 2 * (dk k + zk k)
theorem dtQ_bnd {m : MQ} {n : Nat} (h : Rect m n n) (hf : ∀ r ∈ m, ∀ x ∈ r, FitR 14 x) : ∀ k, k ≤ n → ∀ X d, dtQ m k = some (X, d) → (∀ i j, i < n → FitR (zk k) (at2 X i j)) ∧ FitR (dk k) d
 | 0, _, X, d, e => by
  injection e with e
  injection e with e1 e2
  subst e1 e2
  refine ⟨fun i j hi => ?_, ⟨fits_one _ (by decide) _ (by decide) (by decide), fits_one _ (by decide) _ (by decide) (by decide)⟩⟩
  by_cases hj : j < n
  ·have hl := rect_len h hi
   unfold at2
   rw [List.getD_eq_getElem?_getD, List.getElem?_eq_getElem (by rw [hl]; exact hj)]
   exact hf _ (rect_getD h hi) _ (List.getElem_mem _)
  ·rw [at2_ge h hi (by omega)]; exact fitR_zero.mono (by decide)
 | k + 1, hk, X, d, e => by
  rcases hq : dtQ m k with _ | ⟨Y, d0⟩
  ·rw [dtQ, hq] at e; cases e
  ·obtain ⟨hY, hd⟩ := dtQ_bnd h hf k (by omega) Y d0 hq
   obtain ⟨hRY, _⟩ := (dtQ_inv h k (by omega)).1 _ hq
   simp only at hRY
   have hsp := piv_spec Y k k (by rw [hRY.1]; omega)
   by_cases hp : nzAt k (Y.drop k) k < Y.length
   ·rw [dtQ_step hq rfl hp] at e
    generalize nzAt k (Y.drop k) k = p at *
    injection e with e
    injection e with e1 e2
    subst e1 e2
    have hpn : p < n := by rw [← hRY.1]; exact hp
    have hRS := rect_swQ hRY (show k < n by omega) hpn
    have hS : ∀ i j, i < n → FitR (zk k) (at2 (swQ Y k p) i j) := fun i j hi => by
     unfold at2
     rw [swQ_at (by rw [hRY.1]; omega) hp]
     exact hY _ _ (tau_lt (by omega) hpn hi)
    refine ⟨fun i j hi => ?_, ?_⟩
    ·have hi2 : i < (swQ Y k p).length := by rw [hRS.1]; exact hi
     have e : (dtM k Y.length (swQ Y k p)).getD i [] = if k < i ∧ i < Y.length then elD k ((swQ Y k p).getD k []) ((swQ Y k p).getD i []) else (swQ Y k p).getD i [] := by
      unfold dtM
      rw [getD_mapIdx _ _ i [] [] hi2]
     show FitR (5 * zk k + 1) (((dtM k Y.length (swQ Y k p)).getD i []).getD j 0)
     rw [e]
     split
     ·rw [elD_at k _ _ j (by rw [rect_len hRS (by omega), rect_len hRS hi])]
      have h1 : FitR (zk k) (((swQ Y k p).getD i []).getD j 0) := hS i j hi
      have h2 : FitR (zk k) (((swQ Y k p).getD i []).getD k 0) := hS i k hi
      have h3 : FitR (zk k) (((swQ Y k p).getD k []).getD k 0) := hS k k (by omega)
      have h4 : FitR (zk k) (((swQ Y k p).getD k []).getD j 0) := hS k j (by omega)
      split
      ·exact (fitR_sb h1 (fitR_mul (fitR_div h2 h3) (h4.mono (by omega)))).mono (by omega)
      ·exact h1.mono (by omega)
     ·exact (hS i j hi).mono (by omega)
    ·have h1 : FitR (dk k) (if p = k then d0 else -d0) := by
      split
      ·exact hd
      ·exact fitR_ng hd
     exact (fitR_mn h1 (hS k k (by omega))).mono (by show _ ≤ 2 * (dk k + zk k); omega)
   ·rw [dtQ_stop hq (by omega)] at e; cases e
theorem zk_le : ∀ k, k ≤ 5 → zk k ≤ 44531 := by decide
theorem dk_le : ∀ k, k ≤ 5 → dk k ≤ 29400 := by decide
theorem bndD5 {m : MQ} {n : Nat} (h : Rect m n n) (hn : n ≤ 5) (hf : ∀ r ∈ m, ∀ x ∈ r, FitR 14 x) : BndD 44531 29400 m n :=
 ⟨fun k X d hk e i j hi => ((dtQ_bnd h hf k hk X d e).1 i j hi).mono (zk_le k (by omega)), fun k X d hk e => ((dtQ_bnd h hf k hk X d e).2).mono (dk_le k (by omega))⟩
end Go.Proofs.YtgecdcjfncfmcaaGreatDoor
namespace Go.Proofs.YtgecdcjfncfmcaaGreatDoor
open Go.RowKit

/-- a matrix that has been checked -/
structure MOk (m : List (List ByteArray)) (n : Nat) : Prop where
 n40 : n ≤ 40
 w40 : n = 0 ∨ wd (tx2 m) ≤ 40
 rect : Rect (valsM (tx2 m)) n (wd (tx2 m))
 val2 : Val2 m
 wdq : wdQ (valsM (tx2 m)) = wd (tx2 m)
 fit : ∀ r ∈ valsM (tx2 m), ∀ x ∈ r, FitR 210 x
 w0 : n = 0 → wd (tx2 m) = 0
theorem chkM_mok {m : List (List ByteArray)} {n : Nat} (hn : m.length = n) (h : chkM (tx2 m) = 0) : MOk m n := by
 have v := chkM_ok h
 have hl : (tx2 m).length = n := by rw [tx2, List.length_map, hn]
 rw [hl] at v
 refine ⟨v.hn, v.hk.elim (fun h => .inr h) (fun h => .inl h), v.vals, val2_of v, wdQ_vals _, fun r hr x hx => ?_, fun h0 => wd_nil (by omega)⟩
 obtain ⟨t, ht, rfl⟩ := List.mem_map.1 hr
 obtain ⟨s, hs, rfl⟩ := List.mem_map.1 hx
 exact val_fit (rchk_val _ (v.ok t ht s hs))
theorem MOk.w80 {m : List (List ByteArray)} {n : Nat} (h : MOk m n) : wd (tx2 m) ≤ 40 := by
 rcases h.w40 with h0 | h0
 ·rw [h.w0 h0]; omega
 ·exact h0
theorem MOk.bnd {m : List (List ByteArray)} {n : Nat} (h : MOk m n) : Bnd (valsM (tx2 m)) n := red_bnd h.rect h.n40 (by have := h.w80; omega) h.fit
end Go.Proofs.YtgecdcjfncfmcaaGreatDoor
namespace Go.Proofs.YtgecdcjfncfmcaaGreatDoor
open Go.RowKit

/-- 'append(s, row...)' at rows of numbers, in a region that draws -/
theorem step_appN {w : World} {ops : Array Oper} {o : Oper} {a : Act} {K : Act → World → Prop} {Q : Exit → Act → World → Prop} {E : Prop} (hgd : o.guard = none) (s x : Operand)
  (ho : o.op = .call { callee := .builtin .append, args := #[s, x], argTypes := #[rowT, rowT] }) (base : Nat) (v : Value) (qs : List Rat) (hsv : a.eval s = v) (hr : RRow w base v qs)
  (B : Option Addr) (m c : Nat) (hx : a.eval x = .slice B m c) {rs : List Rat} (hq : RV w B m rs) (hl : qs.length + m ≤ 1000000) (hbase : base ≤ w.heap.size)
  (h : ∀ v' w', Apd w base v (qs ++ rs) v' w' → K (a.put o.dst v') w') : if Region.wanted o (yielded ops a.tmps) = true then Oper.wp Tryz.prog o a w K Q else E := by
 have hw : Region.wanted o (yielded ops a.tmps) = true := by simp [Region.wanted, hgd]
 rw [if_pos hw]
 obtain ⟨i, hi, hz0, hz1, hz2⟩ := info_parts info_rat
 obtain ⟨news, hs, hn⟩ := hq
 obtain ⟨v', w', hrun, hap⟩ := run_append_rats (P := Tryz.prog) w base rowT o.type i _ 64 Tryz.underlying111 hi hz0 hz1 hz2 rfl v qs hr w.heap.size B m c news rs hs hn (by unfold maxLen; omega) (by omega) hbase
 unfold Oper.wp execOp
 simp only [ho, resolve, invoke, builtin, Sem.run_bind, Sem.run_pure, Result.andThen_ok, List.map_toArray, List.map_cons, List.map_nil, hsv, hx, hrun]
 exact h v' w' hap
def RetSol (w : World) (s : List Rat × Nat) (e : Ending) (w' : World) : Prop := ∃ v, e = .returned (.tuple #[v, I s.2]) ∧ RRow w' w.heap.size v s.1 ∧ Below w.heap.size w w'
set_option maxRecDepth 100000 in
set_option maxHeartbeats 40000000 in
theorem lsolve_any (m : MQ) (b : List Rat) (n wd : Nat) (A : Option Addr) (c : Nat) (Bv : Option Addr) (bc : Nat) (w : World) (hm : RM w A n m) (hv : RV w Bv n b) (hr : Rect m n wd) (hq : wdQ m = wd) (hn : n ≤ 1000) (hw : wd ≤ 999) (hB : Bnd (extQ m b) n) :
  Calls Tryz.prog 99 #[.slice A n c, .slice Bv n bc] w (RetSol w (solR m b wd)) := by
 have hmk := make_mat n (by omega)
 have HP := Lib.hid (show ∃ vs, LM (w.alloc (.cells (Array.replicate n (Value.slice none 0 0)) rowT)) w.heap.size (.slice (some ⟨w.heap.size, 0, none⟩) n n) vs (fillL (extQ m b) [] 0 n) from ⟨_, by rw [fillL_zero]; exact LM.start w n (by unfold maxLen; omega)⟩)
 have HB := Lib.hid (below_new w (.cells (Array.replicate n (Value.slice none 0 0)) rowT))
 have HM := Lib.hid hm
 have HV := Lib.hid hv
 have HR := Lib.hid hr
 have HBN := Lib.hid hB
 have HW := Lib.hid (lwidth_any m n A c w hm)
 rw [hq] at HW
 clear hm hr hq hB hv
 unfold rowT at hmk
 go_enter Tryz.func99, Tryz.ntmps99
 go_wp2_with fail
 refine HW.out.mono ?_
 rintro e w1 ⟨rfl, rfl⟩
 clear HW
 go_wp2
 clear hmk
 go_loopg [21] (n - 0) (fun r v wr => ∃ k : Nat, r = n - k ∧ v = I k ∧ k ≤ n ∧ Hid (∃ vs, LM wr w1.heap.size (.slice (some ⟨w1.heap.size, 0, none⟩) n n) vs (fillL (extQ m b) [] k n)) ∧ Hid (Below w1.heap.size w1 wr))
 case atStart => exact ⟨0, rfl, rfl, by omega, HP, HB⟩
 case round =>
  clear HP HB
  obtain ⟨k, rfl, rfl, hk, HP, HB⟩ := hrel
  obtain ⟨wa, rfl⟩ : ∃ wa : World, wa = wr := ⟨_, rfl⟩
  by_cases hlt : k < n
  ·obtain ⟨x, hx⟩ : ∃ x, m[k]? = some x := ⟨_, List.getElem?_eq_getElem (by rw [HR.out.1]; exact hlt)⟩
   obtain ⟨q, hq⟩ : ∃ q, b[k]? = some q := ⟨_, List.getElem?_eq_getElem (by rw [HV.out.len]; exact hlt)⟩
   obtain ⟨ba, oa, B, d, rfl, _, hc, hrx⟩ := (HM.out.below HB.out).at_ hlt x hx
   obtain ⟨b2, o2, nb, B1, l1, c1, B2, l2, c2, rfl, _, hC, hrt⟩ := (HV.out.below HB.out).form hlt q hq
   have hxl : x.length = wd := HR.out.2 x (List.mem_of_getElem? hx)
   rw [hxl] at hc hrx
   have HX := Lib.hid (show (extQ m b)[k]? = some (x ++ [q]) by unfold extQ; rw [List.getElem?_mapIdx, hx, Option.map_some, List.getD_eq_getElem?_getD, hq]; rfl)
   have HXL := Lib.hid hxl
   obtain ⟨vs, hLM⟩ := HP.out
   have hd := below_draw wa
   have CR := Lib.hid (cell_below hc hd)
   have HRX := Lib.hid (hrx.below hd)
   have CB := Lib.hid (hC.below hd)
   have RB := Lib.hid (hrt.ext hd)
   have HL := Lib.hid (hLM.call hd)
   have HB1 := Lib.hid (HB.out.trans (hd.mono HB.out.size))
   clear hx hq hc hrx hC hrt hxl hLM hd HP HB
   go_upto_region 6 with (fail)
   refine wp_region_c (fun w' => w'.cell? ⟨ba, oa + k, none⟩ = some (.slice B wd d) ∧ w'.cell? ⟨b2, o2 + k * 4, none⟩ = some (.bool nb) ∧ w'.cell? ⟨b2, o2 + k * 4 + 1, none⟩ = some (.slice B1 l1 c1) ∧ w'.cell? ⟨b2, o2 + k * 4 + 2, none⟩ = some (.bool false) ∧ w'.cell? ⟨b2, o2 + k * 4 + 3, none⟩ = some (.slice B2 l2 c2)) 14 (by kernel_rfl) ?_
   generalize wa.drew = W1 at *
   refine wpAnyC_take8 (i := 0) (oi := _) (v := .slice (some ⟨w1.heap.size, 0, none⟩) n n) rfl (by kernel_rfl) (by kernel_rfl) (by kernel_rfl) (by kernel_rfl) (by kernel_rfl) (by kernel_rfl) (fun _ _ _ h => h) (Or.inl ⟨by rfl, ?_⟩) ⟨CR.out, CB.out.c0, CB.out.c1, CB.out.c2, CB.out.c3⟩ ?_
   ·intro w hSw
    obtain ⟨s0, s1, s2, s3, s4⟩ := hSw
    go_simp
   try simp only [Act.put, List.setIfInBounds_toArray]
   refine wpAnyC_take8 (i := 1) (oi := _) (v := I k) rfl (by kernel_rfl) (by kernel_rfl) (by kernel_rfl) (by kernel_rfl) (by kernel_rfl) (by kernel_rfl) (fun _ _ _ h => h) (Or.inl ⟨by rfl, ?_⟩) ⟨CR.out, CB.out.c0, CB.out.c1, CB.out.c2, CB.out.c3⟩ ?_
   ·intro w hSw
    obtain ⟨s0, s1, s2, s3, s4⟩ := hSw
    go_simp
   try simp only [Act.put]
   refine wpAnyC_take8 (i := 2) (oi := _) (v := .slice (some ⟨ba, oa, none⟩) n c) rfl (by kernel_rfl) (by kernel_rfl) (by kernel_rfl) (by kernel_rfl) (by kernel_rfl) (by kernel_rfl) (fun _ _ _ h => h) (Or.inl ⟨by rfl, ?_⟩) ⟨CR.out, CB.out.c0, CB.out.c1, CB.out.c2, CB.out.c3⟩ ?_
   ·intro w hSw
    obtain ⟨s0, s1, s2, s3, s4⟩ := hSw
    go_simp
   try simp only [Act.put]
   refine wpAnyC_take8 (i := 3) (oi := _) (v := I k) rfl (by kernel_rfl) (by kernel_rfl) (by kernel_rfl) (by kernel_rfl) (by kernel_rfl) (by kernel_rfl) (fun _ _ _ h => h) (Or.inl ⟨by rfl, ?_⟩) ⟨CR.out, CB.out.c0, CB.out.c1, CB.out.c2, CB.out.c3⟩ ?_
   ·intro w hSw
    obtain ⟨s0, s1, s2, s3, s4⟩ := hSw
    go_simp
   try simp only [Act.put]
   refine wpAnyC_take8 (i := 4) (oi := _) (v := .pointer (some ⟨ba, oa + k, none⟩)) rfl (by kernel_rfl) (by kernel_rfl) (by kernel_rfl) (by kernel_rfl) (by kernel_rfl) (by kernel_rfl) (fun _ _ _ h => h) (Or.inl ⟨by rfl, ?_⟩) ⟨CR.out, CB.out.c0, CB.out.c1, CB.out.c2, CB.out.c3⟩ ?_
   ·intro w hSw
    obtain ⟨s0, s1, s2, s3, s4⟩ := hSw
    go_simp
   try simp only [Act.put]
   refine wpAnyC_take8 (i := 5) (oi := _) (v := .slice B wd d) rfl (by kernel_rfl) (by kernel_rfl) (by kernel_rfl) (by kernel_rfl) (by kernel_rfl) (by kernel_rfl) (fun _ _ _ h => h) (Or.inl ⟨by rfl, ?_⟩) ⟨CR.out, CB.out.c0, CB.out.c1, CB.out.c2, CB.out.c3⟩ ?_
   ·intro w hSw
    obtain ⟨s0, s1, s2, s3, s4⟩ := hSw
    go_simp
   try simp only [Act.put]
   refine wpAnyC_take8 (i := 7) (oi := _) (v := .slice (some ⟨b2, o2, none⟩) n bc) rfl (by kernel_rfl) (by kernel_rfl) (by kernel_rfl) (by kernel_rfl) (by kernel_rfl) (by kernel_rfl) (fun _ _ _ h => h) (Or.inl ⟨by rfl, ?_⟩) ⟨CR.out, CB.out.c0, CB.out.c1, CB.out.c2, CB.out.c3⟩ ?_
   ·intro w hSw
    obtain ⟨s0, s1, s2, s3, s4⟩ := hSw
    go_simp
   try simp only [Act.put]
   refine wpAnyC_take8 (i := 8) (oi := _) (v := I k) rfl (by kernel_rfl) (by kernel_rfl) (by kernel_rfl) (by kernel_rfl) (by kernel_rfl) (by kernel_rfl) (fun _ _ _ h => h) (Or.inl ⟨by rfl, ?_⟩) ⟨CR.out, CB.out.c0, CB.out.c1, CB.out.c2, CB.out.c3⟩ ?_
   ·intro w hSw
    obtain ⟨s0, s1, s2, s3, s4⟩ := hSw
    go_simp
   try simp only [Act.put]
   refine wpAnyC_take8 (i := 9) (oi := _) (v := .pointer (some ⟨b2, o2 + k * 4, none⟩)) rfl (by kernel_rfl) (by kernel_rfl) (by kernel_rfl) (by kernel_rfl) (by kernel_rfl) (by kernel_rfl) (fun _ _ _ h => h) (Or.inl ⟨by rfl, ?_⟩) ⟨CR.out, CB.out.c0, CB.out.c1, CB.out.c2, CB.out.c3⟩ ?_
   ·intro w hSw
    obtain ⟨s0, s1, s2, s3, s4⟩ := hSw
    go_simp
   try simp only [Act.put]
   refine wpAnyC_take8 (i := 10) (oi := _) (v := .agg #[.bool nb, .slice B1 l1 c1, .bool false, .slice B2 l2 c2]) rfl (by kernel_rfl) (by kernel_rfl) (by kernel_rfl) (by kernel_rfl) (by kernel_rfl) (by kernel_rfl) (fun _ _ _ h => h) (Or.inl ⟨by rfl, ?_⟩) ⟨CR.out, CB.out.c0, CB.out.c1, CB.out.c2, CB.out.c3⟩ ?_
   ·intro w hSw
    obtain ⟨s0, s1, s2, s3, s4⟩ := hSw
    go_simp
   try simp only [Act.put]
   have HBW := Lib.hid (Below.refl W1.heap.size W1)
   refine wpAnyC_twoD (i := 6) (j := 11) (by kernel_rfl) rfl rfl (fun K hK => ?_) (fun K hK => ?_)
   ·skip
    refine step_appN (by rfl) _ _ (by rfl) W1.heap.size (.slice none 0 0) [] (by kernel_rfl) (RRow.nil _ _) B wd d (by kernel_rfl) (HRX.out.below HBW.out) (by rw [List.length_nil]; omega) (Nat.le_refl _) ?_
    intro v3 W3 hap
    have hb := hap.below (RRow.nil W1 W1.heap.size) (Nat.le_refl _)
    have HR3 := Lib.hid (hap.row.less HBW.out.size)
    rw [List.nil_append] at HR3
    replace HBW := Lib.hid (HBW.out.trans (hb.mono HBW.out.size))
    clear hap hb
    have CR2 := cell_below CR.out HBW.out
    have CB2 := CB.out.below HBW.out
    refine hK.out _ _ (fun _ => ⟨CR2, CB2.c0, CB2.c1, CB2.c2, CB2.c3⟩) ?_
    clear hK K CR2 CB2
    try simp only [Act.put]
    refine wpAnyC_one (i := 11) (by kernel_rfl) rfl (fun K hK => ?_)
    go_simp
    have hz := below_new W3 (.cells #[.bool nb, .slice B1 l1 c1, .bool false, .slice B2 l2 c2] 121)
    have HX4 := Lib.hid (Blk.new W3 121 #[.bool nb, .slice B1 l1 c1, .bool false, .slice B2 l2 c2])
    replace HR3 := Lib.hid (HR3.out.call hz)
    replace HBW := Lib.hid (HBW.out.trans (hz.mono HBW.out.size))
    clear hz
    have CR2 := cell_below CR.out HBW.out
    have CB2 := CB.out.below HBW.out
    refine hK.out _ _ (fun _ => ⟨CR2, CB2.c0, CB2.c1, CB2.c2, CB2.c3⟩) ?_
    clear hK K CR2 CB2
    try simp only [Act.put, List.setIfInBounds_toArray, List.set_cons_zero, List.set_cons_succ]
    generalize W3.heap.size = gx at *
    generalize W3.alloc (.cells #[.bool nb, .slice B1 l1 c1, .bool false, .slice B2 l2 c2] 121) = W4 at *
    refine wpAnyC_one (i := 12) (by kernel_rfl) rfl (fun K hK => ?_)
    refine step_app1 (by rfl) _ _ (by rfl) W1.heap.size v3 x (by kernel_rfl) HR3.out gx (by kernel_rfl) HX4.out (RB.out.ext HBW.out) (by rw [HXL.out]; omega) HBW.out.size ?_
    intro v5 W5 hap
    have hb := hap.below HR3.out HBW.out.size
    have HR5 := Lib.hid hap.row
    replace HBW := Lib.hid (HBW.out.trans hb)
    clear hap hb HR3 HX4
    have CR2 := cell_below CR.out HBW.out
    have CB2 := CB.out.below HBW.out
    refine hK.out _ _ (fun _ => ⟨CR2, CB2.c0, CB2.c1, CB2.c2, CB2.c3⟩) ?_
    clear hK K CR2 CB2
    try simp only [Act.put, List.setIfInBounds_toArray]
    refine wpAnyC_one (i := 13) (by kernel_rfl) rfl (fun K hK => ?_)
    go_simp
    have CR2 := cell_below CR.out HBW.out
    have CB2 := CB.out.below HBW.out
    refine hK.out _ _ (fun _ => ⟨CR2, CB2.c0, CB2.c1, CB2.c2, CB2.c3⟩) ?_
    clear hK K CR2 CB2
    try simp only [Act.put, List.setIfInBounds_toArray, List.set_cons_zero, List.set_cons_succ]
    have h1 := HL.out.call HBW.out
    have hap2 := HL.out.newer (u := v5) (fun g hg => (HR5.out.lt hg).1)
    have hfl : (fillL (extQ m b) [] k n).length = n := fillL_len _ (by rw [extQ_len, HR.out.1]) hk
    obtain ⟨g, o9, cap, B9, c9, e9, hg1, hg2, -, hcell, hfz, -⟩ := h1.at_ (i := k) (by omega)
    obtain ⟨rfl, rfl⟩ := sl_inj e9
    clear e9
    have h2 := h1.put (i := k) hfl hlt (HR5.out.less HB1.out.size) (fun j u' g' _ => hap2 j u' g')
    rw [fillL_set _ (by rw [extQ_len, HR.out.1]) hlt HX.out, Nat.zero_add] at h2
    rw [Nat.zero_add] at hcell hfz
    have HN := Lib.hid (show ∃ vs, LM (W5.setCell ⟨w1.heap.size, k, none⟩ v5) w1.heap.size (.slice (some ⟨w1.heap.size, 0, none⟩) n n) vs (fillL (extQ m b) [] (k + 1) n) from ⟨_, h2.1⟩)
    have HB5 := Lib.hid ((HB1.out.trans (HBW.out.mono HB1.out.size)).setCell (p := ⟨w1.heap.size, k, none⟩) (Nat.le_refl _) v5)
    obtain ⟨A5, c5, rfl⟩ := HR5.out.val
    generalize (x ++ [q]).length = l5 at *
    generalize ((fillL (extQ m b) [] k n).getD k []).length = ln at *
    clear h1 h2 hap2 hfl hg1 hg2 HR5 HL HB1 HBW HRX CR CB RB HX HXL
    refine wpAnyC_one (i := 14) (by kernel_rfl) rfl (fun K hK => ?_)
    go_simp
    refine hK.out _ _ (fun h => absurd h (by decide)) ?_
    clear hK K hcell hfz
    refine wpAnyC_done (by kernel_rfl) ?_ _
    go_wp2
    go_roundg (n - (k + 1))
    case measure => omega
    case rel => exact ⟨k + 1, rfl, by go_num, by omega, HN, HB5⟩
   ·skip
    go_simp
    have hz := below_new W1 (.cells #[.bool nb, .slice B1 l1 c1, .bool false, .slice B2 l2 c2] 121)
    have HX4 := Lib.hid (Blk.new W1 121 #[.bool nb, .slice B1 l1 c1, .bool false, .slice B2 l2 c2])
    replace HBW := Lib.hid (HBW.out.trans (hz.mono HBW.out.size))
    clear hz
    have CR2 := cell_below CR.out HBW.out
    have CB2 := CB.out.below HBW.out
    refine hK.out _ _ (fun _ => ⟨CR2, CB2.c0, CB2.c1, CB2.c2, CB2.c3⟩) ?_
    clear hK K CR2 CB2
    try simp only [Act.put, List.setIfInBounds_toArray, List.set_cons_zero, List.set_cons_succ]
    have hgx : W1.heap.size ≤ W1.heap.size := Nat.le_refl _
    generalize hgxe : W1.heap.size = gx at hgx HX4
    generalize W1.alloc (.cells #[.bool nb, .slice B1 l1 c1, .bool false, .slice B2 l2 c2] 121) = W3 at *
    refine wpAnyC_one (i := 6) (by kernel_rfl) rfl (fun K hK => ?_)
    refine step_appN (by rfl) _ _ (by rfl) W3.heap.size (.slice none 0 0) [] (by kernel_rfl) (RRow.nil _ _) B wd d (by kernel_rfl) (HRX.out.below HBW.out) (by rw [List.length_nil]; omega) (Nat.le_refl _) ?_
    intro v3 W4 hap
    have hb := hap.below (RRow.nil W3 W3.heap.size) (Nat.le_refl _)
    have HR3 := Lib.hid (hap.row.less HBW.out.size)
    rw [List.nil_append] at HR3
    replace HX4 := Lib.hid (HX4.out.below hb HX4.out.lt)
    replace HBW := Lib.hid (HBW.out.trans (hb.mono HBW.out.size))
    clear hap hb
    have CR2 := cell_below CR.out HBW.out
    have CB2 := CB.out.below HBW.out
    refine hK.out _ _ (fun _ => ⟨CR2, CB2.c0, CB2.c1, CB2.c2, CB2.c3⟩) ?_
    clear hK K CR2 CB2
    try simp only [Act.put, List.setIfInBounds_toArray]
    refine wpAnyC_one (i := 12) (by kernel_rfl) rfl (fun K hK => ?_)
    refine step_app1 (by rfl) _ _ (by rfl) W1.heap.size v3 x (by kernel_rfl) HR3.out gx (by kernel_rfl) HX4.out (RB.out.ext HBW.out) (by rw [HXL.out]; omega) HBW.out.size ?_
    intro v5 W5 hap
    have hb := hap.below HR3.out HBW.out.size
    have HR5 := Lib.hid hap.row
    replace HBW := Lib.hid (HBW.out.trans hb)
    clear hap hb HR3 HX4
    have CR2 := cell_below CR.out HBW.out
    have CB2 := CB.out.below HBW.out
    refine hK.out _ _ (fun _ => ⟨CR2, CB2.c0, CB2.c1, CB2.c2, CB2.c3⟩) ?_
    clear hK K CR2 CB2
    try simp only [Act.put]
    refine wpAnyC_one (i := 13) (by kernel_rfl) rfl (fun K hK => ?_)
    go_simp
    have CR2 := cell_below CR.out HBW.out
    have CB2 := CB.out.below HBW.out
    refine hK.out _ _ (fun _ => ⟨CR2, CB2.c0, CB2.c1, CB2.c2, CB2.c3⟩) ?_
    clear hK K CR2 CB2
    try simp only [Act.put, List.setIfInBounds_toArray, List.set_cons_zero, List.set_cons_succ]
    have h1 := HL.out.call HBW.out
    have hap2 := HL.out.newer (u := v5) (fun g hg => (HR5.out.lt hg).1)
    have hfl : (fillL (extQ m b) [] k n).length = n := fillL_len _ (by rw [extQ_len, HR.out.1]) hk
    obtain ⟨g, o9, cap, B9, c9, e9, hg1, hg2, -, hcell, hfz, -⟩ := h1.at_ (i := k) (by omega)
    obtain ⟨rfl, rfl⟩ := sl_inj e9
    clear e9
    have h2 := h1.put (i := k) hfl hlt (HR5.out.less HB1.out.size) (fun j u' g' _ => hap2 j u' g')
    rw [fillL_set _ (by rw [extQ_len, HR.out.1]) hlt HX.out, Nat.zero_add] at h2
    rw [Nat.zero_add] at hcell hfz
    have HN := Lib.hid (show ∃ vs, LM (W5.setCell ⟨w1.heap.size, k, none⟩ v5) w1.heap.size (.slice (some ⟨w1.heap.size, 0, none⟩) n n) vs (fillL (extQ m b) [] (k + 1) n) from ⟨_, h2.1⟩)
    have HB5 := Lib.hid ((HB1.out.trans (HBW.out.mono HB1.out.size)).setCell (p := ⟨w1.heap.size, k, none⟩) (Nat.le_refl _) v5)
    obtain ⟨A5, c5, rfl⟩ := HR5.out.val
    generalize (x ++ [q]).length = l5 at *
    generalize ((fillL (extQ m b) [] k n).getD k []).length = ln at *
    clear h1 h2 hap2 hfl hg1 hg2 HR5 HL HB1 HBW HRX CR CB RB HX HXL
    refine wpAnyC_one (i := 14) (by kernel_rfl) rfl (fun K hK => ?_)
    go_simp
    refine hK.out _ _ (fun h => absurd h (by decide)) ?_
    clear hK K hcell hfz
    refine wpAnyC_done (by kernel_rfl) ?_ _
    go_wp2
    go_roundg (n - (k + 1))
    case measure => omega
    case rel => exact ⟨k + 1, rfl, by go_num, by omega, HN, HB5⟩
  ·have hkn : k = n := by omega
   subst hkn
   obtain ⟨vs0, hLM⟩ := HP.out
   rw [fillL_end _ (by rw [extQ_len, HR.out.1])] at hLM
   have HC := Lib.hid (reduce_any (extQ m b) k (wd + 1) wd _ k wa hLM.rm (rect_extQ HR.out b) (by omega) hn (by omega) HBN.out)
   have HQ := Lib.hid (red_inv (rect_extQ HR.out b) wd)
   clear HP hLM HM HV HBN
   go_wp2_with fail
   have hLB := HB.out.size
   refine HC.out.mono ?_
   rintro e w2 ⟨v, vs, u, rfl, hLM, hN, hb⟩
   clear HC
   have hLM := hLM.less hLB
   replace HB := Lib.hid (HB.out.trans (hb.mono HB.out.size))
   obtain ⟨Au, cu, rfl⟩ := hN.val
   obtain ⟨A1, c1, rfl⟩ := hLM.val
   clear hb hN hLB
   rw [ints_len]
   have HE := Lib.hid (show solR m b wd = if nzAt wd ((redQ (extQ m b) wd).1.drop (redQ (extQ m b) wd).2.length) (redQ (extQ m b) wd).2.length < (redQ (extQ m b) wd).1.length then ([], 0) else if (redQ (extQ m b) wd).2.length < wd then ([], 2) else (((redQ (extQ m b) wd).1.take wd).map (fun r => r.getD wd 0), 1) from rfl)
   have HRX := Lib.hid HQ.out.rect
   have hrn := HQ.out.few
   clear HQ
   generalize (redQ (extQ m b) wd).1 = X at *
   generalize (redQ (extQ m b) wd).2.length = r at *
   rw [HRX.out.1] at hLM ⊢
   have HL := Lib.hid hLM
   clear hLM
   have HB2 := Lib.hid (Below.refl w2.heap.size w2)
   have hmk2 := make_rat wd (by omega)
   unfold rowT at hmk2
   go_wp2
   go_loopg [11] (k - r) (fun mm v wr => ∃ i : Nat, mm = k - i ∧ v = I i ∧ r ≤ i ∧ i ≤ k ∧ Hid (nzAt wd (X.drop r) r = nzAt wd (X.drop i) i) ∧ Hid (Below w2.heap.size w2 wr))
   case atStart => exact ⟨r, rfl, rfl, by omega, hrn, rfl, HB2⟩
   case round =>
    clear HB2
    obtain ⟨i, rfl, rfl, hri, hin, HZN, HB2⟩ := hrel
    obtain ⟨wb, rfl⟩ : ∃ wb : World, wb = wr := ⟨_, rfl⟩
    by_cases hlt : i < k
    ·obtain ⟨g, off, cap0, B0, cc0, e0, -⟩ := HL.out.at_ (i := i) (by rw [HRX.out.1]; exact hlt)
     injection e0 with e1 e2 e3
     subst e1 e3
     clear e2
     obtain ⟨b9, o9, c9, nb, B1, l1, c2, B2, l2, c3, hu, hc, hE, hrt, hgl, hbl⟩ := (HL.out.call HB2.out).el HRX.out hlt (Nat.lt_succ_self wd)
     have HC := Lib.hid (rsign_any _ _ wb hrt)
     have e0 := hE.c0
     have e1 := hE.c1
     have e2 := hE.c2
     have e3 := hE.c3
     have HST := Lib.hid (nzAt_step (k := wd) (p := i) (A := X) (by rw [HRX.out.1]; exact hlt))
     clear hu hE hrt hgl hbl
     by_cases hz : at2 X i wd = 0
     ·have tz : ((at2 X i wd).num.sign != 0) = false := by rw [sign_zero.2 hz]; rfl
      have HZN2 := Lib.hid (show nzAt wd (X.drop r) r = nzAt wd (X.drop (i + 1)) (i + 1) by rw [HZN.out, HST.out, if_pos hz])
      clear hz HST HZN
      go_wp2_with fail
      refine HC.out.mono ?_
      rintro e w5 ⟨rfl, hb⟩
      clear HC hc e0 e1 e2 e3
      replace HB2 := Lib.hid (HB2.out.trans (hb.mono HB2.out.size))
      clear hb
      go_wp2
      go_roundg (k - (i + 1))
      case measure => omega
      case rel => exact ⟨i + 1, rfl, by go_num, by omega, by omega, HZN2, HB2⟩
     ·have tz : ((at2 X i wd).num.sign != 0) = true := bne_iff_ne.2 fun e => hz (sign_zero.1 e)
      have HE2 := Lib.hid (show solR m b wd = ([], 0) by rw [HE.out, HZN.out, HST.out, if_neg hz, HRX.out.1, if_pos hlt])
      clear hz HST HZN HE
      go_wp2_with fail
      refine HC.out.mono ?_
      rintro e w5 ⟨rfl, hb⟩
      clear HC hc e0 e1 e2 e3
      replace HB2 := Lib.hid (HB2.out.trans (hb.mono HB2.out.size))
      replace HB := Lib.hid (HB.out.trans (HB2.out.mono HB.out.size))
      clear hb HB2
      go_wp2
      go_ret2
      rw [HE2.out]
      exact ⟨_, rfl, RRow.nil _ _, HB.out⟩
    ·have hki : k = i := by omega
     subst hki
     have HZ := Lib.hid (show ¬ nzAt wd (X.drop r) r < X.length by rw [HZN.out]; have h := HRX.out.1; rw [← h, nzAt_end]; omega)
     clear HZN
     by_cases hrw : r < wd
     ·have HE2 := Lib.hid (show solR m b wd = ([], 2) by rw [HE.out, if_neg HZ.out, if_pos hrw])
      replace HB := Lib.hid (HB.out.trans (HB2.out.mono HB.out.size))
      clear HE HZ HB2 hmk2
      go_wp2
      go_ret2
      rw [HE2.out]
      exact ⟨_, rfl, RRow.nil _ _, HB.out⟩
     ·have HE2 := Lib.hid (show solR m b wd = ((X.take wd).map (fun r => r.getD wd 0), 1) by rw [HE.out, if_neg HZ.out, if_neg hrw])
      replace HL := Lib.hid (HL.out.call HB2.out)
      replace HB := Lib.hid (HB.out.trans (HB2.out.mono HB.out.size))
      have HBS := HB.out.size
      have HP := Lib.hid (Part.start wb wd)
      clear HE HZ HB2
      go_wp2
      clear hmk2
      go_loopg [70] (wd - 0) (fun mm v wr => ∃ j : Nat, mm = wd - j ∧ v = I j ∧ j ≤ wd ∧ Hid (Part wb wb.heap.size wd ((X.take j).map (fun r => r.getD wd 0)) wr))
      case atStart => exact ⟨0, rfl, rfl, by omega, HP⟩
      case round =>
       clear HP
       obtain ⟨j, rfl, rfl, hj, HP⟩ := hrel
       obtain ⟨wc, rfl⟩ : ∃ wc : World, wc = wr := ⟨_, rfl⟩
       by_cases hlt : j < wd
       ·obtain ⟨g, off, cap0, B0, cc0, e0, -⟩ := HL.out.at_ (i := j) (by rw [HRX.out.1]; omega)
        injection e0 with e1 e2 e3
        subst e1 e3
        clear e2
        have hjk : j < k := by omega
        obtain ⟨b9, o9, c9, nb, B1, l1, c2, B2, l2, c3, hu, hc, hE, hrt, hgl, hbl⟩ := (HL.out.call HP.out.below).el HRX.out hjk (Nat.lt_succ_self wd)
        have e0 := hE.c0
        have e1 := hE.c1
        have e2 := hE.c2
        have e3 := hE.c3
        have hlen : ((X.take j).map (fun r => r.getD wd 0)).length = j := by rw [List.length_map, List.length_take, HRX.out.1]; omega
        have HXN := Lib.hid (show (X.take (j + 1)).map (fun r => r.getD wd 0) = (X.take j).map (fun r => r.getD wd 0) ++ [at2 X j wd] by
         rw [List.take_add_one, List.map_append]
         unfold at2
         rw [List.getD_eq_getElem?_getD (l := X), List.getElem?_eq_getElem (show j < X.length by rw [HRX.out.1]; omega)]
         rfl)
        have hp1 := HP.out
        obtain ⟨o0, o1, o2, o3, hC⟩ := hp1.cells hlt
        have hc0 := hC.c0
        have hc1 := hC.c1
        have hc2 := hC.c2
        have hc3 := hC.c3
        have f0 := hp1.frozen (j * 4)
        have f1 := hp1.frozen (j * 4 + 1)
        have f2 := hp1.frozen (j * 4 + 2)
        have f3 := hp1.frozen (j * 4 + 3)
        have HN := Lib.hid (hp1.put (by omega) (Nat.le_refl _) hrt)
        rw [hlen, ← HXN.out] at HN
        unfold put4 at HN
        clear hC hp1 HP hu hE hrt hgl hbl hlen HXN
        go_wp2
        go_roundg (wd - (j + 1))
        case measure => omega
        case rel => exact ⟨j + 1, rfl, by go_num, by omega, HN⟩
       ·have hjw : j = wd := by omega
        subst hjw
        have HF := Lib.hid (HP.out.row (by rw [List.length_map, List.length_take, HRX.out.1]; omega) (Nat.le_refl _) (by unfold maxLen; omega))
        replace HB := Lib.hid (HB.out.trans (HP.out.below.mono HB.out.size))
        have HFL := Lib.hid (HF.out.less (show w1.heap.size ≤ wb.heap.size from HBS))
        clear HP HF
        go_wp2
        go_ret2
        rw [HE2.out]
        exact ⟨_, rfl, HFL.out, HB.out⟩

end Go.Proofs.YtgecdcjfncfmcaaGreatDoor
namespace Go.Proofs.YtgecdcjfncfmcaaGreatDoor
open Go.RowKit

/-- 'copy' at elements of any size -/
theorem run_copy_sz {P : Program} (w : World) (dT sT ty elem : TypeId) (g o dLen dCap : Nat) (a : Addr) (sLen sCap : Nat) (cur : Array Value) (t : TypeId) (cs : List Value) (sz n : Nat)
  (hu : P.underlying dT = some (.slice elem)) (hs : (P.info? elem).map (·.size) = some sz)
  (hg : w.heap[g]? = some (.cells cur t (0, 0))) (hn : n = Nat.min sLen dLen) (hcs : cs.length = n * sz)
  (hsrc : ∀ j v, cs[j]? = some v → w.cell? (a.add j) = some v) (hfit : o + cs.length ≤ cur.size) (h1 : ∀ v ∈ cs, v.oneCell' = true) :
  (Builtin.copy_ #[dT, sT] ty #[.slice (some ⟨g, o, none⟩) dLen dCap, .slice (some a) sLen sCap]).run P w =
   .ok (goInt n) (w.setRow g (cur.toList.take o ++ cs ++ cur.toList.drop (o + cs.length)).toArray) := by
 have hl := run_loadCells_list (P := P) w a cs hsrc
 have hst := run_storeCells_at P g o t cs 0 cur w hg (by simpa using hfit) h1
 cases hq : P.info? elem with
 | none => simp [hq] at hs
 | some i =>
  have hi : i.size = sz := by simpa [hq] using hs
  subst hi
  rw [hcs] at hl
  simp [Builtin.copy_, run_underlying hu, Builtin.lenOf, Builtin.firstCells, sizeOf, typeInfo, hq, ← hn, hl, hst]
theorem run_copy_none_sz {P : Program} (w : World) (dT sT ty elem : TypeId) (d a : Option Addr) (dLen dCap sLen sCap sz : Nat) (hu : P.underlying dT = some (.slice elem)) (hs : (P.info? elem).map (·.size) = some sz) (hn : Nat.min sLen dLen = 0) :
  (Builtin.copy_ #[dT, sT] ty #[.slice d dLen dCap, .slice a sLen sCap]).run P w = .ok (goInt 0) w := by
 cases hq : P.info? elem with
 | none => simp [hq] at hs
 | some i =>
  have hl : ∀ (x : Addr), (loadCells x 0).run P w = .ok #[] w := fun x => by simpa using run_loadCells_list (P := P) w x [] (by simp)
  cases d <;> cases a <;> simp [Builtin.copy_, run_underlying hu, Builtin.lenOf, Builtin.firstCells, sizeOf, typeInfo, hq, hn, storeCells, hl]
/-- a copy into a row that is known whole: what is known of the row behind it -/
def Cpy (w' : World) (g : Nat) (t : TypeId) (cur : List Value) (off : Nat) (cs : List Value) : Prop := w'.heap[g]? = some (.cells (splice cur off cs).toArray t (0, 0))
theorem run_copy_spl {P : Program} (w : World) (dT sT ty elem : TypeId) (hu : P.underlying dT = some (.slice elem)) (sz : Nat) (hsz : (P.info? elem).map (·.size) = some sz) (hs0 : 0 < sz)
  (dp sp : Option Addr) (dLen dCap sLen sCap : Nat) (g off : Nat) (cur : List Value) (t : TypeId) (hg : w.heap[g]? = some (.cells cur.toArray t (0, 0))) (cs : List Value) (n : Nat) (hn : n = Nat.min sLen dLen) (hcs : cs.length = n * sz)
  (hpos : 0 < cs.length → dp = some ⟨g, off, none⟩ ∧ ∃ ad, sp = some ad ∧ ∀ j v, cs[j]? = some v → w.cell? (ad.add j) = some v)
  (hfit : off + cs.length ≤ cur.length) (h1 : ∀ v ∈ cs, v.oneCell' = true) (B : Nat) (w0 : World) (hb : Below B w0 w) (hBg : B ≤ g) :
  ∃ w', (Builtin.copy_ #[dT, sT] ty #[.slice dp dLen dCap, .slice sp sLen sCap]).run P w = .ok (goInt n) w' ∧ Cpy w' g t cur off cs ∧ Below B w0 w' := by
 by_cases h0 : cs.length = 0
 ·obtain rfl : cs = [] := List.eq_nil_of_length_eq_zero h0
  have hn0 : n = 0 := by
   rcases Nat.eq_zero_or_pos n with h | h
   ·exact h
   ·have := Nat.mul_pos h hs0
    simp at hcs; omega
  subst hn0
  exact ⟨w, run_copy_none_sz (P := P) w dT sT ty elem dp sp dLen dCap sLen sCap sz hu hsz hn.symm, show _ = _ by simpa [splice] using hg, hb⟩
 ·obtain ⟨rfl, ad, rfl, hsrc⟩ := hpos (by omega)
  have hrun := run_copy_sz (P := P) w dT sT ty elem g off dLen dCap ad sLen sCap cur.toArray t cs sz n hu hsz hg hn hcs hsrc (by simpa using hfit) h1
  exact ⟨_, hrun, show _ = _ by simpa [splice] using setRow_heap w g _ _ t _ hg, below_setRow hb hBg _⟩
theorem size_rat : (Tryz.prog.info? ratT).map (·.size) = some 4 := by kernel_rfl
theorem wpList_copy4 {w : World} {ops : Array Oper} {rest : List Oper} {o : Oper} {a : Act} {Q : Exit → Act → World → Prop} (hgd : o.guard = none) (d s : Operand)
  (ho : o.op = .call { callee := .builtin .copy, args := #[d, s], argTypes := #[rowT, rowT] })
  (dp sp : Option Addr) (dLen dCap sLen sCap : Nat) (hd : a.eval d = .slice dp dLen dCap) (hs : a.eval s = .slice sp sLen sCap)
  (g off : Nat) (cur : List Value) (hg : w.heap[g]? = some (.cells cur.toArray ratT (0, 0))) (cs : List Value) (n : Nat) (hn : n = Nat.min sLen dLen) (hcs : cs.length = n * 4)
  (hpos : 0 < cs.length → dp = some ⟨g, off, none⟩ ∧ ∃ ad, sp = some ad ∧ ∀ j v, cs[j]? = some v → w.cell? (ad.add j) = some v)
  (hfit : off + cs.length ≤ cur.length) (h1 : ∀ v ∈ cs, v.oneCell' = true) (B : Nat) (w0 : World) (hb : Below B w0 w) (hBg : B ≤ g)
  (h : ∀ w', Hid (Cpy w' g ratT cur off cs) → Below B w0 w' → wpList Tryz.prog ops Q rest (a.put o.dst (goInt n)) w') : wpList Tryz.prog ops Q (o :: rest) a w := by
 refine wpList_plain hgd fun K hK => ?_
 obtain ⟨w', hrun, h2, h3⟩ := run_copy_spl (P := Tryz.prog) w rowT rowT o.type ratT Tryz.underlying111 4 size_rat (by omega) dp sp dLen dCap sLen sCap g off cur ratT hg cs n hn hcs hpos hfit h1 B w0 hb hBg
 unfold Oper.wp
 simp only [execOp, ho, resolve, invoke, builtin, Sem.run_bind, Sem.run_pure, Result.andThen_ok, List.map_toArray, List.map_cons, List.map_nil, hd, hs, hrun]
 exact hK _ _ (h w' h2 h3)
theorem step_copy4 {w : World} {ops : Array Oper} {o : Oper} {a : Act} {K : Act → World → Prop} {Q : Exit → Act → World → Prop} {E : Prop} (hgd : o.guard = none) (d s : Operand)
  (ho : o.op = .call { callee := .builtin .copy, args := #[d, s], argTypes := #[rowT, rowT] })
  (dp sp : Option Addr) (dLen dCap sLen sCap : Nat) (hd : a.eval d = .slice dp dLen dCap) (hs : a.eval s = .slice sp sLen sCap)
  (g off : Nat) (cur : List Value) (hg : w.heap[g]? = some (.cells cur.toArray ratT (0, 0))) (cs : List Value) (n : Nat) (hn : n = Nat.min sLen dLen) (hcs : cs.length = n * 4)
  (hpos : 0 < cs.length → dp = some ⟨g, off, none⟩ ∧ ∃ ad, sp = some ad ∧ ∀ j v, cs[j]? = some v → w.cell? (ad.add j) = some v)
  (hfit : off + cs.length ≤ cur.length) (h1 : ∀ v ∈ cs, v.oneCell' = true) (B : Nat) (w0 : World) (hb : Below B w0 w) (hBg : B ≤ g)
  (h : ∀ w', Hid (Cpy w' g ratT cur off cs) → Below B w0 w' → K (a.put o.dst (goInt n)) w') : if Region.wanted o (yielded ops a.tmps) = true then Oper.wp Tryz.prog o a w K Q else E := by
 have hw : Region.wanted o (yielded ops a.tmps) = true := by simp [Region.wanted, hgd]
 rw [if_pos hw]
 obtain ⟨w', hrun, h2, h3⟩ := run_copy_spl (P := Tryz.prog) w rowT rowT o.type ratT Tryz.underlying111 4 size_rat (by omega) dp sp dLen dCap sLen sCap g off cur ratT hg cs n hn hcs hpos hfit h1 B w0 hb hBg
 unfold Oper.wp
 simp only [execOp, ho, resolve, invoke, builtin, Sem.run_bind, Sem.run_pure, Result.andThen_ok, List.map_toArray, List.map_cons, List.map_nil, hd, hs, hrun]
 exact h w' h2 h3
/-- the cells of k equal numbers -/
def rep4 (x0 x1 x2 x3 : Value) : Nat → List Value
 | 0 => []
 | k + 1 => x0 :: x1 :: x2 :: x3 :: rep4 x0 x1 x2 x3 k
section
variable {x0 x1 x2 x3 : Value}
theorem rep4_len : ∀ k, (rep4 x0 x1 x2 x3 k).length = k * 4
 | 0 => rfl
 | k + 1 => by simp only [rep4, List.length_cons, rep4_len k]; omega
theorem rep4_add (j : Nat) : ∀ k, rep4 x0 x1 x2 x3 k ++ rep4 x0 x1 x2 x3 j = rep4 x0 x1 x2 x3 (k + j)
 | 0 => by rw [Nat.zero_add]; rfl
 | k + 1 => by rw [show k + 1 + j = (k + j) + 1 by omega]; simp only [rep4, List.cons_append, rep4_add j k]
theorem rep4_rt {w : World} {q : Rat} (h : Rt w (.agg #[x0, x1, x2, x3]) q) : ∀ k, RtL w (rep4 x0 x1 x2 x3 k) (List.replicate k q)
 | 0 => rfl
 | k + 1 => .mk h (rep4_rt h k)
/-- the loop of slices.Repeat: m numbers are there -/
structure RepI (w : World) (g : Nat) (x0 x1 x2 x3 : Value) (n m : Nat) (wr : World) : Prop where
 le : m ≤ n
 pos : 1 ≤ m ∨ n = 0
 row : ∃ L : List Value, wr.heap[g]? = some (.cells L.toArray ratT (0, 0)) ∧ L.length = n * 4 ∧ L.take (m * 4) = rep4 x0 x1 x2 x3 m
 below : Below g w wr
theorem rep_next {w wr : World} {g n m k : Nat} {L : List Value} (hl : L.length = n * 4) (ht : L.take (m * 4) = rep4 x0 x1 x2 x3 m) (hk : m + k ≤ n) (hp : 1 ≤ m + k ∨ n = 0)
  (hc : Cpy wr g ratT L (m * 4) (rep4 x0 x1 x2 x3 k)) (hb : Below g w wr) : RepI w g x0 x1 x2 x3 n (m + k) wr := by
 have hr := rep4_len (x0 := x0) (x1 := x1) (x2 := x2) (x3 := x3) k
 refine ⟨hk, hp, ⟨_, hc, ?_, ?_⟩, hb⟩
 ·rw [length_splice _ _ _ (by omega), hl]
 ·unfold splice
  rw [ht, ← List.append_assoc, rep4_add, List.take_append_of_le_length (by rw [rep4_len]; omega), List.take_of_length_le (by rw [rep4_len]; omega)]
theorem rep_src {w : World} {b off : Nat} {o : Obj} (n : Nat) (hb : b < w.heap.size) (hc : C4 w b off x0 x1 x2 x3) :
  ∀ j v, (rep4 x0 x1 x2 x3 (min 1 n))[j]? = some v → (w.alloc o).cell? ((⟨b, off, none⟩ : Addr).add j) = some v := by
 intro j v hv
 rw [Addr.add_lit, World.cell?_alloc_lt _ _ _ hb]
 rcases Nat.eq_zero_or_pos n with h0 | h0
 ·subst h0
  simp [rep4] at hv
 ·rw [show min 1 n = 1 by omega] at hv
  match j with
  | 0 => exact hc.c0.trans hv
  | 1 => exact hc.c1.trans hv
  | 2 => exact hc.c2.trans hv
  | 3 => exact hc.c3.trans hv
  | j + 4 => simp [rep4] at hv
theorem rep_own {w : World} {g m k : Nat} {L : List Value} (hg : w.heap[g]? = some (.cells L.toArray ratT (0, 0))) (ht : L.take (m * 4) = rep4 x0 x1 x2 x3 m) (hk : k ≤ m) :
  ∀ j v, (rep4 x0 x1 x2 x3 k)[j]? = some v → w.cell? ((⟨g, 0, none⟩ : Addr).add j) = some v := by
 intro j v hv
 have hj : j < k * 4 := by
  have := (List.getElem?_eq_some_iff.1 hv).1
  rwa [rep4_len] at this
 rw [Addr.add_lit, Nat.zero_add, cell_of_row w g j _ _ _ hg, List.getElem?_toArray]
 have e : L[j]? = (rep4 x0 x1 x2 x3 m)[j]? := by rw [← ht, List.getElem?_take, if_pos (by omega)]
 rw [e, show m = k + (m - k) by omega, ← rep4_add, List.getElem?_append_left (by rw [rep4_len]; omega)]
 exact hv
end
theorem RepI.done {w wr : World} {g n : Nat} {x0 x1 x2 x3 : Value} {q : Rat} (h : RepI w g x0 x1 x2 x3 n n wr) (hq : Rt wr (.agg #[x0, x1, x2, x3]) q) (hg : w.heap.size = g) (hn : n ≤ 1099511627776) : RRow wr w.heap.size (.slice (some ⟨g, 0, none⟩) n n) (List.replicate n q) := by
 obtain ⟨L, h1, h2, h3⟩ := h.row
 rw [List.take_of_length_le (by omega)] at h3
 subst h3
 have hw : ∀ u ∈ rep4 x0 x1 x2 x3 n, noWord u := fun u hu => by
  obtain ⟨n0, n1, n2, n3⟩ := hq.noW
  exact (rep4_rt hq n).noWord u hu |>.1
 have hb := h.below
 rw [← hg] at hb
 exact Part.row (g := g) ⟨⟨_, h1, h2, hw, by rw [List.length_replicate, List.take_of_length_le (by omega)]; exact rep4_rt hq n⟩, by simp, hb⟩ (by simp) (by omega) (by unfold maxLen; omega)

set_option maxRecDepth 100000 in
set_option maxHeartbeats 1000000 in
theorem repeatR_any (x0 x1 x2 x3 : Value) (q : Rat) (n : Nat) (b off c : Nat) (w : World) (hb : b < w.heap.size) (hc : C4 w b off x0 x1 x2 x3) (hq : Rt w (.agg #[x0, x1, x2, x3]) q) (hn : n ≤ 1000000) :
  Calls Tryz.prog 133 #[.slice (some ⟨b, off, none⟩) 1 c, I n] w (RetV w (List.replicate n q)) := by
 have hmk := make_rat n (by omega)
 have hnn : (n : Int) ≤ 1099511627776 := by omega
 have HQ := Lib.hid hq
 have HG := Lib.hid (heap_alloc_new w (.cells (madeCells zRat (n * 4)) ratT))
 obtain ⟨Z, hZ⟩ : ∃ Z : List Value, (madeCells zRat (n * 4)) = Z.toArray := ⟨(madeCells zRat (n * 4)).toList, by simp⟩
 have HZ := Lib.hid (show Z.length = n * 4 by have h : (madeCells zRat (n * 4)).size = n * 4 := by simp [size_madeCells]
                                              rw [hZ] at h; simpa using h)
 rw [hZ] at HG hmk
 have HF := Lib.hid (show 0 * 4 + (rep4 x0 x1 x2 x3 (min 1 n)).length ≤ Z.length by rw [rep4_len, HZ.out]; omega)
 have HONE := Lib.hid (show ∀ k, ∀ v ∈ rep4 x0 x1 x2 x3 k, v.oneCell' = true from fun k v hv => ((rep4_rt hq k).noWord v hv).2)
 have HSRC := Lib.hid (rep_src (x0 := x0) (x1 := x1) (x2 := x2) (x3 := x3) (o := .cells Z.toArray ratT) n hb hc)
 clear hZ hc hq
 unfold ratT rowT at *
 go_enter Tryz.func133, Tryz.ntmps133
 go_wp2_with (first | (go_at_call 74; refine (mul_one_any _ _ _ (by rfl) (by omega) (by omega)).mono ?_; rintro e w' ⟨rfl, rfl⟩) | (refine wpList_copy4 rfl (.tmp 31) (.tmp 32) rfl (some ⟨w.heap.size, 0, none⟩) (some ⟨b, off, none⟩) n n 1 c (by rfl) (by rfl) w.heap.size (0 * 4) Z HG.out (rep4 x0 x1 x2 x3 (min 1 n)) (min 1 n) (by rfl) (rep4_len _) (fun _ => ⟨rfl, _, rfl, HSRC.out⟩) HF.out (HONE.out _) w.heap.size w ((Below.refl _ _).alloc (Nat.le_refl _) _) (Nat.le_refl _) ?_; intro w1 hg1 hb1))
 have HI : RepI w w.heap.size x0 x1 x2 x3 n (0 + min 1 n) w1 := rep_next HZ.out (by rfl) (by omega) (by omega) hg1.out hb1
 rw [Nat.zero_add] at HI
 clear hg1 hb1 HG HF HSRC HZ hmk
 go_loopw [8] (fun v wr => ∃ m : Nat, v = I m ∧ RepI w w.heap.size x0 x1 x2 x3 n m wr) (fun v _ => n - (intOf v).toNat)
 case atStart => exact ⟨_, by go_num, HI⟩
 case round =>
  obtain ⟨m, rfl, hI⟩ := hrel
  have HI2 := Lib.hid hI
  have h1 := hI.le
  have h2 := hI.pos
  clear hI
  by_cases hlt : m < n
  ·have hm1 : (1 : Int) ≤ m := by omega
   have hmn : (m : Int) < n := by omega
   have hne : ¬ n = m := by omega
   have hlo : (0 : Int) ≤ (m : Int) := by omega
   obtain ⟨L, hL1, hL2, hL3⟩ := HI2.out.row
   have H1 := Lib.hid hL1
   have H2 := Lib.hid hL2
   have H3 := Lib.hid hL3
   have H4 := Lib.hid HI2.out.below
   have HF := Lib.hid (show m * 4 + (rep4 x0 x1 x2 x3 (min m (n - m))).length ≤ L.length by rw [rep4_len, H2.out]; omega)
   clear hL1 hL2 hL3
   go_wp2
   go_region_law ((refine step_copy4 rfl (.tmp 41) (.tmp 44) rfl (some ⟨w.heap.size, m * 4, none⟩) (some ⟨w.heap.size, 0, none⟩) (n - m) (n - m) m n (by kernel_rfl) (by kernel_rfl) w.heap.size (m * 4) L H1.out (rep4 x0 x1 x2 x3 (min m (n - m))) (min m (n - m)) (by rfl) (rep4_len _) (fun _ => ⟨rfl, _, rfl, rep_own H1.out H3.out (by omega)⟩) HF.out (HONE.out _) w.heap.size w H4.out.drew (Nat.le_refl _) ?_; intro w2 hg2 hb2))
   have HN : RepI w w.heap.size x0 x1 x2 x3 n (m + min m (n - m)) w2 := rep_next H2.out H3.out (by omega) (by omega) hg2.out hb2
   clear hg2 hb2 HI HI2 H1 H2 H3 H4 HF
   have hk1 : (min m (n - m) : Nat) ≤ n := by omega
   have hk2 : 1 ≤ (min m (n - m) : Nat) := by omega
   generalize min m (n - m) = k at *
   have hw1 : IntKind.i64.wrap ((m : Int) + (k : Int)) = (m : Int) + k := IntWalk.i64_in _ (by omega)
   simp only [Act.put, hw1, List.getElem_toArray, List.getElem_cons_succ, List.getElem_cons_zero, List.setIfInBounds_toArray, List.set_cons_succ, List.set_cons_zero]
   clear hw1
   go_wp2
   go_roundw
   case rel => exact ⟨m + k, by go_num, HN⟩
   case measure => simp [intOf]; omega
  ·obtain rfl : m = n := by omega
   have HB := Lib.hid HI2.out.below
   have HR := Lib.hid (HI2.out.done (HQ.out.ext HB.out) rfl (by omega))
   go_wp2
   go_ret
   exact ⟨_, rfl, HR.out, HB.out⟩
set_option maxRecDepth 100000 in
set_option maxHeartbeats 1000000 in
theorem zeros_any (n : Nat) (w : World) (hn : n ≤ 1000000) : Calls Tryz.prog 66 #[I n] w (RetV w (List.replicate n 0)) := by
 have HC := Lib.hid (rwhole_any 0 w (by decide) (by decide))
 go_enter Tryz.func66, Tryz.ntmps66
 go_wp2_with fail
 refine HC.out.mono ?_
 rintro e w1 ⟨v, rfl, hv, hb⟩
 clear HC
 obtain ⟨nb, A, l, c, B, m, d, rfl⟩ := hv.bools
 have hz := below_new w1 (.cells #[.bool nb, .slice A l c, .bool false, .slice B m d] ratT)
 have hB4 : C4 (w1.alloc (.cells #[.bool nb, .slice A l c, .bool false, .slice B m d] ratT)) w1.heap.size 0 (.bool nb) (.slice A l c) (.bool false) (.slice B m d) := by
  have h := Blk.new w1 ratT #[.bool nb, .slice A l c, .bool false, .slice B m d]
  exact ⟨by rw [h.cell]; rfl, by rw [h.cell]; rfl, by rw [h.cell]; rfl, by rw [h.cell]; rfl⟩
 have HC := Lib.hid (repeatR_any _ _ _ _ 0 n w1.heap.size 0 1 _ (by simp) hB4 (hv.ext hz) hn)
 have HB := Lib.hid (hb.trans (hz.mono hb.size))
 have HS := Lib.hid (show w.heap.size ≤ (w1.alloc (.cells #[.bool nb, .slice A l c, .bool false, .slice B m d] ratT)).heap.size from HB.out.size)
 clear hz hB4 hv hb
 unfold ratT at *
 go_wp2_with fail
 refine HC.out.mono ?_
 rintro e w2 ⟨v, rfl, hr, hb⟩
 have HR := Lib.hid (hr.less HS.out)
 replace HB := Lib.hid (HB.out.trans (hb.mono HB.out.size))
 obtain ⟨A2, c2, rfl⟩ := HR.out.val
 clear HC HS hr hb
 generalize (List.replicate n (0 : Rat)).length = ln at *
 go_wp2
 go_ret
 exact ⟨_, rfl, HR.out, HB.out⟩
end Go.Proofs.YtgecdcjfncfmcaaGreatDoor
namespace Go.Proofs.YtgecdcjfncfmcaaGreatDoor
open Go.RowKit

theorem LM.nil (w : World) (base : Nat) : LM w base (.slice none 0 0) [] [] := ⟨Row.nil _ _ _ _, fun i u qs h => by simp at h, fun i j u u' g _ h => by simp at h⟩
/-- what is left of a row of numbers behind its first k -/
theorem RRow.cutK {w : World} {base g off n c : Nat} {qs : List Rat} (h : RRow w base (.slice (some ⟨g, off, none⟩) n c) qs) {k : Nat} (hk : k < n) : RRow w base (.slice (some ⟨g, off + k * 4, none⟩) (n - k) (c - k)) (qs.drop k) := by
 obtain ⟨⟨xs, h1, h2⟩, h3⟩ := h
 obtain ⟨A', c', e⟩ := h1.val
 injection e with _ e _
 rw [← e] at h1
 refine ⟨⟨xs.drop (k * 4), ?_, h2.drop_ k⟩, fun g' o x hg => h3 g' o x hg⟩
 rw [List.length_drop, ← e]
 have h4 := h1.cut k (by omega)
 obtain ⟨g2, off2, cap2, cur, e2, _, _, h5, _⟩ := h1.form (by omega)
 injection e2 with _ _ e2
 unfold sliced at h4
 rw [if_neg (by omega), Option.map_some] at h4
 simp only [Addr.add_lit] at h4
 exact h4
/-- the first i rows without their first n numbers -/
def dropM (n i : Nat) (m : MQ) : MQ := m.mapIdx fun a r => if a < i then r.drop n else r
theorem dropM_len (n i : Nat) (m : MQ) : (dropM n i m).length = m.length := List.length_mapIdx
theorem dropM_zero (n : Nat) (m : MQ) : dropM n 0 m = m := mapIdx_id m _ fun a x _ => if_neg (by omega)
theorem dropM_row {n i : Nat} {m : MQ} (h : i < m.length) : (dropM n i m).getD i [] = m.getD i [] := by
 unfold dropM
 rw [getD_mapIdx m _ i [] [] h, if_neg (Nat.lt_irrefl _)]
theorem dropM_set {n i : Nat} {m : MQ} (h : i < m.length) : (dropM n i m).set i ((m.getD i []).drop n) = dropM n (i + 1) m := by
 apply List.ext_getElem?
 intro a
 unfold dropM
 rw [List.getElem?_set, List.getElem?_mapIdx, List.getElem?_mapIdx, List.length_mapIdx]
 by_cases e : i = a
 ·subst e
  have hx : m.getD i [] = m[i] := by rw [List.getD_eq_getElem?_getD, List.getElem?_eq_getElem h]; rfl
  rw [if_pos rfl, if_pos h, List.getElem?_eq_getElem h, hx]
  simp only [Option.map_some]
  rw [if_pos (Nat.lt_succ_self _)]
 ·rw [if_neg e]
  cases m[a]? with
  | none => rfl
  | some x =>
   simp only [Option.map_some]
   by_cases h : a < i
   ·rw [if_pos h, if_pos (by omega)]
   ·rw [if_neg h, if_neg (by omega)]
theorem dropM_end (n : Nat) (m : MQ) : dropM n m.length m = m.map fun r => r.drop n := by
 apply List.ext_getElem?
 intro a
 unfold dropM
 rw [List.getElem?_mapIdx, List.getElem?_map]
 by_cases h : a < m.length
 ·rw [List.getElem?_eq_getElem h]
  simp only [Option.map_some]
  rw [if_pos h]
 ·rw [List.getElem?_eq_none (by omega)]; rfl
/-- a row of the matrix loses its first numbers -/
theorem LM.dropRow {w : World} {base g off n cap i b o l c k : Nat} {vs : List Value} {m : MQ} (h : LM w base (.slice (some ⟨g, off, none⟩) n cap) vs m) (hn : m.length = n) (hi : i < n) (hu : vs[i]? = some (.slice (some ⟨b, o, none⟩) l c)) (hk : k < l) :
  LM (w.setCell ⟨g, off + i, none⟩ (.slice (some ⟨b, o + k * 4, none⟩) (l - k) (c - k))) base (.slice (some ⟨g, off, none⟩) n cap) (vs.set i (.slice (some ⟨b, o + k * 4, none⟩) (l - k) (c - k))) (m.set i ((m.getD i []).drop k)) := by
 have hmi : m[i]? = some (m.getD i []) := by rw [List.getD_eq_getElem?_getD, List.getElem?_eq_getElem (by omega)]; rfl
 have hr := (h.inner i _ _ hu hmi).cutK hk
 refine (h.put hn hi hr fun j u' g' hj h1 h2 => ?_).1
 exact h.apart i j _ u' g' (Ne.symm hj) hu h1 h2
def invR (m : MQ) (n : Nat) : MQ × Bool := if (redQ (extI m n) n).2.length < n then ([], false) else (invQ m n, true)
def RetInv (w : World) (s : MQ × Bool) (e : Ending) (w' : World) : Prop := ∃ v vs, e = .returned (.tuple #[v, .bool s.2]) ∧ LM w' w.heap.size v vs s.1 ∧ Below w.heap.size w w'
theorem unit_set (x : List Rat) (n k : Nat) (hx : x.length = n) : (x ++ List.replicate n 0).set (n + k) 1 = x ++ (List.replicate n 0).set k 1 := by
 rw [List.set_append_right _ _ (by omega), hx, show n + k - n = k by omega]
theorem rat_one_int : ((1 : Int) : Rat) = 1 := rfl
set_option maxRecDepth 100000 in
set_option maxHeartbeats 40000000 in
theorem linv_any (m : MQ) (n : Nat) (A : Option Addr) (c : Nat) (w : World) (hm : RM w A n m) (hr : Rect m n n) (hn : n ≤ 500) (hB : Bnd (extI m n) n) :
  Calls Tryz.prog 81 #[.slice A n c] w (RetInv w (invR m n)) := by
 have hmk := make_mat n (by omega)
 have HP := Lib.hid (show ∃ vs, LM (w.alloc (.cells (Array.replicate n (Value.slice none 0 0)) rowT)) w.heap.size (.slice (some ⟨w.heap.size, 0, none⟩) n n) vs (fillL (extI m n) [] 0 n) from ⟨_, by rw [fillL_zero]; exact LM.start w n (by unfold maxLen; omega)⟩)
 have HB := Lib.hid (below_new w (.cells (Array.replicate n (Value.slice none 0 0)) rowT))
 have HM := Lib.hid hm
 have HR := Lib.hid hr
 have HBN := Lib.hid hB
 clear hm hr hB
 unfold rowT at hmk
 go_enter Tryz.func81, Tryz.ntmps81
 go_wp2
 clear hmk
 go_loopg [16] (n - 0) (fun r v wr => ∃ k : Nat, r = n - k ∧ v = I k ∧ k ≤ n ∧ Hid (∃ vs, LM wr w.heap.size (.slice (some ⟨w.heap.size, 0, none⟩) n n) vs (fillL (extI m n) [] k n)) ∧ Hid (Below w.heap.size w wr))
 case atStart => exact ⟨0, rfl, rfl, by omega, HP, HB⟩
 case round =>
  clear HP HB
  obtain ⟨k, rfl, rfl, hk, HP, HB⟩ := hrel
  obtain ⟨wa, rfl⟩ : ∃ wa : World, wa = wr := ⟨_, rfl⟩
  by_cases hlt : k < n
  ·obtain ⟨x, hx⟩ : ∃ x, m[k]? = some x := ⟨_, List.getElem?_eq_getElem (by rw [HR.out.1]; exact hlt)⟩
   obtain ⟨ba, oa, B, d, rfl, _, hc, hrx⟩ := (HM.out.below HB.out).at_ hlt x hx
   have hxl : x.length = n := HR.out.2 x (List.mem_of_getElem? hx)
   rw [hxl] at hc hrx
   have HX := Lib.hid (show (extI m n)[k]? = some (x ++ (List.replicate n 0).set k 1) by unfold extI; rw [List.getElem?_mapIdx, hx]; rfl)
   have HXL := Lib.hid hxl
   have HRX := Lib.hid hrx
   obtain ⟨vs, hLM⟩ := HP.out
   have HL := Lib.hid hLM
   have HP0 := Lib.hid hLM
   clear hx hrx hxl hLM HP
   go_wp2_with (at_builtin; refine wpList_appN rfl _ _ rfl wa.heap.size (.slice none 0 0) [] rfl (RRow.nil _ _) B n d rfl HRX.out (by rw [List.length_nil]; omega) (Nat.le_refl _) ?_)
   intro v3 W3 hap
   have hb := hap.below (RRow.nil wa wa.heap.size) (Nat.le_refl _)
   have HR3 := Lib.hid hap.row
   replace HL := Lib.hid (HL.out.call hb)
   have HBW := Lib.hid hb
   have HZ := Lib.hid (zeros_any n W3 (by omega))
   clear hap hb hc HRX
   go_wp2_with fail
   refine HZ.out.mono ?_
   rintro e W4 ⟨v4, rfl, hr4, hb⟩
   obtain ⟨A4, c4, rfl⟩ := hr4.val
   rw [List.length_replicate] at hr4 ⊢
   replace HL := Lib.hid (HL.out.call hb)
   replace HR3 := Lib.hid (HR3.out.call hb)
   replace HBW := Lib.hid (HBW.out.trans (hb.mono HBW.out.size))
   have HR4 := Lib.hid hr4.rv
   clear HZ hr4 hb
   go_wp2_with (at_builtin; refine wpList_appN rfl _ _ rfl wa.heap.size v3 x rfl HR3.out A4 n c4 rfl HR4.out (by rw [HXL.out]; omega) HBW.out.size ?_)
   intro v5 W5 hap
   have hb := hap.below HR3.out HBW.out.size
   have HR5 := Lib.hid hap.row
   have HBL := Lib.hid (HBW.out.trans hb)
   have hown := hap.own
   have h1 : LM W5 w.heap.size (.slice (some ⟨w.heap.size, 0, none⟩) n n) vs (fillL (extI m n) [] k n) := by
    have h0 := HP0.out.call HBL.out
    exact h0
   clear hap hb HR3 HR4 hown
   have hap2 := HP0.out.newer (u := v5) (fun g hg => (HR5.out.lt hg).1)
   have hfl : (fillL (extI m n) [] k n).length = n := fillL_len _ (by rw [extI_len, HR.out.1]) hk
   obtain ⟨g, o9, cap, B9, c9, e9, hg1, hg2, -, hcell, hfz, -⟩ := h1.at_ (i := k) (by omega)
   obtain ⟨rfl, rfl⟩ := sl_inj e9
   clear e9
   have h2 := h1.put (i := k) hfl hlt (HR5.out.less HB.out.size) (fun j u' g' _ => hap2 j u' g')
   rw [Nat.zero_add] at h2
   rw [Nat.zero_add] at hcell hfz
   have hlen5 : (x ++ List.replicate n (0 : Rat)).length = n + n := by rw [List.length_append, HXL.out, List.length_replicate]
   obtain ⟨A5, c5, rfl⟩ := HR5.out.val
   rw [hlen5] at *
   clear hlen5
   have HL5 := Lib.hid (show (x ++ List.replicate n (0 : Rat)).length = n + n by rw [List.length_append, HXL.out, List.length_replicate])
   have HB5 := Lib.hid ((HB.out.trans (HBL.out.mono HB.out.size)).setCell (p := ⟨w.heap.size, k, none⟩) (Nat.le_refl _) (.slice A5 (n + n) c5))
   have HU := Lib.hid (show (vs.set k (.slice A5 (n + n) c5))[k]? = some (.slice A5 (n + n) c5) by rw [List.getElem?_set_self (by rw [h1.len]; omega)])
   have HL6 := Lib.hid h2.1
   have HGD := Lib.hid (show ((fillL (extI m n) [] k n).set k (x ++ List.replicate n 0)).getD k [] = x ++ List.replicate n 0 from getD_set_self (by omega))
   have HLE := Lib.hid (show ((fillL (extI m n) [] k n).set k (x ++ List.replicate n 0)).length = n by rw [List.length_set]; exact hfl)
   have HFS := Lib.hid (show ((fillL (extI m n) [] k n).set k (x ++ List.replicate n 0)).set k ((((fillL (extI m n) [] k n).set k (x ++ List.replicate n 0)).getD k []).set (n + k) 1) = fillL (extI m n) [] (k + 1) n by rw [HGD.out, unit_set _ _ _ HXL.out, List.set_set]; exact fillL_set _ (by rw [extI_len, HR.out.1]) hlt HX.out)
   generalize (fillL (extI m n) [] k n).set k (x ++ List.replicate n 0) = EX at *
   generalize ((fillL (extI m n) [] k n).getD k []).length = ln at *
   clear h1 h2 hap2 hfl hg1 hg2 HR5 HL HBL HBW HX HP0 HB
   go_upto_region 7 with (fail)
   clear hcell hfz
   generalize W5.setCell ⟨w.heap.size, k, none⟩ (.slice A5 (n + n) c5) = W6 at *
   have hd := below_draw W6
   replace HL6 := Lib.hid (HL6.out.call hd)
   replace HB5 := Lib.hid (HB5.out.trans (hd.mono HB5.out.size))
   clear hd
   obtain ⟨b5, o5, cc, nb, B1, l1, c1, B2, l2, c2, hu, hc, hE, hrt, hf5, _, _, hb5, hb5l, _⟩ := HL6.out.elem HLE.out hlt (show n + k < (EX.getD k []).length by rw [HGD.out, HL5.out]; omega)
   rw [HU.out] at hu
   injection hu with hu
   injection hu with hu hu2 hu3
   subst hu hu3
   rw [HGD.out, HL5.out] at hc
   rw [Nat.zero_add] at hc
   have CE := Lib.hid hc
   have EL := Lib.hid (show El W6.drew b5 (o5 + (n + k) * 4) (.bool nb) (.slice B1 l1 c1) (.bool false) (.slice B2 l2 c2) from ⟨hE.c0, hE.c1, hE.c2, hE.c3, hf5 _, hf5 _, hf5 _, hf5 _⟩)
   clear hc hE hrt hf5 hu2
   refine wp_region_c (fun w' => w'.cell? ⟨w.heap.size, k, none⟩ = some (.slice (some ⟨b5, o5, none⟩) (n + n) c5)) 9 (by kernel_rfl) ?_
   generalize W6.drew = W7 at *
   refine wpAnyC_take8 (i := 0) (oi := _) (v := .slice (some ⟨w.heap.size, 0, none⟩) n n) rfl (by kernel_rfl) (by kernel_rfl) (by kernel_rfl) (by kernel_rfl) (by kernel_rfl) (by kernel_rfl) (fun _ _ _ h => h) (Or.inl ⟨by rfl, ?_⟩) CE.out ?_
   ·intro w hSw
    have s0 := hSw
    go_simp
   try simp only [Act.put, List.setIfInBounds_toArray]
   refine wpAnyC_take8 (i := 1) (oi := _) (v := I k) rfl (by kernel_rfl) (by kernel_rfl) (by kernel_rfl) (by kernel_rfl) (by kernel_rfl) (by kernel_rfl) (fun _ _ _ h => h) (Or.inl ⟨by rfl, ?_⟩) CE.out ?_
   ·intro w hSw
    have s0 := hSw
    go_simp
   try simp only [Act.put]
   refine wpAnyC_take8 (i := 2) (oi := _) (v := .pointer (some ⟨w.heap.size, k, none⟩)) rfl (by kernel_rfl) (by kernel_rfl) (by kernel_rfl) (by kernel_rfl) (by kernel_rfl) (by kernel_rfl) (fun _ _ _ h => h) (Or.inl ⟨by rfl, ?_⟩) CE.out ?_
   ·intro w hSw
    have s0 := hSw
    go_simp
   try simp only [Act.put]
   refine wpAnyC_take8 (i := 3) (oi := _) (v := .slice (some ⟨b5, o5, none⟩) (n + n) c5) rfl (by kernel_rfl) (by kernel_rfl) (by kernel_rfl) (by kernel_rfl) (by kernel_rfl) (by kernel_rfl) (fun _ _ _ h => h) (Or.inl ⟨by rfl, ?_⟩) CE.out ?_
   ·intro w hSw
    have s0 := hSw
    go_simp
   try simp only [Act.put]
   refine wpAnyC_take8 (i := 4) (oi := _) (v := I n) rfl (by kernel_rfl) (by kernel_rfl) (by kernel_rfl) (by kernel_rfl) (by kernel_rfl) (by kernel_rfl) (fun _ _ _ h => h) (Or.inl ⟨by rfl, ?_⟩) CE.out ?_
   ·intro w hSw
    have s0 := hSw
    go_simp
   try simp only [Act.put]
   refine wpAnyC_take8 (i := 5) (oi := _) (v := I k) rfl (by kernel_rfl) (by kernel_rfl) (by kernel_rfl) (by kernel_rfl) (by kernel_rfl) (by kernel_rfl) (fun _ _ _ h => h) (Or.inl ⟨by rfl, ?_⟩) CE.out ?_
   ·intro w hSw
    have s0 := hSw
    go_simp
   try simp only [Act.put]
   refine wpAnyC_take8 (i := 6) (oi := _) (v := .int .i64 ((n : Int) + (k : Int))) rfl (by kernel_rfl) (by kernel_rfl) (by kernel_rfl) (by kernel_rfl) (by kernel_rfl) (by kernel_rfl) (fun _ _ _ h => h) (Or.inl ⟨by rfl, ?_⟩) CE.out ?_
   ·intro w hSw
    have s0 := hSw
    go_simp
    exact IntWalk.i64_in _ (by omega)
   try simp only [Act.put]
   refine wpAnyC_one (i := 7) (by kernel_rfl) rfl (fun K hK => ?_)
   go_simp
   go_at_call 70
   refine (rwhole_any 1 _ (by decide) (by decide)).mono ?_
   rintro e W8 ⟨v8, rfl, hv, hb⟩
   replace CE := Lib.hid (cell_below CE.out hb)
   replace EL := Lib.hid (EL.out.below hb)
   replace HL6 := Lib.hid (HL6.out.call hb)
   replace HB5 := Lib.hid (HB5.out.trans (hb.mono HB5.out.size))
   clear hb
   refine hK.out _ _ (fun _ => CE.out) ?_
   clear hK K
   try simp only [Act.put, List.setIfInBounds_toArray, List.set_cons_zero, List.set_cons_succ]
   rw [rat_one_int] at hv
   refine wpAnyC_take8 (i := 8) (oi := _) (v := .pointer (some ⟨b5, o5 + (n + k) * 4, none⟩)) rfl (by kernel_rfl) (by kernel_rfl) (by kernel_rfl) (by kernel_rfl) (by kernel_rfl) (by kernel_rfl) (fun _ _ _ h => h) (Or.inl ⟨by rfl, ?_⟩) CE.out ?_
   ·intro w hSw
    have s0 := hSw
    go_simp
    rw [if_pos (by omega), show ((n : Int) + (k : Int)).toNat = n + k by omega]
   try simp only [Act.put, List.setIfInBounds_toArray]
   obtain ⟨tb, T1, t1, u1, T2, t2, u2, rfl⟩ := hv.bools
   obtain ⟨hl, hkw2⟩ := HL6.out.putEl (k := n + k) HLE.out hlt HU.out (by omega) hv
   rw [HFS.out] at hl
   have HN := Lib.hid (show ∃ vs, LM (put4 W8 b5 (o5 + (n + k) * 4) (.bool tb) (.slice T1 t1 u1) (.bool false) (.slice T2 t2 u2)) w.heap.size (.slice (some ⟨w.heap.size, 0, none⟩) n n) vs (fillL (extI m n) [] (k + 1) n) from ⟨_, hl⟩)
   have HBN5 := Lib.hid (put4_below (o := o5 + (n + k) * 4) HB5.out hb5 (.bool tb) (.slice T1 t1 u1) (.bool false) (.slice T2 t2 u2))
   unfold put4 at HN HBN5
   have z0 := EL.out.c0
   have y0 := EL.out.f0
   have z1 := EL.out.c1
   have y1 := EL.out.f1
   have z2 := EL.out.c2
   have y2 := EL.out.f2
   have z3 := EL.out.c3
   have y3 := EL.out.f3
   clear hl hkw2 hv CE EL HL6 HB5 HFS HGD HLE HU
   refine wpAnyC_one (i := 9) (by kernel_rfl) rfl (fun K hK => ?_)
   go_simp
   refine hK.out _ _ (fun h => absurd h (by decide)) ?_
   clear hK K z0 z1 z2 z3 y0 y1 y2 y3
   refine wpAnyC_done (by kernel_rfl) ?_ _
   go_wp2
   go_roundg (n - (k + 1))
   case measure => omega
   case rel => exact ⟨k + 1, rfl, by go_num, by omega, HN, HBN5⟩
  ·have hkn : k = n := by omega
   subst hkn
   obtain ⟨vs0, hLM⟩ := HP.out
   rw [fillL_end _ (by rw [extI_len, HR.out.1])] at hLM
   have HC := Lib.hid (reduce_any (extI m k) k (k + k) k _ k wa hLM.rm (rect_extI HR.out) (by omega) (by omega) (by omega) HBN.out)
   have HQ := Lib.hid (red_inv (rect_extI HR.out) k)
   clear HP hLM HM HBN
   go_wp2_with fail
   have hLB := HB.out.size
   refine HC.out.mono ?_
   rintro e w2 ⟨v, vs, u, rfl, hLM, hN, hb⟩
   clear HC
   have hLM := hLM.less hLB
   replace HB := Lib.hid (HB.out.trans (hb.mono HB.out.size))
   obtain ⟨Au, cu, rfl⟩ := hN.val
   obtain ⟨A1, c1, rfl⟩ := hLM.val
   clear hb hN hLB
   rw [ints_len]
   have HE := Lib.hid (show invR m k = if (redQ (extI m k) k).2.length < k then ([], false) else ((redQ (extI m k) k).1.map (fun r => r.drop k), true) from rfl)
   have HRX := Lib.hid HQ.out.rect
   clear HQ
   generalize (redQ (extI m k) k).1 = X at *
   generalize (redQ (extI m k) k).2.length = r at *
   rw [HRX.out.1] at hLM ⊢
   by_cases hrk : r < k
   ·have HE2 := Lib.hid (show invR m k = ([], false) by rw [HE.out, if_pos hrk])
    clear HE hLM
    go_wp2
    go_ret2
    rw [HE2.out]
    exact ⟨_, _, rfl, LM.nil _ _, HB.out⟩
   ·have HE2 := Lib.hid (show invR m k = (X.map (fun r => r.drop k), true) by rw [HE.out, if_neg hrk])
    have HL := Lib.hid (show ∃ vs, LM w2 w.heap.size (.slice A1 k c1) vs (dropM k 0 X) from ⟨vs, by rw [dropM_zero]; exact hLM⟩)
    clear HE hLM
    go_wp2
    go_loopg [52] (k - 0) (fun mm v wr => ∃ i : Nat, mm = k - i ∧ v = I i ∧ i ≤ k ∧ Hid (∃ vs, LM wr w.heap.size (.slice A1 k c1) vs (dropM k i X)) ∧ Hid (Below w.heap.size w wr))
    case atStart => exact ⟨0, rfl, rfl, by omega, HL, HB⟩
    case round =>
     clear HL HB
     obtain ⟨i, rfl, rfl, hi, HL, HB⟩ := hrel
     obtain ⟨wb, rfl⟩ : ∃ wb : World, wb = wr := ⟨_, rfl⟩
     have hdl : (dropM k i X).length = k := by rw [dropM_len, HRX.out.1]
     obtain ⟨vs2, hLM⟩ := HL.out
     by_cases hlt : i < k
     ·obtain ⟨g, off, cap0, B0, cc0, e0, hg1, hg2, hu, hc, hfz, -⟩ := hLM.at_ (i := i) (by omega)
      injection e0 with e1 e2 e3
      subst e1 e3
      clear e2
      have hgd : (dropM k i X).getD i [] = X.getD i [] := dropM_row (by rw [HRX.out.1]; exact hlt)
      have hxl : (X.getD i []).length = k + k := rect_len HRX.out hlt
      rw [hgd, hxl] at hu hc
      obtain ⟨b5, o5, rfl⟩ : ∃ b5 o5, B0 = some ⟨b5, o5, none⟩ := by
       obtain ⟨b, o, c, nb, B1, l1, c1, B2, l2, c2, h1, -⟩ := hLM.elem (k := 0) hdl hlt (by rw [hgd, hxl]; omega)
       rw [hu] at h1
       injection h1 with h1
       injection h1 with h1
       exact ⟨_, _, h1⟩
      have hcap : k + k ≤ cc0 := by
       obtain ⟨⟨ys, hrow, _⟩, _⟩ := hLM.inner i _ _ hu (show (dropM k i X)[i]? = some ((dropM k i X).getD i []) by rw [List.getD_eq_getElem?_getD, List.getElem?_eq_getElem (by omega)]; rfl)
       obtain ⟨g', off', cap', cur, e, _, _, h3, _⟩ := hrow.form (by rw [hgd, hxl]; omega)
       injection e with _ _ e
       rw [hgd, hxl] at h3
       omega
      have h2 := hLM.dropRow (k := k) hdl hlt hu (by omega)
      rw [hgd, dropM_set (by rw [HRX.out.1]; exact hlt), show k + k - k = k by omega] at h2
      have HN := Lib.hid (show ∃ vs, LM (wb.setCell ⟨g, off + i, none⟩ (.slice (some ⟨b5, o5 + k * 4, none⟩) k (cc0 - k))) w.heap.size (.slice (some ⟨g, off, none⟩) k c1) vs (dropM k (i + 1) X) from ⟨_, h2⟩)
      have HBN2 := Lib.hid (HB.out.setCell (p := ⟨g, off + i, none⟩) hg1 (.slice (some ⟨b5, o5 + k * 4, none⟩) k (cc0 - k)))
      have hcc : k + k ≤ cc0 := hcap
      clear h2 hLM HL HB hdl hgd hxl hu hg1 hg2
      go_wp2
      go_roundg (k - (i + 1))
      case measure => omega
      case rel => exact ⟨i + 1, rfl, by go_num, by omega, HN, HBN2⟩
     ·have hik : i = k := by omega
      subst hik
      have HF := Lib.hid (show LM wb w.heap.size (.slice A1 i c1) vs2 (X.map (fun r => r.drop i)) by rw [← dropM_end, HRX.out.1]; exact hLM)
      clear hLM HL hdl
      go_wp2
      go_ret2
      rw [HE2.out]
      exact ⟨_, _, rfl, HF.out, HB.out⟩

end Go.Proofs.YtgecdcjfncfmcaaGreatDoor
