/- flow.Solve. -/
import Derived.Test.YtenbglfkdldheaaGreatDoorZFJ
set_option maxRecDepth 100000
set_option maxHeartbeats 16000000
namespace Go.Proofs.YtenbglfkdldheaaGreatDoor
open Go.RowKit
theorem flowChk_ok {n : NetD} {inj : List Int} (h : flowChk n inj = 0) : checkN n = 0 ∧ inj.length = n.nodes.length ∧ ∀ i, -100000 ≤ inj.getD i 0 ∧ inj.getD i 0 ≤ 100000 := by
 unfold flowChk at h
 by_cases h1 : checkN n = 0
 ·rw [if_neg (fun k => k h1)] at h
  by_cases h2 : inj.length = n.nodes.length
  ·rw [if_neg (fun k => k h2)] at h
   refine ⟨h1, h2, fun i => ?_⟩
   split at h
   ·omega
   ·rename_i h3
    rw [gD]
    cases e : inj[i]? with
    | none => simp
    | some p =>
     have h4 : ¬ outP p = true := fun k => h3 (List.any_eq_true.2 ⟨p, List.mem_of_getElem? e, k⟩)
     simp only [outP, Bool.or_eq_true, decide_eq_true_eq] at h4
     simp only [Option.getD_some]
     omega
  ·rw [if_pos h2] at h
   omega
 ·rw [if_pos h1] at h
  exact absurd h h1
theorem smN_len (n : NetD) (inj : List Int) : (smN n inj).length = nbN n := by simp [smN, smQ, smI_len]
theorem angN_len (n : NetD) (r : List Rat) : (angN n r).length = nbN n := thK_len _ _ _ _ _
theorem flN_len (n : NetD) (th : List Rat) : (flN n th).length = n.branches.length := flK_len _ _ _ _ _ _
theorem ang_fit {n : NetD} (h : VNet n) {r : List Rat} (hr : FitL 1000 r) : FitL 200000 (angN n r) := thQ_fit h (sh_fit h hr)
def solF (n : NetD) (inj : List Int) : List Rat := angN n (smN n inj)
def flwF (n : NetD) (inj : List Int) : List Rat := flN n (solF n inj)
def wideF (n : NetD) (inj : List Int) : Bool := !((solF n inj).all fitQ && (flwF n inj).all fitQ)
def codeF (n : NetD) (inj : List Int) : Int := if flowChk n inj ≠ 0 then flowChk n inj else if wideF n inj = true then 2 else 0
def RetFw (w : World) (n : NetD) (inj : List Int) (e : Ending) (w' : World) : Prop :=
 ∃ a b, e = .returned (.tuple #[.agg #[a, b], I (codeF n inj)]) ∧ (codeF n inj = 0 → Row w' w.heap.size strT 1 a (solF n inj).length ((mkS ((solF n inj).map qText)).map Sv) ∧ Row w' w.heap.size strT 1 b (flwF n inj).length ((mkS ((flwF n inj).map qText)).map Sv)) ∧ (codeF n inj ≠ 0 → a = .slice none 0 0 ∧ b = .slice none 0 0) ∧ (∀ g, a.ownBlock = some g → b.ownBlock ≠ some g) ∧ Below w.heap.size w w'
theorem solve_any (n : NetD) (v : NetV) (inj : List Int) (m : Nat) (A : Option Addr) (c : Nat) (w : World) (hN : Net w n v) (hj : Reads w w.heap.size 1 A m (inj.map I)) (hm : m ≤ 9223372036854775807) (htab : Tab w) : Calls Tryz.prog 36 #[v.val n, .slice A m c] w (RetFw w n inj) := by
 obtain ⟨na, nc, sa, sc, bra, brc, ga, gc, la, lc, ta, tc⟩ := v
 have hz := (below_new w (Obj.cells (NetV.parts ⟨na, nc, sa, sc, bra, brc, ga, gc, la, lc, ta, tc⟩ n) 29))
 have hG := Blk.new w 29 (NetV.parts ⟨na, nc, sa, sc, bra, brc, ga, gc, la, lc, ta, tc⟩ n)
 unfold NetV.parts at *
 simp only at hz hG
 have hz2 := below_new (w.alloc (Obj.cells #[.slice na n.nodes.length nc, .slice sa n.switches.length sc, .slice bra n.branches.length brc, .slice ga n.gens.length gc, .slice la n.loads.length lc, .slice ta n.stores.length tc] 29)) (Obj.cells #[.slice none 0 0, .slice none 0 0] 73)
 have hR := Blk.new (w.alloc (Obj.cells #[.slice na n.nodes.length nc, .slice sa n.switches.length sc, .slice bra n.branches.length brc, .slice ga n.gens.length gc, .slice la n.loads.length lc, .slice ta n.stores.length tc] 29)) 73 #[.slice none 0 0, .slice none 0 0]
 rw [World.size_alloc] at hR
 have HR := aH hR
 clear hR
 have HG := aH (hG.below hz2 hG.lt)
 have HB := aH (hz.trans (hz2.mono hz.size))
 have HN := aH ((hN.below hz).below hz2)
 have HJ := aH ((((hj.below hz).more hz.size).below hz2).more hz2.size)
 have HTB := aH htab
 have hgl := hG.lt
 clear hz hz2 hG hN hj htab
 unfold NetV.val NetV.parts at *
 simp only at HN ⊢
 go_enter Tryz.func36, Tryz.ntmps36
 go_upto_region 1 with (fail)
 generalize (w.alloc (Obj.cells #[.slice na n.nodes.length nc, .slice sa n.switches.length sc, .slice bra n.branches.length brc, .slice ga n.gens.length gc, .slice la n.loads.length lc, .slice ta n.stores.length tc] 29)).alloc (Obj.cells #[.slice none 0 0, .slice none 0 0] 73) = w2 at *
 skip
 have HC := aH (flowCheck_any n _ inj m A c w2 HN.out HJ.out hm)
 unfold NetV.val NetV.parts at HC
 simp only at HC
 have x0 := HG.out.cell 0
 have x1 := HG.out.cell 1
 have x2 := HG.out.cell 2
 have x3 := HG.out.cell 3
 have x4 := HG.out.cell 4
 have x5 := HG.out.cell 5
 go_wp2_with fail
 refine HC.out.mono ?_
 rintro e w3 ⟨rfl, hb⟩
 clear HC x0 x1 x2 x3 x4 x5
 replace HR := bL HR hb
 replace HG := bL HG hb
 replace HN := aH (HN.out.below hb)
 replace HJ := aH ((HJ.out.below hb).more hb.size)
 replace HB := bT HB hb
 clear hb
 by_cases hc : flowChk n inj = 0
 ·obtain ⟨h1, h2, h3⟩ := flowChk_ok hc
  have HV := aH (vnet h1)
  have HI := aH h3
  have HC0 := aH hc
  have hml : m = n.nodes.length := by have := HJ.out.1; rw [List.length_map] at this; omega
  subst hml
  rw [hc]
  clear hc h1 h2 h3
  have HC := aH (fwOf_any n _ w3 HN.out.net HV.out)
  unfold NetV.val NetV.parts at HC
  simp only at HC
  have x0 := HG.out.cell 0
  have x1 := HG.out.cell 1
  have x2 := HG.out.cell 2
  have x3 := HG.out.cell 3
  have x4 := HG.out.cell 4
  have x5 := HG.out.cell 5
  go_wp2_with fail
  refine HC.out.mono ?_
  rintro e w4 ⟨base, g, rfl, hbs, hMF, hb⟩
  clear HC x0 x1 x2 x3 x4 x5
  have HMF := aH hMF
  replace HR := bL HR hb
  replace HJ := aH ((HJ.out.below hb).more hb.size)
  replace HB := bT HB hb
  clear hb hMF hbs HN HG
  have HC := aH (mf_sums (c := c) HV.out HMF.out HJ.out HI.out)
  go_wp2_with fail
  refine HC.out.mono ?_
  rintro e w5 ⟨v5, rfl, hr5, hb⟩
  clear HC
  obtain ⟨A5, c5, rfl⟩ := hr5.val
  rw [smN_len] at hr5 ⊢
  replace HMF := aH (mf_ext HMF.out hb)
  replace HR := bL HR hb
  replace HB := bT HB hb
  have HC := aH (mf_angles (c := c5) HV.out HMF.out hr5.rv (sm_fitN HV.out HI.out))
  clear hb hr5 HJ
  go_wp2_with fail
  refine HC.out.mono ?_
  rintro e w6 ⟨v6, rfl, hr6, hb⟩
  clear HC
  obtain ⟨A6, c6, rfl⟩ := hr6.val
  rw [angN_len] at hr6 ⊢
  have hg6 := HR.out.lt
  replace HMF := aH (mf_ext HMF.out hb)
  replace HR := bL HR hb
  replace HB := bT HB hb
  have hg7 := Nat.lt_of_lt_of_le hg6 hb.size
  clear hb hg6
  have hnb : nbN n ≤ 1000000 := by have := isl_le HV.out; have := HV.out.hn; unfold nbN; omega
  have hmb : n.branches.length ≤ 1000000 := by have := HV.out.hb; omega
  have HC := aH (textVec_any (solF n inj) (nbN n) A6 c6 w6 hr6.rv hnb (tab_below HTB.out HB.out))
  go_wp2_with fail
  refine HC.out.mono ?_
  rintro e w7 ⟨v7, rfl, ht7, hz7, hb⟩
  clear HC
  have HT7 := aH (fun h => ht7 h)
  have HL7 := aH (fun h (g : Nat) (hg : v7.ownBlock = some g) => (own_lt (ht7 h) hg).2.1)
  have HZ7 := aH hz7
  clear ht7 hz7
  replace HMF := aH (mf_ext HMF.out hb)
  replace HR := bL HR hb
  replace HB := bT HB hb
  have HV6 := aH (hr6.rv.below hb)
  clear hb hr6
  have HC := aH (mf_flows (c := c6) HV.out HMF.out HV6.out (ang_fit HV.out (sm_fitN HV.out HI.out)))
  go_wp2_with fail
  refine HC.out.mono ?_
  rintro e w8 ⟨v8, rfl, hr8, hb⟩
  clear HC HV6
  obtain ⟨A8, c8, rfl⟩ := hr8.val
  rw [flN_len] at hr8 ⊢
  have hg8 := HR.out.lt
  have hs78 := hb.size
  have hg9 := Nat.lt_of_lt_of_le hg8 hb.size
  replace HT7 := aH (fun h => (HT7.out h).call hb)
  replace HR := bL HR hb
  replace HB := bT HB hb
  clear hb HMF
  have HC := aH (textVec_any (flwF n inj) n.branches.length A8 c8 w8 hr8.rv hmb (tab_below HTB.out HB.out))
  go_wp2_with fail
  refine HC.out.mono ?_
  rintro e w9 ⟨v9, rfl, ht9, hz9, hb⟩
  clear HC hr8
  have HT9 := aH (fun h => ht9 h)
  have HZ9 := aH hz9
  clear ht9 hz9
  replace HT7 := aH (fun h => (HT7.out h).call hb)
  replace HR := bL HR hb
  replace HB := bT HB hb
  clear hb HV HI
  have z0 := HR.out.cell 0
  have z1 := HR.out.cell 1
  change _ = some (Value.slice none 0 0) at z0
  change _ = some (Value.slice none 0 0) at z1
  have y0 := HR.out.frozen 0
  have y1 := HR.out.frozen 1
  cases hA : (solF n inj).all fitQ with
  | false =>
   rw [show (txV (solF n inj)).2 = 2 by rw [txV, if_neg (by rw [hA]; decide)]]
   generalize (txV (flwF n inj)).2 = f2 at *
   have hcode : codeF n inj = 2 := by rw [codeF, if_neg (fun k => k HC0.out), if_pos (by rw [wideF, hA]; rfl)]
   have HR2 := aH ((HR.out.set_ 0 (Value.slice none 0 0)).set_ 1 (Value.slice none 0 0))
   have HB2 := aH ((HB.out.setCell (p := ⟨w.heap.size + 1, 0, none⟩) (Nat.le_succ _) (Value.slice none 0 0)).setCell (p := ⟨w.heap.size + 1, 1, none⟩) (Nat.le_succ _) (Value.slice none 0 0))
   clear HT7 HT9 HZ7 HZ9 HL7
   clear HR HB
   go_wp2
   have q0 := HR2.out.cell 0
   have q1 := HR2.out.cell 1
   change _ = some (Value.slice none 0 0) at q0
   change _ = some (Value.slice none 0 0) at q1
   exact bodyPost_ret (v := .tuple #[.agg #[.slice none 0 0, .slice none 0 0], I 2]) (by simp [results, Tryz.results36, go_sem, q0, q1]) rfl ⟨.slice none 0 0, .slice none 0 0, by rw [hcode], fun h => absurd (hcode.symm.trans h) (by decide), fun _ => ⟨rfl, rfl⟩, (fun g h => by cases h), HB2.out⟩
  | true =>
   rw [show (txV (solF n inj)).2 = 0 by rw [txV_fit hA]]
   cases hF : (flwF n inj).all fitQ with
   | false =>
    rw [show (txV (flwF n inj)).2 = 2 by rw [txV, if_neg (by rw [hF]; decide)]]
    have hcode : codeF n inj = 2 := by rw [codeF, if_neg (fun k => k HC0.out), if_pos (by rw [wideF, hA, hF]; rfl)]
    have HR2 := aH ((HR.out.set_ 0 (Value.slice none 0 0)).set_ 1 (Value.slice none 0 0))
    have HB2 := aH ((HB.out.setCell (p := ⟨w.heap.size + 1, 0, none⟩) (Nat.le_succ _) (Value.slice none 0 0)).setCell (p := ⟨w.heap.size + 1, 1, none⟩) (Nat.le_succ _) (Value.slice none 0 0))
    clear HT7 HT9 HZ7 HZ9 HL7
    clear HR HB
    go_wp2
    have q0 := HR2.out.cell 0
    have q1 := HR2.out.cell 1
    change _ = some (Value.slice none 0 0) at q0
    change _ = some (Value.slice none 0 0) at q1
    exact bodyPost_ret (v := .tuple #[.agg #[.slice none 0 0, .slice none 0 0], I 2]) (by simp [results, Tryz.results36, go_sem, q0, q1]) rfl ⟨.slice none 0 0, .slice none 0 0, by rw [hcode], fun h => absurd (hcode.symm.trans h) (by decide), fun _ => ⟨rfl, rfl⟩, (fun g h => by cases h), HB2.out⟩
   | true =>
    rw [show (txV (flwF n inj)).2 = 0 by rw [txV_fit hF]]
    obtain ⟨A7, l7, c7, rfl⟩ := len_slice (HT7.out hA).val
    obtain ⟨A9, l9, c9, rfl⟩ := len_slice (HT9.out hF).val
    have hcode : codeF n inj = 0 := by rw [codeF, if_neg (fun k => k HC0.out), if_neg (by rw [wideF, hA, hF]; decide)]
    have HR2 := aH ((HR.out.set_ 0 (Value.slice A7 l7 c7)).set_ 1 (Value.slice A9 l9 c9))
    have HB2 := aH ((HB.out.setCell (p := ⟨w.heap.size + 1, 0, none⟩) (Nat.le_succ _) (Value.slice A7 l7 c7)).setCell (p := ⟨w.heap.size + 1, 1, none⟩) (Nat.le_succ _) (Value.slice A9 l9 c9))
    have R7 := aH ((((HT7.out hA).setCell (p := ⟨w.heap.size + 1, 0, none⟩) hg7 (.slice A7 l7 c7)).setCell (p := ⟨w.heap.size + 1, 1, none⟩) hg7 (.slice A9 l9 c9)).less (show w.heap.size ≤ _ by omega))
    have R9 := aH ((((HT9.out hF).setCell (p := ⟨w.heap.size + 1, 0, none⟩) hg9 (.slice A7 l7 c7)).setCell (p := ⟨w.heap.size + 1, 1, none⟩) hg9 (.slice A9 l9 c9)).less (show w.heap.size ≤ _ by omega))
    have HD := aH (show ∀ g, (Value.slice A7 l7 c7).ownBlock = some g → (Value.slice A9 l9 c9).ownBlock ≠ some g from fun g h1 h2 => by
     have a1 := HL7.out hA g h1
     have a2 := (own_lt (HT9.out hF) h2).1
     omega)
    clear HT7 HT9 HZ7 HZ9 HL7
    clear HR HB
    go_wp2
    have q0 := HR2.out.cell 0
    have q1 := HR2.out.cell 1
    change _ = some (Value.slice A7 l7 c7) at q0
    change _ = some (Value.slice A9 l9 c9) at q1
    exact bodyPost_ret (v := .tuple #[.agg #[Value.slice A7 l7 c7, Value.slice A9 l9 c9], I 0]) (by simp [results, Tryz.results36, go_sem, q0, q1]) rfl ⟨Value.slice A7 l7 c7, Value.slice A9 l9 c9, by rw [hcode], fun _ => ⟨R7.out, R9.out⟩, fun h => absurd hcode h, (fun g h => HD.out g h), HB2.out⟩
 ·have tc0 : (flowChk n inj != 0) = true := bne_iff_ne.2 hc
  have z0 := HR.out.cell 0
  have z1 := HR.out.cell 1
  change _ = some (Value.slice none 0 0) at z0
  change _ = some (Value.slice none 0 0) at z1
  have y0 := HR.out.frozen 0
  have y1 := HR.out.frozen 1
  have hcode : codeF n inj = flowChk n inj := by rw [codeF, if_pos hc]
  have HR2 := aH ((HR.out.set_ 0 (.slice none 0 0)).set_ 1 (.slice none 0 0))
  have HB2 := aH ((HB.out.setCell (p := ⟨w.heap.size + 1, 0, none⟩) (Nat.le_succ _) (.slice none 0 0)).setCell (p := ⟨w.heap.size + 1, 1, none⟩) (Nat.le_succ _) (.slice none 0 0))
  clear HR HB HG HN HJ
  go_wp2
  have q0 := HR2.out.cell 0
  have q1 := HR2.out.cell 1
  change _ = some (Value.slice none 0 0) at q0
  change _ = some (Value.slice none 0 0) at q1
  exact bodyPost_ret (v := .tuple #[.agg #[.slice none 0 0, .slice none 0 0], I (flowChk n inj)]) (by simp [results, Tryz.results36, go_sem, q0, q1]) rfl ⟨_, _, by rw [hcode], fun h => absurd (hcode.symm.trans h) hc, fun _ => ⟨rfl, rfl⟩, (fun g h => by cases h), HB2.out⟩
end Go.Proofs.YtenbglfkdldheaaGreatDoor
