/- A linear program that passes the checks and is small is good. Plain facts. What Verify answers to what Solve gives. Plain facts. SimplexProves: the walk. What all doors share: slices of things that came in as arguments. A matrix that came in as an argument, opened; the table of powers of ten, out of the row's list. A linear program that came in as an argument, opened. -/
import Derived.Test.YtcgfdfdcbamceaaGreatDoorXBY
import Derived.Test.YtcgfdfdcbamceaaGreatDoorXAD
import Derived.ProofKit
import Derived.OpenShut
import Derived.Deep.Slices
import Derived.Deep.Fields
import Derived.ChangeOld
import Derived.Test.YtcgfdfdcbamceaaGreatDoorProg
import Derived.Test.YtcgfdfdcbamceaaGreatDoorXAY
import Derived.Test.YtcgfdfdcbamceaaGreatDoorRows
import Derived.Test.YtcgfdfdcbamceaaGreatDoorXAH
import Derived.Lib.LaidTab
import Derived.Stop.LaidErr
import Derived.LaidMore
import Derived.Test.YtcgfdfdcbamceaaGreatDoorXBS
namespace Go.Proofs.YtcgfdfdcbamceaaGreatDoor
theorem chkP_ok {a : MT} {b c : List (List UInt8)} (h : chkP a b c = 0) : chkM a = 0 ∧ chkV b = 0 ∧ chkV c = 0 ∧ b.length = a.length ∧ (0 < a.length → wd a = c.length) := by
 unfold chkP at h
 by_cases h1 : 40 < a.length ∨ 40 < c.length
 ·rw [if_pos h1] at h
  exact absurd h (by decide)
 ·rw [if_neg h1] at h
  by_cases h2 : chkM a = 0
  ·rw [if_neg (fun k => k h2)] at h
   by_cases h3 : chkV b = 0
   ·rw [if_neg (fun k => k h3)] at h
    by_cases h4 : chkV c = 0
    ·rw [if_neg (fun k => k h4)] at h
     by_cases h5 : b.length ≠ a.length ∨ (0 < a.length ∧ wd a ≠ c.length)
     ·rw [if_pos h5] at h
      exact absurd h (by decide)
     ·exact ⟨h2, h3, h4, by omega, fun h6 => by omega⟩
    ·rw [if_pos h4] at h
     exact absurd h h4
   ·rw [if_pos h3] at h
    exact absurd h h3
  ·rw [if_pos h2] at h
   exact absurd h h2
theorem small_lenZ {n : Nat} {m : MT} (h : smallB n m = true) : m.length ≤ n ∧ ∀ r ∈ m, r.length ≤ n := by
 unfold smallB at h
 rw [Bool.and_eq_true, List.all_eq_true] at h
 exact ⟨of_decide_eq_true h.1, fun r hr => by
  have := h.2 r hr
  rw [Bool.and_eq_true] at this
  exact of_decide_eq_true this.1⟩
theorem prob_of {m : List (List ByteArray)} {lb lc : List ByteArray} {N : Nat} (hN : N ≤ 6) (h1 : smallB N (tx2 m) = true) (h2 : smallB N [tx1 lb, tx1 lc] = true) (hc : chkP (tx2 m) (tx1 lb) (tx1 lc) = 0) :
  ProbQ (valsM (tx2 m)) (valsV (tx1 lb)) (valsV (tx1 lc)) m.length lc.length ∧ Good m lb lc m.length lc.length ∧ GoodV m lb lc m.length lc.length ∧ ShortQ (valsM (tx2 m)) (valsV (tx1 lb)) (valsV (tx1 lc)) ∧ m.length ≤ 6 ∧ lc.length ≤ 6 := by
 obtain ⟨c1, c2, c3, c4, c5⟩ := chkP_ok hc
 have hv := chkM_ok c1
 have hb := chkV_ok c2
 have hcc := chkV_ok c3
 have l1 : (tx2 m).length = m.length := by rw [tx2, List.length_map]
 have l2 : (tx1 lb).length = lb.length := by rw [tx1, List.length_map]
 have l3 : (tx1 lc).length = lc.length := by rw [tx1, List.length_map]
 have s1 := small_lenZ h1
 have s2 := small_lenZ h2
 have hp : ProbQ (valsM (tx2 m)) (valsV (tx1 lb)) (valsV (tx1 lc)) m.length lc.length := by
  refine ⟨by rw [valsM, List.length_map, l1], fun r hr => ?_, by rw [valsV, List.length_map]; omega, by rw [valsV, List.length_map, l3]⟩
  obtain ⟨t, ht, rfl⟩ := List.mem_map.1 hr
  have hlen : 0 < (tx2 m).length := List.length_pos_of_mem ht
  rw [valsV, List.length_map, hv.rect.row t ht, c5 hlen, l3]
 have z1 := small_sz h1 hv.ok
 have z2 := small_sz h2 (fun r hr s hs => by
  simp only [List.mem_cons, List.not_mem_nil, or_false] at hr
  rcases hr with rfl | rfl
  ·exact hb.2 s hs
  ·exact hcc.2 s hs)
 have hs : ShortQ (valsM (tx2 m)) (valsV (tx1 lb)) (valsV (tx1 lc)) := ⟨z1, z2 _ (by simp [valsM]), z2 _ (by simp [valsM])⟩
 have v1 : Val1 lb := fun s hs => hb.2 _ (List.mem_map.2 ⟨s, hs, rfl⟩)
 have v2 : Val1 lc := fun s hs => hcc.2 _ (List.mem_map.2 ⟨s, hs, rfl⟩)
 have va : Val2 m := fun l hl => ⟨fun s hs => hv.ok (tx1 l) (List.mem_map.2 ⟨l, hl, rfl⟩) _ (List.mem_map.2 ⟨s, hs, rfl⟩), by
  have := s1.2 (tx1 l) (List.mem_map.2 ⟨l, hl, rfl⟩)
  rw [tx1, List.length_map] at this
  omega⟩
 have g := good_of hp hs (by omega) (by have := s2.2 (tx1 lc) (by simp); omega) va v1 v2
 exact ⟨hp, g.1, g.2, hs, by omega, by have := s2.2 (tx1 lc) (by simp); omega⟩
theorem tx_back {l : List Rat} (h : ∀ q ∈ l, SzQ q 971) : valsV (l.map qText) = l ∧ ∀ s ∈ l.map qText, rchk s = 0 := by
 have f : ∀ q ∈ l, rchk (qText q) = 0 ∧ rval (qText q) = q := fun q hq => qText_ok q ((h q hq).fit (by decide) (by decide))
 refine ⟨?_, fun s hs => ?_⟩
 ·rw [valsV, List.map_map]
  exact (List.map_congr_left fun q hq => (f q hq).2).trans (List.map_id l)
 ·obtain ⟨q, hq, rfl⟩ := List.mem_map.1 hs
  exact (f q hq).1
theorem tx_chk {l : List Rat} (h : ∀ q ∈ l, SzQ q 971) (hl : l.length ≤ 40) : chkV (l.map qText) = 0 := chkV_all (by rw [List.length_map]; exact hl) (tx_back h).2
theorem okV_tx {l : List Rat} (h : ∀ q ∈ l, SzQ q 971) (hl : l.length ≤ 40) {n : Nat} (hn : l.length = n) : Sh1 (mkS (l.map qText)) ∧ OkV (mkS (l.map qText)) n := by
 have hs : Sh1 (mkS (l.map qText)) := fun s hs => by
  obtain ⟨t, ht, rfl⟩ := List.mem_map.1 hs
  obtain ⟨q, hq, rfl⟩ := List.mem_map.1 ht
  have := qTextLen ((h q hq).fit (by decide) (by decide))
  show (qText q).toArray.size ≤ _
  rw [List.size_toArray]
  omega
 refine ⟨hs, okV_of hs (by rw [tx_mk]; exact tx_chk h hl) (by rw [mkS, List.length_map, List.length_map]; exact hn) ?_⟩
 rw [tx_mk, (tx_back h).1]
 exact fun q hq => (h q hq).mono (by decide)
theorem val_tx {s : SolvedQ} (hz : SzS s) (hf : FitS s) : (resTx s).value.length ≤ 4002 ∧ FitR 1000 (rval (resTx s).value) := by
 by_cases hk : s.kind = 0
 ·rw [show (resTx s).value = qText s.value from if_pos hk, (qText_ok _ (hf.fv hk)).2]
  exact ⟨qTextLen (hf.fv hk), (szQ_fitZ (hz.v hk)).mono (by decide)⟩
 ·rw [show (resTx s).value = [] from if_neg hk]
  exact ⟨by decide, fit_lit ⟨by decide +kernel, by decide +kernel⟩⟩
theorem ver_ok {a : MT} {b c : List (List UInt8)} {m n : Nat} (hc : chkP a b c = 0) (hp : ProbQ (valsM a) (valsV b) (valsV c) m n) (hs : ShortQ (valsM a) (valsV b) (valsV c)) (hm : m ≤ 6) (hn : n ≤ 6) :
  verP a b c (resTx (solveQ (valsM a) (valsV b) (valsV c))).kind (resTx (solveQ (valsM a) (valsV b) (valsV c))).x (resTx (solveQ (valsM a) (valsV b) (valsV c))).y (resTx (solveQ (valsM a) (valsV b) (valsV c))).ray (resTx (solveQ (valsM a) (valsV b) (valsV c))).value = 0 := by
 have hz := sol_sz hp hs hm hn
 have hf := fitS_of hp hs hm hn
 have hr := solve_law hp
 have hpv := proved_of hp hr
 have hb : b.length = m := by have := hp.lb; rwa [valsV, List.length_map] at this
 have hcl : c.length = n := by have := hp.lc; rwa [valsV, List.length_map] at this
 generalize solveQ (valsM a) (valsV b) (valsV c) = s at *
 have e1 := tx_chk hz.x hf.lx
 have e2 := tx_chk hz.y hf.ly
 have e3 := tx_chk hz.r hf.lr
 have b1 := (tx_back hz.x).1
 have b2 := (tx_back hz.y).1
 have b3 := (tx_back hz.r).1
 unfold verP
 show (if chkP a b c ≠ 0 then _ else _) = _
 rw [if_neg (fun k => k hc)]
 show (if chkV (s.x.map qText) ≠ 0 then _ else if chkV (s.y.map qText) ≠ 0 then _ else if chkV (s.ray.map qText) ≠ 0 then _ else _) = _
 rw [if_neg (fun k => k e1), if_neg (fun k => k e2), if_neg (fun k => k e3)]
 have key : s.kind.toNat < 3 ∧ (s.kind.toNat : Int) = s.kind ∧ lenB s.kind.toNat m n (s.x.map qText).length (s.y.map qText).length (s.ray.map qText).length = true := by
  rw [List.length_map, List.length_map, List.length_map]
  cases hr with
  | best x y v hx hy _ =>
   refine ⟨show (0 : Nat) < 3 by decide, rfl, ?_⟩
   show decide (x.length = n ∧ y.length = m ∧ ([] : List Rat).length = 0) = true
   exact decide_eq_true ⟨hx, hy, rfl⟩
  | none y hy _ =>
   refine ⟨show (1 : Nat) < 3 by decide, rfl, ?_⟩
   show decide (([] : List Rat).length = 0 ∧ y.length = m ∧ ([] : List Rat).length = 0) = true
   exact decide_eq_true ⟨rfl, hy, rfl⟩
  | free x r hx hr _ =>
   refine ⟨show (2 : Nat) < 3 by decide, rfl, ?_⟩
   show decide (x.length = n ∧ ([] : List Rat).length = 0 ∧ r.length = n) = true
   exact decide_eq_true ⟨hx, rfl, hr⟩
 obtain ⟨k1, k2, k3⟩ := key
 show (if s.kind < 0 then _ else if 2 < s.kind then _ else if lenB s.kind.toNat b.length c.length (s.x.map qText).length (s.y.map qText).length (s.ray.map qText).length = false then _ else _) = _
 rw [if_neg (by omega), if_neg (by omega), hb, hcl, k3, if_neg (by decide)]
 have k4 : ¬ (s.kind = 0 ∧ rchk (resTx s).value ≠ 0) := fun k => k.2 (by
  show rchk (if s.kind = 0 then qText s.value else []) = 0
  rw [if_pos k.1]
  exact (qText_ok _ (hf.fv k.1)).1)
 have k5 : ¬ (s.kind ≠ 0 ∧ (resTx s).value ≠ []) := fun k => k.2 (by
  show (if s.kind = 0 then qText s.value else []) = []
  rw [if_neg k.1])
 show (if s.kind = 0 ∧ rchk (resTx s).value ≠ 0 then _ else if s.kind ≠ 0 ∧ (resTx s).value ≠ [] then _ else if provedB s.kind.toNat (valsM a) (valsV b) (valsV c) (valsV (s.x.map qText)) (valsV (s.y.map qText)) (valsV (s.ray.map qText)) (rval (resTx s).value) m n = true then _ else _) = _
 rw [if_neg k4, if_neg k5, b1, b2, b3]
 have k6 : provedB s.kind.toNat (valsM a) (valsV b) (valsV c) s.x s.y s.ray (rval (resTx s).value) m n = true := by
  rw [← hpv]
  by_cases hk : s.kind = 0
  ·have e : (resTx s).value = qText s.value := if_pos hk
   rw [e, (qText_ok _ (hf.fv hk)).2]
  ·have hne : ¬ s.kind.toNat = 0 := by omega
   unfold provedB
   rw [if_neg hne, if_neg hne]
 rw [if_pos k6]
end Go.Proofs.YtcgfdfdcbamceaaGreatDoor
namespace Go.Proofs.YtcgfdfdcbamceaaGreatDoor
open Go.RowKit
theorem pair_sm {w : World} {Ab Ac : Option Addr} {nb cb nc cc : Nat} {lb lc : List ByteArray} (hb : Reads w w.heap.size 1 Ab nb (lb.map Sv)) (hc : Reads w w.heap.size 1 Ac nc (lc.map Sv)) : SMat (w.alloc (.cells #[.slice Ab nb cb, .slice Ac nc cc] 25)) (some ⟨w.heap.size, 0, none⟩) 2 [lb, lc] := by
 have hz := below_new w (.cells #[.slice Ab nb cb, .slice Ac nc cc] 25)
 have l1 : lb.length = nb := by have := hb.1; rw [List.length_map] at this; omega
 have l2 : lc.length = nc := by have := hc.1; rw [List.length_map] at this; omega
 refine ⟨[.slice Ab nb cb, .slice Ac nc cc], reads_blk (Blk.new w _ #[.slice Ab nb cb, .slice Ac nc cc]), rfl, fun i u l h1 h2 => ?_⟩
 match i, h1, h2 with
 | 0, h1, h2 =>
  injection h1 with h1
  injection h2 with h2
  subst h1 h2 l1
  exact ⟨Ab, cb, rfl, (hb.below hz).more hz.size⟩
 | 1, h1, h2 =>
  injection h1 with h1
  injection h2 with h2
  subst h1 h2 l2
  exact ⟨Ac, cc, rfl, (hc.below hz).more hz.size⟩
theorem pair_sms {w : World} {A B : Option Addr} {n c k d : Nat} {m l : List (List ByteArray)} (h : SMat w A n m) (g : SMat w B k l) : SMs (w.alloc (.cells #[.slice A n c, .slice B k d] 23)) (some ⟨w.heap.size, 0, none⟩) 2 [m, l] := by
 have hz := below_new w (.cells #[.slice A n c, .slice B k d] 23)
 have l1 : m.length = n := by obtain ⟨_, _, h, _⟩ := h; exact h
 have l2 : l.length = k := by obtain ⟨_, _, h, _⟩ := g; exact h
 refine ⟨[.slice A n c, .slice B k d], reads_blk (Blk.new w _ #[.slice A n c, .slice B k d]), rfl, fun i u x h1 h2 => ?_⟩
 match i, h1, h2 with
 | 0, h1, h2 =>
  injection h1 with h1
  injection h2 with h2
  subst h1 h2 l1
  exact ⟨A, c, rfl, h.below hz⟩
 | 1, h1, h2 =>
  injection h1 with h1
  injection h2 with h2
  subst h1 h2 l2
  exact ⟨B, d, rfl, g.below hz⟩
theorem small_pair {N : Nat} {m : List (List ByteArray)} {lb lc : List ByteArray} (h : (!([m, [lb, lc]] : List (List (List ByteArray))).any (lgM N)) = true) : smallB N (tx2 m) = true ∧ smallB N [tx1 lb, tx1 lc] = true := by
 rw [Bool.not_eq_true', List.any_cons, List.any_cons, List.any_nil, Bool.or_false, Bool.or_eq_false_iff] at h
 rw [show ([tx1 lb, tx1 lc] : MT) = tx2 [lb, lc] from rfl, smallB_lg, smallB_lg, h.1, h.2]
 exact ⟨rfl, rfl⟩
set_option maxRecDepth 100000 in
set_option maxHeartbeats 20000000 in
theorem proves_any (A Ab Ac : Option Addr) (na ca nb cb nc cc : Nat) (m : List (List ByteArray)) (lb lc : List ByteArray) (w : World) (h : PrW w A na Ab nb Ac nc m lb lc) (hs : ShP m lb lc) (htab : Tab w) :
  Calls Tryz.prog 3 #[.agg #[.slice A na ca, .slice Ab nb cb, .slice Ac nc cc]] w fun e w' => e = .returned (.bool true) ∧ Below w.heap.size w w' := by
 have b1 := below_new w (.cells #[.slice A na ca, .slice Ab nb cb, .slice Ac nc cc] 27)
 have HP := Lib.hid (h.below b1)
 have HT := Lib.hid (tab_below htab b1)
 have HB1 := Lib.hid b1
 have hB := Blk.new w 27 #[.slice A na ca, .slice Ab nb cb, .slice Ac nc cc]
 have P0 := Lib.hid (show (w.alloc (.cells #[.slice A na ca, .slice Ab nb cb, .slice Ac nc cc] 27)).cell? ⟨w.heap.size, 0, none⟩ = some (.slice A na ca) from hB.cell 0)
 have P1 := Lib.hid (show (w.alloc (.cells #[.slice A na ca, .slice Ab nb cb, .slice Ac nc cc] 27)).cell? ⟨w.heap.size, 1, none⟩ = some (.slice Ab nb cb) from hB.cell 1)
 have P2 := Lib.hid (show (w.alloc (.cells #[.slice A na ca, .slice Ab nb cb, .slice Ac nc cc] 27)).cell? ⟨w.heap.size, 2, none⟩ = some (.slice Ac nc cc) from hB.cell 2)
 have HSH := Lib.hid hs
 have HLN := Lib.hid h.lens
 clear b1 hB h hs htab
 go_enter Tryz.func3, Tryz.ntmps3
 go_upto_region 1 with (fail)
 generalize w.alloc (.cells #[.slice A na ca, .slice Ab nb cb, .slice Ac nc cc] 27) = w1 at *
 have HB := Lib.hid (Below.refl w1.heap.size w1)
 have HC := Lib.hid (simplexFact_any w1 HT.out)
 go_wp2_with fail
 refine HC.out.mono ?_
 rintro e w2 ⟨rfl, hb⟩
 clear HC
 replace HB := Lib.hid (HB.out.trans (hb.mono HB.out.size))
 clear hb
 have x0 := cell_below P0.out HB.out
 have x1 := cell_below P1.out HB.out
 have x2 := cell_below P2.out HB.out
 have hp2 := HP.out.below HB.out
 have hz1 := below_new w2 (.cells #[.slice Ab nb cb, .slice Ac nc cc] 25)
 have hz2 := below_new (w2.alloc (.cells #[.slice Ab nb cb, .slice Ac nc cc] 25)) (.cells #[.slice A na ca, .slice (some ⟨w2.heap.size, 0, none⟩) 2 2] 23)
 have hsm := pair_sms (c := ca) (d := 2) ((hp2.below hz1).ma) (pair_sm (cb := cb) (cc := cc) hp2.vb hp2.vc)
 rw [World.size_alloc] at hsm
 have hzz := hz1.trans (hz2.mono hz1.size)
 have HC := Lib.hid (small_any 6 [m, [lb, lc]] 2 (some ⟨w2.heap.size + 1, 0, none⟩) 2 ((w2.alloc (.cells #[.slice Ab nb cb, .slice Ac nc cc] 25)).alloc (.cells #[.slice A na ca, .slice (some ⟨w2.heap.size, 0, none⟩) 2 2] 23)) hsm (by decide) (by decide))
 replace HB := Lib.hid (HB.out.trans (hzz.mono HB.out.size))
 clear hp2 hz1 hz2 hzz hsm
 go_wp2_with fail
 refine HC.out.mono ?_
 rintro e w3 ⟨rfl, hb⟩
 clear HC x0 x1 x2
 replace HB := Lib.hid (HB.out.trans (hb.mono HB.out.size))
 clear hb
 cases hsb : (!([m, [lb, lc]] : List (List (List ByteArray))).any (lgM 6)) with
 | false =>
  go_wp2
  go_ret
  exact ⟨rfl, HB1.out.trans (HB.out.mono HB1.out.size)⟩
  | true =>
  have HS1 := Lib.hid (small_pair hsb)
  clear hsb
  have x0 := cell_below P0.out HB.out
  have x1 := cell_below P1.out HB.out
  have x2 := cell_below P2.out HB.out
  have HGO := Lib.hid (fun hc => prob_of (N := 6) (Nat.le_refl 6) HS1.out.1 HS1.out.2 hc)
  have HNA := Lib.hid (show m.length = na ∧ lc.length = nc by obtain ⟨h1, _, h3⟩ := HLN.out; rw [tx2, List.length_map] at h1; rw [tx1, List.length_map] at h3; exact ⟨h1, h3⟩)
  have HC := Lib.hid (psolve_any A Ab Ac na ca nb cb nc cc m lb lc w3 (HP.out.below HB.out) HSH.out (tab_below HT.out HB.out) (fun hc => by have h := (HGO.out hc).2.1; rw [HNA.out.1, HNA.out.2] at h; exact h))
  go_wp2_with fail
  refine HC.out.mono ?_
  rintro e w4 ⟨v, rfl, hv, hb⟩
  clear HC x0 x1 x2
  replace HB := Lib.hid (HB.out.trans (hb.mono HB.out.size))
  clear hb
  by_cases hc : chkP (tx2 m) (tx1 lb) (tx1 lc) = 0
  rotate_left
  ·rw [show solP (tx2 m) (tx1 lb) (tx1 lc) = noRes from if_neg hc] at hv
   have tc : (chkP (tx2 m) (tx1 lb) (tx1 lc) != 0) = true := bne_iff_ne.2 hc
   obtain ⟨X, lx, cx, Y, ly, cy, R, lr, cr, rfl, hX, hY, hR⟩ := hv
   obtain rfl : lx = 0 := by have := hX.1; simpa [mkS, noRes] using this.symm
   obtain rfl : ly = 0 := by have := hY.1; simpa [mkS, noRes] using this.symm
   obtain rfl : lr = 0 := by have := hR.1; simpa [mkS, noRes] using this.symm
   clear hX hY hR hc HGO
   have HC := Lib.hid (fun W (hW : Below w1.heap.size w1 W) => pchk_any A Ab Ac na ca nb cb nc cc m lb lc W (HP.out.below hW) HSH.out (tab_below HT.out hW))
   generalize chkP (tx2 m) (tx1 lb) (tx1 lc) = cq at *
   have hz := below_new w4 (.cells #[I noRes.kind, .slice X 0 cx, .slice Y 0 cy, .slice R 0 cr, .string ⟨noRes.value.toArray⟩] 32)
   have hY5 := Blk.new w4 32 #[I noRes.kind, .slice X 0 cx, .slice Y 0 cy, .slice R 0 cr, .string ⟨noRes.value.toArray⟩]
   have R0 := Lib.hid (show (w4.alloc (.cells #[I noRes.kind, .slice X 0 cx, .slice Y 0 cy, .slice R 0 cr, .string ⟨noRes.value.toArray⟩] 32)).cell? ⟨w4.heap.size, 0, none⟩ = some (I noRes.kind) from hY5.cell 0)
   have R1 := Lib.hid (show (w4.alloc (.cells #[I noRes.kind, .slice X 0 cx, .slice Y 0 cy, .slice R 0 cr, .string ⟨noRes.value.toArray⟩] 32)).cell? ⟨w4.heap.size, 1, none⟩ = some (.slice X 0 cx) from hY5.cell 1)
   have R2 := Lib.hid (show (w4.alloc (.cells #[I noRes.kind, .slice X 0 cx, .slice Y 0 cy, .slice R 0 cr, .string ⟨noRes.value.toArray⟩] 32)).cell? ⟨w4.heap.size, 2, none⟩ = some (.slice Y 0 cy) from hY5.cell 2)
   have R3 := Lib.hid (show (w4.alloc (.cells #[I noRes.kind, .slice X 0 cx, .slice Y 0 cy, .slice R 0 cr, .string ⟨noRes.value.toArray⟩] 32)).cell? ⟨w4.heap.size, 3, none⟩ = some (.slice R 0 cr) from hY5.cell 3)
   have R4 := Lib.hid (show (w4.alloc (.cells #[I noRes.kind, .slice X 0 cx, .slice Y 0 cy, .slice R 0 cr, .string ⟨noRes.value.toArray⟩] 32)).cell? ⟨w4.heap.size, 4, none⟩ = some (.string ⟨noRes.value.toArray⟩) from hY5.cell 4)
   replace HB := Lib.hid (HB.out.trans (hz.mono HB.out.size))
   clear hz hY5
   go_upto_region 7 with (fail)
   generalize w4.alloc (.cells #[I noRes.kind, .slice X 0 cx, .slice Y 0 cy, .slice R 0 cr, .string ⟨noRes.value.toArray⟩] 32) = w5 at *
   generalize w4.heap.size = gr at *
   have x0 := cell_below P0.out HB.out
   have x1 := cell_below P1.out HB.out
   have x2 := cell_below P2.out HB.out
   have HD := Lib.hid (HC.out w5 HB.out)
   clear HC
   go_wp2_with fail
   refine HD.out.mono ?_
   rintro e w6 ⟨rfl, hb⟩
   clear HD x0 x1 x2
   have r0 := cell_below R0.out hb
   have r1 := cell_below R1.out hb
   have r2 := cell_below R2.out hb
   have r3 := cell_below R3.out hb
   have r4 := cell_below R4.out hb
   replace HB := Lib.hid (HB.out.trans (hb.mono HB.out.size))
   clear hb
   go_wp2
   go_ret
   exact ⟨rfl, HB1.out.trans (HB.out.mono HB1.out.size)⟩
  rw [show solP (tx2 m) (tx1 lb) (tx1 lc) = resTx (solveQ (valsM (tx2 m)) (valsV (tx1 lb)) (valsV (tx1 lc))) from if_pos hc] at hv
  rw [hc]
  obtain ⟨hp, hg, hgv, hsq, h6, hn6⟩ := HGO.out hc
  have hz := sol_sz hp hsq h6 hn6
  have hf := fitS_of hp hsq h6 hn6
  have hver := ver_ok hc hp hsq h6 hn6
  generalize solveQ (valsM (tx2 m)) (valsV (tx1 lb)) (valsV (tx1 lc)) = s at *
  obtain ⟨X, lx, cx, Y, ly, cy, R, lr, cr, rfl, hX, hY, hR⟩ := hv
  have hlx : s.x.length = lx := by have := hX.1; simpa [mkS, resTx] using this
  have hly : s.y.length = ly := by have := hY.1; simpa [mkS, resTx] using this
  have hlr : s.ray.length = lr := by have := hR.1; simpa [mkS, resTx] using this
  have OX := Lib.hid (okV_tx hz.x hf.lx hlx)
  have OY := Lib.hid (okV_tx hz.y hf.ly hly)
  have OR := Lib.hid (okV_tx hz.r hf.lr hlr)
  have OV := Lib.hid (val_tx hz hf)
  have HRS := Lib.hid (show RsW w4 X lx Y ly R lr (mkS (s.x.map qText)) (mkS (s.y.map qText)) (mkS (s.ray.map qText)) from ⟨hX.reads, hY.reads, hR.reads⟩)
  have HVR := Lib.hid hver
  rw [HNA.out.1, HNA.out.2] at hgv
  have HGV := Lib.hid hgv
  clear hX hY hR hc HGO hp hg hgv hsq h6 hn6 hz hf hver hlx hly hlr
  have hz := below_new w4 (.cells #[I (resTx s).kind, .slice X lx cx, .slice Y ly cy, .slice R lr cr, .string ⟨(resTx s).value.toArray⟩] 32)
  have hY5 := Blk.new w4 32 #[I (resTx s).kind, .slice X lx cx, .slice Y ly cy, .slice R lr cr, .string ⟨(resTx s).value.toArray⟩]
  have R0 := Lib.hid (show (w4.alloc (.cells #[I (resTx s).kind, .slice X lx cx, .slice Y ly cy, .slice R lr cr, .string ⟨(resTx s).value.toArray⟩] 32)).cell? ⟨w4.heap.size, 0, none⟩ = some (I (resTx s).kind) from hY5.cell 0)
  have R1 := Lib.hid (show (w4.alloc (.cells #[I (resTx s).kind, .slice X lx cx, .slice Y ly cy, .slice R lr cr, .string ⟨(resTx s).value.toArray⟩] 32)).cell? ⟨w4.heap.size, 1, none⟩ = some (.slice X lx cx) from hY5.cell 1)
  have R2 := Lib.hid (show (w4.alloc (.cells #[I (resTx s).kind, .slice X lx cx, .slice Y ly cy, .slice R lr cr, .string ⟨(resTx s).value.toArray⟩] 32)).cell? ⟨w4.heap.size, 2, none⟩ = some (.slice Y ly cy) from hY5.cell 2)
  have R3 := Lib.hid (show (w4.alloc (.cells #[I (resTx s).kind, .slice X lx cx, .slice Y ly cy, .slice R lr cr, .string ⟨(resTx s).value.toArray⟩] 32)).cell? ⟨w4.heap.size, 3, none⟩ = some (.slice R lr cr) from hY5.cell 3)
  have R4 := Lib.hid (show (w4.alloc (.cells #[I (resTx s).kind, .slice X lx cx, .slice Y ly cy, .slice R lr cr, .string ⟨(resTx s).value.toArray⟩] 32)).cell? ⟨w4.heap.size, 4, none⟩ = some (.string ⟨(resTx s).value.toArray⟩) from hY5.cell 4)
  replace HB := Lib.hid (HB.out.trans (hz.mono HB.out.size))
  clear hz hY5
  replace HRS := Lib.hid (HRS.out.below (below_new w4 (.cells #[I (resTx s).kind, .slice X lx cx, .slice Y ly cy, .slice R lr cr, .string ⟨(resTx s).value.toArray⟩] 32)))
  go_upto_region 8 with (fail)
  generalize w4.alloc (.cells #[I (resTx s).kind, .slice X lx cx, .slice Y ly cy, .slice R lr cr, .string ⟨(resTx s).value.toArray⟩] 32) = w5 at *
  generalize w4.heap.size = gr at *
  have x0 := cell_below P0.out HB.out
  have x1 := cell_below P1.out HB.out
  have x2 := cell_below P2.out HB.out
  have r0 := R0.out
  have r1 := R1.out
  have r2 := R2.out
  have r3 := R3.out
  have r4 := R4.out
  have hc := verify_any A Ab Ac na ca nb cb nc cc m lb lc X Y R lx cx ly cy lr cr (resTx s).kind (mkS (s.x.map qText)) (mkS (s.y.map qText)) (mkS (s.ray.map qText)) ⟨(resTx s).value.toArray⟩ w5 (HP.out.below HB.out) HRS.out HSH.out OX.out.1 OY.out.1 OR.out.1 (by show (resTx s).value.toArray.size ≤ _; rw [List.size_toArray]; have := OV.out.1; omega) (tab_below HT.out HB.out) (fun _ => HGV.out) (fun _ => OX.out.2) (fun _ => OY.out.2) (fun _ => OR.out.2) (fun _ => by rw [SL_mk]; exact OV.out.2)
  rw [tx_mk, tx_mk, tx_mk, SL_mk, show verP (tx2 m) (tx1 lb) (tx1 lc) (resTx s).kind (s.x.map qText) (s.y.map qText) (s.ray.map qText) (resTx s).value = 0 from HVR.out] at hc
  have HC := Lib.hid hc
  clear hc
  go_wp2_with fail
  refine HC.out.mono ?_
  rintro e w6 ⟨rfl, hb⟩
  clear HC x0 x1 x2 r0 r1 r2 r3 r4
  replace HB := Lib.hid (HB.out.trans (hb.mono HB.out.size))
  clear hb
  go_wp2
  go_ret
  exact ⟨rfl, HB1.out.trans (HB.out.mono HB1.out.size)⟩
end Go.Proofs.YtcgfdfdcbamceaaGreatDoor
namespace Go.Proofs.YtcgfdfdcbamceaaGreatDoor
open Go.ChangeShapes Go.WideShapes Go.ChangeAt Go.RowKit Go.Deep
theorem own : ownKnob Tryz.prog.godebug = none := by kernel_rfl
theorem laidOut : laidOutB Tryz.prog = true := by kernel_rfl
theorem size_of_wf {s : ByteArray} (h : s.size ≤ maxLen) : s.size ≤ 9223372036854775807 := by unfold maxLen at h; omega
theorem gPow : (Tryz.prog.globalNamed "internal/strconv.uint64pow10").isSome = true := by kernel_rfl
section
variable {H : Type} {enc : TypeId × Value → H} {W : World}
theorem open_many {D : Type} [Inhabited D] {f : D → List Value} {ok : D → Prop} {sz : Nat} {T E : TypeId} (hsz : 0 < sz) (hf : ∀ x, (f x).length = sz) (hT : Tryz.prog.underlying T = some (.slice E)) (hC : Tryz.prog.cellsOf E = sz)
  (hel : ∀ (fuel : Nat) (cs : List Value) (y : DataW H × List MemPlace), DataW.trod enc Tryz.prog W 0 (fun _ => true) true fuel E cs = some y → ∃ x : D, f x = cs ∧ ok x)
  {fuel : Nat} {u : Value} {y : DataW H × List MemPlace} (h : DataW.trod enc Tryz.prog W 0 (fun _ => true) true fuel T [u] = some y) :
  ∃ (l : List D) (A : Option Addr) (c : Nat), u = .slice A l.length c ∧ Reads W W.heap.size sz A l.length (cellsBy f l) ∧ (∀ x ∈ l, ok x) ∧ l.length ≤ 9223372036854775807 ∧ l.length ≤ c := by
 rcases open_slice hT h with ⟨hcs, _⟩ | ⟨a, len, cap, m, n, Dd, Pl, hcs, _, hl, hm, hmm, _, hi⟩
 ·injection hcs with hcs
  exact ⟨[], none, 0, hcs, Reads.nil, by simp, by simp, by simp⟩
 ·injection hcs with hcs
  simp at hmm
  subst hmm
  rw [hC] at hi
  have each : ∀ i, i < m → ∃ x : D, ok x ∧ ∀ j u, (f x)[j]? = some u → W.cell? (a.add (i * sz + j)) = some u := by
   intro i him
   obtain ⟨cs', g1, g2⟩ := hi i him
   obtain ⟨x, hx, hok⟩ := hel _ _ _ g2
   obtain ⟨_, hcl, hat⟩ := World.cells?_some g1
   refine ⟨x, hok, fun j u hu => ?_⟩
   rw [hx] at hu
   have hj : j < sz := by have := (List.getElem?_eq_some_iff.1 hu).1; omega
   rw [← add_add, hat j hj]
   exact hu
  obtain ⟨g, hg⟩ := choose_lt each
  have hlen : ((List.range len).map g).length = len := by simp
  refine ⟨(List.range len).map g, some a, m, by rw [hlen]; exact hcs, ?_, ?_, by unfold maxLen at hm; rw [hlen]; omega, by rw [hlen]; exact hl⟩
  ·refine ⟨cellsBy_len hf _, fun h0 => ?_⟩
   rw [hlen] at h0
   obtain ⟨b, off, spot⟩ := a
   have h00 : 0 < (f (g 0)).length := by rw [hf]; exact hsz
   have hc0 := (hg 0 (by omega)).2 0 _ (List.getElem?_eq_getElem h00)
   have hspot : spot = none := by simpa [Addr.add] using World.cell?_spot hc0
   subst hspot
   refine ⟨b, off, rfl, by have := World.block_lt_of_cell? _ _ hc0; rwa [Addr.add_lit] at this, fun j u hu => ?_⟩
   have hj : j < len * sz := by
    have := (List.getElem?_eq_some_iff.1 hu).1
    rw [cellsBy_len hf, hlen] at this
    exact this
   have hk : j / sz < len := Nat.div_lt_of_lt_mul (by rw [Nat.mul_comm]; exact hj)
   have hjm : j / sz * sz + j % sz = j := by rw [Nat.mul_comm]; exact Nat.div_add_mod j sz
   have hx := cellsBy_at hf ((List.range len).map g) (j / sz) (g (j / sz)) (by simp [hk]) (j % sz) (Nat.mod_lt _ hsz)
   rw [hjm] at hx
   rw [hx] at hu
   have := (hg (j / sz) (by omega)).2 (j % sz) u hu
   rw [hjm, Addr.add_lit] at this
   exact this
  ·intro x hx
   obtain ⟨i, hi', rfl⟩ := List.mem_map.1 hx
   exact (hg i (by have := List.mem_range.1 hi'; omega)).1
end
theorem cellsStr : Tryz.prog.cellsOf 30 = 1 := by kernel_rfl
theorem cellsVec : Tryz.prog.cellsOf 25 = 1 := by kernel_rfl
section
variable {H : Type} {enc : TypeId × Value → H} {W : World}
theorem el_str (fuel : Nat) (cs : List Value) (y : DataW H × List MemPlace) (h : DataW.trod enc Tryz.prog W 0 (fun _ => true) true fuel 30 cs = some y) : ∃ s : ByteArray, [Value.string s] = cs ∧ s.size ≤ 9223372036854775807 := by
 obtain ⟨s, rfl, _, hb⟩ := DataW.trod_string Tryz.underlying30 h
 exact ⟨s, rfl, size_of_wf hb⟩
theorem by_str (l : List ByteArray) : cellsBy (fun s => [Value.string s]) l = l.map Sv := by
 induction l with
 | nil => rfl
 | cons x l ih => simp only [cellsBy, List.flatMap_cons, List.map_cons] at ih ⊢; rw [ih]; rfl
theorem open_vec {T : TypeId} (hT : Tryz.prog.underlying T = some (.slice 30)) {fuel : Nat} {u : Value} {y : DataW H × List MemPlace} (h : DataW.trod enc Tryz.prog W 0 (fun _ => true) true fuel T [u] = some y) :
  ∃ (l : List ByteArray) (A : Option Addr) (c : Nat), u = .slice A l.length c ∧ Reads W W.heap.size 1 A l.length (l.map Sv) ∧ Sh1 l ∧ l.length ≤ 9223372036854775807 := by
 obtain ⟨l, A, c, h1, h2, h3, h4, _⟩ := open_many (f := fun s : ByteArray => [Value.string s]) (ok := fun s => s.size ≤ 9223372036854775807) (sz := 1) (by decide) (fun _ => rfl) hT cellsStr el_str h
 rw [by_str] at h2
 exact ⟨l, A, c, h1, h2, h3, h4⟩
theorem el_vec (fuel : Nat) (cs : List Value) (y : DataW H × List MemPlace) (h : DataW.trod enc Tryz.prog W 0 (fun _ => true) true fuel 25 cs = some y) : ∃ x : Value × List ByteArray, [x.1] = cs ∧ (SS W x.1 x.2 ∧ Sh1 x.2) := by
 have h0 := h
 rcases open_slice Tryz.underlying25 h with ⟨rfl, _⟩ | ⟨a, len, cap, m, n, Dd, Pl, rfl, _⟩
 ·obtain ⟨l, A, c, h1, h2, h3, _⟩ := open_vec Tryz.underlying25 h0
  exact ⟨(_, l), rfl, ⟨A, c, h1, h2⟩, h3⟩
 ·obtain ⟨l, A, c, h1, h2, h3, _⟩ := open_vec Tryz.underlying25 h0
  exact ⟨(_, l), rfl, ⟨A, c, h1, h2⟩, h3⟩
theorem open_mat {fuel : Nat} {u : Value} {y : DataW H × List MemPlace} (h : DataW.trod enc Tryz.prog W 0 (fun _ => true) true fuel 23 [u] = some y) :
  ∃ (m : List (List ByteArray)) (A : Option Addr) (c : Nat), u = .slice A m.length c ∧ SMat W A m.length m ∧ Sh2 m := by
 obtain ⟨l, A, c, h1, h2, h3, _, _⟩ := open_many (f := fun x : Value × List ByteArray => [x.1]) (ok := fun x => SS W x.1 x.2 ∧ Sh1 x.2) (sz := 1) (by decide) (fun _ => rfl) Tryz.underlying23 cellsVec el_vec h
 refine ⟨l.map (·.2), A, c, by rw [List.length_map]; exact h1, ⟨cellsBy (fun x => [x.1]) l, by rw [List.length_map]; exact h2, rfl, fun i u r hu hr => ?_⟩, fun r hr => ?_⟩
 ·rw [List.getElem?_map] at hr
  cases e : l[i]? with
  | none => rw [e] at hr; cases hr
  | some x =>
   rw [e] at hr
   have hr := Option.some.inj hr
   have := cellsBy_at (f := fun x : Value × List ByteArray => [x.1]) (sz := 1) (fun _ => rfl) l i x e 0 (by decide)
   rw [Nat.mul_one, Nat.add_zero, hu] at this
   have := Option.some.inj this
   subst hr this
   exact (h3 x (List.mem_of_getElem? e)).1
 ·obtain ⟨x, hx, rfl⟩ := List.mem_map.1 hr
  exact (h3 x hx).2
end
theorem tab_of_laid {W : World} (h : laidMetH Tryz.prog [("math/bits.deBruijn32tab", Rows.laid_math_bits_deBruijn32tab), ("math/bits.deBruijn64tab", Rows.laid_math_bits_deBruijn64tab), ("internal/strconv.uint64pow10", Lib.tabData .u64 Lib.pow10Tab), ("strconv.ErrRange", Rows.laid_strconv_ErrRange), ("strconv.ErrSyntax", Rows.laid_strconv_ErrSyntax)] W) : Tab W := by
 rw [MakeChecks.laidMetH_plain _ _ _ (by kernel_rfl)] at h
 have h2 := (show laidMet Tryz.prog [("math/bits.deBruijn32tab", Rows.laid_math_bits_deBruijn32tab), ("math/bits.deBruijn64tab", Rows.laid_math_bits_deBruijn64tab), ("internal/strconv.uint64pow10", Lib.tabData .u64 Lib.pow10Tab), ("strconv.ErrRange", Rows.laid_strconv_ErrRange), ("strconv.ErrSyntax", Rows.laid_strconv_ErrSyntax)] W from h).tail.tail
 obtain ⟨g, hg⟩ := Option.isSome_iff_exists.1 gPow
 exact Lib.tabIs_of_head hg (by obtain rfl : g = (Tryz.prog.globalNamed "internal/strconv.uint64pow10").get gPow := by simp [hg]
                                kernel_rfl) Tryz.underlying197 Tryz.underlying148 (by kernel_rfl) (by kernel_rfl) h2
section
variable {H : Type} {enc : TypeId × Value → H} {W : World}
theorem fields_atZ {t : TypeId} {fs : Array Field} {fuel : Nat} {cs : List Value} {x : DataW H × List MemPlace} (ht : Tryz.prog.underlying t = some (.struct fs)) (hone : oneCellFields Tryz.prog fs = true) (hC : Tryz.prog.cellsOf t = fs.size)
  (h : DataW.trod enc Tryz.prog W 0 (fun _ => true) true fuel t cs = some x) : cs.length = fs.size ∧ ∀ (j : Nat) (f : Field), fs[j]? = some f → ∃ v n y, cs[j]? = some v ∧ DataW.trod enc Tryz.prog W 0 (fun _ => true) true n f.type [v] = some y := by
 obtain ⟨xs, n, _, _, hl, hxl, hf⟩ := DataW.trod_struct ht h
 rw [hC] at hl
 refine ⟨hl, fun j f hj => ?_⟩
 obtain ⟨ho, hk⟩ := hone_of hone j f hj
 have hjl : j < fs.size := (Array.getElem?_eq_some_iff.1 hj).1
 have h1 := hf j f hj
 rw [ho, hk] at h1
 have hd : (cs.drop j).take 1 = [cs[j]'(by omega)] := by
  rw [List.drop_eq_getElem_cons (by omega)]; rfl
 rw [hd] at h1
 exact ⟨cs[j]'(by omega), n, xs[j]'(by omega), List.getElem?_eq_getElem (by omega), h1.trans (List.getElem?_eq_getElem (by omega))⟩
set_option maxRecDepth 100000 in
theorem open_prob {r : Reach} {b0 : Nat} {u : Value} {d : DataW H} {p : List MemPlace} (hv : Value.okWide Tryz.prog W r b0 27 u) (h : DataW.Trod enc Tryz.prog W 0 (fun _ => true) true 27 u d p) :
  ∃ (A Ab Ac : Option Addr) (na ca nb cb nc cc : Nat) (m : List (List ByteArray)) (lb lc : List ByteArray), u = .agg #[.slice A na ca, .slice Ab nb cb, .slice Ac nc cc] ∧ PrW W A na Ab nb Ac nc m lb lc ∧ ShP m lb lc := by
 obtain ⟨cs, rfl, hsz⟩ := okWide_struct Tryz.underlying27 hv
 obtain ⟨fuel, hf⟩ := h
 obtain ⟨hl, hfl⟩ := fields_atZ Tryz.underlying27 (by kernel_rfl) (by kernel_rfl) hf
 obtain ⟨l⟩ := cs
 have hl' : l.length = 3 := hsz.trans (by kernel_rfl)
 match l, hl' with
 | [u0, u1, u2], _ =>
  obtain ⟨v0, n0, y0, e0, t0⟩ := hfl 0 _ rfl
  have e0' : u0 = v0 := by simpa [Value.cells] using e0
  subst e0'
  clear e0
  obtain ⟨v1, n1, y1, e1, t1⟩ := hfl 1 _ rfl
  have e1' : u1 = v1 := by simpa [Value.cells] using e1
  subst e1'
  clear e1
  obtain ⟨v2, n2, y2, e2, t2⟩ := hfl 2 _ rfl
  have e2' : u2 = v2 := by simpa [Value.cells] using e2
  subst e2'
  clear e2
  obtain ⟨m, A, ca, rfl, h1, h2⟩ := open_mat t0
  obtain ⟨lb, Ab, cb, rfl, h3, h4, _⟩ := open_vec Tryz.underlying25 t1
  obtain ⟨lc, Ac, cc, rfl, h5, h6, _⟩ := open_vec Tryz.underlying25 t2
  exact ⟨A, Ab, Ac, _, ca, _, cb, _, cc, m, lb, lc, rfl, ⟨h1, h3, h5⟩, ⟨h2, h4, h6⟩⟩
end
end Go.Proofs.YtcgfdfdcbamceaaGreatDoor
