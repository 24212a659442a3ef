/- simplex.proved. -/
import Derived.Test.YtcgfdfdcbamceaaGreatDoorXBT
import Derived.Deep.DeepCutAuto
namespace Go.Proofs.YtcgfdfdcbamceaaGreatDoor
open Go.RowKit
set_option maxRecDepth 100000 in
set_option maxHeartbeats 200000000 in
theorem proved_any (A Ab Ac : Option Addr) (nb ca cb nc cc : Nat) (m : List (List ByteArray)) (lb lc : List ByteArray) (X Y R : Option Addr) (lx cx ly cy lr cr k : Nat) (tx ty tr : List ByteArray) (s : ByteArray) (w : World) (h : PrW w A nb Ab nb Ac nc m lb lc) (hr : RsW w X lx Y ly R lr tx ty tr) (hs : ShP m lb lc)
  (hva : Val2 m) (hvb : Val1 lb) (hvc : Val1 lc) (hok : OkQ (valsM (tx2 m)) (valsV (tx1 lb)) (valsV (tx1 lc)) nb nc) (hfa : ∀ i j, FitR 1000 (ent (valsM (tx2 m)) i j)) (hfb : ∀ i, FitR 1000 ((valsV (tx1 lb)).getD i 0)) (hfc : ∀ i, FitR 1000 ((valsV (tx1 lc)).getD i 0))
  (hx : OkV tx lx) (hy : OkV ty ly) (hrr : OkV tr lr) (hk : k < 3) (h0 : k = 0 → lx = nc ∧ ly = nb ∧ s.size ≤ 9223372036854775807 ∧ rchk (SL s) = 0 ∧ FitR 1000 (rval (SL s))) (h1 : k = 1 → ly = nb) (h2 : k = 2 → lx = nc ∧ lr = nc) :
  Calls Tryz.prog 38 #[.agg #[.slice A nb ca, .slice Ab nb cb, .slice Ac nc cc], .agg #[I k, .slice X lx cx, .slice Y ly cy, .slice R lr cr, .string s]] w fun e w' =>
   e = .returned (.bool (provedB k (valsM (tx2 m)) (valsV (tx1 lb)) (valsV (tx1 lc)) (valsV (tx1 tx)) (valsV (tx1 ty)) (valsV (tx1 tr)) (rval (SL s)) nb nc)) ∧ Below w.heap.size w w' := by
 have b1 := below_new w (.cells #[.slice A nb ca, .slice Ab nb cb, .slice Ac nc cc] 27)
 have b2 := below_new (w.alloc (.cells #[.slice A nb ca, .slice Ab nb cb, .slice Ac nc cc] 27)) (.cells #[I k, .slice X lx cx, .slice Y ly cy, .slice R lr cr, .string s] 32)
 have hbt := b1.trans (b2.mono b1.size)
 have HP := Lib.hid (h.below hbt)
 have HRS := Lib.hid (hr.below hbt)
 have HB1 := Lib.hid hbt
 have hB := (Blk.new w 27 #[.slice A nb ca, .slice Ab nb cb, .slice Ac nc cc]).below b2 (by simp)
 have hB5 := Blk.new (w.alloc (.cells #[.slice A nb ca, .slice Ab nb cb, .slice Ac nc cc] 27)) 32 #[I k, .slice X lx cx, .slice Y ly cy, .slice R lr cr, .string s]
 rw [World.size_alloc] at hB5
 have P0 := Lib.hid (show ((w.alloc (.cells #[.slice A nb ca, .slice Ab nb cb, .slice Ac nc cc] 27)).alloc (.cells #[I k, .slice X lx cx, .slice Y ly cy, .slice R lr cr, .string s] 32)).cell? ⟨w.heap.size, 0, none⟩ = some (.slice A nb ca) from hB.cell 0)
 have P1 := Lib.hid (show ((w.alloc (.cells #[.slice A nb ca, .slice Ab nb cb, .slice Ac nc cc] 27)).alloc (.cells #[I k, .slice X lx cx, .slice Y ly cy, .slice R lr cr, .string s] 32)).cell? ⟨w.heap.size, 1, none⟩ = some (.slice Ab nb cb) from hB.cell 1)
 have P2 := Lib.hid (show ((w.alloc (.cells #[.slice A nb ca, .slice Ab nb cb, .slice Ac nc cc] 27)).alloc (.cells #[I k, .slice X lx cx, .slice Y ly cy, .slice R lr cr, .string s] 32)).cell? ⟨w.heap.size, 2, none⟩ = some (.slice Ac nc cc) from hB.cell 2)
 have Q0 := Lib.hid (show ((w.alloc (.cells #[.slice A nb ca, .slice Ab nb cb, .slice Ac nc cc] 27)).alloc (.cells #[I k, .slice X lx cx, .slice Y ly cy, .slice R lr cr, .string s] 32)).cell? ⟨w.heap.size + 1, 0, none⟩ = some (I k) from hB5.cell 0)
 have Q1 := Lib.hid (show ((w.alloc (.cells #[.slice A nb ca, .slice Ab nb cb, .slice Ac nc cc] 27)).alloc (.cells #[I k, .slice X lx cx, .slice Y ly cy, .slice R lr cr, .string s] 32)).cell? ⟨w.heap.size + 1, 1, none⟩ = some (.slice X lx cx) from hB5.cell 1)
 have Q2 := Lib.hid (show ((w.alloc (.cells #[.slice A nb ca, .slice Ab nb cb, .slice Ac nc cc] 27)).alloc (.cells #[I k, .slice X lx cx, .slice Y ly cy, .slice R lr cr, .string s] 32)).cell? ⟨w.heap.size + 1, 2, none⟩ = some (.slice Y ly cy) from hB5.cell 2)
 have Q3 := Lib.hid (show ((w.alloc (.cells #[.slice A nb ca, .slice Ab nb cb, .slice Ac nc cc] 27)).alloc (.cells #[I k, .slice X lx cx, .slice Y ly cy, .slice R lr cr, .string s] 32)).cell? ⟨w.heap.size + 1, 3, none⟩ = some (.slice R lr cr) from hB5.cell 3)
 have Q4 := Lib.hid (show ((w.alloc (.cells #[.slice A nb ca, .slice Ab nb cb, .slice Ac nc cc] 27)).alloc (.cells #[I k, .slice X lx cx, .slice Y ly cy, .slice R lr cr, .string s] 32)).cell? ⟨w.heap.size + 1, 4, none⟩ = some (.string s) from hB5.cell 4)
 have HSH := Lib.hid hs
 have HVA := Lib.hid hva
 have HVB := Lib.hid hvb
 have HVC := Lib.hid hvc
 have HOK := Lib.hid hok
 have HFA := Lib.hid hfa
 have HFB := Lib.hid hfb
 have HFC := Lib.hid hfc
 have HX := Lib.hid hx
 have HY := Lib.hid hy
 have HR := Lib.hid hrr
 have H0 := Lib.hid h0
 have H1 := Lib.hid h1
 have H2 := Lib.hid h2
 have hb7 := hok.hm
 have hn7 := hok.hn
 have hx4 := hx.le
 have hy4 := hy.le
 have hr4 := hrr.le
 have QLX := Lib.hid (show (valsV (tx1 tx)).length = lx by rw [valsV, List.length_map, tx1, List.length_map]; exact hx.len)
 have QLY := Lib.hid (show (valsV (tx1 ty)).length = ly by rw [valsV, List.length_map, tx1, List.length_map]; exact hy.len)
 have QLR := Lib.hid (show (valsV (tx1 tr)).length = lr by rw [valsV, List.length_map, tx1, List.length_map]; exact hrr.len)
 clear hB hB5 b1 b2 hbt h hr hs hva hvb hvc hok hfa hfb hfc hx hy hrr h0 h1 h2
 obtain ⟨z, hz⟩ : ∃ z, provedB k (valsM (tx2 m)) (valsV (tx1 lb)) (valsV (tx1 lc)) (valsV (tx1 tx)) (valsV (tx1 ty)) (valsV (tx1 tr)) (rval (SL s)) nb nc = z := ⟨_, rfl⟩
 rw [hz]
 have HZ := Lib.hid (show z = (nnL (valsV (tx1 tx)) && (nnL (valsV (tx1 ty)) && (nnL (valsV (tx1 tr)) && (if k = 0 then bestB (valsM (tx2 m)) (valsV (tx1 lb)) (valsV (tx1 lc)) (valsV (tx1 tx)) (valsV (tx1 ty)) (rval (SL s)) nb nc else if k = 1 then noneB (valsM (tx2 m)) (valsV (tx1 lb)) (valsV (tx1 ty)) nb nc else freeB (valsM (tx2 m)) (valsV (tx1 lb)) (valsV (tx1 lc)) (valsV (tx1 tx)) (valsV (tx1 tr)) nb)))) from hz.symm)
 clear hz
 go_enter Tryz.func38, Tryz.ntmps38
 go_upto_region 1 with (fail)
 generalize (w.alloc (.cells #[.slice A nb ca, .slice Ab nb cb, .slice Ac nc cc] 27)).alloc (.cells #[I k, .slice X lx cx, .slice Y ly cy, .slice R lr cr, .string s] 32) = w2 at *
 go_cut [5, 6, 7] (fun s5 s6 s7 wx => ∃ ga gb Am cm Bm cbm Cm ccm, s5 = .pointer (some ⟨ga, 0, none⟩) ∧ s6 = .pointer (some ⟨gb, 0, none⟩) ∧ s7 = .slice Cm nc ccm ∧ Hid (wx.cell? ⟨ga, 0, none⟩ = some (.slice Am nb cm)) ∧ Hid (wx.cell? ⟨gb, 0, none⟩ = some (.slice Bm nb cbm)) ∧ Hid (RM wx Am nb (valsM (tx2 m))) ∧ Hid (RV wx Bm nb (valsV (tx1 lb))) ∧ Hid (RV wx Cm nc (valsV (tx1 lc))) ∧ Hid (Below w2.heap.size w2 wx))
 case first =>
  have HB := Lib.hid (below_draw w2)
  refine wp_region_c (fun w' => w'.cell? ⟨w.heap.size, 0, none⟩ = some (.slice A nb ca) ∧ w'.cell? ⟨w.heap.size, 1, none⟩ = some (.slice Ab nb cb) ∧ w'.cell? ⟨w.heap.size, 2, none⟩ = some (.slice Ac nc cc)) 13 (by kernel_rfl) ?_
  generalize w2.drew = w3 at *
  refine tkS ⟨(cell_below P0.out HB.out), (cell_below P1.out HB.out), (cell_below P2.out HB.out)⟩ fun hSS => ?_
  refine tq 0 (.pointer (some ⟨w.heap.size, 0, none⟩)) rfl ?_ hSS ?_
  ·rintro w ⟨s0, s1, s2⟩
   go_simp
  try simp only [Act.put, putA]
  refine tq 1 (.slice A nb ca) rfl ?_ hSS ?_
  ·rintro w ⟨s0, s1, s2⟩
   go_simp
  try simp only [Act.put]
  refine tq 3 (.pointer (some ⟨w.heap.size, 1, none⟩)) rfl ?_ hSS ?_
  ·rintro w ⟨s0, s1, s2⟩
   go_simp
  try simp only [Act.put]
  refine tq 4 (.slice Ab nb cb) rfl ?_ hSS ?_
  ·rintro w ⟨s0, s1, s2⟩
   go_simp
  try simp only [Act.put]
  refine tq 6 (.pointer (some ⟨w.heap.size, 2, none⟩)) rfl ?_ hSS ?_
  ·rintro w ⟨s0, s1, s2⟩
   go_simp
  try simp only [Act.put]
  refine tq 7 (.slice Ac nc cc) rfl ?_ hSS ?_
  ·rintro w ⟨s0, s1, s2⟩
   go_simp
  try simp only [Act.put]
  go_simp
  refine wpAnyC_floatA (fun a0 i p q a W => ∃ (x5 x6 x24 x27 x30 : Value), a = ((((a0.put (some 5) x5).put (some 6) x6).put (some 24) x24).put (some 27) x27).put (some 30) x30 ∧ Hid (Below w2.heap.size w2 W) ∧ Hid (p = true → ∃ ga v, x5 = .pointer (some ⟨ga, 0, none⟩) ∧ Blk W ga 76 #[v] ∧ w2.heap.size ≤ ga ∧ (i < 4 → v = .slice none 0 0) ∧ (4 ≤ i → v = x24)) ∧ Hid (q = true → ∃ gb, x6 = .pointer (some ⟨gb, 0, none⟩) ∧ Blk W gb 66 #[.slice none 0 0] ∧ w2.heap.size ≤ gb ∧ (p = true → ∀ ga, x5 = .pointer (some ⟨ga, 0, none⟩) → ga ≠ gb)) ∧ Hid (1 ≤ i → ∃ Am cm ms B, x24 = .slice Am nb cm ∧ LM W B (.slice Am nb cm) ms (valsM (tx2 m)) ∧ (q = true → ∀ gb, x6 = .pointer (some ⟨gb, 0, none⟩) → LMN (.slice Am nb cm) ms (valsM (tx2 m)).length gb)) ∧ Hid (2 ≤ i → ∃ Bm cbm, x27 = .slice Bm nb cbm ∧ RRow W w2.heap.size (.slice Bm nb cbm) (valsV (tx1 lb))) ∧ Hid (3 ≤ i → ∃ Bm cbm, x30 = .slice Bm nc cbm ∧ RRow W w2.heap.size (.slice Bm nc cbm) (valsV (tx1 lc))) ∧ Hid (4 ≤ i → p = true)) 2 4 (fun i p => decide (i < 3) || p) (fun i p q => #[true, true, decide (1 ≤ i), true, true, decide (2 ≤ i), true, true, decide (3 ≤ i), p, q, decide (4 ≤ i), false, false]) (fun i => 2 + 3 * i) 9 10 (fun i hi => by rcases i with _ | _ | _ | _ | i <;> first | omega | kernel_rfl) (by kernel_rfl) (by kernel_rfl) (fun i p q hi => by rcases i with _ | _ | _ | _ | i <;> first | omega | rfl) (fun i q hi => by rfl) (fun i p hi => by rfl) (fun i p q hi hn => by rcases i with _ | _ | _ | _ | _ | i <;> cases p <;> cases q <;> first | omega | exact (hn ⟨rfl, rfl, rfl⟩).elim | exact ⟨by kernel_rfl, by kernel_rfl⟩) ?_ ?_ ?_ ?_ ?_ ?_
  ·exact ⟨undef, undef, undef, undef, undef, (by simp only [Act.put, putA, putZ, putC]), HB, Lib.hid (fun h => absurd h (by decide)), Lib.hid (fun h => absurd h (by decide)), Lib.hid (fun h => absurd h (by omega)), Lib.hid (fun h => absurd h (by omega)), Lib.hid (fun h => absurd h (by omega)), Lib.hid (fun h => absurd h (by omega))⟩
  ·intro i p q a0 W hI
   obtain ⟨x5, x6, x24, x27, x30, rfl, HB, HP1, HP2, HC1, HC2, HC3, HC4⟩ := hI
   exact ⟨cell_below P0.out HB.out, cell_below P1.out HB.out, cell_below P2.out HB.out⟩
  ·intro i p q o a0 W K2 hi hE hoo hI hK
   obtain ⟨x5, x6, x24, x27, x30, rfl, HB, HP1, HP2, HC1, HC2, HC3, HC4⟩ := hI
   by_cases hi3 : i = 3
   ·subst hi3
    have hp : p = true := by simpa using hE
    obtain ⟨ga, v1, rfl, hza, hga, hv1, _⟩ := HP1.out hp
    obtain rfl := hv1 (by omega)
    obtain ⟨Am, cm, ms, Bb, rfl, hqm, hnem⟩ := HC1.out (by omega)
    obtain rfl := Option.some.inj (show some _ = some o from hoo)
    clear hoo hE hv1
    have z0 : W.cell? ⟨ga, 0, none⟩ = some (.slice none 0 0) := hza.cell 0
    have y0 := hza.frozen 0
    have hka := kw_nw hza (fun u hu => by rw [List.mem_singleton.1 hu]; exact noWord_slice _ _ _) 0 (.slice Am nb cm)
    simp only [Act.put, putA, putZ, putC]
    go_simp
    exact hK _ _ ⟨(.pointer (some ⟨ga, 0, none⟩)), (x6), (.slice Am nb cm), (x27), (x30), (by simp only [Act.put, putA, putZ, putC]), Lib.hid (HB.out.setCell (p := ⟨ga, 0, none⟩) hga _), Lib.hid (fun _ => ⟨ga, _, rfl, hza.set_ 0 _, hga, fun h => absurd h (by omega), fun _ => rfl⟩), Lib.hid (fun hq => by obtain ⟨g1, e1, e2, e3, e4⟩ := HP2.out hq; exact ⟨g1, e1, e2.farB (e4 hp ga rfl).symm _, e3, fun _ => e4 hp⟩), Lib.hid (fun _ => ⟨Am, cm, ms, Bb, rfl, hqm.far1 hza hka (by decide) (by decide), hnem⟩), Lib.hid (fun _ => by obtain ⟨a1, a2, e1, e2⟩ := HC2.out (by omega); exact ⟨a1, a2, e1, e2.far1 hza hka (by decide)⟩), Lib.hid (fun _ => by obtain ⟨a1, a2, e1, e2⟩ := HC3.out (by omega); exact ⟨a1, a2, e1, e2.far1 hza hka (by decide)⟩), Lib.hid (fun _ => hp)⟩
   rcases i with _ | _ | _ | i
   ·obtain rfl := Option.some.inj (show some _ = some o from hoo)
    simp only [Act.put, putA, putZ, putC]
    go_simp
    go_at_call 31
    refine (values_any m nb A ca _ (HP.out.below HB.out).ma HSH.out.ma HVA.out (by omega)).mono ?_
    rintro e W2 ⟨vm, ms, rfl, hlm, hb⟩
    obtain ⟨Am, cm, rfl⟩ := hlm.outer.val
    rw [show (valsM (tx2 m)).length = nb from HOK.out.hp.len] at hlm ⊢
    exact hK _ _ ⟨(x5), (x6), (.slice Am nb cm), (x27), (x30), (by simp only [Act.put, putA, putZ, putC]), Lib.hid (HB.out.trans (hb.mono HB.out.size)), Lib.hid (fun h => by obtain ⟨g1, v1, e1, e2, e3, e4, _⟩ := HP1.out h; exact ⟨g1, v1, e1, e2.below hb e2.lt, e3, fun _ => e4 (by omega), fun h => absurd h (by omega)⟩), Lib.hid (fun h => by obtain ⟨g1, e1, e2, e3, e4⟩ := HP2.out h; exact ⟨g1, e1, e2.below hb e2.lt, e3, e4⟩), Lib.hid (fun _ => ⟨Am, cm, ms, _, rfl, hlm, fun hq gb e => by obtain ⟨g1, e1, e2, _⟩ := HP2.out hq; rw [e1] at e; injection e with e; injection e with e; injection e with e _; subst e; exact hlm.newN e2.lt⟩), Lib.hid (fun h => absurd h (by omega)), Lib.hid (fun h => absurd h (by omega)), Lib.hid (fun h => absurd h (by omega))⟩
   ·obtain rfl := Option.some.inj (show some _ = some o from hoo)
    simp only [Act.put, putA, putZ, putC]
    go_simp
    go_at_call 32
    refine (parseAll_any lb nb Ab cb _ (HP.out.below HB.out).vb HSH.out.vb HVB.out (by omega)).mono ?_
    rintro e W2 ⟨vv, rfl, hlm, hb⟩
    obtain ⟨Bm, cbm, rfl⟩ := hlm.val
    rw [show (valsV (tx1 lb)).length = nb from HOK.out.hp.lb] at hlm ⊢
    exact hK _ _ ⟨(x5), (x6), (x24), (.slice Bm nb cbm), (x30), (by simp only [Act.put, putA, putZ, putC]), Lib.hid (HB.out.trans (hb.mono HB.out.size)), Lib.hid (fun h => by obtain ⟨g1, v1, e1, e2, e3, e4, _⟩ := HP1.out h; exact ⟨g1, v1, e1, e2.below hb e2.lt, e3, fun _ => e4 (by omega), fun h => absurd h (by omega)⟩), Lib.hid (fun h => by obtain ⟨g1, e1, e2, e3, e4⟩ := HP2.out h; exact ⟨g1, e1, e2.below hb e2.lt, e3, e4⟩), Lib.hid (fun h => by obtain ⟨a1, a2, a3, a4, e1, e2, e3⟩ := HC1.out (by omega); exact ⟨a1, a2, a3, a4, e1, e2.call hb, e3⟩), Lib.hid (fun _ => ⟨Bm, cbm, rfl, hlm.less HB.out.size⟩), Lib.hid (fun h => absurd h (by omega)), Lib.hid (fun h => absurd h (by omega))⟩
   ·obtain rfl := Option.some.inj (show some _ = some o from hoo)
    simp only [Act.put, putA, putZ, putC]
    go_simp
    go_at_call 32
    refine (parseAll_any lc nc Ac cc _ (HP.out.below HB.out).vc HSH.out.vc HVC.out (by omega)).mono ?_
    rintro e W2 ⟨vv, rfl, hlm, hb⟩
    obtain ⟨Bm, cbm, rfl⟩ := hlm.val
    rw [show (valsV (tx1 lc)).length = nc from HOK.out.hp.lc] at hlm ⊢
    exact hK _ _ ⟨(x5), (x6), (x24), (x27), (.slice Bm nc cbm), (by simp only [Act.put, putA, putZ, putC]), Lib.hid (HB.out.trans (hb.mono HB.out.size)), Lib.hid (fun h => by obtain ⟨g1, v1, e1, e2, e3, e4, _⟩ := HP1.out h; exact ⟨g1, v1, e1, e2.below hb e2.lt, e3, fun _ => e4 (by omega), fun h => absurd h (by omega)⟩), Lib.hid (fun h => by obtain ⟨g1, e1, e2, e3, e4⟩ := HP2.out h; exact ⟨g1, e1, e2.below hb e2.lt, e3, e4⟩), Lib.hid (fun h => by obtain ⟨a1, a2, a3, a4, e1, e2, e3⟩ := HC1.out (by omega); exact ⟨a1, a2, a3, a4, e1, e2.call hb, e3⟩), Lib.hid (fun h => by obtain ⟨a1, a2, e1, e2⟩ := HC2.out (by omega); exact ⟨a1, a2, e1, e2.call hb⟩), Lib.hid (fun _ => ⟨Bm, cbm, rfl, hlm.less HB.out.size⟩), Lib.hid (fun h => absurd h (by omega))⟩
   ·exact (show False by omega).elim
  ·intro i q o a0 W K2 hi hoo hI hK
   obtain ⟨x5, x6, x24, x27, x30, rfl, HB, HP1, HP2, HC1, HC2, HC3, HC4⟩ := hI
   obtain rfl := Option.some.inj (show some _ = some o from hoo)
   have hi4 : i < 4 := by rcases Nat.lt_or_ge i 4 with h | h; exact h; exact absurd (HC4.out h) (by decide)
   simp only [Act.put, putA, putZ, putC]
   go_simp
   have hb := below_new W (.cells #[.slice none 0 0] 76)
   exact hK _ _ ⟨(.pointer (some ⟨W.heap.size, 0, none⟩)), (x6), (x24), (x27), (x30), (by simp only [Act.put, putA, putZ, putC]), Lib.hid (HB.out.trans (hb.mono HB.out.size)), Lib.hid (fun _ => ⟨W.heap.size, _, rfl, Blk.new W 76 #[.slice none 0 0], HB.out.size, fun _ => rfl, fun h => absurd h (by omega)⟩), Lib.hid (fun h => by obtain ⟨g1, e1, e2, e3, _⟩ := HP2.out h; exact ⟨g1, e1, e2.below hb e2.lt, e3, fun _ ga e => by injection e with e; injection e with e; injection e with e _; subst e; exact Nat.ne_of_gt e2.lt⟩), Lib.hid (fun h => by obtain ⟨a1, a2, a3, a4, e1, e2, e3⟩ := HC1.out h; exact ⟨a1, a2, a3, a4, e1, e2.call hb, e3⟩), Lib.hid (fun h => by obtain ⟨a1, a2, e1, e2⟩ := HC2.out h; exact ⟨a1, a2, e1, e2.call hb⟩), Lib.hid (fun h => by obtain ⟨a1, a2, e1, e2⟩ := HC3.out h; exact ⟨a1, a2, e1, e2.call hb⟩), Lib.hid (fun _ => rfl)⟩
  ·intro i p o a0 W K2 hi hoo hI hK
   obtain ⟨x5, x6, x24, x27, x30, rfl, HB, HP1, HP2, HC1, HC2, HC3, HC4⟩ := hI
   obtain rfl := Option.some.inj (show some _ = some o from hoo)
   simp only [Act.put, putA, putZ, putC]
   go_simp
   have hb := below_new W (.cells #[.slice none 0 0] 66)
   exact hK _ _ ⟨(x5), (.pointer (some ⟨W.heap.size, 0, none⟩)), (x24), (x27), (x30), (by simp only [Act.put, putA, putZ, putC]), Lib.hid (HB.out.trans (hb.mono HB.out.size)), Lib.hid (fun h => by obtain ⟨g1, v1, e1, e2, e3, e4, e5⟩ := HP1.out h; exact ⟨g1, v1, e1, e2.below hb e2.lt, e3, e4, e5⟩), Lib.hid (fun _ => ⟨W.heap.size, rfl, Blk.new W 66 #[.slice none 0 0], HB.out.size, fun hp ga e => by obtain ⟨g1, v1, e1, e2, _⟩ := HP1.out hp; rw [e1] at e; injection e with e; injection e with e; injection e with e _; subst e; exact Nat.ne_of_lt e2.lt⟩), Lib.hid (fun h => by obtain ⟨a1, a2, a3, a4, e1, e2, _⟩ := HC1.out h; exact ⟨a1, a2, a3, a4, e1, e2.call hb, fun _ gb e => by injection e with e; injection e with e; injection e with e _; subst e; exact e2.oldN (Nat.le_refl _)⟩), Lib.hid (fun h => by obtain ⟨a1, a2, e1, e2⟩ := HC2.out h; exact ⟨a1, a2, e1, e2.call hb⟩), Lib.hid (fun h => by obtain ⟨a1, a2, e1, e2⟩ := HC3.out h; exact ⟨a1, a2, e1, e2.call hb⟩), HC4⟩
  ·intro a0 W hI
   obtain ⟨x5, x6, x24, x27, x30, rfl, HB, HP1, HP2, HC1, HC2, HC3, HC4⟩ := hI
   obtain ⟨ga, v1, rfl, hza, hga, _, hv1⟩ := HP1.out rfl
   obtain ⟨gb, rfl, hzb, hgb, hne⟩ := HP2.out rfl
   replace hne := hne rfl ga rfl
   obtain ⟨Am, cm, ms, Bb, rfl, hqm, hnem⟩ := HC1.out (by omega)
   obtain ⟨Bm, cbm, rfl, hqb⟩ := HC2.out (by omega)
   obtain ⟨Cm, ccm, rfl, hqc⟩ := HC3.out (by omega)
   obtain rfl := hv1 (Nat.le_refl 4)
   replace hnem := hnem rfl gb rfl
   clear HP1 HP2 HC1 HC2 HC3 HC4
   have z0 : W.cell? ⟨gb, 0, none⟩ = some (.slice none 0 0) := hzb.cell 0
   have y0 := hzb.frozen 0
   have hka := kw_nw hzb (fun u hu => by rw [List.mem_singleton.1 hu]; exact noWord_slice _ _ _) 0 (.slice Bm nb cbm)
   have QM := Lib.hid (hqm.off1 hka hnem).rm
   have QB := Lib.hid (hqb.far1 hzb hka (by decide)).rv
   have QC := Lib.hid (hqc.far1 hzb hka (by decide)).rv
   replace HB := Lib.hid (HB.out.setCell (p := ⟨gb, 0, none⟩) hgb (.slice Bm nb cbm))
   have HZA := Lib.hid (hza.farB (o := 0) hne (.slice Bm nb cbm))
   have HZB := Lib.hid (show Blk (W.setCell ⟨gb, 0, none⟩ (.slice Bm nb cbm)) gb 66 #[.slice Bm nb cbm] from hzb.set_ 0 (.slice Bm nb cbm))
   clear hka
   simp only [Act.put, putA, putZ, putC]
   refine on1 12 fun K hK => ?_
   go_simp
   refine hK.out _ _ (fun _ => ⟨cell_below P0.out HB.out, cell_below P1.out HB.out, cell_below P2.out HB.out⟩) ?_
   clear hK K z0 y0 hza hzb
   try simp only [putA, putZ, putC]
   refine on1 13 fun K hK => ?_
   go_simp
   refine hK.out _ _ (fun h => absurd h (by decide)) ?_
   clear hK K
   try simp only [putA, putZ, putC]
   refine wpAnyC_done (by kernel_rfl) ?_ _
   go_wp2_with fail
   go_meet
   case rel => exact ⟨ga, gb, Am, cm, Bm, cbm, Cm, ccm, rfl, rfl, rfl, Lib.hid (HZA.out.cell 0), Lib.hid (HZB.out.cell 0), QM, QB, QC, HB⟩
 case rest =>
  obtain ⟨ga, gb, Am, cm, Bm, cbm, Cm, ccm, rfl, rfl, rfl, GA, GB, QM, QB, QC, HBa⟩ := hcut
  obtain ⟨w30, rfl⟩ : ∃ w30 : World, w30 = wc := ⟨_, rfl⟩
  clear HP P0 P1 P2 HSH HVA HVB HVC
  replace Q0 := Lib.hid (cell_below Q0.out HBa.out)
  replace Q1 := Lib.hid (cell_below Q1.out HBa.out)
  replace Q2 := Lib.hid (cell_below Q2.out HBa.out)
  replace Q3 := Lib.hid (cell_below Q3.out HBa.out)
  replace Q4 := Lib.hid (cell_below Q4.out HBa.out)
  replace HRS := Lib.hid (HRS.out.below HBa.out)
  replace HB1 := Lib.hid (HB1.out.trans (HBa.out.mono HB1.out.size))
  clear HBa
  go_upto_region 2 with (fail)
  go_cut [8, 9, 10] (fun s8 s9 s10 wx => ∃ gx gy Xm cxm Ym cym Rm crm, s8 = .pointer (some ⟨gx, 0, none⟩) ∧ s9 = .pointer (some ⟨gy, 0, none⟩) ∧ s10 = .slice Rm lr crm ∧ Hid (wx.cell? ⟨gx, 0, none⟩ = some (.slice Xm lx cxm)) ∧ Hid (wx.cell? ⟨gy, 0, none⟩ = some (.slice Ym ly cym)) ∧ Hid (RV wx Xm lx (valsV (tx1 tx))) ∧ Hid (RV wx Ym ly (valsV (tx1 ty))) ∧ Hid (RV wx Rm lr (valsV (tx1 tr))) ∧ Hid (Below w30.heap.size w30 wx))
  case first =>
   have HB := Lib.hid (below_draw w30)
   refine wp_region_c (fun w' => w'.cell? ⟨w.heap.size + 1, 1, none⟩ = some (.slice X lx cx) ∧ w'.cell? ⟨w.heap.size + 1, 2, none⟩ = some (.slice Y ly cy) ∧ w'.cell? ⟨w.heap.size + 1, 3, none⟩ = some (.slice R lr cr)) 13 (by kernel_rfl) ?_
   generalize w30.drew = w4 at *
   refine tkS ⟨(cell_below Q1.out HB.out), (cell_below Q2.out HB.out), (cell_below Q3.out HB.out)⟩ fun hSS => ?_
   refine tq 0 (.pointer (some ⟨w.heap.size + 1, 1, none⟩)) rfl ?_ hSS ?_
   ·rintro w ⟨s0, s1, s2⟩
    go_simp
   try simp only [Act.put, putA]
   refine tq 1 (.slice X lx cx) rfl ?_ hSS ?_
   ·rintro w ⟨s0, s1, s2⟩
    go_simp
   try simp only [Act.put]
   refine tq 3 (.pointer (some ⟨w.heap.size + 1, 2, none⟩)) rfl ?_ hSS ?_
   ·rintro w ⟨s0, s1, s2⟩
    go_simp
   try simp only [Act.put]
   refine tq 4 (.slice Y ly cy) rfl ?_ hSS ?_
   ·rintro w ⟨s0, s1, s2⟩
    go_simp
   try simp only [Act.put]
   refine tq 6 (.pointer (some ⟨w.heap.size + 1, 3, none⟩)) rfl ?_ hSS ?_
   ·rintro w ⟨s0, s1, s2⟩
    go_simp
   try simp only [Act.put]
   refine tq 7 (.slice R lr cr) rfl ?_ hSS ?_
   ·rintro w ⟨s0, s1, s2⟩
    go_simp
   try simp only [Act.put]
   go_simp
   refine wpAnyC_floatA (fun a0 i p q a W => ∃ (x8 x9 x33 x36 x39 : Value), a = ((((a0.put (some 8) x8).put (some 9) x9).put (some 33) x33).put (some 36) x36).put (some 39) x39 ∧ Hid (Below w30.heap.size w30 W) ∧ Hid (p = true → ∃ ga v, x8 = .pointer (some ⟨ga, 0, none⟩) ∧ Blk W ga 66 #[v] ∧ w30.heap.size ≤ ga ∧ (i < 4 → v = .slice none 0 0) ∧ (4 ≤ i → v = x33)) ∧ Hid (q = true → ∃ gb, x9 = .pointer (some ⟨gb, 0, none⟩) ∧ Blk W gb 66 #[.slice none 0 0] ∧ w30.heap.size ≤ gb ∧ (p = true → ∀ ga, x8 = .pointer (some ⟨ga, 0, none⟩) → ga ≠ gb)) ∧ Hid (1 ≤ i → ∃ Bm cbm, x33 = .slice Bm lx cbm ∧ RRow W w30.heap.size (.slice Bm lx cbm) (valsV (tx1 tx))) ∧ Hid (2 ≤ i → ∃ Bm cbm, x36 = .slice Bm ly cbm ∧ RRow W w30.heap.size (.slice Bm ly cbm) (valsV (tx1 ty))) ∧ Hid (3 ≤ i → ∃ Bm cbm, x39 = .slice Bm lr cbm ∧ RRow W w30.heap.size (.slice Bm lr cbm) (valsV (tx1 tr))) ∧ Hid (4 ≤ i → p = true)) 2 4 (fun i p => decide (i < 3) || p) (fun i p q => #[true, true, decide (1 ≤ i), true, true, decide (2 ≤ i), true, true, decide (3 ≤ i), p, q, decide (4 ≤ i), false, false]) (fun i => 2 + 3 * i) 9 10 (fun i hi => by rcases i with _ | _ | _ | _ | i <;> first | omega | kernel_rfl) (by kernel_rfl) (by kernel_rfl) (fun i p q hi => by rcases i with _ | _ | _ | _ | i <;> first | omega | rfl) (fun i q hi => by rfl) (fun i p hi => by rfl) (fun i p q hi hn => by rcases i with _ | _ | _ | _ | _ | i <;> cases p <;> cases q <;> first | omega | exact (hn ⟨rfl, rfl, rfl⟩).elim | exact ⟨by kernel_rfl, by kernel_rfl⟩) ?_ ?_ ?_ ?_ ?_ ?_
   ·exact ⟨undef, undef, u33, u36, u39, (by simp only [Act.put, putA, putZ, putC]), HB, Lib.hid (fun h => absurd h (by decide)), Lib.hid (fun h => absurd h (by decide)), Lib.hid (fun h => absurd h (by omega)), Lib.hid (fun h => absurd h (by omega)), Lib.hid (fun h => absurd h (by omega)), Lib.hid (fun h => absurd h (by omega))⟩
   ·intro i p q a0 W hI
    obtain ⟨x8, x9, x33, x36, x39, rfl, HB, HP1, HP2, HC1, HC2, HC3, HC4⟩ := hI
    exact ⟨cell_below Q1.out HB.out, cell_below Q2.out HB.out, cell_below Q3.out HB.out⟩
   ·intro i p q o a0 W K2 hi hE hoo hI hK
    obtain ⟨x8, x9, x33, x36, x39, rfl, HB, HP1, HP2, HC1, HC2, HC3, HC4⟩ := hI
    by_cases hi3 : i = 3
    ·subst hi3
     have hp : p = true := by simpa using hE
     obtain ⟨ga, v1, rfl, hza, hga, hv1, _⟩ := HP1.out hp
     obtain rfl := hv1 (by omega)
     obtain ⟨Xm, cxm, rfl, hqm⟩ := HC1.out (by omega)
     obtain rfl := Option.some.inj (show some _ = some o from hoo)
     clear hoo hE hv1
     have z0 : W.cell? ⟨ga, 0, none⟩ = some (.slice none 0 0) := hza.cell 0
     have y0 := hza.frozen 0
     have hka := kw_nw hza (fun u hu => by rw [List.mem_singleton.1 hu]; exact noWord_slice _ _ _) 0 (.slice Xm lx cxm)
     simp only [Act.put, putA, putZ, putC]
     go_simp
     exact hK _ _ ⟨(.pointer (some ⟨ga, 0, none⟩)), (x9), (.slice Xm lx cxm), (x36), (x39), (by simp only [Act.put, putA, putZ, putC]), Lib.hid (HB.out.setCell (p := ⟨ga, 0, none⟩) hga _), Lib.hid (fun _ => ⟨ga, _, rfl, hza.set_ 0 _, hga, fun h => absurd h (by omega), fun _ => rfl⟩), Lib.hid (fun hq => by obtain ⟨g1, e1, e2, e3, e4⟩ := HP2.out hq; exact ⟨g1, e1, e2.farB (e4 hp ga rfl).symm _, e3, fun _ => e4 hp⟩), Lib.hid (fun _ => ⟨Xm, cxm, rfl, hqm.far1 hza hka (by decide)⟩), Lib.hid (fun _ => by obtain ⟨a1, a2, e1, e2⟩ := HC2.out (by omega); exact ⟨a1, a2, e1, e2.far1 hza hka (by decide)⟩), Lib.hid (fun _ => by obtain ⟨a1, a2, e1, e2⟩ := HC3.out (by omega); exact ⟨a1, a2, e1, e2.far1 hza hka (by decide)⟩), Lib.hid (fun _ => hp)⟩
    rcases i with _ | _ | _ | i
    ·obtain rfl := Option.some.inj (show some _ = some o from hoo)
     simp only [Act.put, putA, putZ, putC]
     go_simp
     go_at_call 32
     refine (parseAll_any tx lx X cx _ (HRS.out.below HB.out).vx HX.out.sh HX.out.va (by omega)).mono ?_
     rintro e W2 ⟨vv, rfl, hlm, hb⟩
     obtain ⟨Bm, cbm, rfl⟩ := hlm.val
     rw [show (valsV (tx1 tx)).length = lx from QLX.out] at hlm ⊢
     exact hK _ _ ⟨(x8), (x9), (.slice Bm lx cbm), (x36), (x39), (by simp only [Act.put, putA, putZ, putC]), Lib.hid (HB.out.trans (hb.mono HB.out.size)), Lib.hid (fun h => by obtain ⟨g1, v1, e1, e2, e3, e4, _⟩ := HP1.out h; exact ⟨g1, v1, e1, e2.below hb e2.lt, e3, fun _ => e4 (by omega), fun h => absurd h (by omega)⟩), Lib.hid (fun h => by obtain ⟨g1, e1, e2, e3, e4⟩ := HP2.out h; exact ⟨g1, e1, e2.below hb e2.lt, e3, e4⟩), Lib.hid (fun _ => ⟨Bm, cbm, rfl, hlm.less HB.out.size⟩), Lib.hid (fun h => absurd h (by omega)), Lib.hid (fun h => absurd h (by omega)), Lib.hid (fun h => absurd h (by omega))⟩
    ·obtain rfl := Option.some.inj (show some _ = some o from hoo)
     simp only [Act.put, putA, putZ, putC]
     go_simp
     go_at_call 32
     refine (parseAll_any ty ly Y cy _ (HRS.out.below HB.out).vy HY.out.sh HY.out.va (by omega)).mono ?_
     rintro e W2 ⟨vv, rfl, hlm, hb⟩
     obtain ⟨Bm, cbm, rfl⟩ := hlm.val
     rw [show (valsV (tx1 ty)).length = ly from QLY.out] at hlm ⊢
     exact hK _ _ ⟨(x8), (x9), (x33), (.slice Bm ly cbm), (x39), (by simp only [Act.put, putA, putZ, putC]), Lib.hid (HB.out.trans (hb.mono HB.out.size)), Lib.hid (fun h => by obtain ⟨g1, v1, e1, e2, e3, e4, _⟩ := HP1.out h; exact ⟨g1, v1, e1, e2.below hb e2.lt, e3, fun _ => e4 (by omega), fun h => absurd h (by omega)⟩), Lib.hid (fun h => by obtain ⟨g1, e1, e2, e3, e4⟩ := HP2.out h; exact ⟨g1, e1, e2.below hb e2.lt, e3, e4⟩), Lib.hid (fun h => by obtain ⟨a1, a2, e1, e2⟩ := HC1.out (by omega); exact ⟨a1, a2, e1, e2.call hb⟩), Lib.hid (fun _ => ⟨Bm, cbm, rfl, hlm.less HB.out.size⟩), Lib.hid (fun h => absurd h (by omega)), Lib.hid (fun h => absurd h (by omega))⟩
    ·obtain rfl := Option.some.inj (show some _ = some o from hoo)
     simp only [Act.put, putA, putZ, putC]
     go_simp
     go_at_call 32
     refine (parseAll_any tr lr R cr _ (HRS.out.below HB.out).vr HR.out.sh HR.out.va (by omega)).mono ?_
     rintro e W2 ⟨vv, rfl, hlm, hb⟩
     obtain ⟨Bm, cbm, rfl⟩ := hlm.val
     rw [show (valsV (tx1 tr)).length = lr from QLR.out] at hlm ⊢
     exact hK _ _ ⟨(x8), (x9), (x33), (x36), (.slice Bm lr cbm), (by simp only [Act.put, putA, putZ, putC]), Lib.hid (HB.out.trans (hb.mono HB.out.size)), Lib.hid (fun h => by obtain ⟨g1, v1, e1, e2, e3, e4, _⟩ := HP1.out h; exact ⟨g1, v1, e1, e2.below hb e2.lt, e3, fun _ => e4 (by omega), fun h => absurd h (by omega)⟩), Lib.hid (fun h => by obtain ⟨g1, e1, e2, e3, e4⟩ := HP2.out h; exact ⟨g1, e1, e2.below hb e2.lt, e3, e4⟩), Lib.hid (fun h => by obtain ⟨a1, a2, e1, e2⟩ := HC1.out (by omega); exact ⟨a1, a2, e1, e2.call hb⟩), Lib.hid (fun h => by obtain ⟨a1, a2, e1, e2⟩ := HC2.out (by omega); exact ⟨a1, a2, e1, e2.call hb⟩), Lib.hid (fun _ => ⟨Bm, cbm, rfl, hlm.less HB.out.size⟩), Lib.hid (fun h => absurd h (by omega))⟩
    ·exact (show False by omega).elim
   ·intro i q o a0 W K2 hi hoo hI hK
    obtain ⟨x8, x9, x33, x36, x39, rfl, HB, HP1, HP2, HC1, HC2, HC3, HC4⟩ := hI
    obtain rfl := Option.some.inj (show some _ = some o from hoo)
    have hi4 : i < 4 := by rcases Nat.lt_or_ge i 4 with h | h; exact h; exact absurd (HC4.out h) (by decide)
    simp only [Act.put, putA, putZ, putC]
    go_simp
    have hb := below_new W (.cells #[.slice none 0 0] 66)
    exact hK _ _ ⟨(.pointer (some ⟨W.heap.size, 0, none⟩)), (x9), (x33), (x36), (x39), (by simp only [Act.put, putA, putZ, putC]), Lib.hid (HB.out.trans (hb.mono HB.out.size)), Lib.hid (fun _ => ⟨W.heap.size, _, rfl, Blk.new W 66 #[.slice none 0 0], HB.out.size, fun _ => rfl, fun h => absurd h (by omega)⟩), Lib.hid (fun h => by obtain ⟨g1, e1, e2, e3, _⟩ := HP2.out h; exact ⟨g1, e1, e2.below hb e2.lt, e3, fun _ ga e => by injection e with e; injection e with e; injection e with e _; subst e; exact Nat.ne_of_gt e2.lt⟩), Lib.hid (fun h => by obtain ⟨a1, a2, e1, e2⟩ := HC1.out h; exact ⟨a1, a2, e1, e2.call hb⟩), Lib.hid (fun h => by obtain ⟨a1, a2, e1, e2⟩ := HC2.out h; exact ⟨a1, a2, e1, e2.call hb⟩), Lib.hid (fun h => by obtain ⟨a1, a2, e1, e2⟩ := HC3.out h; exact ⟨a1, a2, e1, e2.call hb⟩), Lib.hid (fun _ => rfl)⟩
   ·intro i p o a0 W K2 hi hoo hI hK
    obtain ⟨x8, x9, x33, x36, x39, rfl, HB, HP1, HP2, HC1, HC2, HC3, HC4⟩ := hI
    obtain rfl := Option.some.inj (show some _ = some o from hoo)
    simp only [Act.put, putA, putZ, putC]
    go_simp
    have hb := below_new W (.cells #[.slice none 0 0] 66)
    exact hK _ _ ⟨(x8), (.pointer (some ⟨W.heap.size, 0, none⟩)), (x33), (x36), (x39), (by simp only [Act.put, putA, putZ, putC]), Lib.hid (HB.out.trans (hb.mono HB.out.size)), Lib.hid (fun h => by obtain ⟨g1, v1, e1, e2, e3, e4, e5⟩ := HP1.out h; exact ⟨g1, v1, e1, e2.below hb e2.lt, e3, e4, e5⟩), Lib.hid (fun _ => ⟨W.heap.size, rfl, Blk.new W 66 #[.slice none 0 0], HB.out.size, fun hp ga e => by obtain ⟨g1, v1, e1, e2, _⟩ := HP1.out hp; rw [e1] at e; injection e with e; injection e with e; injection e with e _; subst e; exact Nat.ne_of_lt e2.lt⟩), Lib.hid (fun h => by obtain ⟨a1, a2, e1, e2⟩ := HC1.out h; exact ⟨a1, a2, e1, e2.call hb⟩), Lib.hid (fun h => by obtain ⟨a1, a2, e1, e2⟩ := HC2.out h; exact ⟨a1, a2, e1, e2.call hb⟩), Lib.hid (fun h => by obtain ⟨a1, a2, e1, e2⟩ := HC3.out h; exact ⟨a1, a2, e1, e2.call hb⟩), HC4⟩
   ·intro a0 W hI
    obtain ⟨x8, x9, x33, x36, x39, rfl, HB, HP1, HP2, HC1, HC2, HC3, HC4⟩ := hI
    obtain ⟨ga, v1, rfl, hza, hga, _, hv1⟩ := HP1.out rfl
    obtain ⟨gb, rfl, hzb, hgb, hne⟩ := HP2.out rfl
    replace hne := hne rfl ga rfl
    obtain ⟨Xm, cxm, rfl, hqm⟩ := HC1.out (by omega)
    obtain ⟨Ym, cym, rfl, hqb⟩ := HC2.out (by omega)
    obtain ⟨Rm, crm, rfl, hqc⟩ := HC3.out (by omega)
    obtain rfl := hv1 (Nat.le_refl 4)
    clear HP1 HP2 HC1 HC2 HC3 HC4
    have z0 : W.cell? ⟨gb, 0, none⟩ = some (.slice none 0 0) := hzb.cell 0
    have y0 := hzb.frozen 0
    have hka := kw_nw hzb (fun u hu => by rw [List.mem_singleton.1 hu]; exact noWord_slice _ _ _) 0 (.slice Ym ly cym)
    have KX := Lib.hid (hqm.far1 hzb hka (by decide)).rv
    have KY := Lib.hid (hqb.far1 hzb hka (by decide)).rv
    have KR := Lib.hid (hqc.far1 hzb hka (by decide)).rv
    replace HB := Lib.hid (HB.out.setCell (p := ⟨gb, 0, none⟩) hgb (.slice Ym ly cym))
    have HZA := Lib.hid (hza.farB (o := 0) hne (.slice Ym ly cym))
    have HZB := Lib.hid (show Blk (W.setCell ⟨gb, 0, none⟩ (.slice Ym ly cym)) gb 66 #[.slice Ym ly cym] from hzb.set_ 0 (.slice Ym ly cym))
    clear hka
    simp only [Act.put, putA, putZ, putC]
    refine on1 12 fun K hK => ?_
    go_simp
    refine hK.out _ _ (fun _ => ⟨cell_below Q1.out HB.out, cell_below Q2.out HB.out, cell_below Q3.out HB.out⟩) ?_
    clear hK K z0 y0 hza hzb
    try simp only [putA, putZ, putC]
    refine on1 13 fun K hK => ?_
    go_simp
    refine hK.out _ _ (fun h => absurd h (by decide)) ?_
    clear hK K
    try simp only [putA, putZ, putC]
    refine wpAnyC_done (by kernel_rfl) ?_ _
    go_wp2_with fail
    go_meet
    case rel => exact ⟨ga, gb, Xm, cxm, Ym, cym, Rm, crm, rfl, rfl, rfl, Lib.hid (HZA.out.cell 0), Lib.hid (HZB.out.cell 0), KX, KY, KR, HB⟩
  case rest =>
   obtain ⟨gx, gy, Xm, cxm, Ym, cym, Rm, crm, rfl, rfl, rfl, GX, GY, KX, KY, KR, HBa⟩ := hcut
   obtain ⟨w40, rfl⟩ : ∃ w40 : World, w40 = wc := ⟨_, rfl⟩
   clear HRS Q1 Q2 Q3
   have hz := below_new w40 (.cells #[.slice Xm lx cxm, .slice Ym ly cym, .slice Rm lr crm] 66)
   have hY := Blk.new w40 66 #[.slice Xm lx cxm, .slice Ym ly cym, .slice Rm lr crm]
   have x8 := GX.out
   have x9 := GY.out
   replace HBa := Lib.hid (HBa.out.trans (hz.mono HBa.out.size))
   have N0 := Lib.hid (show (w40.alloc (.cells #[.slice Xm lx cxm, .slice Ym ly cym, .slice Rm lr crm] 66)).cell? ⟨w40.heap.size, 0, none⟩ = some (.slice Xm lx cxm) from hY.cell 0)
   have N1 := Lib.hid (show (w40.alloc (.cells #[.slice Xm lx cxm, .slice Ym ly cym, .slice Rm lr crm] 66)).cell? ⟨w40.heap.size, 1, none⟩ = some (.slice Ym ly cym) from hY.cell 1)
   have N2 := Lib.hid (show (w40.alloc (.cells #[.slice Xm lx cxm, .slice Ym ly cym, .slice Rm lr crm] 66)).cell? ⟨w40.heap.size, 2, none⟩ = some (.slice Rm lr crm) from hY.cell 2)
   replace Q0 := Lib.hid (cell_below Q0.out HBa.out)
   replace Q4 := Lib.hid (cell_below Q4.out HBa.out)
   replace GA := Lib.hid (cell_below GA.out HBa.out)
   replace GB := Lib.hid (cell_below GB.out HBa.out)
   replace QM := Lib.hid (QM.out.below HBa.out)
   replace QB := Lib.hid (QB.out.below HBa.out)
   replace QC := Lib.hid (QC.out.below HBa.out)
   replace GX := Lib.hid (cell_below GX.out hz)
   replace GY := Lib.hid (cell_below GY.out hz)
   replace KX := Lib.hid (KX.out.below hz)
   replace KY := Lib.hid (KY.out.below hz)
   replace KR := Lib.hid (KR.out.below hz)
   replace HB1 := Lib.hid (HB1.out.trans (HBa.out.mono HB1.out.size))
   clear HBa hz hY
   go_wp2_with fail
   clear x8 x9
   generalize w40.alloc (.cells #[.slice Xm lx cxm, .slice Ym ly cym, .slice Rm lr crm] 66) = wS at *
   generalize w40.heap.size = gz at *
   have HB := Lib.hid (Below.refl wS.heap.size wS)
   refine wp_loop_rounds 4 ?_
   rw [rounds_succ]
   have zc := cell_below N0.out HB.out
   have HL := Lib.hid (show z = (allD (nnP (valsV (tx1 tx))) lx 0 && (nnL (valsV (tx1 ty)) && (nnL (valsV (tx1 tr)) && (if k = 0 then bestB (valsM (tx2 m)) (valsV (tx1 lb)) (valsV (tx1 lc)) (valsV (tx1 tx)) (valsV (tx1 ty)) (rval (SL s)) nb nc else if k = 1 then noneB (valsM (tx2 m)) (valsV (tx1 lb)) (valsV (tx1 ty)) nb nc else freeB (valsM (tx2 m)) (valsV (tx1 lb)) (valsV (tx1 lc)) (valsV (tx1 tx)) (valsV (tx1 tr)) nb)))) by rw [HZ.out, allD_zero]; unfold nnL; rw [QLX.out])
   go_wp2
   clear zc
   go_loopg [51] (lx - 0) (fun mm iv wr => ∃ i : Nat, mm = lx - i ∧ iv = I i ∧ i ≤ lx ∧ Hid (z = (allD (nnP (valsV (tx1 tx))) lx i && (nnL (valsV (tx1 ty)) && (nnL (valsV (tx1 tr)) && (if k = 0 then bestB (valsM (tx2 m)) (valsV (tx1 lb)) (valsV (tx1 lc)) (valsV (tx1 tx)) (valsV (tx1 ty)) (rval (SL s)) nb nc else if k = 1 then noneB (valsM (tx2 m)) (valsV (tx1 lb)) (valsV (tx1 ty)) nb nc else freeB (valsM (tx2 m)) (valsV (tx1 lb)) (valsV (tx1 lc)) (valsV (tx1 tx)) (valsV (tx1 tr)) nb))))) ∧ Hid (Below wS.heap.size wS wr))
   case atStart => exact ⟨0, rfl, rfl, by omega, HL, HB⟩
   case round =>
    clear HL HB HZ
    obtain ⟨i, rfl, rfl, hi, HL, HB⟩ := hrel
    obtain ⟨wa, rfl⟩ : ∃ wa : World, wa = wr := ⟨_, rfl⟩
    by_cases hil : i < lx
    ·obtain ⟨bq, oq, nb1, B1, l1, c1, B2, l2, c2, hAb, _, hC, hrt⟩ := (KX.out.below HB.out).form hil ((valsV (tx1 tx)).getD i 0) (by rw [List.getD_eq_getElem?_getD, List.getElem?_eq_getElem (by rw [QLX.out]; exact hil)]; rfl)
     have p0 := hC.c0
     have p1 := hC.c1
     have p2 := hC.c2
     have p3 := hC.c3
     subst hAb
     have RX := Lib.hid hrt
     clear hC hrt
     go_upto_region 9 with (fail)
     clear p0 p1 p2 p3
     obtain ⟨hv, hb⟩ := boxes1 wa (.bool nb1) (.slice B1 l1 c1) (.bool false) (.slice B2 l2 c2)
     replace RX := Lib.hid (RX.out.ext hb)
     replace HB := Lib.hid (HB.out.trans (hb.mono HB.out.size))
     unfold ratT at hv RX HB
     generalize wa.alloc (.cells #[.bool nb1, .slice B1 l1 c1, .bool false, .slice B2 l2 c2] 71) = wb at *
     have d0 := hv.c0
     have d1 := hv.c1
     have d2 := hv.c2
     have d3 := hv.c3
     clear hb
     have HC := Lib.hid (rsign_any _ _ wb RX.out)
     go_wp2_with fail
     refine HC.out.mono ?_
     rintro e wc ⟨rfl, hb⟩
     clear HC d0 d1 d2 d3 RX hv
     replace HB := Lib.hid (HB.out.trans (hb.mono HB.out.size))
     clear hb
     by_cases hneg : (valsV (tx1 tx)).getD i 0 < 0
     ·have tn : decide (((valsV (tx1 tx)).getD i 0).num.sign < 0) = true := neg_iff (decide_eq_true hneg)
      obtain rfl : z = false := by rw [HL.out, allD_step hil, nnP, decide_eq_true hneg]; rfl
      clear HL hneg
      generalize ((valsV (tx1 tx)).getD i 0).num.sign = sg at *
      go_wp2
      go_ret
      exact ⟨rfl, HB1.out.trans (HB.out.mono HB1.out.size)⟩
     ·have tn : decide (((valsV (tx1 tx)).getD i 0).num.sign < 0) = false := neg_iff (decide_eq_false hneg)
      have HLN := Lib.hid (show z = (allD (nnP (valsV (tx1 tx))) lx (i + 1) && (nnL (valsV (tx1 ty)) && (nnL (valsV (tx1 tr)) && (if k = 0 then bestB (valsM (tx2 m)) (valsV (tx1 lb)) (valsV (tx1 lc)) (valsV (tx1 tx)) (valsV (tx1 ty)) (rval (SL s)) nb nc else if k = 1 then noneB (valsM (tx2 m)) (valsV (tx1 lb)) (valsV (tx1 ty)) nb nc else freeB (valsM (tx2 m)) (valsV (tx1 lb)) (valsV (tx1 lc)) (valsV (tx1 tx)) (valsV (tx1 tr)) nb)))) by rw [HL.out, allD_step hil, nnP, decide_eq_false hneg]; rfl)
      clear HL hneg
      generalize ((valsV (tx1 tx)).getD i 0).num.sign = sg at *
      go_wp2
      go_roundg (lx - (i + 1))
      case measure => omega
      case rel => exact ⟨i + 1, rfl, by go_num, by omega, HLN, HB⟩
    ·obtain rfl : lx = i := by omega
     have HZ := Lib.hid (show z = (nnL (valsV (tx1 ty)) && (nnL (valsV (tx1 tr)) && (if k = 0 then bestB (valsM (tx2 m)) (valsV (tx1 lb)) (valsV (tx1 lc)) (valsV (tx1 tx)) (valsV (tx1 ty)) (rval (SL s)) nb nc else if k = 1 then noneB (valsM (tx2 m)) (valsV (tx1 lb)) (valsV (tx1 ty)) nb nc else freeB (valsM (tx2 m)) (valsV (tx1 lb)) (valsV (tx1 lc)) (valsV (tx1 tx)) (valsV (tx1 tr)) nb))) by rw [HL.out, allD_end, Bool.true_and])
     clear HL
     go_wp2
     rw [rounds_succ]
     have zc := cell_below N1.out HB.out
     have HL := Lib.hid (show z = (allD (nnP (valsV (tx1 ty))) ly 0 && (nnL (valsV (tx1 tr)) && (if k = 0 then bestB (valsM (tx2 m)) (valsV (tx1 lb)) (valsV (tx1 lc)) (valsV (tx1 tx)) (valsV (tx1 ty)) (rval (SL s)) nb nc else if k = 1 then noneB (valsM (tx2 m)) (valsV (tx1 lb)) (valsV (tx1 ty)) nb nc else freeB (valsM (tx2 m)) (valsV (tx1 lb)) (valsV (tx1 lc)) (valsV (tx1 tx)) (valsV (tx1 tr)) nb))) by rw [HZ.out, allD_zero]; unfold nnL; rw [QLY.out])
     go_wp2
     clear zc
     go_loopg [51] (ly - 0) (fun mm iv wr => ∃ i : Nat, mm = ly - i ∧ iv = I i ∧ i ≤ ly ∧ Hid (z = (allD (nnP (valsV (tx1 ty))) ly i && (nnL (valsV (tx1 tr)) && (if k = 0 then bestB (valsM (tx2 m)) (valsV (tx1 lb)) (valsV (tx1 lc)) (valsV (tx1 tx)) (valsV (tx1 ty)) (rval (SL s)) nb nc else if k = 1 then noneB (valsM (tx2 m)) (valsV (tx1 lb)) (valsV (tx1 ty)) nb nc else freeB (valsM (tx2 m)) (valsV (tx1 lb)) (valsV (tx1 lc)) (valsV (tx1 tx)) (valsV (tx1 tr)) nb)))) ∧ Hid (Below wS.heap.size wS wr))
     case atStart => exact ⟨0, rfl, rfl, by omega, HL, HB⟩
     case round =>
      clear HL HB HZ
      obtain ⟨i, rfl, rfl, hi, HL, HB⟩ := hrel
      obtain ⟨wa, rfl⟩ : ∃ wa : World, wa = wr := ⟨_, rfl⟩
      by_cases hil : i < ly
      ·obtain ⟨bq, oq, nb1, B1, l1, c1, B2, l2, c2, hAb, _, hC, hrt⟩ := (KY.out.below HB.out).form hil ((valsV (tx1 ty)).getD i 0) (by rw [List.getD_eq_getElem?_getD, List.getElem?_eq_getElem (by rw [QLY.out]; exact hil)]; rfl)
       have p0 := hC.c0
       have p1 := hC.c1
       have p2 := hC.c2
       have p3 := hC.c3
       subst hAb
       have RX := Lib.hid hrt
       clear hC hrt
       go_upto_region 9 with (fail)
       clear p0 p1 p2 p3
       obtain ⟨hv, hb⟩ := boxes1 wa (.bool nb1) (.slice B1 l1 c1) (.bool false) (.slice B2 l2 c2)
       replace RX := Lib.hid (RX.out.ext hb)
       replace HB := Lib.hid (HB.out.trans (hb.mono HB.out.size))
       unfold ratT at hv RX HB
       generalize wa.alloc (.cells #[.bool nb1, .slice B1 l1 c1, .bool false, .slice B2 l2 c2] 71) = wb at *
       have d0 := hv.c0
       have d1 := hv.c1
       have d2 := hv.c2
       have d3 := hv.c3
       clear hb
       have HC := Lib.hid (rsign_any _ _ wb RX.out)
       go_wp2_with fail
       refine HC.out.mono ?_
       rintro e wc ⟨rfl, hb⟩
       clear HC d0 d1 d2 d3 RX hv
       replace HB := Lib.hid (HB.out.trans (hb.mono HB.out.size))
       clear hb
       by_cases hneg : (valsV (tx1 ty)).getD i 0 < 0
       ·have tn : decide (((valsV (tx1 ty)).getD i 0).num.sign < 0) = true := neg_iff (decide_eq_true hneg)
        obtain rfl : z = false := by rw [HL.out, allD_step hil, nnP, decide_eq_true hneg]; rfl
        clear HL hneg
        generalize ((valsV (tx1 ty)).getD i 0).num.sign = sg at *
        go_wp2
        go_ret
        exact ⟨rfl, HB1.out.trans (HB.out.mono HB1.out.size)⟩
       ·have tn : decide (((valsV (tx1 ty)).getD i 0).num.sign < 0) = false := neg_iff (decide_eq_false hneg)
        have HLN := Lib.hid (show z = (allD (nnP (valsV (tx1 ty))) ly (i + 1) && (nnL (valsV (tx1 tr)) && (if k = 0 then bestB (valsM (tx2 m)) (valsV (tx1 lb)) (valsV (tx1 lc)) (valsV (tx1 tx)) (valsV (tx1 ty)) (rval (SL s)) nb nc else if k = 1 then noneB (valsM (tx2 m)) (valsV (tx1 lb)) (valsV (tx1 ty)) nb nc else freeB (valsM (tx2 m)) (valsV (tx1 lb)) (valsV (tx1 lc)) (valsV (tx1 tx)) (valsV (tx1 tr)) nb))) by rw [HL.out, allD_step hil, nnP, decide_eq_false hneg]; rfl)
        clear HL hneg
        generalize ((valsV (tx1 ty)).getD i 0).num.sign = sg at *
        go_wp2
        go_roundg (ly - (i + 1))
        case measure => omega
        case rel => exact ⟨i + 1, rfl, by go_num, by omega, HLN, HB⟩
      ·obtain rfl : ly = i := by omega
       have HZ := Lib.hid (show z = (nnL (valsV (tx1 tr)) && (if k = 0 then bestB (valsM (tx2 m)) (valsV (tx1 lb)) (valsV (tx1 lc)) (valsV (tx1 tx)) (valsV (tx1 ty)) (rval (SL s)) nb nc else if k = 1 then noneB (valsM (tx2 m)) (valsV (tx1 lb)) (valsV (tx1 ty)) nb nc else freeB (valsM (tx2 m)) (valsV (tx1 lb)) (valsV (tx1 lc)) (valsV (tx1 tx)) (valsV (tx1 tr)) nb)) by rw [HL.out, allD_end, Bool.true_and])
       clear HL
       go_wp2
       rw [rounds_succ]
       have zc := cell_below N2.out HB.out
       have HL := Lib.hid (show z = (allD (nnP (valsV (tx1 tr))) lr 0 && ((if k = 0 then bestB (valsM (tx2 m)) (valsV (tx1 lb)) (valsV (tx1 lc)) (valsV (tx1 tx)) (valsV (tx1 ty)) (rval (SL s)) nb nc else if k = 1 then noneB (valsM (tx2 m)) (valsV (tx1 lb)) (valsV (tx1 ty)) nb nc else freeB (valsM (tx2 m)) (valsV (tx1 lb)) (valsV (tx1 lc)) (valsV (tx1 tx)) (valsV (tx1 tr)) nb))) by rw [HZ.out, allD_zero]; unfold nnL; rw [QLR.out])
       go_wp2
       clear zc
       go_loopg [51] (lr - 0) (fun mm iv wr => ∃ i : Nat, mm = lr - i ∧ iv = I i ∧ i ≤ lr ∧ Hid (z = (allD (nnP (valsV (tx1 tr))) lr i && ((if k = 0 then bestB (valsM (tx2 m)) (valsV (tx1 lb)) (valsV (tx1 lc)) (valsV (tx1 tx)) (valsV (tx1 ty)) (rval (SL s)) nb nc else if k = 1 then noneB (valsM (tx2 m)) (valsV (tx1 lb)) (valsV (tx1 ty)) nb nc else freeB (valsM (tx2 m)) (valsV (tx1 lb)) (valsV (tx1 lc)) (valsV (tx1 tx)) (valsV (tx1 tr)) nb)))) ∧ Hid (Below wS.heap.size wS wr))
       case atStart => exact ⟨0, rfl, rfl, by omega, HL, HB⟩
       case round =>
        clear HL HB HZ
        obtain ⟨i, rfl, rfl, hi, HL, HB⟩ := hrel
        obtain ⟨wa, rfl⟩ : ∃ wa : World, wa = wr := ⟨_, rfl⟩
        by_cases hil : i < lr
        ·obtain ⟨bq, oq, nb1, B1, l1, c1, B2, l2, c2, hAb, _, hC, hrt⟩ := (KR.out.below HB.out).form hil ((valsV (tx1 tr)).getD i 0) (by rw [List.getD_eq_getElem?_getD, List.getElem?_eq_getElem (by rw [QLR.out]; exact hil)]; rfl)
         have p0 := hC.c0
         have p1 := hC.c1
         have p2 := hC.c2
         have p3 := hC.c3
         subst hAb
         have RX := Lib.hid hrt
         clear hC hrt
         go_upto_region 9 with (fail)
         clear p0 p1 p2 p3
         obtain ⟨hv, hb⟩ := boxes1 wa (.bool nb1) (.slice B1 l1 c1) (.bool false) (.slice B2 l2 c2)
         replace RX := Lib.hid (RX.out.ext hb)
         replace HB := Lib.hid (HB.out.trans (hb.mono HB.out.size))
         unfold ratT at hv RX HB
         generalize wa.alloc (.cells #[.bool nb1, .slice B1 l1 c1, .bool false, .slice B2 l2 c2] 71) = wb at *
         have d0 := hv.c0
         have d1 := hv.c1
         have d2 := hv.c2
         have d3 := hv.c3
         clear hb
         have HC := Lib.hid (rsign_any _ _ wb RX.out)
         go_wp2_with fail
         refine HC.out.mono ?_
         rintro e wc ⟨rfl, hb⟩
         clear HC d0 d1 d2 d3 RX hv
         replace HB := Lib.hid (HB.out.trans (hb.mono HB.out.size))
         clear hb
         by_cases hneg : (valsV (tx1 tr)).getD i 0 < 0
         ·have tn : decide (((valsV (tx1 tr)).getD i 0).num.sign < 0) = true := neg_iff (decide_eq_true hneg)
          obtain rfl : z = false := by rw [HL.out, allD_step hil, nnP, decide_eq_true hneg]; rfl
          clear HL hneg
          generalize ((valsV (tx1 tr)).getD i 0).num.sign = sg at *
          go_wp2
          go_ret
          exact ⟨rfl, HB1.out.trans (HB.out.mono HB1.out.size)⟩
         ·have tn : decide (((valsV (tx1 tr)).getD i 0).num.sign < 0) = false := neg_iff (decide_eq_false hneg)
          have HLN := Lib.hid (show z = (allD (nnP (valsV (tx1 tr))) lr (i + 1) && ((if k = 0 then bestB (valsM (tx2 m)) (valsV (tx1 lb)) (valsV (tx1 lc)) (valsV (tx1 tx)) (valsV (tx1 ty)) (rval (SL s)) nb nc else if k = 1 then noneB (valsM (tx2 m)) (valsV (tx1 lb)) (valsV (tx1 ty)) nb nc else freeB (valsM (tx2 m)) (valsV (tx1 lb)) (valsV (tx1 lc)) (valsV (tx1 tx)) (valsV (tx1 tr)) nb))) by rw [HL.out, allD_step hil, nnP, decide_eq_false hneg]; rfl)
          clear HL hneg
          generalize ((valsV (tx1 tr)).getD i 0).num.sign = sg at *
          go_wp2
          go_roundg (lr - (i + 1))
          case measure => omega
          case rel => exact ⟨i + 1, rfl, by go_num, by omega, HLN, HB⟩
        ·obtain rfl : lr = i := by omega
         have HZ := Lib.hid (show z = ((if k = 0 then bestB (valsM (tx2 m)) (valsV (tx1 lb)) (valsV (tx1 lc)) (valsV (tx1 tx)) (valsV (tx1 ty)) (rval (SL s)) nb nc else if k = 1 then noneB (valsM (tx2 m)) (valsV (tx1 lb)) (valsV (tx1 ty)) nb nc else freeB (valsM (tx2 m)) (valsV (tx1 lb)) (valsV (tx1 lc)) (valsV (tx1 tx)) (valsV (tx1 tr)) nb)) by rw [HL.out, allD_end, Bool.true_and])
         clear HL
         go_wp2
         rw [rounds_succ]
         go_upto_region 15 with (fail)
         clear N0 N1 N2
         have hk3 : k = 0 ∨ k = 1 ∨ k = 2 := by omega
         have x0 := cell_below Q0.out HB.out
         rcases hk3 with rfl | rfl | rfl
         ·obtain ⟨hlx, hly, hss, hrc, hfv⟩ := H0.out rfl
          have hle1 : nc ≤ lx := by omega
          have hle2 : nb ≤ ly := by omega
          clear hlx hly
          have HL := Lib.hid (show z = (allD (bestP (valsM (tx2 m)) (valsV (tx1 lc)) (valsV (tx1 ty)) nb) nc 0 && (feasQ (valsM (tx2 m)) (valsV (tx1 lb)) (valsV (tx1 tx)) && (decide (dotQ (valsV (tx1 lc)) (valsV (tx1 tx)) = (rval (SL s))) && decide (dotQ (valsV (tx1 lb)) (valsV (tx1 ty)) = (rval (SL s)))))) by rw [HZ.out, if_pos rfl, allD_zero]; rfl)
          have HRV := Lib.hid (rchk_val _ hrc)
          have HFV := Lib.hid hfv
          clear HZ H0 H1 H2 hrc hfv
          go_wp2
          clear x0
          go_loopg [68] (nc - 0) (fun mm iv wr => ∃ i : Nat, mm = nc - i ∧ iv = I i ∧ i ≤ nc ∧ Hid (z = (allD (bestP (valsM (tx2 m)) (valsV (tx1 lc)) (valsV (tx1 ty)) nb) nc i && (feasQ (valsM (tx2 m)) (valsV (tx1 lb)) (valsV (tx1 tx)) && (decide (dotQ (valsV (tx1 lc)) (valsV (tx1 tx)) = (rval (SL s))) && decide (dotQ (valsV (tx1 lb)) (valsV (tx1 ty)) = (rval (SL s))))))) ∧ Hid (Below wS.heap.size wS wr))
          case atStart => exact ⟨0, rfl, rfl, by omega, HL, HB⟩
          case round =>
           clear HL HB
           obtain ⟨i, rfl, rfl, hi, HL, HB⟩ := hrel
           obtain ⟨wa, rfl⟩ : ∃ wa : World, wa = wr := ⟨_, rfl⟩
           by_cases hil : i < nc
           ·obtain ⟨bq, oq, nb1, B1, l1, c1, B2, l2, c2, hAb, _, hC, hrt⟩ := (QC.out.below HB.out).form hil ((valsV (tx1 lc)).getD i 0) (by rw [List.getD_eq_getElem?_getD, List.getElem?_eq_getElem (by rw [HOK.out.hp.lc]; exact hil)]; rfl)
            subst hAb
            have CE := Lib.hid hC
            have RX := Lib.hid hrt
            clear hC hrt
            go_upto_region 20 with (fail)
            have hd := below_draw wa
            replace HB := Lib.hid (HB.out.trans (hd.mono HB.out.size))
            replace CE := Lib.hid (CE.out.below hd)
            replace RX := Lib.hid (RX.out.ext hd)
            clear hd
            refine wp_region_c (fun w' => w'.cell? ⟨bq, oq + i * 4, none⟩ = some (.bool nb1) ∧ w'.cell? ⟨bq, oq + i * 4 + 1, none⟩ = some (.slice B1 l1 c1) ∧ w'.cell? ⟨bq, oq + i * 4 + 2, none⟩ = some (.bool false) ∧ w'.cell? ⟨bq, oq + i * 4 + 3, none⟩ = some (.slice B2 l2 c2)) 8 (by kernel_rfl) ?_
            generalize wa.drew = wb at *
            refine tkS ⟨CE.out.c0, CE.out.c1, CE.out.c2, CE.out.c3⟩ fun hSS => ?_
            refine tq 0 (.func (.func 73) #[] #[.pointer (some ⟨ga, 0, none⟩), .pointer (some ⟨gy, 0, none⟩)]) rfl ?_ hSS ?_
            ·rintro w ⟨s0, s1, s2, s3⟩
             go_simp
            try simp only [Act.put, putA]
            refine tq 1 (I i) rfl ?_ hSS ?_
            ·rintro w ⟨s0, s1, s2, s3⟩
             go_simp
            try simp only [Act.put]
            refine tq 3 (.slice (some ⟨bq, oq, none⟩) nc ccm) rfl ?_ hSS ?_
            ·rintro w ⟨s0, s1, s2, s3⟩
             go_simp
            try simp only [Act.put]
            refine tq 4 (I i) rfl ?_ hSS ?_
            ·rintro w ⟨s0, s1, s2, s3⟩
             go_simp
            try simp only [Act.put]
            refine tq 5 (.pointer (some ⟨bq, oq + i * 4, none⟩)) rfl ?_ hSS ?_
            ·rintro w ⟨s0, s1, s2, s3⟩
             go_simp
            try simp only [Act.put]
            refine tq 6 (.agg #[.bool nb1, .slice B1 l1 c1, .bool false, .slice B2 l2 c2]) rfl ?_ hSS ?_
            ·rintro w ⟨s0, s1, s2, s3⟩
             go_simp
            try simp only [Act.put]
            refine on1 2 fun K hK => ?_
            go_simp
            go_at_call 73
            refine (mix_any i ga gy nb cm ly cym nc Am Ym (valsM (tx2 m)) (valsV (tx1 ty)) _ (cell_below GA.out HB.out) (cell_below GY.out HB.out) (QM.out.below HB.out) HOK.out.hp.row (KY.out.below HB.out) hil (by omega) (by omega) HFA.out HY.out.fit).mono ?_
            rintro e wc ⟨vm, rfl, hv, hb⟩
            have HMX := Lib.hid hv
            clear hv
            replace HB := Lib.hid (HB.out.trans (hb.mono HB.out.size))
            replace CE := Lib.hid (CE.out.below hb)
            replace RX := Lib.hid (RX.out.ext hb)
            clear hb
            refine hK.out _ _ (fun _ => ⟨CE.out.c0, CE.out.c1, CE.out.c2, CE.out.c3⟩) ?_
            clear hK K
            try simp only [Act.put, putA, putZ, putC]
            refine on1 7 fun K hK => ?_
            go_simp
            go_at_call 49
            refine (rcmp_any _ _ (mixQ (valsM (tx2 m)) (valsV (tx1 ty)) nb i) ((valsV (tx1 lc)).getD i 0) _ HMX.out RX.out (N := 200000) (Nat.le_of_ble_eq_true rfl) (mix_fitZ HFA.out HY.out.fit (by omega) i) ((HFC.out i).mono (Nat.le_of_ble_eq_true rfl))).mono ?_
            rintro e wd ⟨rfl, hb⟩
            replace HB := Lib.hid (HB.out.trans (hb.mono HB.out.size))
            replace CE := Lib.hid (CE.out.below hb)
            replace RX := Lib.hid (RX.out.ext hb)
            replace HMX := Lib.hid (HMX.out.ext hb)
            clear hb
            refine hK.out _ _ (fun _ => ⟨CE.out.c0, CE.out.c1, CE.out.c2, CE.out.c3⟩) ?_
            clear hK K
            try simp only [Act.put, putA, putZ, putC]
            rw [show ((mixQ (valsM (tx2 m)) (valsV (tx1 ty)) nb i).num * (((valsV (tx1 lc)).getD i 0).den : Int) - ((valsV (tx1 lc)).getD i 0).num * ((mixQ (valsM (tx2 m)) (valsV (tx1 ty)) nb i).den : Int)).sign = cmpQ (mixQ (valsM (tx2 m)) (valsV (tx1 ty)) nb i) ((valsV (tx1 lc)).getD i 0) from rfl]
            have HCM := Lib.hid (cmpQ_ltZ (x := mixQ (valsM (tx2 m)) (valsV (tx1 ty)) nb i) (y := (valsV (tx1 lc)).getD i 0))
            generalize cmpQ (mixQ (valsM (tx2 m)) (valsV (tx1 ty)) nb i) ((valsV (tx1 lc)).getD i 0) = cq at *
            refine on1 8 fun K hK => ?_
            go_simp
            refine hK.out _ _ (fun h => absurd h (by decide)) ?_
            clear hK K
            try simp only [Act.put, putA, putZ, putC]
            refine wpAnyC_done (by kernel_rfl) ?_ _
            rw [HCM.out]
            clear HCM HMX RX CE
            by_cases hlt : mixQ (valsM (tx2 m)) (valsV (tx1 ty)) nb i < (valsV (tx1 lc)).getD i 0
            ·rw [decide_eq_true hlt]
             obtain rfl : z = false := by rw [HL.out, allD_step hil, bestP, decide_eq_true hlt]; rfl
             clear HL hlt
             go_wp2
             go_ret
             exact ⟨rfl, HB1.out.trans (HB.out.mono HB1.out.size)⟩
            ·rw [decide_eq_false hlt]
             have HLN := Lib.hid (show z = (allD (bestP (valsM (tx2 m)) (valsV (tx1 lc)) (valsV (tx1 ty)) nb) nc (i + 1) && (feasQ (valsM (tx2 m)) (valsV (tx1 lb)) (valsV (tx1 tx)) && (decide (dotQ (valsV (tx1 lc)) (valsV (tx1 tx)) = (rval (SL s))) && decide (dotQ (valsV (tx1 lb)) (valsV (tx1 ty)) = (rval (SL s)))))) by rw [HL.out, allD_step hil, bestP, decide_eq_false hlt]; rfl)
             clear HL hlt
             go_wp2
             go_roundg (nc - (i + 1))
             case measure => omega
             case rel => exact ⟨i + 1, rfl, by go_num, by omega, HLN, HB⟩
           ·obtain rfl : nc = i := by omega
            replace HL := Lib.hid (show z = (feasQ (valsM (tx2 m)) (valsV (tx1 lb)) (valsV (tx1 tx)) && (decide (dotQ (valsV (tx1 lc)) (valsV (tx1 tx)) = (rval (SL s))) && decide (dotQ (valsV (tx1 lb)) (valsV (tx1 ty)) = (rval (SL s))))) by rw [HL.out, allD_end, Bool.true_and])
            have x4 := cell_below Q4.out HB.out
            have HC := Lib.hid (parse_any s wa hss HRV.out)
            go_wp2_with fail
            refine HC.out.mono ?_
            rintro e wb ⟨vp, rfl, hv, hb⟩
            clear HC x4
            obtain ⟨tb, T1, t1, u3, T2, t2, u4, rfl⟩ := hv.bools
            replace HB := Lib.hid (HB.out.trans (hb.mono HB.out.size))
            clear hb
            go_upto_region 24 with (fail)
            obtain ⟨hvv, hb⟩ := boxes1 wb (.bool tb) (.slice T1 t1 u3) (.bool false) (.slice T2 t2 u4)
            have VV := Lib.hid hvv
            have RX := Lib.hid (hv.ext hb)
            replace HB := Lib.hid (HB.out.trans (hb.mono HB.out.size))
            unfold ratT at VV RX HB
            generalize wb.alloc (.cells #[.bool tb, .slice T1 t1 u3, .bool false, .slice T2 t2 u4] 71) = wc at *
            generalize wb.heap.size = gv at *
            clear hv hvv hb
            have hd := below_draw wc
            replace HB := Lib.hid (HB.out.trans (hd.mono HB.out.size))
            replace VV := Lib.hid (VV.out.below hd)
            replace RX := Lib.hid (RX.out.ext hd)
            clear hd
            cases hfe : feasQ (valsM (tx2 m)) (valsV (tx1 lb)) (valsV (tx1 tx)) with
            | false =>
             rw [hfe] at HL
             obtain rfl : z = false := HL.out
             refine wp_region_c (fun w' => w'.cell? ⟨gx, 0, none⟩ = some (.slice Xm lx cxm) ∧ w'.cell? ⟨gb, 0, none⟩ = some (.slice Bm nb cbm) ∧ w'.cell? ⟨gy, 0, none⟩ = some (.slice Ym ly cym) ∧ w'.cell? ⟨gv, 0, none⟩ = some (.bool tb) ∧ w'.cell? ⟨gv, 1, none⟩ = some (.slice T1 t1 u3) ∧ w'.cell? ⟨gv, 2, none⟩ = some (.bool false) ∧ w'.cell? ⟨gv, 3, none⟩ = some (.slice T2 t2 u4)) 18 (by kernel_rfl) ?_
             generalize wc.drew = wd at *
             refine tq 0 (.func (.func 72) #[] #[.pointer (some ⟨ga, 0, none⟩), .pointer (some ⟨gx, 0, none⟩), .pointer (some ⟨gb, 0, none⟩)]) rfl ?_ ⟨(cell_below GX.out HB.out), (cell_below GB.out HB.out), (cell_below GY.out HB.out), VV.out.c0, VV.out.c1, VV.out.c2, VV.out.c3⟩ ?_
             ·rintro w ⟨s0, s1, s2, s3, s4, s5, s6⟩
              go_simp
             try simp only [Act.put, putA]
             refine on1 1 fun K hK => ?_
             go_simp
             go_at_call 72
             refine (feas_any ga gx gb nb cm lx cxm cbm nc Am Xm Bm (valsM (tx2 m)) (valsV (tx1 tx)) (valsV (tx1 lb)) _ (cell_below GA.out HB.out) (cell_below GX.out HB.out) (cell_below GB.out HB.out) (QM.out.below HB.out) HOK.out.hp.row (KX.out.below HB.out) (QB.out.below HB.out) (by omega) (by omega) (by omega) HFA.out HX.out.fit HFB.out).mono ?_
             rintro e we ⟨rfl, hb⟩
             rw [hfe]
             replace HB := Lib.hid (HB.out.trans (hb.mono HB.out.size))
             replace VV := Lib.hid (VV.out.below hb)
             replace RX := Lib.hid (RX.out.ext hb)
             clear hb
             refine hK.out _ _ (fun _ => ⟨(cell_below GX.out HB.out), (cell_below GB.out HB.out), (cell_below GY.out HB.out), VV.out.c0, VV.out.c1, VV.out.c2, VV.out.c3⟩) ?_
             clear hK K
             try simp only [Act.put, putA, putZ, putC]
             refine tkS ⟨(cell_below GX.out HB.out), (cell_below GB.out HB.out), (cell_below GY.out HB.out), VV.out.c0, VV.out.c1, VV.out.c2, VV.out.c3⟩ fun hSS => ?_
             refine tq 2 (.bool false) rfl ?_ hSS ?_
             ·rintro w ⟨s0, s1, s2, s3, s4, s5, s6⟩
              go_simp
             try simp only [Act.put, putA]
             refine tk8 3 undef rfl (Or.inr ⟨by kernel_rfl, rfl⟩) hSS ?_
             try simp only [Act.put]
             refine tk8 4 undef rfl (Or.inr ⟨by kernel_rfl, rfl⟩) hSS ?_
             try simp only [Act.put]
             refine tk8 6 undef rfl (Or.inr ⟨by kernel_rfl, rfl⟩) hSS ?_
             try simp only [Act.put]
             refine on1 5 fun K hK => ?_
             go_simp
             refine hK.out _ _ (fun _ => ⟨(cell_below GX.out HB.out), (cell_below GB.out HB.out), (cell_below GY.out HB.out), VV.out.c0, VV.out.c1, VV.out.c2, VV.out.c3⟩) ?_
             clear hK K
             try simp only [Act.put, putA, putZ, putC]
             refine on1 7 fun K hK => ?_
             go_simp
             refine hK.out _ _ (fun _ => ⟨(cell_below GX.out HB.out), (cell_below GB.out HB.out), (cell_below GY.out HB.out), VV.out.c0, VV.out.c1, VV.out.c2, VV.out.c3⟩) ?_
             clear hK K
             try simp only [Act.put, putA, putZ, putC]
             refine tkS ⟨(cell_below GX.out HB.out), (cell_below GB.out HB.out), (cell_below GY.out HB.out), VV.out.c0, VV.out.c1, VV.out.c2, VV.out.c3⟩ fun hSS => ?_
             refine tk8 8 undef rfl (Or.inr ⟨by kernel_rfl, rfl⟩) hSS ?_
             try simp only [Act.put, putA]
             refine tq 9 (.bool false) rfl ?_ hSS ?_
             ·rintro w ⟨s0, s1, s2, s3, s4, s5, s6⟩
              go_simp
             try simp only [Act.put]
             refine tq 10 (.bool false) rfl ?_ hSS ?_
             ·rintro w ⟨s0, s1, s2, s3, s4, s5, s6⟩
              go_simp
             try simp only [Act.put]
             refine tk8 11 undef rfl (Or.inr ⟨by kernel_rfl, rfl⟩) hSS ?_
             try simp only [Act.put]
             refine tk8 12 undef rfl (Or.inr ⟨by kernel_rfl, rfl⟩) hSS ?_
             try simp only [Act.put]
             refine tk8 14 undef rfl (Or.inr ⟨by kernel_rfl, rfl⟩) hSS ?_
             try simp only [Act.put]
             refine on1 13 fun K hK => ?_
             go_simp
             refine hK.out _ _ (fun _ => ⟨(cell_below GX.out HB.out), (cell_below GB.out HB.out), (cell_below GY.out HB.out), VV.out.c0, VV.out.c1, VV.out.c2, VV.out.c3⟩) ?_
             clear hK K
             try simp only [Act.put, putA, putZ, putC]
             refine on1 15 fun K hK => ?_
             go_simp
             refine hK.out _ _ (fun _ => ⟨(cell_below GX.out HB.out), (cell_below GB.out HB.out), (cell_below GY.out HB.out), VV.out.c0, VV.out.c1, VV.out.c2, VV.out.c3⟩) ?_
             clear hK K
             try simp only [Act.put, putA, putZ, putC]
             refine tkS ⟨(cell_below GX.out HB.out), (cell_below GB.out HB.out), (cell_below GY.out HB.out), VV.out.c0, VV.out.c1, VV.out.c2, VV.out.c3⟩ fun hSS => ?_
             refine tk8 16 undef rfl (Or.inr ⟨by kernel_rfl, rfl⟩) hSS ?_
             try simp only [Act.put, putA]
             refine tq 17 (.bool false) rfl ?_ hSS ?_
             ·rintro w ⟨s0, s1, s2, s3, s4, s5, s6⟩
              go_simp
             try simp only [Act.put]
             refine on1 18 fun K hK => ?_
             go_simp
             refine hK.out _ _ (fun h => absurd h (by decide)) ?_
             clear hK K
             try simp only [Act.put, putA, putZ, putC]
             refine wpAnyC_done (by kernel_rfl) ?_ _
             go_wp2
             go_ret
             exact ⟨rfl, HB1.out.trans (HB.out.mono HB1.out.size)⟩
            | true =>
             rw [hfe] at HL
             refine wp_region_c (fun w' => w'.cell? ⟨gx, 0, none⟩ = some (.slice Xm lx cxm) ∧ w'.cell? ⟨gb, 0, none⟩ = some (.slice Bm nb cbm) ∧ w'.cell? ⟨gy, 0, none⟩ = some (.slice Ym ly cym) ∧ w'.cell? ⟨gv, 0, none⟩ = some (.bool tb) ∧ w'.cell? ⟨gv, 1, none⟩ = some (.slice T1 t1 u3) ∧ w'.cell? ⟨gv, 2, none⟩ = some (.bool false) ∧ w'.cell? ⟨gv, 3, none⟩ = some (.slice T2 t2 u4)) 18 (by kernel_rfl) ?_
             generalize wc.drew = wd at *
             refine tq 0 (.func (.func 72) #[] #[.pointer (some ⟨ga, 0, none⟩), .pointer (some ⟨gx, 0, none⟩), .pointer (some ⟨gb, 0, none⟩)]) rfl ?_ ⟨(cell_below GX.out HB.out), (cell_below GB.out HB.out), (cell_below GY.out HB.out), VV.out.c0, VV.out.c1, VV.out.c2, VV.out.c3⟩ ?_
             ·rintro w ⟨s0, s1, s2, s3, s4, s5, s6⟩
              go_simp
             try simp only [Act.put, putA]
             refine on1 1 fun K hK => ?_
             go_simp
             go_at_call 72
             refine (feas_any ga gx gb nb cm lx cxm cbm nc Am Xm Bm (valsM (tx2 m)) (valsV (tx1 tx)) (valsV (tx1 lb)) _ (cell_below GA.out HB.out) (cell_below GX.out HB.out) (cell_below GB.out HB.out) (QM.out.below HB.out) HOK.out.hp.row (KX.out.below HB.out) (QB.out.below HB.out) (by omega) (by omega) (by omega) HFA.out HX.out.fit HFB.out).mono ?_
             rintro e we ⟨rfl, hb⟩
             rw [hfe]
             replace HB := Lib.hid (HB.out.trans (hb.mono HB.out.size))
             replace VV := Lib.hid (VV.out.below hb)
             replace RX := Lib.hid (RX.out.ext hb)
             clear hb
             refine hK.out _ _ (fun _ => ⟨(cell_below GX.out HB.out), (cell_below GB.out HB.out), (cell_below GY.out HB.out), VV.out.c0, VV.out.c1, VV.out.c2, VV.out.c3⟩) ?_
             clear hK K
             try simp only [Act.put, putA, putZ, putC]
             refine tkS ⟨(cell_below GX.out HB.out), (cell_below GB.out HB.out), (cell_below GY.out HB.out), VV.out.c0, VV.out.c1, VV.out.c2, VV.out.c3⟩ fun hSS => ?_
             refine tq 2 (.bool true) rfl ?_ hSS ?_
             ·rintro w ⟨s0, s1, s2, s3, s4, s5, s6⟩
              go_simp
             try simp only [Act.put, putA]
             refine tq 3 (.slice Cm nc ccm) rfl ?_ hSS ?_
             ·rintro w ⟨s0, s1, s2, s3, s4, s5, s6⟩
              go_simp
             try simp only [Act.put]
             refine tq 4 (.slice Xm lx cxm) rfl ?_ hSS ?_
             ·rintro w ⟨s0, s1, s2, s3, s4, s5, s6⟩
              go_simp
             try simp only [Act.put]
             refine tq 6 (.agg #[.bool tb, .slice T1 t1 u3, .bool false, .slice T2 t2 u4]) rfl ?_ hSS ?_
             ·rintro w ⟨s0, s1, s2, s3, s4, s5, s6⟩
              go_simp
             try simp only [Act.put]
             refine wpAnyC_oneW (i := 5) (by kernel_rfl) rfl (by kernel_rfl) (fun K hK => ?_)
             go_simp
             go_at_call 44
             refine (dot_any (valsV (tx1 lc)) (valsV (tx1 tx)) nc Cm Xm ccm lx cxm _ (QC.out.below HB.out) (KX.out.below HB.out) (by omega) (by omega) (N := 200000) (Nat.le_of_ble_eq_true rfl) (dot_fitZ (n := nc) (Nat.le_of_eq HOK.out.hp.lc) (by omega) HFC.out HX.out.fit)).mono ?_
             rintro e wf ⟨vd, rfl, hv, hb⟩
             have RD := Lib.hid hv
             clear hv
             replace HB := Lib.hid (HB.out.trans (hb.mono HB.out.size))
             replace VV := Lib.hid (VV.out.below hb)
             replace RX := Lib.hid (RX.out.ext hb)
             clear hb
             refine hK.out _ _ (fun _ => ⟨(cell_below GX.out HB.out), (cell_below GB.out HB.out), (cell_below GY.out HB.out), VV.out.c0, VV.out.c1, VV.out.c2, VV.out.c3⟩) ?_
             clear hK K
             try simp only [Act.put, putA, putZ, putC]
             refine wpAnyC_oneW (i := 7) (by kernel_rfl) rfl (by kernel_rfl) (fun K hK => ?_)
             go_simp
             go_at_call 49
             refine (rcmp_any _ _ (dotQ (valsV (tx1 lc)) (valsV (tx1 tx))) (rval (SL s)) _ RD.out RX.out (N := 200000) (Nat.le_of_ble_eq_true rfl) ((dot_fitZ (r := (valsV (tx1 lc))) (x := (valsV (tx1 tx))) (n := nc) (Nat.le_of_eq HOK.out.hp.lc) (by omega) HFC.out HX.out.fit).sum _ (Nat.le_refl _)) (HFV.out.mono (Nat.le_of_ble_eq_true rfl))).mono ?_
             rintro e wg ⟨rfl, hb⟩
             replace HB := Lib.hid (HB.out.trans (hb.mono HB.out.size))
             replace VV := Lib.hid (VV.out.below hb)
             replace RX := Lib.hid (RX.out.ext hb)
             replace RD := Lib.hid (RD.out.ext hb)
             clear hb
             refine hK.out _ _ (fun _ => ⟨(cell_below GX.out HB.out), (cell_below GB.out HB.out), (cell_below GY.out HB.out), VV.out.c0, VV.out.c1, VV.out.c2, VV.out.c3⟩) ?_
             clear hK K
             try simp only [Act.put, putA, putZ, putC]
             rw [show ((dotQ (valsV (tx1 lc)) (valsV (tx1 tx))).num * (((rval (SL s))).den : Int) - ((rval (SL s))).num * ((dotQ (valsV (tx1 lc)) (valsV (tx1 tx))).den : Int)).sign = cmpQ (dotQ (valsV (tx1 lc)) (valsV (tx1 tx))) ((rval (SL s))) from rfl]
             have HCM := Lib.hid (cmpQ_eqZ (x := dotQ (valsV (tx1 lc)) (valsV (tx1 tx))) (y := (rval (SL s))))
             generalize cmpQ (dotQ (valsV (tx1 lc)) (valsV (tx1 tx))) ((rval (SL s))) = cq at *
             by_cases hd1 : dotQ (valsV (tx1 lc)) (valsV (tx1 tx)) = (rval (SL s))
             rotate_left
             ·rw [decide_eq_false hd1] at HCM HL
              obtain rfl : z = false := HL.out
              clear hd1
              have hcq := HCM.out
              refine tkS ⟨(cell_below GX.out HB.out), (cell_below GB.out HB.out), (cell_below GY.out HB.out), VV.out.c0, VV.out.c1, VV.out.c2, VV.out.c3⟩ fun hSS => ?_
              refine tq 8 (.bool false) rfl ?_ hSS ?_
              ·rintro w ⟨s0, s1, s2, s3, s4, s5, s6⟩
               go_simp
              try simp only [Act.put, putA]
              refine tq 9 (.bool false) rfl ?_ hSS ?_
              ·rintro w ⟨s0, s1, s2, s3, s4, s5, s6⟩
               go_simp
              try simp only [Act.put]
              refine tq 10 (.bool false) rfl ?_ hSS ?_
              ·rintro w ⟨s0, s1, s2, s3, s4, s5, s6⟩
               go_simp
              try simp only [Act.put]
              refine tk8 11 undef rfl (Or.inr ⟨by kernel_rfl, rfl⟩) hSS ?_
              try simp only [Act.put]
              refine tk8 12 undef rfl (Or.inr ⟨by kernel_rfl, rfl⟩) hSS ?_
              try simp only [Act.put]
              refine tk8 14 undef rfl (Or.inr ⟨by kernel_rfl, rfl⟩) hSS ?_
              try simp only [Act.put]
              refine on1 13 fun K hK => ?_
              go_simp
              refine hK.out _ _ (fun _ => ⟨(cell_below GX.out HB.out), (cell_below GB.out HB.out), (cell_below GY.out HB.out), VV.out.c0, VV.out.c1, VV.out.c2, VV.out.c3⟩) ?_
              clear hK K
              try simp only [Act.put, putA, putZ, putC]
              refine on1 15 fun K hK => ?_
              go_simp
              refine hK.out _ _ (fun _ => ⟨(cell_below GX.out HB.out), (cell_below GB.out HB.out), (cell_below GY.out HB.out), VV.out.c0, VV.out.c1, VV.out.c2, VV.out.c3⟩) ?_
              clear hK K
              try simp only [Act.put, putA, putZ, putC]
              refine tkS ⟨(cell_below GX.out HB.out), (cell_below GB.out HB.out), (cell_below GY.out HB.out), VV.out.c0, VV.out.c1, VV.out.c2, VV.out.c3⟩ fun hSS => ?_
              refine tk8 16 undef rfl (Or.inr ⟨by kernel_rfl, rfl⟩) hSS ?_
              try simp only [Act.put, putA]
              refine tq 17 (.bool false) rfl ?_ hSS ?_
              ·rintro w ⟨s0, s1, s2, s3, s4, s5, s6⟩
               go_simp
              try simp only [Act.put]
              refine on1 18 fun K hK => ?_
              go_simp
              refine hK.out _ _ (fun h => absurd h (by decide)) ?_
              clear hK K
              try simp only [Act.put, putA, putZ, putC]
              refine wpAnyC_done (by kernel_rfl) ?_ _
              go_wp2
              go_ret
              exact ⟨rfl, HB1.out.trans (HB.out.mono HB1.out.size)⟩
             rw [decide_eq_true hd1] at HCM HL
             have hcq := HCM.out
             clear hd1
             refine tkS ⟨(cell_below GX.out HB.out), (cell_below GB.out HB.out), (cell_below GY.out HB.out), VV.out.c0, VV.out.c1, VV.out.c2, VV.out.c3⟩ fun hSS => ?_
             refine tq 8 (.bool true) rfl ?_ hSS ?_
             ·rintro w ⟨s0, s1, s2, s3, s4, s5, s6⟩
              go_simp
             try simp only [Act.put, putA]
             refine tq 9 (.bool true) rfl ?_ hSS ?_
             ·rintro w ⟨s0, s1, s2, s3, s4, s5, s6⟩
              go_simp
             try simp only [Act.put]
             refine tq 10 (.bool true) rfl ?_ hSS ?_
             ·rintro w ⟨s0, s1, s2, s3, s4, s5, s6⟩
              go_simp
             try simp only [Act.put]
             clear hcq HCM RD
             refine tkS ⟨(cell_below GX.out HB.out), (cell_below GB.out HB.out), (cell_below GY.out HB.out), VV.out.c0, VV.out.c1, VV.out.c2, VV.out.c3⟩ fun hSS => ?_
             refine tq 11 (.slice Bm nb cbm) rfl ?_ hSS ?_
             ·rintro w ⟨s0, s1, s2, s3, s4, s5, s6⟩
              go_simp
             try simp only [Act.put]
             refine tq 12 (.slice Ym ly cym) rfl ?_ hSS ?_
             ·rintro w ⟨s0, s1, s2, s3, s4, s5, s6⟩
              go_simp
             try simp only [Act.put]
             refine tq 14 (.agg #[.bool tb, .slice T1 t1 u3, .bool false, .slice T2 t2 u4]) rfl ?_ hSS ?_
             ·rintro w ⟨s0, s1, s2, s3, s4, s5, s6⟩
              go_simp
             try simp only [Act.put]
             refine wpAnyC_oneW (i := 13) (by kernel_rfl) rfl (by kernel_rfl) (fun K hK => ?_)
             go_simp
             go_at_call 44
             refine (dot_any (valsV (tx1 lb)) (valsV (tx1 ty)) nb Bm Ym cbm ly cym _ (QB.out.below HB.out) (KY.out.below HB.out) (by omega) (by omega) (N := 200000) (Nat.le_of_ble_eq_true rfl) (dot_fitZ (n := nb) (Nat.le_of_eq HOK.out.hp.lb) (by omega) HFB.out HY.out.fit)).mono ?_
             rintro e wh ⟨vd2, rfl, hv, hb⟩
             have RD := Lib.hid hv
             clear hv
             replace HB := Lib.hid (HB.out.trans (hb.mono HB.out.size))
             replace VV := Lib.hid (VV.out.below hb)
             replace RX := Lib.hid (RX.out.ext hb)
             clear hb
             refine hK.out _ _ (fun _ => ⟨(cell_below GX.out HB.out), (cell_below GB.out HB.out), (cell_below GY.out HB.out), VV.out.c0, VV.out.c1, VV.out.c2, VV.out.c3⟩) ?_
             clear hK K
             try simp only [Act.put, putA, putZ, putC]
             refine wpAnyC_oneW (i := 15) (by kernel_rfl) rfl (by kernel_rfl) (fun K hK => ?_)
             go_simp
             go_at_call 49
             refine (rcmp_any _ _ (dotQ (valsV (tx1 lb)) (valsV (tx1 ty))) (rval (SL s)) _ RD.out RX.out (N := 200000) (Nat.le_of_ble_eq_true rfl) ((dot_fitZ (r := (valsV (tx1 lb))) (x := (valsV (tx1 ty))) (n := nb) (Nat.le_of_eq HOK.out.hp.lb) (by omega) HFB.out HY.out.fit).sum _ (Nat.le_refl _)) (HFV.out.mono (Nat.le_of_ble_eq_true rfl))).mono ?_
             rintro e wi ⟨rfl, hb⟩
             replace HB := Lib.hid (HB.out.trans (hb.mono HB.out.size))
             replace VV := Lib.hid (VV.out.below hb)
             replace RX := Lib.hid (RX.out.ext hb)
             replace RD := Lib.hid (RD.out.ext hb)
             clear hb
             refine hK.out _ _ (fun _ => ⟨(cell_below GX.out HB.out), (cell_below GB.out HB.out), (cell_below GY.out HB.out), VV.out.c0, VV.out.c1, VV.out.c2, VV.out.c3⟩) ?_
             clear hK K
             try simp only [Act.put, putA, putZ, putC]
             rw [show ((dotQ (valsV (tx1 lb)) (valsV (tx1 ty))).num * (((rval (SL s))).den : Int) - ((rval (SL s))).num * ((dotQ (valsV (tx1 lb)) (valsV (tx1 ty))).den : Int)).sign = cmpQ (dotQ (valsV (tx1 lb)) (valsV (tx1 ty))) ((rval (SL s))) from rfl]
             have HCM := Lib.hid (cmpQ_eqZ (x := dotQ (valsV (tx1 lb)) (valsV (tx1 ty))) (y := (rval (SL s))))
             generalize cmpQ (dotQ (valsV (tx1 lb)) (valsV (tx1 ty))) ((rval (SL s))) = cq2 at *
             obtain rfl : z = (cq2 == 0) := by rw [HCM.out]; exact HL.out
             clear HCM HL
             refine tkS ⟨(cell_below GX.out HB.out), (cell_below GB.out HB.out), (cell_below GY.out HB.out), VV.out.c0, VV.out.c1, VV.out.c2, VV.out.c3⟩ fun hSS => ?_
             refine tq 16 (.bool (cq2 == 0)) rfl ?_ hSS ?_
             ·rintro w ⟨s0, s1, s2, s3, s4, s5, s6⟩
              go_simp
             try simp only [Act.put, putA]
             refine tq 17 (.bool (cq2 == 0)) rfl ?_ hSS ?_
             ·rintro w ⟨s0, s1, s2, s3, s4, s5, s6⟩
              go_simp
             try simp only [Act.put]
             refine on1 18 fun K hK => ?_
             go_simp
             refine hK.out _ _ (fun h => absurd h (by decide)) ?_
             clear hK K
             try simp only [Act.put, putA, putZ, putC]
             refine wpAnyC_done (by kernel_rfl) ?_ _
             go_wp2
             go_ret
             exact ⟨rfl, HB1.out.trans (HB.out.mono HB1.out.size)⟩
         ·have hle2 : nb ≤ ly := by have := H1.out rfl; omega
          have HL := Lib.hid (show z = (allD (noneP (valsM (tx2 m)) (valsV (tx1 ty)) nb) nc 0 && decide (dotQ (valsV (tx1 lb)) (valsV (tx1 ty)) < 0)) by rw [HZ.out, if_neg (by decide), if_pos rfl, allD_zero]; rfl)
          clear HZ H0 H1 H2
          go_wp2
          clear x0
          go_loopg [106] (nc - 0) (fun mm iv wr => ∃ i : Nat, mm = nc - i ∧ iv = I i ∧ i ≤ nc ∧ Hid (z = (allD (noneP (valsM (tx2 m)) (valsV (tx1 ty)) nb) nc i && decide (dotQ (valsV (tx1 lb)) (valsV (tx1 ty)) < 0))) ∧ Hid (Below wS.heap.size wS wr))
          case atStart => exact ⟨0, rfl, rfl, by omega, HL, HB⟩
          case round =>
           clear HL HB
           obtain ⟨i, rfl, rfl, hi, HL, HB⟩ := hrel
           obtain ⟨wa, rfl⟩ : ∃ wa : World, wa = wr := ⟨_, rfl⟩
           by_cases hil : i < nc
           ·have HC := Lib.hid (mix_any i ga gy nb cm ly cym nc Am Ym (valsM (tx2 m)) (valsV (tx1 ty)) wa (cell_below GA.out HB.out) (cell_below GY.out HB.out) (QM.out.below HB.out) HOK.out.hp.row (KY.out.below HB.out) hil (by omega) (by omega) HFA.out HY.out.fit)
            go_wp2_with fail
            refine HC.out.mono ?_
            rintro e wb ⟨vm, rfl, hv, hb⟩
            clear HC
            replace HB := Lib.hid (HB.out.trans (hb.mono HB.out.size))
            clear hb
            have HC := Lib.hid (rsign_any _ (mixQ (valsM (tx2 m)) (valsV (tx1 ty)) nb i) wb hv)
            go_wp2_with fail
            refine HC.out.mono ?_
            rintro e wc ⟨rfl, hb⟩
            clear HC hv
            replace HB := Lib.hid (HB.out.trans (hb.mono HB.out.size))
            clear hb
            by_cases hlt : mixQ (valsM (tx2 m)) (valsV (tx1 ty)) nb i < 0
            ·have tn : decide ((mixQ (valsM (tx2 m)) (valsV (tx1 ty)) nb i).num.sign < 0) = true := neg_iff (decide_eq_true hlt)
             obtain rfl : z = false := by rw [HL.out, allD_step hil, noneP, decide_eq_true hlt]; rfl
             clear HL hlt
             generalize (mixQ (valsM (tx2 m)) (valsV (tx1 ty)) nb i).num.sign = sg at *
             go_wp2
             go_ret
             exact ⟨rfl, HB1.out.trans (HB.out.mono HB1.out.size)⟩
            ·have tn : decide ((mixQ (valsM (tx2 m)) (valsV (tx1 ty)) nb i).num.sign < 0) = false := neg_iff (decide_eq_false hlt)
             have HLN := Lib.hid (show z = (allD (noneP (valsM (tx2 m)) (valsV (tx1 ty)) nb) nc (i + 1) && decide (dotQ (valsV (tx1 lb)) (valsV (tx1 ty)) < 0)) by rw [HL.out, allD_step hil, noneP, decide_eq_false hlt]; rfl)
             clear HL hlt
             generalize (mixQ (valsM (tx2 m)) (valsV (tx1 ty)) nb i).num.sign = sg at *
             go_wp2
             go_roundg (nc - (i + 1))
             case measure => omega
             case rel => exact ⟨i + 1, rfl, by go_num, by omega, HLN, HB⟩
           ·obtain rfl : nc = i := by omega
            replace HL := Lib.hid (show z = decide (dotQ (valsV (tx1 lb)) (valsV (tx1 ty)) < 0) by rw [HL.out, allD_end, Bool.true_and])
            have x6 := cell_below GB.out HB.out
            have x9 := cell_below GY.out HB.out
            have HC := Lib.hid (dot_any (valsV (tx1 lb)) (valsV (tx1 ty)) nb Bm Ym cbm ly cym wa (QB.out.below HB.out) (KY.out.below HB.out) (by omega) (by omega) (N := 200000) (Nat.le_of_ble_eq_true rfl) (dot_fitZ (n := nb) (Nat.le_of_eq HOK.out.hp.lb) (by omega) HFB.out HY.out.fit))
            go_wp2_with fail
            refine HC.out.mono ?_
            rintro e wb ⟨vd, rfl, hv, hb⟩
            clear HC
            replace HB := Lib.hid (HB.out.trans (hb.mono HB.out.size))
            clear hb
            have HC := Lib.hid (rsign_any _ (dotQ (valsV (tx1 lb)) (valsV (tx1 ty))) wb hv)
            go_wp2_with fail
            refine HC.out.mono ?_
            rintro e wc ⟨rfl, hb⟩
            clear HC hv
            replace HB := Lib.hid (HB.out.trans (hb.mono HB.out.size))
            clear hb
            clear x6 x9
            have tn : decide ((dotQ (valsV (tx1 lb)) (valsV (tx1 ty))).num.sign < 0) = z := neg_iff HL.out.symm
            generalize (dotQ (valsV (tx1 lb)) (valsV (tx1 ty))).num.sign = sg at *
            clear HL
            go_wp2
            go_ret
            exact ⟨rfl, HB1.out.trans (HB.out.mono HB1.out.size)⟩
         ·obtain ⟨hlx, hlr⟩ := H2.out rfl
          have hle1 : nc ≤ lx := by omega
          have hle2 : nc ≤ lr := by omega
          clear hlx hlr
          have HL := Lib.hid (show z = (allD (freeP (valsM (tx2 m)) (valsV (tx1 tr))) nb 0 && (feasQ (valsM (tx2 m)) (valsV (tx1 lb)) (valsV (tx1 tx)) && decide (0 < dotQ (valsV (tx1 lc)) (valsV (tx1 tr))))) by rw [HZ.out, if_neg (by decide), if_neg (by decide), allD_zero]; rfl)
          clear HZ H0 H1 H2
          have x5 := cell_below GA.out HB.out
          go_wp2
          clear x0 x5
          go_loopg [122] (nb - 0) (fun mm iv wr => ∃ i : Nat, mm = nb - i ∧ iv = I i ∧ i ≤ nb ∧ Hid (z = (allD (freeP (valsM (tx2 m)) (valsV (tx1 tr))) nb i && (feasQ (valsM (tx2 m)) (valsV (tx1 lb)) (valsV (tx1 tx)) && decide (0 < dotQ (valsV (tx1 lc)) (valsV (tx1 tr)))))) ∧ Hid (Below wS.heap.size wS wr))
          case atStart => exact ⟨0, rfl, rfl, by omega, HL, HB⟩
          case round =>
           clear HL HB
           obtain ⟨i, rfl, rfl, hi, HL, HB⟩ := hrel
           obtain ⟨wa, rfl⟩ : ∃ wa : World, wa = wr := ⟨_, rfl⟩
           by_cases hil : i < nb
           ·obtain ⟨r, hr⟩ : ∃ r, (valsM (tx2 m))[i]? = some r := ⟨_, List.getElem?_eq_getElem (by rw [HOK.out.hp.len]; exact hil)⟩
            have hge : (valsM (tx2 m)).getD i [] = r := by rw [List.getD_eq_getElem?_getD, hr]; rfl
            have hrl : r.length = nc := HOK.out.hp.row r (List.mem_of_getElem? hr)
            have hrf : ∀ j, FitR 1000 (r.getD j 0) := fun j => by have h := HFA.out i j; rw [ent, hge] at h; exact h
            obtain ⟨ba, oa, Bx, d, hAb, _, hc, hrx⟩ := (QM.out.below HB.out).at_ hil r hr
            subst hAb
            rw [hrl] at hc hrx
            have HC := Lib.hid (dot_any r (valsV (tx1 tr)) nc Bx Rm d lr crm wa hrx (KR.out.below HB.out) (by omega) (by omega) (N := 200000) (Nat.le_of_ble_eq_true rfl) (dot_fitZ (n := nc) (Nat.le_of_eq hrl) (by omega) hrf HR.out.fit))
            have HLS := Lib.hid (show z = (!decide (0 < dotQ r (valsV (tx1 tr))) && (allD (freeP (valsM (tx2 m)) (valsV (tx1 tr))) nb (i + 1) && (feasQ (valsM (tx2 m)) (valsV (tx1 lb)) (valsV (tx1 tx)) && decide (0 < dotQ (valsV (tx1 lc)) (valsV (tx1 tr)))))) by rw [HL.out, allD_step hil, freeP, hge, Bool.and_assoc])
            clear HL hge hrf hrl hr
            go_wp2_with fail
            refine HC.out.mono ?_
            rintro e wb ⟨vd, rfl, hv, hb⟩
            clear HC
            replace HB := Lib.hid (HB.out.trans (hb.mono HB.out.size))
            clear hb
            have HC := Lib.hid (rsign_any _ (dotQ r (valsV (tx1 tr))) wb hv)
            go_wp2_with fail
            refine HC.out.mono ?_
            rintro e wc ⟨rfl, hb⟩
            clear HC hv
            replace HB := Lib.hid (HB.out.trans (hb.mono HB.out.size))
            clear hb
            clear hc hrx
            by_cases hlt : 0 < dotQ r (valsV (tx1 tr))
            ·have tn : decide (0 < (dotQ r (valsV (tx1 tr))).num.sign) = true := pos_iffZ (decide_eq_true hlt)
             obtain rfl : z = false := by rw [HLS.out, decide_eq_true hlt]; rfl
             clear HLS hlt
             generalize (dotQ r (valsV (tx1 tr))).num.sign = sg at *
             go_wp2
             go_ret
             exact ⟨rfl, HB1.out.trans (HB.out.mono HB1.out.size)⟩
            ·have tn : decide (0 < (dotQ r (valsV (tx1 tr))).num.sign) = false := pos_iffZ (decide_eq_false hlt)
             have HLN := Lib.hid (show z = (allD (freeP (valsM (tx2 m)) (valsV (tx1 tr))) nb (i + 1) && (feasQ (valsM (tx2 m)) (valsV (tx1 lb)) (valsV (tx1 tx)) && decide (0 < dotQ (valsV (tx1 lc)) (valsV (tx1 tr))))) by rw [HLS.out, decide_eq_false hlt]; rfl)
             clear HLS hlt
             generalize (dotQ r (valsV (tx1 tr))).num.sign = sg at *
             go_wp2
             go_roundg (nb - (i + 1))
             case measure => omega
             case rel => exact ⟨i + 1, rfl, by go_num, by omega, HLN, HB⟩
           ·obtain rfl : nb = i := by omega
            replace HL := Lib.hid (show z = (feasQ (valsM (tx2 m)) (valsV (tx1 lb)) (valsV (tx1 tx)) && decide (0 < dotQ (valsV (tx1 lc)) (valsV (tx1 tr)))) by rw [HL.out, allD_end, Bool.true_and])
            have HC := Lib.hid (feas_any ga gx gb nb cm lx cxm cbm nc Am Xm Bm (valsM (tx2 m)) (valsV (tx1 tx)) (valsV (tx1 lb)) wa (cell_below GA.out HB.out) (cell_below GX.out HB.out) (cell_below GB.out HB.out) (QM.out.below HB.out) HOK.out.hp.row (KX.out.below HB.out) (QB.out.below HB.out) (by omega) (by omega) (by omega) HFA.out HX.out.fit HFB.out)
            go_wp2_with fail
            refine HC.out.mono ?_
            rintro e wb ⟨rfl, hb⟩
            clear HC
            replace HB := Lib.hid (HB.out.trans (hb.mono HB.out.size))
            clear hb
            cases hfe : feasQ (valsM (tx2 m)) (valsV (tx1 lb)) (valsV (tx1 tx)) with
            | false =>
             rw [hfe] at HL
             obtain rfl : z = false := HL.out
             go_wp2
             go_ret
             exact ⟨rfl, HB1.out.trans (HB.out.mono HB1.out.size)⟩
            | true =>
             rw [hfe] at HL
             have HC := Lib.hid (dot_any (valsV (tx1 lc)) (valsV (tx1 tr)) nc Cm Rm ccm lr crm wb (QC.out.below HB.out) (KR.out.below HB.out) (by omega) (by omega) (N := 200000) (Nat.le_of_ble_eq_true rfl) (dot_fitZ (n := nc) (Nat.le_of_eq HOK.out.hp.lc) (by omega) HFC.out HR.out.fit))
             go_wp2_with fail
             refine HC.out.mono ?_
             rintro e wd ⟨vd, rfl, hv, hb⟩
             clear HC
             replace HB := Lib.hid (HB.out.trans (hb.mono HB.out.size))
             clear hb
             have HC := Lib.hid (rsign_any _ (dotQ (valsV (tx1 lc)) (valsV (tx1 tr))) wd hv)
             go_wp2_with fail
             refine HC.out.mono ?_
             rintro e we ⟨rfl, hb⟩
             clear HC hv
             replace HB := Lib.hid (HB.out.trans (hb.mono HB.out.size))
             clear hb
             have tn : decide (0 < (dotQ (valsV (tx1 lc)) (valsV (tx1 tr))).num.sign) = z := pos_iffZ HL.out.symm
             generalize (dotQ (valsV (tx1 lc)) (valsV (tx1 tr))).num.sign = sg at *
             clear HL
             go_wp2
             go_ret
             exact ⟨rfl, HB1.out.trans (HB.out.mono HB1.out.size)⟩
end Go.Proofs.YtcgfdfdcbamceaaGreatDoor
