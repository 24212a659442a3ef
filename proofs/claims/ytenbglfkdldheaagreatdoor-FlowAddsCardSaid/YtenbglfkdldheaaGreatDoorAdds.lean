/- FlowAdds: the walk. FlowAdds returns true for every input: without phase shifts the flows of added injections are added. No conditions. The row's listed variables hold what the program's text lays (the card ties them). -/
import Derived.Test.YtenbglfkdldheaaGreatDoorZAD
import Derived.Test.YtenbglfkdldheaaGreatDoorZDR
import Derived.ShutString
import Derived.ChangeMaps5
set_option maxRecDepth 100000
set_option maxHeartbeats 16000000
namespace Go.Proofs.YtenbglfkdldheaaGreatDoor
section
open Go.RowKit
theorem cloneR_int (l : List Int) (n : Nat) (A : Option Addr) (c : Nat) (w : World) (h : Reads w w.heap.size 1 A n (l.map I)) (hn : n ≤ 1000) : Calls Tryz.prog 39 #[.slice A n c] w fun e w' => ∃ B k, e = .returned (.slice B n k) ∧ Row w' w.heap.size 3 1 (.slice B n k) n (l.map I) ∧ Below w.heap.size w w' := by
 have hl : l.length = n := by have := h.1; simpa using this
 by_cases h0 : 0 < n
 ·exact (cloneI_any l n A c w h h0 hn).mono fun e w' hh => by
   obtain ⟨b, o, k, h1, h2, h3⟩ := hh
   exact ⟨some ⟨b, o, none⟩, k, h1, h2, h3⟩
 ·obtain rfl : n = 0 := by omega
  obtain rfl : l = [] := List.eq_nil_of_length_eq_zero hl
  cases A with
  | none => exact (Tryz.slices_Clone_int_nil 0 c w).mono fun e w' hh => ⟨none, 0, hh.1, Row.nil _ _ _ _, by rw [hh.2]; exact Below.refl _ _⟩
  | some a =>
   refine (Tryz.slices_Clone_int_zero a c w).mono fun e w' hh => ?_
   obtain ⟨v', he, ho, _, hb⟩ := hh
   have hr := Row.of_own ho
   obtain ⟨B, k, rfl⟩ := hr.val
   exact ⟨B, k, he, hr, hb⟩
theorem solve_sl (n : NetD) (v : NetV) (inj : List Int) (m : Nat) (A : Option Addr) (c : Nat) (w : World) (hN : Net w n v) (hj : Reads w w.heap.size 1 A m (inj.map I)) (hm : m ≤ 9223372036854775807) (htab : Tab w) : Calls Tryz.prog 36 #[v.val n, .slice A m c] w fun e w' =>
  ∃ SA la ca SB lb cb, e = .returned (.tuple #[.agg #[.slice SA la ca, .slice SB lb cb], I (codeF n inj)]) ∧ (codeF n inj = 0 → Row w' w.heap.size strT 1 (.slice SA la ca) (solF n inj).length ((mkS ((solF n inj).map qText)).map Sv) ∧ Row w' w.heap.size strT 1 (.slice SB lb cb) (flwF n inj).length ((mkS ((flwF n inj).map qText)).map Sv)) ∧ Below w.heap.size w w' :=
 (solve_any n v inj m A c w hN hj hm htab).mono fun e w' hh => by
  obtain ⟨a, b, h1, h2, h3, _, h5⟩ := hh
  by_cases hc : codeF n inj = 0
  ·obtain ⟨ha, hb⟩ := h2 hc
   obtain ⟨SA, ca, rfl⟩ := ha.val
   obtain ⟨SB, cb, rfl⟩ := hb.val
   exact ⟨_, _, _, _, _, _, h1, fun _ => ⟨ha, hb⟩, h5⟩
  ·obtain ⟨rfl, rfl⟩ := h3 hc
   exact ⟨_, _, _, _, _, _, h1, fun h => absurd h hc, h5⟩
def addP (a b : List Int) : Nat → List Int
 | 0 => a
 | k + 1 => (addP a b k).set k ((addP a b k).getD k 0 + b.getD k 0)
theorem addP_len (a b : List Int) : ∀ k, (addP a b k).length = a.length
 | 0 => rfl
 | k + 1 => by rw [addP, List.length_set, addP_len a b k]
theorem addP_at (a b : List Int) : ∀ k j, j < a.length → (addP a b k).getD j 0 = a.getD j 0 + if j < k then b.getD j 0 else 0
 | 0, j, _ => by rw [addP, if_neg (by omega)]; omega
 | k + 1, j, hj => by
  rw [addP, getD_setI, addP_len]
  by_cases e : k = j
  ·subst e
   rw [if_pos ⟨rfl, hj⟩, addP_at a b k k hj, if_neg (by omega), if_pos (by omega)]
   omega
  ·rw [if_neg (fun h => e h.1), addP_at a b k j hj]
   by_cases h : j < k
   ·rw [if_pos h, if_pos (by omega)]
   ·rw [if_neg h, if_neg (by omega)]
theorem addP_all {a b : List Int} (hl : a.length = b.length) : addP a b a.length = addI a b := by
 refine List.ext_getElem (by rw [addP_len, addI_len hl]) fun j h1 h2 => ?_
 rw [addP_len] at h1
 have e1 := addP_at a b a.length j h1
 have e2 := addI_at hl j
 rw [if_pos h1] at e1
 rw [gD, gE (by rw [addP_len]; exact h1), Option.getD_some] at e1
 rw [gD, gE h2, Option.getD_some] at e2
 rw [e1, e2]
theorem row_ss {w : World} {base : Nat} {A : Option Addr} {n c : Nat} {l : List ByteArray} (h : Row w base 51 1 (.slice A n c) n (l.map Sv)) : SS w (.slice A n c) l := by
 have hl : l.length = n := by have := h.1; simpa using this
 subst hl
 exact ⟨A, c, rfl, h.reads.more lR⟩
theorem smat_one {w : World} {g : Nat} {t : TypeId} {u : Value} {l : List ByteArray} (hB : Blk w g t #[u]) (h : SS w u l) : SMat w (some ⟨g, 0, none⟩) 1 [l] := by
 refine ⟨[u], reads_blk (n := 1) (sz := 1) hB rfl, rfl, fun i x y h1 h2 => ?_⟩
 cases i with
 | zero =>
  obtain rfl : u = x := by simpa using h1
  obtain rfl : l = y := by simpa using h2
  exact h
 | succ i => simp at h1
theorem tx2_one {m : List (List ByteArray)} {L : List (List UInt8)} (h : tx2 m = [L]) : m = [mkS L] := by
 cases m with
 | nil => simp [tx2] at h
 | cons x m =>
  simp only [tx2, List.map_cons, List.cons.injEq, List.map_eq_nil_iff] at h
  obtain ⟨h1, rfl⟩ := h
  rw [tx1_inj (h1.trans (tx_mk L).symm)]
theorem addRow_any {x y : List Rat} (hx : x.all fitQ = true) (hy : y.all fitQ = true) (hl : x.length = y.length) (h40 : x.length ≤ 40) (hz : (addQ1 x y).all fitQ = true) (A B : Option Addr) (ca cb : Nat) (w : World) (ha : SMat w A 1 [mkS (x.map qText)]) (hb : SMat w B 1 [mkS (y.map qText)]) (htab : Tab w) :
  Calls Tryz.prog 44 #[.slice A 1 ca, .slice B 1 cb] w fun e w' => ∃ C c, e = .returned (.tuple #[.slice C 1 c, I 0]) ∧ SMat w' C 1 [mkS ((addQ1 x y).map qText)] ∧ Below w.heap.size w w' := by
 have h := addM_any [mkS (x.map qText)] 1 A ca [mkS (y.map qText)] 1 B cb w ha (fun l hl => by rw [List.mem_singleton.1 hl]; exact sh_mk hx) hb (fun l hl => by rw [List.mem_singleton.1 hl]; exact sh_mk hy) htab
 have e : addM (tx2 [mkS (x.map qText)]) (tx2 [mkS (y.map qText)]) = ([(addQ1 x y).map qText], 0) := by
  rw [← addM_row hx hy hl h40 hz]
  simp only [tx2, List.map_cons, List.map_nil, tx_mk]
 rw [e] at h
 refine h.mono fun e w' hh => ?_
 obtain ⟨C, n, c, m, h1, h2, h3, _, h5⟩ := hh
 obtain rfl := tx2_one h3
 have hn : n = 1 := by
  obtain ⟨_, _, h6, _⟩ := h2
  exact h6.symm
 subst hn
 exact ⟨C, c, h1, h2, h5⟩
theorem flowAdds_any (n : NetD) (v : NetV) (la lb : List Int) (ma mb : Nat) (A B : Option Addr) (ca cb : Nat) (w : World) (hN : Net w n v) (hj : Reads w w.heap.size 1 A ma (la.map I)) (hk : Reads w w.heap.size 1 B mb (lb.map I)) (hma : ma ≤ 9223372036854775807) (hmb : mb ≤ 9223372036854775807) (htab : Tab w) : Calls Tryz.prog 9 #[v.val n, .slice A ma ca, .slice B mb cb] w fun e w' => e = .returned (.bool true) ∧ Below w.heap.size w w' := by
 have hlla : la.length = ma := by have := hj.1; simpa using this
 have hllb : lb.length = mb := by have := hk.1; simpa using this
 have HLA := aH hlla
 have HLB := aH hllb
 clear hlla hllb
 have hz := below_new w (Obj.cells (v.parts n) 29)
 have HN := aH (hN.below hz)
 have HG := aH (Blk.new w 29 (v.parts n))
 have HB := aH hz
 have HTB := aH htab
 have HJ := aH ((hj.below hz).more hz.size)
 have HK := aH ((hk.below hz).more hz.size)
 clear hz hN htab hj hk
 unfold NetV.val NetV.parts at *
 go_enter Tryz.func9, Tryz.ntmps9
 have HC := aH (flowFact_any (w.alloc (Obj.cells #[.slice v.na n.nodes.length v.nc, .slice v.sa n.switches.length v.sc, .slice v.ba n.branches.length v.bc, .slice v.ga n.gens.length v.gc, .slice v.la n.loads.length v.lc, .slice v.ta n.stores.length v.tc] 29)) (tab_below HTB.out HB.out))
 go_wp2_with fail
 refine HC.out.mono ?_
 rintro e w1 ⟨rfl, hb⟩
 clear HC
 have hbs := HB.out.size
 replace HB := aH (HB.out.trans (hb.mono hbs))
 clear hbs
 replace HN := aH (HN.out.below hb)
 replace HG := bL HG hb
 replace HJ := aH ((HJ.out.below hb).more hb.size)
 replace HK := aH ((HK.out.below hb).more hb.size)
 clear hb
 have x0 := HG.out.cell 0
 have x1 := HG.out.cell 1
 have x2 := HG.out.cell 2
 have x3 := HG.out.cell 3
 have x4 := HG.out.cell 4
 have x5 := HG.out.cell 5
 have HC := aH (wide_any n v w1)
 unfold NetV.val NetV.parts at HC
 go_wp2_with fail
 refine HC.out.mono ?_
 rintro e w2 ⟨rfl, hb⟩
 clear HC
 clear x0 x1 x2 x3 x4 x5
 have hbs := HB.out.size
 replace HB := aH (HB.out.trans (hb.mono hbs))
 clear hbs
 replace HN := aH (HN.out.below hb)
 replace HG := bL HG hb
 replace HJ := aH ((HJ.out.below hb).more hb.size)
 replace HK := aH ((HK.out.below hb).more hb.size)
 clear hb
 cases hw : wideN n with
 | true =>
  go_wp2
  go_ret
  exact ⟨rfl, HB.out⟩
 | false =>
  have HW := aH hw
  clear hw
  by_cases hmm : ma = mb
  ·subst hmm
   have e1 : ((ma : Int) != (ma : Int)) = false := by simp
   have hbb : n.branches.length ≤ 1000000 := by have := (wide_len HW.out).2.1; omega
   have x0 := HG.out.cell 0
   have x1 := HG.out.cell 1
   have x2 := HG.out.cell 2
   have x3 := HG.out.cell 3
   have x4 := HG.out.cell 4
   have x5 := HG.out.cell 5
   have HC := aH (shifts_any n v w2 HN.out.net hbb)
   try simp only at HC
   go_wp2_with fail
   refine HC.out.mono ?_
   rintro e w3 ⟨rfl, hb⟩
   clear HC
   clear x0 x1 x2 x3 x4 x5
   clear e1
   have hbs := HB.out.size
   replace HB := aH (HB.out.trans (hb.mono hbs))
   clear hbs
   replace HN := aH (HN.out.below hb)
   replace HG := bL HG hb
   replace HJ := aH ((HJ.out.below hb).more hb.size)
   replace HK := aH ((HK.out.below hb).more hb.size)
   clear hb
   cases hs : noShift n.branches with
   | false =>
    go_wp2
    go_ret
    exact ⟨rfl, HB.out⟩
   | true =>
    have HNS := aH hs
    clear hs
    have x0 := HG.out.cell 0
    have x1 := HG.out.cell 1
    have x2 := HG.out.cell 2
    have x3 := HG.out.cell 3
    have x4 := HG.out.cell 4
    have x5 := HG.out.cell 5
    have HC := aH (solve_sl n v la ma A ca w3 HN.out HJ.out hma (tab_below HTB.out HB.out))
    unfold NetV.val NetV.parts at HC
    go_wp2_with fail
    refine HC.out.mono ?_
    rintro e w4 ⟨XA, xa, xca, XB, xb, xcb, rfl, hok, hb⟩
    clear HC
    clear x0 x1 x2 x3 x4 x5
    have HO1 := aH hok
    clear hok
    have hbs := HB.out.size
    replace HB := aH (HB.out.trans (hb.mono hbs))
    clear hbs
    replace HN := aH (HN.out.below hb)
    replace HG := bL HG hb
    replace HJ := aH ((HJ.out.below hb).more hb.size)
    replace HK := aH ((HK.out.below hb).more hb.size)
    clear hb
    go_upto_region 6 with (fail)
    have hb := below_new w4 (.cells #[.slice XA xa xca, .slice XB xb xcb] 73)
    have hx := Blk.new w4 73 #[.slice XA xa xca, .slice XB xb xcb]
    replace HO1 := aH (fun h => And.intro ((HO1.out h).1.call hb) ((HO1.out h).2.call hb))
    have hbs := HB.out.size
    replace HB := aH (HB.out.trans (hb.mono hbs))
    clear hbs
    replace HN := aH (HN.out.below hb)
    replace HG := bL HG hb
    replace HJ := aH ((HJ.out.below hb).more hb.size)
    replace HK := aH ((HK.out.below hb).more hb.size)
    clear hb
    have HX := aH hx
    clear hx
    generalize w4.alloc (.cells #[.slice XA xa xca, .slice XB xb xcb] 73) = wsHX at *
    generalize w4.heap.size = gHX at *
    have x0 := HG.out.cell 0
    have x1 := HG.out.cell 1
    have x2 := HG.out.cell 2
    have x3 := HG.out.cell 3
    have x4 := HG.out.cell 4
    have x5 := HG.out.cell 5
    have HC := aH (solve_sl n v lb ma B cb wsHX HN.out HK.out hmb (tab_below HTB.out HB.out))
    unfold NetV.val NetV.parts at HC
    go_wp2_with fail
    refine HC.out.mono ?_
    rintro e w5 ⟨YA, ya, yca, YB, yb, ycb, rfl, hok, hb⟩
    clear HC
    clear x0 x1 x2 x3 x4 x5
    replace HO1 := aH (fun h => And.intro ((HO1.out h).1.call hb) ((HO1.out h).2.call hb))
    have HO2 := aH hok
    clear hok
    have hbs := HB.out.size
    replace HB := aH (HB.out.trans (hb.mono hbs))
    clear hbs
    replace HN := aH (HN.out.below hb)
    replace HG := bL HG hb
    replace HJ := aH ((HJ.out.below hb).more hb.size)
    replace HK := aH ((HK.out.below hb).more hb.size)
    replace HX := bL HX hb
    clear hb
    go_upto_region 7 with (fail)
    have hb := below_new w5 (.cells #[.slice YA ya yca, .slice YB yb ycb] 73)
    have hx := Blk.new w5 73 #[.slice YA ya yca, .slice YB yb ycb]
    replace HO1 := aH (fun h => And.intro ((HO1.out h).1.call hb) ((HO1.out h).2.call hb))
    replace HO2 := aH (fun h => And.intro ((HO2.out h).1.call hb) ((HO2.out h).2.call hb))
    have hbs := HB.out.size
    replace HB := aH (HB.out.trans (hb.mono hbs))
    clear hbs
    replace HN := aH (HN.out.below hb)
    replace HG := bL HG hb
    replace HJ := aH ((HJ.out.below hb).more hb.size)
    replace HK := aH ((HK.out.below hb).more hb.size)
    replace HX := bL HX hb
    clear hb
    have HY := aH hx
    clear hx
    generalize w5.alloc (.cells #[.slice YA ya yca, .slice YB yb ycb] 73) = wsHY at *
    generalize w5.heap.size = gHY at *
    generalize hca : codeF n la = e1 at *
    generalize hcb : codeF n lb = e2 at *
    by_cases hz : e1 = 0 ∧ e2 = 0
    ·obtain ⟨rfl, rfl⟩ := hz
     have hb := below_new wsHY (.cells #[I 0, I 0] 34)
     have hx := Blk.new wsHY 34 #[I 0, I 0]
     replace HO1 := aH (fun h => And.intro ((HO1.out h).1.call hb) ((HO1.out h).2.call hb))
     replace HO2 := aH (fun h => And.intro ((HO2.out h).1.call hb) ((HO2.out h).2.call hb))
     have hbs := HB.out.size
     replace HB := aH (HB.out.trans (hb.mono hbs))
     clear hbs
     replace HN := aH (HN.out.below hb)
     replace HG := bL HG hb
     replace HJ := aH ((HJ.out.below hb).more hb.size)
     replace HK := aH ((HK.out.below hb).more hb.size)
     replace HX := bL HX hb
     replace HY := bL HY hb
     clear hb
     have HC := aH (fine_any [0, 0] 2 (some ⟨wsHY.heap.size, 0, none⟩) 2 (wsHY.alloc (.cells #[I 0, I 0] 34)) (wsHY.alloc (.cells #[I 0, I 0] 34)).heap.size (reads_blk (n := 2) (sz := 1) hx rfl) (by decide))
     rw [show fineB [0, 0] = true from rfl] at HC
     clear hx
     go_wp2_with fail
     refine HC.out.mono ?_
     rintro e w6 ⟨rfl, rfl⟩
     clear HC
     generalize (wsHY.alloc (.cells #[I 0, I 0] 34)) = w7 at *
     obtain ⟨hxa, hxb⟩ := HO1.out (by trivial)
     obtain ⟨hya, hyb⟩ := HO2.out (by trivial)
     clear HO1 HO2
     obtain ⟨_, _, e⟩ := hxa.val
     injection e with e1 e2 e3
     subst e1 e2 e3
     obtain ⟨_, _, e⟩ := hxb.val
     injection e with e1 e2 e3
     subst e1 e2 e3
     obtain ⟨_, _, e⟩ := hya.val
     injection e with e1 e2 e3
     subst e1 e2 e3
     obtain ⟨_, _, e⟩ := hyb.val
     injection e with e1 e2 e3
     subst e1 e2 e3
     have RXA := aH hxa
     have RXB := aH hxb
     have RYA := aH hya
     have RYB := aH hyb
     clear hxa hxb hya hyb
     have KA := aH (code_ok hca)
     have KB := aH (code_ok hcb)
     have HCA := aH hca
     have HCB := aH hcb
     clear hca hcb
     have HV := aH (vnet (flowChk_ok KA.out.1).1)
     have hbd := (flowChk_ok KA.out.1).2.2
     have hbe := (flowChk_ok KB.out.1).2.2
     have hle : ma ≤ 1000 := by have := (flowChk_ok KA.out.1).2.1; have := HV.out.hn; have := HLA.out; omega
     have hlab : la.length = lb.length := by rw [HLA.out, HLB.out]
     have HC := aH (cloneR_int la ma A ca w7 HJ.out hle)
     go_wp2_with fail
     refine HC.out.mono ?_
     rintro e w8 ⟨CA, cc, rfl, hrc, hb⟩
     clear HC
     have HBC := aH hb
     have HC := aH (show Row w8 w7.heap.size 3 1 (.slice CA ma cc) ma ((addP la lb 0).map I) from hrc)
     clear hb hrc
     go_wp2
     go_loopg [56] (ma - 0) (fun q x wr => ∃ k : Nat, q = ma - k ∧ x = I k ∧ k ≤ ma ∧ Hid (Row wr w7.heap.size 3 1 (.slice CA ma cc) ma ((addP la lb k).map I)) ∧ Hid (Below w7.heap.size w7 wr))
     case atStart => exact ⟨0, rfl, rfl, by omega, HC, HBC⟩
     case round =>
      clear HC HBC
      obtain ⟨k, rfl, rfl, hk, HC, HBC⟩ := hrel
      obtain ⟨wa, rfl⟩ := wE wr
      by_cases hlt : k < ma
      ·obtain ⟨b1, o1, e1, u0⟩ := reads_getI (HC.out.reads.more lR) hlt
       subst e1
       obtain ⟨b2, o2, e2, u1⟩ := reads_getI (HK.out.below HBC.out) hlt
       subst e2
       obtain ⟨hg1, _, cur, hcur⟩ := own_lt HC.out (g := b1) rfl
       have y0 := hcur.frozen (o1 + k)
       have hb1 := hbd k
       have hb2 := hbe k
       have hpa := addP_at la lb k k (by have := HLA.out; omega)
       rw [if_neg (by omega)] at hpa
       have HXN := aH (show addP la lb (k + 1) = (addP la lb k).set k ((addP la lb k).getD k 0 + lb.getD k 0) from rfl)
       generalize hvx : (addP la lb k).getD k 0 = vx at *
       generalize lb.getD k 0 = vy at *
       have hs0 : -9223372036854775808 ≤ vx + vy := by omega
       have hs1 : vx + vy ≤ 9223372036854775807 := by omega
       have hki : (k : Int) < (ma : Int) := by omega
       clear hcur hpa hb1 hb2 hvx
       go_upto_region 13 with (fail)
       have HCD := aH (HC.out.call (below_draw wa))
       have HBD := aH (HBC.out.trans ((below_draw wa).mono HBC.out.size))
       have u0d := cell_below u0 (below_draw wa)
       have u1d := cell_below u1 (below_draw wa)
       have y0d : wa.drew.frozen? ⟨b1, o1 + k, none⟩ = false := y0
       clear u0 u1 y0 HC HBC
       refine wp_region_c (fun w' => w'.cell? ⟨b1, o1 + k, none⟩ = some (I vx) ∧ w'.cell? ⟨b2, o2 + k, none⟩ = some (I vy)) 10 (by kernel_rfl) ?_
       generalize wa.drew = wb at *
       refine aZ 0 (.slice (some ⟨b1, o1, none⟩) ma cc) rfl ⟨u0d, u1d⟩ ?_
       refine aZ 1 (I k) rfl ⟨u0d, u1d⟩ ?_
       refine aZ 2 (.pointer (some ⟨b1, o1 + k, none⟩)) rfl ⟨u0d, u1d⟩ ?_
       refine aZ 3 (I vx) rfl ⟨u0d, u1d⟩ ?_
       refine aZ 4 (.slice (some ⟨b2, o2, none⟩) ma cb) rfl ⟨u0d, u1d⟩ ?_
       refine aZ 5 (I k) rfl ⟨u0d, u1d⟩ ?_
       refine aZ 6 (.pointer (some ⟨b2, o2 + k, none⟩)) rfl ⟨u0d, u1d⟩ ?_
       refine aZ 7 (I vy) rfl ⟨u0d, u1d⟩ ?_
       refine tq 8 (I (vx + vy)) rfl ?_ ⟨u0d, u1d⟩ ?_
       ·rintro w ⟨s0, s1⟩
        go_simp
        exact IntWalk.i64_in (vx + vy) (by omega)
       refine aZ 9 (.pointer (some ⟨b1, o1 + k, none⟩)) rfl ⟨u0d, u1d⟩ ?_
       refine on1 10 fun K hK => ?_
       go_simp
       refine hK.out _ _ (fun h => absurd h (by decide)) ?_
       clear hK K
       refine wpAnyC_done (by kernel_rfl) ?_ _
       have HCN := aH (row_setI (z := vx + vy) HCD.out hlt)
       have HBN := aH (HBD.out.setCell (p := ⟨b1, o1 + k, none⟩) hg1 (I (vx + vy)))
       rw [← HXN.out] at HCN
       clear u0d u1d y0d HCD HBD
       generalize wb.setCell ⟨b1, o1 + k, none⟩ (I (vx + vy)) = wd at *
       go_wp2
       go_roundg (ma - (k + 1))
       case measure => omega
       case rel => exact ⟨k + 1, rfl, by go_num, by omega, HCN, HBN⟩
      ·obtain rfl : k = ma := by omega
       have hb := HBC.out
       have HC9 := aH (show Row wa _ 3 1 (.slice CA k cc) k ((addI la lb).map I) by rw [← addP_all hlab, HLA.out]; exact HC.out)
       clear HC HBC
       have hbs := HB.out.size
       replace HB := aH (HB.out.trans (hb.mono hbs))
       clear hbs
       replace HN := aH (HN.out.below hb)
       replace HG := bL HG hb
       replace HJ := aH ((HJ.out.below hb).more hb.size)
       replace HK := aH ((HK.out.below hb).more hb.size)
       replace HX := bL HX hb
       replace HY := bL HY hb
       replace RXA := aH (RXA.out.call hb)
       replace RXB := aH (RXB.out.call hb)
       replace RYA := aH (RYA.out.call hb)
       replace RYB := aH (RYB.out.call hb)
       clear hb
       have HC := HC9
       clear HC9
       have HCS := aH (adds_chk KA.out.1 KB.out.1)
       have HSA := aH (sol_addI HNS.out hlab)
       have HCE := aH (code_eq (inj := addI la lb) HW.out)
       go_upto_region 15 with (fail)
       have HRC := HC
       clear HC
       have x0 := HG.out.cell 0
       have x1 := HG.out.cell 1
       have x2 := HG.out.cell 2
       have x3 := HG.out.cell 3
       have x4 := HG.out.cell 4
       have x5 := HG.out.cell 5
       have HC := aH (solve_sl n v (addI la lb) k CA cc wa HN.out (HRC.out.reads.more lR) (by omega) (tab_below HTB.out HB.out))
       unfold NetV.val NetV.parts at HC
       go_wp2_with fail
       refine HC.out.mono ?_
       rintro e w9 ⟨ZA, za, zca, ZB, zb, zcb, rfl, hok, hb⟩
       clear HC
       clear x0 x1 x2 x3 x4 x5
       have HO3 := aH hok
       clear hok
       have hbs := HB.out.size
       replace HB := aH (HB.out.trans (hb.mono hbs))
       clear hbs
       replace HN := aH (HN.out.below hb)
       replace HG := bL HG hb
       replace HJ := aH ((HJ.out.below hb).more hb.size)
       replace HK := aH ((HK.out.below hb).more hb.size)
       replace HX := bL HX hb
       replace HY := bL HY hb
       replace RXA := aH (RXA.out.call hb)
       replace RXB := aH (RXB.out.call hb)
       replace RYA := aH (RYA.out.call hb)
       replace RYB := aH (RYB.out.call hb)
       replace HRC := aH (HRC.out.call hb)
       clear hb
       go_upto_region 16 with (fail)
       have hb := below_new w9 (.cells #[.slice ZA za zca, .slice ZB zb zcb] 73)
       have hx := Blk.new w9 73 #[.slice ZA za zca, .slice ZB zb zcb]
       replace HO3 := aH (fun h => And.intro ((HO3.out h).1.call hb) ((HO3.out h).2.call hb))
       have hbs := HB.out.size
       replace HB := aH (HB.out.trans (hb.mono hbs))
       clear hbs
       replace HN := aH (HN.out.below hb)
       replace HG := bL HG hb
       replace HJ := aH ((HJ.out.below hb).more hb.size)
       replace HK := aH ((HK.out.below hb).more hb.size)
       replace HX := bL HX hb
       replace HY := bL HY hb
       replace RXA := aH (RXA.out.call hb)
       replace RXB := aH (RXB.out.call hb)
       replace RYA := aH (RYA.out.call hb)
       replace RYB := aH (RYB.out.call hb)
       replace HRC := aH (HRC.out.call hb)
       clear hb
       have HZ := aH hx
       clear hx
       generalize w9.alloc (.cells #[.slice ZA za zca, .slice ZB zb zcb] 73) = wsHZ at *
       generalize w9.heap.size = gHZ at *
       rcases HCS.out with h0 | h4
       ·have h0c : codeF n (addI la lb) = 0 := by rw [HCE.out]; exact h0
        have KC := aH (code_ok h0c)
        obtain ⟨hza, hzb⟩ := HO3.out h0c
        rw [h0c]
        obtain ⟨_, _, e⟩ := hza.val
        injection e with e1 e2 e3
        subst e1 e2 e3
        obtain ⟨_, _, e⟩ := hzb.val
        injection e with e1 e2 e3
        subst e1 e2 e3
        rw [HSA.out.1, HSA.out.2] at KC
        have HSL := aH HSA.out
        clear HO3 h0 h0c
        have RZA := aH hza
        have RZB := aH hzb
        clear hza hzb
        go_upto_region 18 with (fail)
        have ln1 := aH (show (flwF n la).length = (flwF n lb).length by rw [flwF_len, flwF_len])
        have ln2 := aH (show (solF n la).length = (solF n lb).length by rw [solF_len, solF_len])
        have l40 : (flwF n la).length ≤ 40 := by have := HV.out.hb; rw [flwF_len]; omega
        have l41 : (solF n la).length ≤ 40 := by have := isl_le HV.out; rw [solF_len]; unfold nbN; omega
        have z1 := HX.out.cell 1
        change _ = some (Value.slice XB (flwF n la).length xcb) at z1
        have z2 := HY.out.cell 1
        change _ = some (Value.slice YB (flwF n lb).length ycb) at z2
        have l1 := HX.out.lt
        have l2 := HY.out.lt
        have hb := below_new wsHZ (.cells #[.slice XB (flwF n la).length xcb] 47)
        have hx := Blk.new wsHZ 47 #[.slice XB (flwF n la).length xcb]
        have hbs := HB.out.size
        replace HB := aH (HB.out.trans (hb.mono hbs))
        clear hbs
        replace HN := aH (HN.out.below hb)
        replace HG := bL HG hb
        replace HJ := aH ((HJ.out.below hb).more hb.size)
        replace HK := aH ((HK.out.below hb).more hb.size)
        replace HX := bL HX hb
        replace HY := bL HY hb
        replace RXA := aH (RXA.out.call hb)
        replace RXB := aH (RXB.out.call hb)
        replace RYA := aH (RYA.out.call hb)
        replace RYB := aH (RYB.out.call hb)
        replace HRC := aH (HRC.out.call hb)
        replace HZ := bL HZ hb
        replace RZA := aH (RZA.out.call hb)
        replace RZB := aH (RZB.out.call hb)
        clear hb
        have B1 := aH hx
        clear hx
        have hb := below_new (wsHZ.alloc (.cells #[.slice XB (flwF n la).length xcb] 47)) (.cells #[.slice YB (flwF n lb).length ycb] 47)
        have hx := Blk.new (wsHZ.alloc (.cells #[.slice XB (flwF n la).length xcb] 47)) 47 #[.slice YB (flwF n lb).length ycb]
        have hbs := HB.out.size
        replace HB := aH (HB.out.trans (hb.mono hbs))
        clear hbs
        replace HN := aH (HN.out.below hb)
        replace HG := bL HG hb
        replace HJ := aH ((HJ.out.below hb).more hb.size)
        replace HK := aH ((HK.out.below hb).more hb.size)
        replace HX := bL HX hb
        replace HY := bL HY hb
        replace RXA := aH (RXA.out.call hb)
        replace RXB := aH (RXB.out.call hb)
        replace RYA := aH (RYA.out.call hb)
        replace RYB := aH (RYB.out.call hb)
        replace HRC := aH (HRC.out.call hb)
        replace HZ := bL HZ hb
        replace RZA := aH (RZA.out.call hb)
        replace RZB := aH (RZB.out.call hb)
        replace B1 := bL B1 hb
        clear hb
        have B2 := aH hx
        clear hx
        have HC := aH (addRow_any (x := flwF n la) (y := flwF n lb) KA.out.2.2 KB.out.2.2 ln1.out l40 KC.out.2.2 (some ⟨wsHZ.heap.size, 0, none⟩) (some ⟨(wsHZ.alloc (.cells #[.slice XB (flwF n la).length xcb] 47)).heap.size, 0, none⟩) 1 1 ((wsHZ.alloc (.cells #[.slice XB (flwF n la).length xcb] 47)).alloc (.cells #[.slice YB (flwF n lb).length ycb] 47)) (smat_one B1.out (row_ss RXB.out)) (smat_one B2.out (row_ss RYB.out)) (tab_below HTB.out HB.out))
        try simp only [World.size_alloc] at HC
        go_wp2_with fail
        refine HC.out.mono ?_
        rintro e w10 ⟨F1, f1c, rfl, hsm, hb⟩
        clear HC
        have hb3 : Below ((wsHZ.alloc (.cells #[.slice XB (flwF n la).length xcb] 47)).alloc (.cells #[.slice YB (flwF n lb).length ycb] 47)).heap.size ((wsHZ.alloc (.cells #[.slice XB (flwF n la).length xcb] 47)).alloc (.cells #[.slice YB (flwF n lb).length ycb] 47)) w10 := by simp only [World.size_alloc]; exact hb
        clear hb
        have hbs := HB.out.size
        replace HB := aH (HB.out.trans (hb3.mono hbs))
        clear hbs
        replace HN := aH (HN.out.below hb3)
        replace HG := bL HG hb3
        replace HJ := aH ((HJ.out.below hb3).more hb3.size)
        replace HK := aH ((HK.out.below hb3).more hb3.size)
        replace HX := bL HX hb3
        replace HY := bL HY hb3
        replace RXA := aH (RXA.out.call hb3)
        replace RXB := aH (RXB.out.call hb3)
        replace RYA := aH (RYA.out.call hb3)
        replace RYB := aH (RYB.out.call hb3)
        replace HRC := aH (HRC.out.call hb3)
        replace HZ := bL HZ hb3
        replace RZA := aH (RZA.out.call hb3)
        replace RZB := aH (RZB.out.call hb3)
        replace B1 := bL B1 hb3
        replace B2 := bL B2 hb3
        clear hb3
        have HF1 := aH hsm
        clear hsm z1 z2 l1 l2 B1 B2
        go_upto_region 19 with (fail)
        have z1 := HX.out.cell 0
        change _ = some (Value.slice XA (solF n la).length xca) at z1
        have z2 := HY.out.cell 0
        change _ = some (Value.slice YA (solF n lb).length yca) at z2
        have l1 := HX.out.lt
        have l2 := HY.out.lt
        have hb := below_new w10 (.cells #[.slice XA (solF n la).length xca] 47)
        have hx := Blk.new w10 47 #[.slice XA (solF n la).length xca]
        have hbs := HB.out.size
        replace HB := aH (HB.out.trans (hb.mono hbs))
        clear hbs
        replace HN := aH (HN.out.below hb)
        replace HG := bL HG hb
        replace HJ := aH ((HJ.out.below hb).more hb.size)
        replace HK := aH ((HK.out.below hb).more hb.size)
        replace HX := bL HX hb
        replace HY := bL HY hb
        replace RXA := aH (RXA.out.call hb)
        replace RXB := aH (RXB.out.call hb)
        replace RYA := aH (RYA.out.call hb)
        replace RYB := aH (RYB.out.call hb)
        replace HRC := aH (HRC.out.call hb)
        replace HZ := bL HZ hb
        replace RZA := aH (RZA.out.call hb)
        replace RZB := aH (RZB.out.call hb)
        replace HF1 := aH (HF1.out.below hb)
        clear hb
        have B1 := aH hx
        clear hx
        have hb := below_new (w10.alloc (.cells #[.slice XA (solF n la).length xca] 47)) (.cells #[.slice YA (solF n lb).length yca] 47)
        have hx := Blk.new (w10.alloc (.cells #[.slice XA (solF n la).length xca] 47)) 47 #[.slice YA (solF n lb).length yca]
        have hbs := HB.out.size
        replace HB := aH (HB.out.trans (hb.mono hbs))
        clear hbs
        replace HN := aH (HN.out.below hb)
        replace HG := bL HG hb
        replace HJ := aH ((HJ.out.below hb).more hb.size)
        replace HK := aH ((HK.out.below hb).more hb.size)
        replace HX := bL HX hb
        replace HY := bL HY hb
        replace RXA := aH (RXA.out.call hb)
        replace RXB := aH (RXB.out.call hb)
        replace RYA := aH (RYA.out.call hb)
        replace RYB := aH (RYB.out.call hb)
        replace HRC := aH (HRC.out.call hb)
        replace HZ := bL HZ hb
        replace RZA := aH (RZA.out.call hb)
        replace RZB := aH (RZB.out.call hb)
        replace HF1 := aH (HF1.out.below hb)
        replace B1 := bL B1 hb
        clear hb
        have B2 := aH hx
        clear hx
        have HC := aH (addRow_any (x := solF n la) (y := solF n lb) KA.out.2.1 KB.out.2.1 ln2.out l41 KC.out.2.1 (some ⟨w10.heap.size, 0, none⟩) (some ⟨(w10.alloc (.cells #[.slice XA (solF n la).length xca] 47)).heap.size, 0, none⟩) 1 1 ((w10.alloc (.cells #[.slice XA (solF n la).length xca] 47)).alloc (.cells #[.slice YA (solF n lb).length yca] 47)) (smat_one B1.out (row_ss RXA.out)) (smat_one B2.out (row_ss RYA.out)) (tab_below HTB.out HB.out))
        try simp only [World.size_alloc] at HC
        go_wp2_with fail
        refine HC.out.mono ?_
        rintro e w11 ⟨F0, f0c, rfl, hsm, hb⟩
        clear HC
        have hb3 : Below ((w10.alloc (.cells #[.slice XA (solF n la).length xca] 47)).alloc (.cells #[.slice YA (solF n lb).length yca] 47)).heap.size ((w10.alloc (.cells #[.slice XA (solF n la).length xca] 47)).alloc (.cells #[.slice YA (solF n lb).length yca] 47)) w11 := by simp only [World.size_alloc]; exact hb
        clear hb
        have hbs := HB.out.size
        replace HB := aH (HB.out.trans (hb3.mono hbs))
        clear hbs
        replace HN := aH (HN.out.below hb3)
        replace HG := bL HG hb3
        replace HJ := aH ((HJ.out.below hb3).more hb3.size)
        replace HK := aH ((HK.out.below hb3).more hb3.size)
        replace HX := bL HX hb3
        replace HY := bL HY hb3
        replace RXA := aH (RXA.out.call hb3)
        replace RXB := aH (RXB.out.call hb3)
        replace RYA := aH (RYA.out.call hb3)
        replace RYB := aH (RYB.out.call hb3)
        replace HRC := aH (HRC.out.call hb3)
        replace HZ := bL HZ hb3
        replace RZA := aH (RZA.out.call hb3)
        replace RZB := aH (RZB.out.call hb3)
        replace HF1 := aH (HF1.out.below hb3)
        replace B1 := bL B1 hb3
        replace B2 := bL B2 hb3
        clear hb3
        have HF0 := aH hsm
        clear hsm z1 z2 l1 l2 B1 B2
        go_upto_region 20 with (fail)
        have hb := below_new w11 (.cells #[I 0, I 0, I 0] 34)
        have hx := Blk.new w11 34 #[I 0, I 0, I 0]
        have hbs := HB.out.size
        replace HB := aH (HB.out.trans (hb.mono hbs))
        clear hbs
        replace HN := aH (HN.out.below hb)
        replace HG := bL HG hb
        replace HJ := aH ((HJ.out.below hb).more hb.size)
        replace HK := aH ((HK.out.below hb).more hb.size)
        replace HX := bL HX hb
        replace HY := bL HY hb
        replace RXA := aH (RXA.out.call hb)
        replace RXB := aH (RXB.out.call hb)
        replace RYA := aH (RYA.out.call hb)
        replace RYB := aH (RYB.out.call hb)
        replace HRC := aH (HRC.out.call hb)
        replace HZ := bL HZ hb
        replace RZA := aH (RZA.out.call hb)
        replace RZB := aH (RZB.out.call hb)
        replace HF1 := aH (HF1.out.below hb)
        replace HF0 := aH (HF0.out.below hb)
        clear hb
        have HC := aH (fine_any [0, 0, 0] 3 (some ⟨w11.heap.size, 0, none⟩) 3 (w11.alloc (.cells #[I 0, I 0, I 0] 34)) (w11.alloc (.cells #[I 0, I 0, I 0] 34)).heap.size (reads_blk (n := 3) (sz := 1) hx rfl) (by decide))
        rw [show fineB [0, 0, 0] = true from rfl] at HC
        clear hx
        go_wp2_with fail
        refine HC.out.mono ?_
        rintro e w12 ⟨rfl, rfl⟩
        clear HC
        generalize (w11.alloc (.cells #[I 0, I 0, I 0] 34)) = w13 at *
        have hl1 : ∀ l ∈ [mkS ((addQ1 (flwF n la) (flwF n lb)).map qText)], l.length ≤ 1000000 := fun l hl => by rw [List.mem_singleton.1 hl, mkS_len, ← HSL.2, flwF_len]; have := HV.out.hb; omega
        have hl0 : ∀ l ∈ [mkS ((addQ1 (solF n la) (solF n lb)).map qText)], l.length ≤ 1000000 := fun l hl => by rw [List.mem_singleton.1 hl, mkS_len, ← HSL.1, solF_len]; have := isl_le HV.out; unfold nbN; omega
        have z1 := HZ.out.cell 1
        change _ = some (Value.slice ZB (flwF n (addI la lb)).length zcb) at z1
        have hb := below_new w13 (.cells #[.slice ZB (flwF n (addI la lb)).length zcb] 47)
        have hx := Blk.new w13 47 #[.slice ZB (flwF n (addI la lb)).length zcb]
        have hbs := HB.out.size
        replace HB := aH (HB.out.trans (hb.mono hbs))
        clear hbs
        replace HN := aH (HN.out.below hb)
        replace HG := bL HG hb
        replace HJ := aH ((HJ.out.below hb).more hb.size)
        replace HK := aH ((HK.out.below hb).more hb.size)
        replace HX := bL HX hb
        replace HY := bL HY hb
        replace RXA := aH (RXA.out.call hb)
        replace RXB := aH (RXB.out.call hb)
        replace RYA := aH (RYA.out.call hb)
        replace RYB := aH (RYB.out.call hb)
        replace HRC := aH (HRC.out.call hb)
        replace HZ := bL HZ hb
        replace RZA := aH (RZA.out.call hb)
        replace RZB := aH (RZB.out.call hb)
        replace HF1 := aH (HF1.out.below hb)
        replace HF0 := aH (HF0.out.below hb)
        clear hb
        have B1 := aH hx
        clear hx
        have HRW := aH (show SMat (w13.alloc (.cells #[.slice ZB (flwF n (addI la lb)).length zcb] 47)) (some ⟨w13.heap.size, 0, none⟩) 1 [mkS ((addQ1 (flwF n la) (flwF n lb)).map qText)] by rw [← HSL.2]; exact smat_one B1.out (row_ss RZB.out))
        have HC := aH (same_any [mkS ((addQ1 (flwF n la) (flwF n lb)).map qText)] [mkS ((addQ1 (flwF n la) (flwF n lb)).map qText)] 1 1 F1 (some ⟨w13.heap.size, 0, none⟩) f1c 1 (w13.alloc (.cells #[.slice ZB (flwF n (addI la lb)).length zcb] 47)) HF1.out HRW.out (by decide) hl1)
        rw [decide_eq_true rfl] at HC
        go_wp2_with fail
        refine HC.out.mono ?_
        rintro e w14 ⟨rfl, hb⟩
        clear HC
        clear z1 HRW B1
        have hbs := HB.out.size
        replace HB := aH (HB.out.trans (hb.mono hbs))
        clear hbs
        replace HN := aH (HN.out.below hb)
        replace HG := bL HG hb
        replace HJ := aH ((HJ.out.below hb).more hb.size)
        replace HK := aH ((HK.out.below hb).more hb.size)
        replace HX := bL HX hb
        replace HY := bL HY hb
        replace RXA := aH (RXA.out.call hb)
        replace RXB := aH (RXB.out.call hb)
        replace RYA := aH (RYA.out.call hb)
        replace RYB := aH (RYB.out.call hb)
        replace HRC := aH (HRC.out.call hb)
        replace HZ := bL HZ hb
        replace RZA := aH (RZA.out.call hb)
        replace RZB := aH (RZB.out.call hb)
        replace HF1 := aH (HF1.out.below hb)
        replace HF0 := aH (HF0.out.below hb)
        clear hb
        have z1 := HZ.out.cell 0
        change _ = some (Value.slice ZA (solF n (addI la lb)).length zca) at z1
        have hb := below_new w14 (.cells #[.slice ZA (solF n (addI la lb)).length zca] 47)
        have hx := Blk.new w14 47 #[.slice ZA (solF n (addI la lb)).length zca]
        have hbs := HB.out.size
        replace HB := aH (HB.out.trans (hb.mono hbs))
        clear hbs
        replace HN := aH (HN.out.below hb)
        replace HG := bL HG hb
        replace HJ := aH ((HJ.out.below hb).more hb.size)
        replace HK := aH ((HK.out.below hb).more hb.size)
        replace HX := bL HX hb
        replace HY := bL HY hb
        replace RXA := aH (RXA.out.call hb)
        replace RXB := aH (RXB.out.call hb)
        replace RYA := aH (RYA.out.call hb)
        replace RYB := aH (RYB.out.call hb)
        replace HRC := aH (HRC.out.call hb)
        replace HZ := bL HZ hb
        replace RZA := aH (RZA.out.call hb)
        replace RZB := aH (RZB.out.call hb)
        replace HF1 := aH (HF1.out.below hb)
        replace HF0 := aH (HF0.out.below hb)
        clear hb
        have B1 := aH hx
        clear hx
        have HRW := aH (show SMat (w14.alloc (.cells #[.slice ZA (solF n (addI la lb)).length zca] 47)) (some ⟨w14.heap.size, 0, none⟩) 1 [mkS ((addQ1 (solF n la) (solF n lb)).map qText)] by rw [← HSL.1]; exact smat_one B1.out (row_ss RZA.out))
        have HC := aH (same_any [mkS ((addQ1 (solF n la) (solF n lb)).map qText)] [mkS ((addQ1 (solF n la) (solF n lb)).map qText)] 1 1 F0 (some ⟨w14.heap.size, 0, none⟩) f0c 1 (w14.alloc (.cells #[.slice ZA (solF n (addI la lb)).length zca] 47)) HF0.out HRW.out (by decide) hl0)
        rw [decide_eq_true rfl] at HC
        go_wp2_with fail
        refine HC.out.mono ?_
        rintro e w15 ⟨rfl, hb⟩
        clear HC
        clear z1 HRW B1
        have hbs := HB.out.size
        replace HB := aH (HB.out.trans (hb.mono hbs))
        clear hbs
        replace HN := aH (HN.out.below hb)
        replace HG := bL HG hb
        replace HJ := aH ((HJ.out.below hb).more hb.size)
        replace HK := aH ((HK.out.below hb).more hb.size)
        replace HX := bL HX hb
        replace HY := bL HY hb
        replace RXA := aH (RXA.out.call hb)
        replace RXB := aH (RXB.out.call hb)
        replace RYA := aH (RYA.out.call hb)
        replace RYB := aH (RYB.out.call hb)
        replace HRC := aH (HRC.out.call hb)
        replace HZ := bL HZ hb
        replace RZA := aH (RZA.out.call hb)
        replace RZB := aH (RZB.out.call hb)
        replace HF1 := aH (HF1.out.below hb)
        replace HF0 := aH (HF0.out.below hb)
        clear hb
        go_wp2
        go_ret
        exact ⟨rfl, HB.out⟩
       ·have h4c : codeF n (addI la lb) = 4 := by rw [HCE.out]; exact h4
        rw [h4c]
        go_wp2
        go_ret
        exact ⟨rfl, HB.out⟩
    ·have hfb : fineB [e1, e2] = false := by
      rw [Bool.eq_false_iff]
      intro h
      have h2 := (fineB_iff _).1 h
      exact hz ⟨h2 e1 (by simp), h2 e2 (by simp)⟩
     have hb := below_new wsHY (.cells #[I e1, I e2] 34)
     have hx := Blk.new wsHY 34 #[I e1, I e2]
     replace HO1 := aH (fun h => And.intro ((HO1.out h).1.call hb) ((HO1.out h).2.call hb))
     replace HO2 := aH (fun h => And.intro ((HO2.out h).1.call hb) ((HO2.out h).2.call hb))
     have hbs := HB.out.size
     replace HB := aH (HB.out.trans (hb.mono hbs))
     clear hbs
     replace HN := aH (HN.out.below hb)
     replace HG := bL HG hb
     replace HJ := aH ((HJ.out.below hb).more hb.size)
     replace HK := aH ((HK.out.below hb).more hb.size)
     replace HX := bL HX hb
     replace HY := bL HY hb
     clear hb
     have HC := aH (fine_any [e1, e2] 2 (some ⟨wsHY.heap.size, 0, none⟩) 2 (wsHY.alloc (.cells #[I e1, I e2] 34)) (wsHY.alloc (.cells #[I e1, I e2] 34)).heap.size (reads_blk (n := 2) (sz := 1) hx rfl) (by decide))
     rw [show fineB [e1, e2] = false from hfb] at HC
     clear hx
     go_wp2_with fail
     refine HC.out.mono ?_
     rintro e w6 ⟨rfl, rfl⟩
     clear HC
     generalize (wsHY.alloc (.cells #[I e1, I e2] 34)) = w7 at *
     go_wp2
     go_ret
     exact ⟨rfl, HB.out⟩
  ·have e1 : ((ma : Int) != (mb : Int)) = true := bne_iff_ne.2 (by omega)
   go_wp2
   go_ret
   exact ⟨rfl, HB.out⟩
theorem flowAdds_row (n : NetD) (v : NetV) (la : List Int) (A : Option Addr) (ca : Nat) (lb : List Int) (B : Option Addr) (cb : Nat) (w : World) (hN : Net w n v) (hj : Reads w w.heap.size 1 A la.length (la.map I)) (hma : la.length ≤ 9223372036854775807) (hk : Reads w w.heap.size 1 B lb.length (lb.map I)) (hmb : lb.length ≤ 9223372036854775807) (htab : Tab w) : Calls Tryz.prog 9 #[v.val n, .slice A la.length ca, .slice B lb.length cb] w fun e w' => e = .returned (.bool true) ∧ Below w.heap.size w w' :=
 flowAdds_any n v la lb la.length lb.length A B ca cb w hN hj hk hma hmb htab
end
section
open Go.ChangeShapes Go.WideShapes Go.ChangeAt Go.RowKit Go.ChangeMaps
theorem flowAdds_door (os : Os) (args : Array Value) : laidMetH Tryz.prog Rows.flowAddsRow.laid ((World.doorLaid Tryz.prog 62 os).forCall (fun _ _ => 0) ⟨#[], args, []⟩).memory :=
 laidMetH_of_parts3 (fuel := 8) (laidMet_of_run' 8 (by kernel_rfl) (by kernel_rfl)) (by kernel_rfl) (by kernel_rfl)
set_option linter.unusedVariables false in
theorem flowAdds_lifted (os : Os) (started : os.Started) (H : Type) (enc : TypeId × Value → H) :
  ReturnsInHanded {} Tryz.checked os 9 .any (fun w args => (Rows.flowAddsSpec.pre enc Tryz.prog Tryz.f9 [] false w args ∧ laidMetH Tryz.prog Rows.flowAddsRow.laid w) ∧ sizedMet enc Tryz.prog Tryz.f9 (OpenSpec.ofChange Rows.flowAddsSpec) false w args)
   (Rows.flowAddsSpec.post enc Tryz.prog Tryz.f9 false true false false) := by
 refine returnsInHanded_of_change_and (C := Tryz.checked) (X := fun w _ => laidMetH Tryz.prog Rows.flowAddsRow.laid w) (fun _ _ _ hh h => h.of_heap hh) own started (by kernel_rfl) Tryz.func9
  (ChangeSpec.witness_shaped (enc := enc) (C := Tryz.checked) (os := os) (X := fun w _ => laidMetH Tryz.prog Rows.flowAddsRow.laid w) false (World.doorLaid Tryz.prog 62 os) #[.agg #[.slice none 0 0, .slice none 0 0, .slice none 0 0, .slice none 0 0, .slice none 0 0, .slice none 0 0], .slice none 0 0, .slice none 0 0] 8 rfl (World.shaped_of_RefB (by kernel_rfl) (by kernel_rfl)) (by kernel_rfl) (by kernel_rfl) (by kernel_rfl) (flowAdds_door os _)) ?_
 intro W base args ds gs before hval0 hW _ _ hL _
 have hval : ∀ (j : Nat) t v, Tryz.f9.params[j]? = some t → args[j]? = some v → Value.okWide Tryz.prog W .any base t v := hval0
 have hW' := hW
 obtain ⟨p, q, hA0, hV, rfl, hfz, hnd⟩ := hW
 have hA : DataW.TrodAll enc Tryz.prog W 0 (fun _ => true) true Tryz.f9.params.toList args.toList ds p := hA0
 rw [Tryz.params9] at hA hval
 obtain ⟨v0, vs0, d0, ds0, p0, q0, hargs, rfl, rfl, h0, r0⟩ := trodAll_cons hA
 obtain ⟨v1, vs1, d1, ds1, p1, q1, rfl, rfl, rfl, h1, r1⟩ := trodAll_cons r0
 obtain ⟨v2, vs2, d2, ds2, p2, q2, rfl, rfl, rfl, h2, r2⟩ := trodAll_cons r1
 obtain ⟨rfl, rfl, rfl⟩ := trodAll_nil r2
 obtain rfl : args = #[v0, v1, v2] := by cases args; simp_all
 obtain ⟨rfl, rfl⟩ := trodVars_none hV
 have k0 := h0
 have lt0 : ∀ x ∈ p0, x.block < W.heap.size := by obtain ⟨m, hm⟩ := k0; exact DataW.trod_lt m _ _ _ hm
 obtain ⟨n0, nv0, rfl, hn0⟩ := open_net (hval 0 29 v0 rfl rfl) h0
 have k1 := h1
 have lt1 : ∀ x ∈ p1, x.block < W.heap.size := by obtain ⟨m, hm⟩ := k1; exact DataW.trod_lt m _ _ _ hm
 obtain ⟨a1, len1, cap1, rfl⟩ := okWide_slice Tryz.underlying31 (hval 1 31 v1 rfl rfl)
 obtain ⟨fu1, ho1⟩ := h1
 obtain ⟨m1, A1, c1, e1, hm1, hl1⟩ := open_ints Tryz.underlying31 (u := .slice a1 len1 cap1) ho1
 injection e1 with ea1 eb1 ec1
 subst ea1 eb1 ec1
 have k2 := h2
 have lt2 : ∀ x ∈ p2, x.block < W.heap.size := by obtain ⟨m, hm⟩ := k2; exact DataW.trod_lt m _ _ _ hm
 obtain ⟨a2, len2, cap2, rfl⟩ := okWide_slice Tryz.underlying31 (hval 2 31 v2 rfl rfl)
 obtain ⟨fu2, ho2⟩ := h2
 obtain ⟨m2, A2, c2, e2, hm2, hl2⟩ := open_ints Tryz.underlying31 (u := .slice a2 len2 cap2) ho2
 injection e2 with ea2 eb2 ec2
 subst ea2 eb2 ec2
 clear hA0 hval0
 refine (flowAdds_row n0 nv0 m1 _ _ m2 _ _ W hn0 hm1 hl1 hm2 hl2 (tab_of_laid hL)).mono fun e W' ⟨he, bel⟩ => ?_
 subst he
 exact ⟨_, rfl, _, _, _, [], _, [], hW', trodAll_mk1 (shut_bool Tryz.underlying4 _), (trodAll_cons_mk (Below.trod laidOut (by kernel_rfl) (of_decide_eq_true (by kernel_rfl)) k0 bel lt0) (trodAll_cons_mk (Below.trod laidOut (by kernel_rfl) (of_decide_eq_true (by kernel_rfl)) k1 bel lt1) (trodAll_cons_mk (Below.trod laidOut (by kernel_rfl) (of_decide_eq_true (by kernel_rfl)) k2 bel lt2) trodAll_mk0))), rfl, bel.frame _, fun h => by cases h⟩
end
end Go.Proofs.YtenbglfkdldheaaGreatDoor
