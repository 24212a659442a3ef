/- ShiftBridges: the walk. ShiftBridges returns true for every input: there are outage factors exactly for branches that are no bridges. No conditions. The row's listed variables hold what the program's text lays (the card ties them). -/
import Derived.Test.YtenbglfkdldheaaGreatDoorJXF
import Derived.Test.YtenbglfkdldheaaGreatDoorJPK
import Derived.Test.YtenbglfkdldheaaGreatDoorJDR
import Derived.ShutString
import Derived.ChangeMaps5
set_option maxRecDepth 100000
set_option maxHeartbeats 16000000
namespace Go.Proofs.YtenbglfkdldheaaGreatDoor
section
open Go.RowKit
structure BrdI (w2 : World) (es : List (Int × Int)) (j : Nat) (v : Value) (wr : World) : Prop where
 row : Row wr w2.heap.size 43 2 v (es.take j).length (cK (es.take j))
 below : Below w2.heap.size w2 wr
def sJ (n : NetD) : List Int := fU (cT (aC n)).toNat (aD n)
theorem xX {n : NetD} (h : VNet n) (es : List (Int × Int)) (he : aD n = es) (m : Nat) (hm' : (aA n).length = m) (A : Option Addr) (c : Nat) (w : World) (hr : Reads w w.heap.size 2 A es.length (cK es)) (hc : es.length ≤ c) :
  Calls Tryz.prog 19 #[I m, .slice A es.length c] w fun e w' => ∃ B k, e = .returned (.tuple #[.slice B (sJ n).length k, I 0]) ∧ Row w' w.heap.size 3 1 (.slice B (sJ n).length k) (sJ n).length ((sJ n).map I) ∧ Below w.heap.size w w' := by
 subst he hm'
 have hm := fJ (l := aC n) (N := 24) (by omega) (lI h)
 have hb := h.hb
 have hl : (aD n).length = n.branches.length := by simp [aD]
 have hil := pO h
 have hchk := jL (n := (cT (aC n)).toNat) (l := aD n) (by omega) (by omega) (dY h)
 have hg := wC (aA n).length (aD n) A c w ⟨hr, by omega, by omega, by omega, hc⟩
 have e : dR ((aA n).length : Int) (aD n) [] (fU ((aA n).length : Int).toNat (aD n)) = (sJ n, 0) := by
  rw [dR, if_pos (by rw [hil, ← Int.toNat_of_nonneg hm.1]; exact hchk), hil]
  rfl
 rw [e] at hg
 refine hg.mono fun e w' hh => ?_
 obtain ⟨v, h1, h2, h3⟩ := hh
 obtain ⟨B, k, rfl⟩ := h2.val
 exact ⟨B, k, h1, h2, h3⟩
theorem aNo {w : World} {r : List Rat × Int} {e : Ending} {w' : World} (h : tS w r e w') : ∃ A m c, e = .returned (.tuple #[.slice A m c, I r.2]) ∧ (r.2 ≠ 0 → m = 0) ∧ (r.2 = 0 → r.1.all cU = true ∧ Row w' w.heap.size 51 1 (.slice A m c) r.1.length ((mkS (r.1.map cN)).map Sv)) ∧ Below w.heap.size w w' := by
 obtain ⟨v, h1, h2, h3, h4⟩ := h
 by_cases hc : r.2 = 0
 ·obtain ⟨h5, h6⟩ := h2 hc
  obtain ⟨A, c, rfl⟩ := h6.val
  exact ⟨A, _, c, h1, fun k => absurd hc k, fun _ => ⟨h5, h6⟩, h4⟩
 ·obtain rfl := h3 hc
  exact ⟨_, _, _, h1, fun _ => rfl, fun h => absurd h hc, h4⟩
theorem oN (n : NetD) (v : NetV) (xk : Int) (w : World) (hN : Net w n v) (htab : Tab w) : Calls Tryz.prog 3 #[v.val n, I xk] w fun e w' => e = .returned (.bool true) ∧ Below w.heap.size w w' := by
 have hz := aM w (Obj.cells (v.parts n) 29)
 have HN := aH (hN.below hz)
 have HG := aH (Blk.new w 29 (v.parts n))
 have HB := aH hz
 have HTB := aH htab
 clear hz hN htab 
 unfold NetV.val NetV.parts at *
 go_enter Tryz.func3, Tryz.ntmps3
 have HC := aH (sI (w.alloc (Obj.cells #[.slice v.na n.nodes.length v.nc, .slice v.sa n.switches.length v.sc, .slice v.ba n.branches.length v.bc, .slice v.ga n.gens.length v.gc, .slice v.la n.loads.length v.lc, .slice v.ta n.stores.length v.tc] 29)) (bZ HTB.out HB.out))
 go_wp2_with fail
 refine HC.out.mono ?_
 rintro e w1 ⟨rfl, hb⟩
 clear HC
 have hbs := HB.out.size
 replace HB := aH (HB.out.trans (hb.mono hbs))
 clear hbs
 replace HN := aH (HN.out.below hb)
 replace HG := bL HG hb
 clear hb
 have x0 := HG.out.cell 0
 have x1 := HG.out.cell 1
 have x2 := HG.out.cell 2
 have x3 := HG.out.cell 3
 have x4 := HG.out.cell 4
 have x5 := HG.out.cell 5
 have HC := aH (aDe n v w1 HN.out)
 unfold NetV.val NetV.parts at HC
 go_wp2_with fail
 refine HC.out.mono ?_
 rintro e w2 ⟨bv, iv, rfl, hbv, hiv, hb⟩
 clear HC
 clear x0 x1 x2 x3 x4 x5
 obtain ⟨BA, bc, rfl⟩ := hbv.val
 obtain ⟨IA, ic, rfl⟩ := hiv.val
 have hbs := HB.out.size
 replace HB := aH (HB.out.trans (hb.mono hbs))
 clear hbs
 replace HN := aH (HN.out.below hb)
 replace HG := bL HG hb
 clear hb
 have HBV := aH hbv
 clear hbv hiv
 go_upto_region 4 with (fail)
 have hb := aM w2 (.cells #[.slice BA (ofL n).1.1.length bc, .slice IA (ofL n).1.2.length ic] 33)
 have hx := Blk.new w2 33 #[.slice BA (ofL n).1.1.length bc, .slice IA (ofL n).1.2.length ic]
 have hbs := HB.out.size
 replace HB := aH (HB.out.trans (hb.mono hbs))
 clear hbs
 replace HN := aH (HN.out.below hb)
 replace HG := bL HG hb
 replace HBV := aH (HBV.out.call hb)
 clear hb
 have HT := aH hx
 clear hx
 generalize w2.alloc (.cells #[.slice BA (ofL n).1.1.length bc, .slice IA (ofL n).1.2.length ic] 33) = wsT at *
 generalize w2.heap.size = gT at *
 by_cases hc : aV n = 0
 ·have HC0 := aH hc
  have HV := aH (sE hc)
  have HOF := aH (show ofL n = ((aC n, aA n), 0) by rw [ofL, if_pos hc])
  clear hc
  rw [HOF.out] at HBV HT ⊢
  simp only at HBV HT ⊢
  have hbl := bS HV.out
  rw [hbl] at HBV HT ⊢
  have HBL := aH hbl
  clear hbl
  obtain ⟨mi, hmi⟩ : ∃ q, (aA n).length = q := ⟨_, rfl⟩
  have hmi2 := iM HV.out
  rw [hmi] at HT hmi2 ⊢
  have HMI := aH hmi
  clear hmi
  have t0 := HT.out.cell 0
  have t1 := HT.out.cell 1
  change _ = some (Value.slice BA n.nodes.length bc) at t0
  change _ = some (Value.slice IA mi ic) at t1
  have x0 := HG.out.cell 0
  have x1 := HG.out.cell 1
  have x2 := HG.out.cell 2
  have x3 := HG.out.cell 3
  have x4 := HG.out.cell 4
  have x5 := HG.out.cell 5
  have HC := aH (aFv n v wsT)
  unfold NetV.val NetV.parts at HC
  go_wp2_with fail
  refine HC.out.mono ?_
  rintro e w3 ⟨rfl, hb⟩
  clear HC
  clear x0 x1 x2 x3 x4 x5
  clear t0 t1
  have hbs := HB.out.size
  replace HB := aH (HB.out.trans (hb.mono hbs))
  clear hbs
  replace HN := aH (HN.out.below hb)
  replace HG := bL HG hb
  replace HBV := aH (HBV.out.call hb)
  replace HT := bL HT hb
  clear hb
  cases hw : iE n with
  | true =>
   go_wp2
   go_ret
   exact ⟨rfl, HB.out⟩
  | false =>
   have HW := aH hw
   clear hw
   obtain ⟨nb, hnb⟩ : ∃ q, n.branches.length = q := ⟨_, rfl⟩
   have hnb24 := HV.out.hb
   rw [hnb] at hnb24
   have HNB := aH hnb
   clear hnb
   have t0 := HT.out.cell 0
   have t1 := HT.out.cell 1
   change _ = some (Value.slice BA n.nodes.length bc) at t0
   change _ = some (Value.slice IA mi ic) at t1
   have x0 := HG.out.cell 0
   have x1 := HG.out.cell 1
   have x2 := HG.out.cell 2
   have x3 := HG.out.cell 3
   have x4 := HG.out.cell 4
   have x5 := HG.out.cell 5
   change _ = some (Value.slice v.ba n.branches.length v.bc) at x2
   rw [HNB.out] at x2
   change _ = some (Value.slice v.na n.nodes.length v.nc) at x0
   by_cases h0 : nb = 0
   ·have e0 : ((nb : Int) == 0) = true := by rw [h0]; rfl
    go_wp2
    go_ret
    exact ⟨rfl, HB.out⟩
   ·have e0 : ((nb : Int) == 0) = false := by rw [beq_eq_false_iff_ne]; omega
    have e1 : ((n.nodes.length : Int) != (n.nodes.length : Int)) = false := by simp
    have hp0 : (0 : Int) < (nb : Int) := by omega
    have hp1 : (nb : Int) ≤ 1000000 := by omega
    have hr1 := oV xk hp0
    have HC := aH (aKp xk nb w3 hp0 hp1)
    go_wp2_with fail
    refine HC.out.mono ?_
    rintro e w4 ⟨rfl, rfl⟩
    clear HC
    clear e0 e1 t0 t1
    clear x0 x1 x2 x3 x4 x5
    generalize tG xk nb = k at *
    obtain ⟨hk0, hk1⟩ := hr1
    obtain ⟨k, rfl⟩ := Int.eq_ofNat_of_zero_le hk0
    clear hk0
    have hk : k < nb := by omega
    clear h0 hp0
    have HES := aH (show (aD n).length = nb by rw [← HNB.out]; simp [aD])
    have HED := aH (show ∀ j (hj : j < n.branches.length), (aD n)[j]? = some (at_ (aC n) (Lib.idxOfS n.nodes n.branches[j].src), at_ (aC n) (Lib.idxOfS n.nodes n.branches[j].dst)) from fun j hj => by simp [aD, hj])
    obtain ⟨es, hes⟩ : ∃ es, aD n = es := ⟨_, rfl⟩
    rw [hes] at HES HED
    have HEQ := aH hes
    clear hes
    have x0 := HG.out.cell 0
    have x1 := HG.out.cell 1
    have x2 := HG.out.cell 2
    have x3 := HG.out.cell 3
    have x4 := HG.out.cell 4
    have x5 := HG.out.cell 5
    change _ = some (Value.slice v.ba n.branches.length v.bc) at x2
    rw [HNB.out] at x2
    change _ = some (Value.slice v.na n.nodes.length v.nc) at x0
    clear x0 x1 x3 x4 x5
    have HG0 := aH HG.out.lt
    have HT0 := aH HT.out.lt
    generalize hvba : v.ba = ba at *
    have HVBA := aH hvba
    clear hvba
    go_wp2
    clear x2
    go_loopg [7, 50] (nb - 0) (fun r lv iv wr => ∃ j : Nat, r = nb - j ∧ iv = I j ∧ j ≤ nb ∧ Hid (BrdI w4 es j lv wr))
    case atStart => exact ⟨0, rfl, rfl, by omega, aH ⟨Row.nil _ _ _ _, Below.refl _ _⟩⟩
    case round =>
     obtain ⟨j, rfl, rfl, hj, HGI⟩ := hrel
     obtain ⟨wa, rfl⟩ := wE wr
     by_cases hlt : j < nb
     ·have hltn : j < n.branches.length := by rw [HNB.out]; exact hlt
      have hb := HGI.out.below
      have hIN := (HN.out.below hb).net
      obtain ⟨bb, off, hba, hbl, hcs⟩ := fA (f := BranchD.cells) (sz := 9) (fun _ => rfl) (by omega) hIN.branches hltn
      have hmem := HV.out.br _ (List.getElem_mem hltn)
      have hed := HED.out j hltn
      obtain ⟨q, hq⟩ : ∃ q, n.branches[j] = q := ⟨_, rfl⟩
      rw [hq] at hcs hmem hed
      clear hq
      obtain ⟨nm, xa, xb, fx, ft, fs, fl, fo, fh⟩ := q
      obtain ⟨ha, hbx, _, _⟩ := hmem
      have ia := eK ha
      have ib := eK hbx
      simp only at ha hbx ia ib hed
      have c0 := hcs 0 _ rfl
      have c1 := hcs 1 _ rfl
      have c2 := hcs 2 _ rfl
      have c3 := hcs 3 _ rfl
      have c4 := hcs 4 _ rfl
      have c5 := hcs 5 _ rfl
      have c6 := hcs 6 _ rfl
      have c7 := hcs 7 _ rfl
      have c8 := hcs 8 _ rfl
      simp only [← Nat.add_assoc, Nat.add_zero] at c0 c1 c2 c3 c4 c5 c6 c7 c8
      have hbv := HBV.out.call hb
      obtain ⟨gb, gboff, gcap, hv, hbb, hnc, hbs⟩ := hbv.ints (by omega)
      injection hv with hv _ hvc
      subst hv hvc
      have hbuslen := HBL.out
      have ia0 := ia.1
      have ib0 := ib.1
      have ia1 : Lib.idxOfS n.nodes xa < n.nodes.length := ia.2
      have ib1 : Lib.idxOfS n.nodes xb < n.nodes.length := ib.2
      have hnn := HV.out.hn
      have z0 : wa.cell? ⟨gb, gboff + (Lib.idxOfS n.nodes xa).toNat, none⟩ = some (I (at_ (aC n) (Lib.idxOfS n.nodes xa))) := hbs _ (by omega)
      have z1 : wa.cell? ⟨gb, gboff + (Lib.idxOfS n.nodes xb).toNat, none⟩ = some (I (at_ (aC n) (Lib.idxOfS n.nodes xb))) := hbs _ (by omega)
      have HNO := aH hIN.nodes
      have y0 := (HG.out.below hb HG.out.lt).cell 0
      change _ = some (Value.slice v.na n.nodes.length v.nc) at y0
      have y1 := (HT.out.below hb HT.out.lt).cell 0
      change _ = some (Value.slice (some ⟨gb, gboff, none⟩) n.nodes.length bc) at y1
      have x2 := (HG.out.below hb HG.out.lt).cell 2
      change _ = some (Value.slice ba n.branches.length v.bc) at x2
      rw [HNB.out] at x2
      have HED1 := aH hed
      have hba2 := HVBA.out.symm.trans hba
      subst hba2
      have hgb := (own_lt HBV.out (g := gb) rfl).2.1
      clear hba hcs hIN hbs ia ib ha hbx hbv hed
      go_wp2
      have al := aM wa (Obj.cells #[Value.string nm, Value.string xa, Value.string xb, Value.int IntKind.i64 fx, Value.int IntKind.i64 ft, Value.int IntKind.i64 fs, Value.int IntKind.i64 fl, Value.int IntKind.i64 fo, Value.int IntKind.i64 fh] 41)
      have hx0 := aB y0 al
      have hx1 := aB y1 al
      have hx4 := aB z0 al
      have hx5 := aB z1 al
      have hx2 : (wa.alloc (Obj.cells #[Value.string nm, Value.string xa, Value.string xb, Value.int IntKind.i64 fx, Value.int IntKind.i64 ft, Value.int IntKind.i64 fs, Value.int IntKind.i64 fl, Value.int IntKind.i64 fo, Value.int IntKind.i64 fh] 41)).cell? ⟨wa.heap.size, 1, none⟩ = some (.string xa) := (Blk.new wa 41 _).cell 1
      have hx3 : (wa.alloc (Obj.cells #[Value.string nm, Value.string xa, Value.string xb, Value.int IntKind.i64 fx, Value.int IntKind.i64 ft, Value.int IntKind.i64 fs, Value.int IntKind.i64 fl, Value.int IntKind.i64 fo, Value.int IntKind.i64 fh] 41)).cell? ⟨wa.heap.size, 2, none⟩ = some (.string xb) := (Blk.new wa 41 _).cell 2
      have HL := aH (HGI.out.row.call al)
      have HBE3 := aH (HGI.out.below.trans (al.mono HGI.out.below.size))
      have HNO2 := aH (HNO.out.below al)
      have HLA := aH HGI.out.row
      have hsz : (wa.alloc (Obj.cells #[Value.string nm, Value.string xa, Value.string xb, Value.int IntKind.i64 fx, Value.int IntKind.i64 ft, Value.int IntKind.i64 fs, Value.int IntKind.i64 fl, Value.int IntKind.i64 fo, Value.int IntKind.i64 fh] 41)).heap.size = wa.heap.size + 1 := World.size_alloc _ _
      have hza : w4.heap.size ≤ wa.heap.size := HGI.out.below.size
      have hlt1 := HG0.out
      have hlt2 := HT0.out
      have hsz1 : wa.heap.size < (wa.alloc (Obj.cells #[Value.string nm, Value.string xa, Value.string xb, Value.int IntKind.i64 fx, Value.int IntKind.i64 ft, Value.int IntKind.i64 fs, Value.int IntKind.i64 fl, Value.int IntKind.i64 fo, Value.int IntKind.i64 fh] 41)).heap.size := by omega
      have hsz2 : w.heap.size < (wa.alloc (Obj.cells #[Value.string nm, Value.string xa, Value.string xb, Value.int IntKind.i64 fx, Value.int IntKind.i64 ft, Value.int IntKind.i64 fs, Value.int IntKind.i64 fl, Value.int IntKind.i64 fo, Value.int IntKind.i64 fh] 41)).heap.size := by omega
      have hsz3 : gT < (wa.alloc (Obj.cells #[Value.string nm, Value.string xa, Value.string xb, Value.int IntKind.i64 fx, Value.int IntKind.i64 ft, Value.int IntKind.i64 fs, Value.int IntKind.i64 fl, Value.int IntKind.i64 fo, Value.int IntKind.i64 fh] 41)).heap.size := by omega
      generalize wa.alloc (Obj.cells #[Value.string nm, Value.string xa, Value.string xb, Value.int IntKind.i64 fx, Value.int IntKind.i64 ft, Value.int IntKind.i64 fs, Value.int IntKind.i64 fl, Value.int IntKind.i64 fo, Value.int IntKind.i64 fh] 41) = W1 at *
      clear al hsz HNO y0 y1 z0 z1 c0 c1 c2 c3 c4 c5 c6 c7 c8 x2
      obtain ⟨i0, hi0, hz0, hz1, hz2⟩ := info_parts Tryz.info43
      have HI0 := aH hi0
      have HZ0 := aH hz0
      have HZ1 := aH hz1
      have HZ2 := aH hz2
      clear hi0 hz0 hz1 hz2
      have htl : (es.take j).length ≤ 24 := by have := HES.out; simp; omega
      obtain ⟨t, ht⟩ : ∃ t, es.take j = t := ⟨_, rfl⟩
      have HTK := aH (show es.take (j + 1) = t ++ [(at_ (aC n) (Lib.idxOfS n.nodes xa), at_ (aC n) (Lib.idxOfS n.nodes xb))] by rw [List.take_add_one, HED1.out, ht]; rfl)
      rw [ht] at HL HLA htl
      clear ht HED1 HGI
      generalize hpa : at_ (aC n) (Lib.idxOfS n.nodes xa) = pa at *
      generalize hpb : at_ (aC n) (Lib.idxOfS n.nodes xb) = pb at *
      have hia : Lib.idxOfS n.nodes xa ≤ 24 := by omega
      have hib : Lib.idxOfS n.nodes xb ≤ 24 := by omega
      clear hpa hpb
      go_region_held3 (fun w' => w'.cell? ⟨w.heap.size, 0, none⟩ = some (.slice v.na n.nodes.length v.nc) ∧ w'.cell? ⟨gT, 0, none⟩ = some (.slice (some ⟨gb, gboff, none⟩) n.nodes.length bc) ∧ w'.cell? ⟨wa.heap.size, 1, none⟩ = some (.string xa) ∧ w'.cell? ⟨wa.heap.size, 2, none⟩ = some (.string xb) ∧ w'.cell? ⟨gb, gboff + (Lib.idxOfS n.nodes xa).toNat, none⟩ = some (I pa) ∧ w'.cell? ⟨gb, gboff + (Lib.idxOfS n.nodes xb).toNat, none⟩ = some (I pb))
       (first | (with_reducible exact ⟨hx0, hx1, hx2, hx3, hx4, hx5⟩) | (with_reducible exact HX.out) | go_keep)
       (first | (go_at_call 18; refine (gW n.nodes _ v.na v.nc _ _ _ rfl HNO2.out.drew (by omega)).mono ?_; rintro e w' ⟨rfl, rfl⟩) | (refine fI (by rfl) _ _ 39 (by rfl) w4.heap.size 43 i0 _ 2 16 Tryz.underlying39 HI0.out HZ0.out HZ1.out HZ2.out rfl (by decide) u7 t.length (cK t) (by rfl) (HL.out.alloc _).drew (W1.heap.size + 1) (some ⟨W1.heap.size, 0, none⟩) 1 1 [I pa, I pb] (by rfl) (kJ W1 43 _ _) (by simp [Value.oneCell']) (by unfold maxLen; omega) (by omega) (by simp; omega) ?_; intro v' w3 hr3 hg3; have HX := aH (show _ ∧ _ ∧ _ ∧ _ ∧ _ ∧ _ from ⟨dL HLA.out hg3 hx0 (by omega), dL HLA.out hg3 hx1 (by omega), dL HLA.out hg3 hx2 (by omega), dL HLA.out hg3 hx3 (by omega), dL HLA.out hg3 hx4 (by omega), dL HLA.out hg3 hx5 (by omega)⟩)))
      have hR1 := (HL.out.alloc (Obj.cells #[I pa, I pb] 43)).drew
      have HBE4 := aH (((HBE3.out.alloc (by omega) (Obj.cells #[I pa, I pb] 43)).drew).trans (hR1.belowG hg3 (by simp; omega)))
      have HRO : Hid (Row w3 w4.heap.size 43 2 v' (es.take (j + 1)).length (cK (es.take (j + 1)))) := by
       rw [HTK.out, List.length_append, ← kI]; exact hr3
      clear hR1 hg3 hr3 HX hx0 hx1 hx2 hx3 hx4 hx5 HL HLA HBE3
      go_wp2
      go_roundg (nb - (j + 1))
      case measure => omega
      case rel => exact ⟨j + 1, rfl, by go_num, by omega, aH ⟨HRO.out, HBE4.out⟩⟩
     ·obtain rfl : j = nb := by omega
      have hrow := HGI.out.row
      rw [List.take_of_length_le (by rw [HES.out]; exact Nat.le_refl _)] at hrow
      obtain ⟨LA, lc, rfl⟩ := hrow.val
      have hb := HGI.out.below
      have hel : es.length ≤ 24 := by have := HES.out; omega
      have hcap : es.length ≤ lc := by
       rcases hrow.2 with ⟨hv, h0⟩ | ⟨g, off, cap, cur, hv, _, _, hnc, _⟩
       ·omega
       ·injection hv with _ _ h3; omega
      have HLR := aH hrow
      clear HGI hrow
      have hbs := HB.out.size
      replace HB := aH (HB.out.trans (hb.mono hbs))
      clear hbs
      replace HN := aH (HN.out.below hb)
      replace HG := bL HG hb
      replace HBV := aH (HBV.out.call hb)
      replace HT := bL HT hb
      clear hb
      have t1 := HT.out.cell 1
      change _ = some (Value.slice IA mi ic) at t1
      have HC := aH (xX HV.out es HEQ.out mi HMI.out LA lc wa (HLR.out.reads.more lR) hcap)
      go_wp2_with fail
      refine HC.out.mono ?_
      rintro e w5 ⟨RA, rc, rfl, hrr, hb⟩
      clear HC
      clear t1 hcap
      have hbs := HB.out.size
      replace HB := aH (HB.out.trans (hb.mono hbs))
      clear hbs
      replace HN := aH (HN.out.below hb)
      replace HG := bL HG hb
      replace HBV := aH (HBV.out.call hb)
      replace HT := bL HT hb
      replace HLR := aH (HLR.out.call hb)
      clear hb
      have HRR := aH (hrr)
      clear hrr
      have x0 := HG.out.cell 0
      have x1 := HG.out.cell 1
      have x2 := HG.out.cell 2
      have x3 := HG.out.cell 3
      have x4 := HG.out.cell 4
      have x5 := HG.out.cell 5
      have HC := aH ((xV n v k w5 HN.out (bZ HTB.out HB.out)).mono fun e w' h => aNo h)
      unfold NetV.val NetV.parts at HC
      rw [HVBA.out] at HC
      go_wp2_with fail
      refine HC.out.mono ?_
      rintro e w6 ⟨VA, vm, vc, rfl, hno, hok, hb⟩
      clear HC
      clear x0 x1 x2 x3 x4 x5
      have hbs := HB.out.size
      replace HB := aH (HB.out.trans (hb.mono hbs))
      clear hbs
      replace HN := aH (HN.out.below hb)
      replace HG := bL HG hb
      replace HBV := aH (HBV.out.call hb)
      replace HT := bL HT hb
      replace HLR := aH (HLR.out.call hb)
      replace HRR := aH (HRR.out.call hb)
      clear hb
      have HOK := aH hok
      have HNO := aH hno
      clear hok hno
      have HLB := aH (xW HW.out HC0.out (k := k) (by rw [HNB.out]; exact hk))
      have hbl : (sJ n).length ≤ 1000000 := by
       have h1 := aAg (brB (cT (aC n)).toNat (aD n)) (aD n).length
       have h2 := HES.out
       rw [HEQ.out] at h1
       show (sel _ _).length ≤ _
       rw [HEQ.out]
       omega
      rw [show fU (cT (aC n)).toNat (aD n) = sJ n from rfl] at HLB
      cases hct : (sJ n).contains (k : Int) with
      | true =>
       have hle := HLB.out
       rw [hct, if_pos rfl] at hle
       rw [hle] at HNO ⊢
       obtain rfl := HNO.out (by show (15 : Int) ≠ 0; decide)
       clear HOK HNO
       simp only
       have HC := aH (contains_any (sJ n) _ RA rc k w6 rfl (HRR.out.reads.more lR) hbl)
       rw [hct] at HC
       go_wp2_with fail
       refine HC.out.mono ?_
       rintro e w7 ⟨rfl, rfl⟩
       clear HC
       go_wp2
       go_ret
       exact ⟨rfl, HB.out⟩
      | false =>
       have hle := HLB.out
       rw [hct, if_neg (by decide)] at hle
       rw [hle] at HOK ⊢
       simp only at HOK ⊢
       obtain ⟨hfit, hrow⟩ := HOK.out (by trivial)
       obtain ⟨_, _, e⟩ := hrow.val
       injection e with e1 e2 e3
       subst e1 e2 e3
       have hln := aBo (n := n) (k := k) (by rw [HNB.out]; exact hk)
       have hlk := aOn (n := n) (k := k) (by rw [HNB.out]; exact hk)
       rw [HNB.out] at hln
       have HROW := aH hrow
       clear hrow hfit
       have HC := aH (contains_any (sJ n) _ RA rc k w6 rfl (HRR.out.reads.more lR) hbl)
       rw [hct] at HC
       go_wp2_with fail
       refine HC.out.mono ?_
       rintro e w7 ⟨rfl, rfl⟩
       clear HC
       have hrd := HROW.out.reads
       obtain ⟨b7, o7, e7, _, hcl⟩ := hrd.2 (by omega)
       have hc7 := hcl k (.string ⟨#[45, 49]⟩) (by rw [List.getElem?_map, mkS, List.getElem?_map, List.getElem?_map, hlk]; exact congrArg some (congrArg Value.string (by decide +kernel)))
       subst e7
       clear hcl hrd
       rw [hln] at HROW ⊢
       have hes := HES.out
       rw [hes]
       have e5 : ((j : Int) == (j : Int)) = true := beq_self_eq_true _
       have hkk : (k : Int) < (j : Int) := by omega
       go_wp2
       go_ret
       exact ⟨rfl, HB.out⟩
 ·have HOF := aH (show ofL n = (([], []), aV n) by rw [ofL, if_neg hc])
  have tcc : (aV n != 0) = true := bne_iff_ne.2 hc
  rw [HOF.out] at HBV HT ⊢
  simp only at HBV HT ⊢
  go_wp2
  go_ret
  exact ⟨rfl, HB.out⟩
theorem oO (n : NetD) (v : NetV) (k : Int) (w : World) (hN : Net w n v) (_ : -9223372036854775808 ≤ k ∧ k ≤ 9223372036854775807) (htab : Tab w) : Calls Tryz.prog 3 #[v.val n, I k] w fun e w' => e = .returned (.bool true) ∧ Below w.heap.size w w' :=
 oN n v k w hN htab
end
section
open Go.ChangeShapes Go.WideShapes Go.ChangeAt Go.RowKit Go.ChangeMaps
theorem nR (os : Os) (args : Array Value) : laidMetH Tryz.prog Rows.shiftBridgesRow.laid ((World.doorLaid Tryz.prog 62 os).forCall (fun _ _ => 0) ⟨#[], args, []⟩).memory :=
 laidMetH_of_parts3 (fuel := 8) (laidMet_of_run' 8 (by kernel_rfl) (by kernel_rfl)) (by kernel_rfl) (by kernel_rfl)
set_option linter.unusedVariables false in
theorem lV (os : Os) (started : os.Started) (H : Type) (enc : TypeId × Value → H) :
  ReturnsInHanded {} Tryz.checked os 3 .any (fun w args => (Rows.shiftBridgesSpec.pre enc Tryz.prog Tryz.f3 [] false w args ∧ laidMetH Tryz.prog Rows.shiftBridgesRow.laid w) ∧ sizedMet enc Tryz.prog Tryz.f3 (OpenSpec.ofChange Rows.shiftBridgesSpec) false w args)
   (Rows.shiftBridgesSpec.post enc Tryz.prog Tryz.f3 false true false false) := by
 refine returnsInHanded_of_change_and (C := Tryz.checked) (X := fun w _ => laidMetH Tryz.prog Rows.shiftBridgesRow.laid w) (fun _ _ _ hh h => h.of_heap hh) own started (by kernel_rfl) Tryz.func3
  (ChangeSpec.witness_shaped (enc := enc) (C := Tryz.checked) (os := os) (X := fun w _ => laidMetH Tryz.prog Rows.shiftBridgesRow.laid w) false (World.doorLaid Tryz.prog 62 os) #[.agg #[.slice none 0 0, .slice none 0 0, .slice none 0 0, .slice none 0 0, .slice none 0 0, .slice none 0 0], .int .i64 0] 8 rfl (World.shaped_of_RefB (by kernel_rfl) (by kernel_rfl)) (by kernel_rfl) (by kernel_rfl) (by kernel_rfl) (nR os _)) ?_
 intro W base args ds gs before hval0 hW _ _ hL _
 have hval : ∀ (j : Nat) t v, Tryz.f3.params[j]? = some t → args[j]? = some v → Value.okWide Tryz.prog W .any base t v := hval0
 have hW' := hW
 obtain ⟨p, q, hA0, hV, rfl, hfz, hnd⟩ := hW
 have hA : DataW.TrodAll enc Tryz.prog W 0 (fun _ => true) true Tryz.f3.params.toList args.toList ds p := hA0
 rw [Tryz.params3] at hA hval
 obtain ⟨v0, vs0, d0, ds0, p0, q0, hargs, rfl, rfl, h0, r0⟩ := trodAll_cons hA
 obtain ⟨v1, vs1, d1, ds1, p1, q1, rfl, rfl, rfl, h1, r1⟩ := trodAll_cons r0
 obtain ⟨rfl, rfl, rfl⟩ := trodAll_nil r1
 obtain rfl : args = #[v0, v1] := by cases args; simp_all
 obtain ⟨rfl, rfl⟩ := trodVars_none hV
 have k0 := h0
 have lt0 : ∀ x ∈ p0, x.block < W.heap.size := by obtain ⟨m, hm⟩ := k0; exact DataW.trod_lt m _ _ _ hm
 obtain ⟨n0, nv0, rfl, hn0⟩ := aEu (hval 0 29 v0 rfl rfl) h0
 obtain ⟨s1, rfl, rfl, rfl, ws1⟩ := open_int Tryz.underlying3 (hval 1 3 v1 rfl rfl) h1
 clear hA0 hval0
 refine (oO n0 nv0 s1 W hn0 (aEt ws1) (tab_of_laid3 hL)).mono fun e W' ⟨he, bel⟩ => ?_
 subst he
 exact ⟨_, rfl, _, _, _, [], _, [], hW', trodAll_mk1 (shut_bool Tryz.underlying4 _), (trodAll_cons_mk (Below.trod aJg (by kernel_rfl) (of_decide_eq_true (by kernel_rfl)) k0 bel lt0) (trodAll_cons_mk (shut_int Tryz.underlying3 ws1) trodAll_mk0)), rfl, bel.frame _, fun h => by cases h⟩
end
end Go.Proofs.YtenbglfkdldheaaGreatDoor
