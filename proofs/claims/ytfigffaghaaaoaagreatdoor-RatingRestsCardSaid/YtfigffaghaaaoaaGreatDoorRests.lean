/- RatingRests: the walk. RatingRests returns true for every input: after a step without flows, nothing is exceeded. No conditions. The row's listed variables hold what the program's text lays (the card ties them). -/
import Derived.Test.YtfigffaghaaaoaaGreatDoorRX5
import Derived.Test.YtfigffaghaaaoaaGreatDoorRU
import Derived.Test.YtfigffaghaaaoaaGreatDoorRDR
import Derived.ShutString
import Derived.ChangeMaps5
namespace Go.Proofs.YtfigffaghaaaoaaGreatDoor
open Go.RowKit

theorem zero_sh (n : Nat) : Sh1 (List.replicate n ⟨#[48]⟩) := fun s hs => by
  rw [(List.mem_replicate.1 hs).2]; decide
theorem zero_sv {w : World} {g n : Nat} (h : Blk w g strT (Array.replicate n (Sv ⟨#[48]⟩))) : SV w (some ⟨g, 0, none⟩) n (List.replicate n ⟨#[48]⟩) := by
  have := reads_blk (n := n) (sz := 1) h (by simp)
  unfold SV
  rw [List.map_replicate]
  simpa using this
theorem zero_vals (n : Nat) : tx1 (List.replicate n ⟨#[48]⟩) = List.replicate n [48] := by rw [tx1, List.map_replicate]; rfl
theorem zero_chk : ∀ n, rAll (List.replicate n [48]) = 0
  | 0 => by rfl
  | n + 1 => by
    have ih := zero_chk n
    rw [List.replicate_succ, rAll]
    have e : rchk [48] = 0 := by decide +kernel
    simp [e, ih]
theorem zero_law {bs : List BranchD} (n : Nat) (st : List RtB) (t : Int) (hn : n ≤ 24) (h0 : 0 ≤ t) (h1 : t ≤ 2000) {m : Int} (hst : StM bs st m) (hbs : bs.length = n) (hm : 0 ≤ m) :
    stN bs (tx1 (List.replicate n ⟨#[48]⟩)) 1 t st = [] ∧ (stepE bs.length (tx1 (List.replicate n ⟨#[48]⟩)) 1 t = 0 ∧ stT bs (tx1 (List.replicate n ⟨#[48]⟩)) 1 t = t + 1) ∧ StM bs (stS bs (tx1 (List.replicate n ⟨#[48]⟩)) 1 t st) (m + 1) ∧
      overL bs (stS bs (tx1 (List.replicate n ⟨#[48]⟩)) 1 t st) = [] ∧ ∀ x ∈ leftL bs (stS bs (tx1 (List.replicate n ⟨#[48]⟩)) 1 t st), x.2 = -1 := by
  have hE : stepE bs.length (tx1 (List.replicate n ⟨#[48]⟩)) 1 t = 0 := by
    unfold stepE
    have hc : chkV (tx1 (List.replicate n ⟨#[48]⟩)) = 0 := by rw [zero_vals, chkV, if_neg (by simp; omega)]; exact zero_chk n
    rw [if_neg (fun k => k hc), if_neg (by rw [zero_vals, List.length_replicate, hbs]; exact fun k => k rfl), if_neg (by omega)]
  have hq : ∀ q ∈ valsV (tx1 (List.replicate n ⟨#[48]⟩)), q = 0 := fun q hq => by
    rw [zero_vals, valsV, List.map_replicate] at hq
    rw [(List.mem_replicate.1 hq).2]
    decide +kernel
  obtain ⟨r1, r2⟩ := rest_law bs (valsV (tx1 (List.replicate n ⟨#[48]⟩))) 1 st hst.b hq
  refine ⟨by rw [stN, if_pos hE]; exact r1, ⟨hE, by rw [stT, if_pos hE]⟩, stM_stS hst (by decide) hm, by rw [stS, if_pos hE]; exact r1, ?_⟩
  rw [stS, if_pos hE]
  exact r2
set_option maxRecDepth 100000 in
set_option maxHeartbeats 16000000 in
theorem ratingRests_any (n : NetD) (v : NetV) (l : List ByteArray) (nl : Nat) (A : Option Addr) (c : Nat) (a : Int) (w : World) (hN : Net w n v) (hv : SV w A nl l) (hsb : Sh1 l)  (htab : Tab w) : Calls Tryz.prog 5 #[v.val n, .slice A nl c, I a] w fun e w' => e = .returned (.bool true) ∧ Below w.heap.size w w' := by
  have hz := below_new w (Obj.cells (v.parts n) 29)
  have HN := Lib.hid (hN.below hz)
  have HG := Lib.hid (Blk.new w 29 (v.parts n))
  have HZ := Lib.hid hz
  have HVC := Lib.hid (hv.below hz)
  have HSB := Lib.hid hsb
  have HTB := Lib.hid (tab_below htab hz)
  clear hz hN hv hsb htab
  unfold NetV.val NetV.parts at *
  go_enter Tryz.func5, Tryz.ntmps5
  have HC := Lib.hid (ratingFact_any (w.alloc (Obj.cells #[.slice v.na n.nodes.length v.nc, .slice v.sa n.switches.length v.sc, .slice v.ba n.branches.length v.bc, .slice v.ga n.gens.length v.gc, .slice v.la n.loads.length v.lc, .slice v.ta n.stores.length v.tc] 29)) HTB.out)
  go_wp2_with fail
  refine HC.out.mono ?_
  rintro e w1 ⟨rfl, hb⟩
  clear HC
  replace HN := Lib.hid (HN.out.below hb)
  replace HG := Lib.hid (HG.out.below hb HG.out.lt)
  replace HZ := Lib.hid (HZ.out.trans (hb.mono HZ.out.size))
  replace HVC := Lib.hid (HVC.out.below hb)
  replace HTB := Lib.hid (tab_below HTB.out hb)
  have HB := Lib.hid (Below.refl w1.heap.size w1)
  clear hb
  have hgl : w.heap.size < w1.heap.size := HG.out.lt
  by_cases e : checkN n = 0
  · have HE := Lib.hid e
    have HVN := Lib.hid (vnet e)
    have HNB := Lib.hid (show n.branches.length ≤ 24 from HVN.out.hb)
    have HM0 := Lib.hid (stM_zero HVN.out)
    clear e
    have x0 := (HG.out.below HB.out hgl).cell 0
    have x1 := (HG.out.below HB.out hgl).cell 1
    have x2 := (HG.out.below HB.out hgl).cell 2
    have x3 := (HG.out.below HB.out hgl).cell 3
    have x4 := (HG.out.below HB.out hgl).cell 4
    have x5 := (HG.out.below HB.out hgl).cell 5
    have HBsp := Lib.hid HB.out.size
    have HC := Lib.hid (show Calls Tryz.prog 7 #[.agg #[.slice v.na n.nodes.length v.nc, .slice v.sa n.switches.length v.sc, .slice v.ba n.branches.length v.bc, .slice v.ga n.gens.length v.gc, .slice v.la n.loads.length v.lc, .slice v.ta n.stores.length v.tc]] w1 (fun e w' => ∃ p, e = .returned (.tuple #[.pointer (some ⟨p.g, 0, none⟩), I 0]) ∧ WS w' w1.heap.size p n.branches (List.replicate n.branches.length rt0) 0 ∧ Below w1.heap.size w1 w') from (rnew_any n v w1 (HN.out.below HB.out)).mono fun e w' h => by
        obtain ⟨p, h1, h2⟩ := h.2.1 HE.out
        exact ⟨p, h1, h2, h.2.2⟩)
    go_wp2_with fail
    refine HC.out.mono ?_
    rintro e w2 ⟨p, rfl, hws, hb⟩
    clear HC
    have hbs := HB.out.size
    replace HB := Lib.hid (HB.out.trans (hb.mono hbs))
    clear hbs
    clear hb
    clear x0 x1 x2 x3 x4 x5
    have HWp := Lib.hid hws
    have HPp := Lib.hid hws.plt
    have HOp := Lib.hid (off_old HVC.out hws HBsp.out)
    clear hws
    have HBep := Lib.hid (Nat.le_refl w2.heap.size)
    have hpa := pickN_range a (n := 1000) (by decide)
    have HC := Lib.hid (pick_at a 1000 w2 (by decide) (by decide))
    go_wp2_with fail
    refine HC.out.mono ?_
    rintro e w3 ⟨rfl, rfl⟩
    clear HC
    generalize pickN a 1000 = pa at *
    have hta := stT_range (bs := n.branches) (l := tx1 l) (s := 1 + pa) (t := 0) (by omega) (by decide)
    have HMA := Lib.hid (stM_stS (l := l) (s := 1 + pa) (t := 0) HM0.out (by omega) (by decide))
    generalize List.replicate n.branches.length rt0 = st0 at *
    have HC := Lib.hid (rstepU_any p n.branches st0 0 w1.heap.size w3 HWp.out HNB.out (HM0.out.ok (by decide)) (by decide) (by decide) l nl A c (HVC.out.below HB.out) HSB.out HOp.out (tab_below HTB.out HB.out) (1 + pa) (by omega))
    go_wp2_with fail
    refine HC.out.mono ?_
    rintro e w4 ⟨AHR1, cHR1, rfl, hrow, hws, hch, hb⟩
    clear HC
    replace HBep := Lib.hid (Nat.le_trans HBep.out hb.size)
    replace HB := Lib.hid (HB.out.trans (hb.mono HBsp.out))
    replace HWp := Lib.hid hws
    have HR1 := Lib.hid hrow
    clear hrow hws hch hb
    clear HR1 HM0
    generalize hte : stepE n.branches.length (tx1 l) (1 + pa) 0 = ee at *
    have HTE := Lib.hid (show stT n.branches (tx1 l) (1 + pa) 0 = if ee = 0 then 0 + (1 + pa) else 0 by rw [stT, hte])
    clear hte
    generalize hs1 : stS n.branches (tx1 l) (1 + pa) 0 st0 = st1 at *
    generalize ht1 : stT n.branches (tx1 l) (1 + pa) 0 = t1 at *
    clear hs1 ht1
    have x2 := (HG.out.below HB.out hgl).cell 2
    have hg4 : w.heap.size < w4.heap.size := Nat.lt_of_lt_of_le hgl HB.out.size
    have hb := below_new w4 (.cells #[.string ⟨#[48]⟩] 53)
    have hx := Blk.new w4 53 #[.string ⟨#[48]⟩]
    have hbs := HB.out.size
    replace HB := Lib.hid (HB.out.trans (hb.mono hbs))
    clear hbs
    replace HWp := Lib.hid (HWp.out.call hb)
    replace HBep := Lib.hid (Nat.le_trans HBep.out hb.size)
    clear hb
    have HX := Lib.hid hx
    clear hx
    have hx := HX.out.cell 0
    change _ = some (Value.string ⟨#[48]⟩) at hx
    have hxl : w4.heap.size < (w4.alloc (.cells #[.string ⟨#[48]⟩] 53)).heap.size := HX.out.lt
    have HC := Lib.hid (repeatRs_any ⟨#[48]⟩ n.branches.length w4.heap.size 0 1 (w4.alloc (.cells #[.string ⟨#[48]⟩] 53)) hxl hx (by have := HNB.out; omega))
    go_wp2_with fail
    refine HC.out.mono ?_
    rintro e w5 ⟨rfl, hzb, hb⟩
    clear HC
    clear HX hx hxl x2 hg4
    have HZB := Lib.hid hzb
    clear hzb
    have hbs := HB.out.size
    replace HB := Lib.hid (HB.out.trans (hb.mono hbs))
    clear hbs
    replace HWp := Lib.hid (HWp.out.call hb)
    replace HBep := Lib.hid (Nat.le_trans HBep.out hb.size)
    clear hb
    skip
    obtain ⟨zg, hzg⟩ : ∃ zg, zg = (w4.alloc (.cells #[.string ⟨#[48]⟩] 53)).heap.size := ⟨_, rfl⟩
    rw [← hzg] at HZB ⊢
    clear hzg
    have HZV := Lib.hid (zero_sv HZB.out)
    have HZO := Lib.hid (off_typ HWp.out HZB.out (by decide) (by decide) (by decide) (by decide) 0 n.branches.length)
    obtain ⟨z1, z2, z3⟩ := zero_law n.branches.length st1 t1 HNB.out hta.1 (by omega) HMA.out rfl (by omega)
    have Z1 := Lib.hid z1
    have Z2 := Lib.hid z2
    have Z3 := Lib.hid z3
    clear z1 z2 z3
    have HC := Lib.hid (rstepU_any p n.branches st1 t1 w1.heap.size w5 HWp.out HNB.out (HMA.out.ok (by omega)) hta.1 (by omega) (List.replicate n.branches.length ⟨#[48]⟩) n.branches.length (some ⟨zg, 0, none⟩) n.branches.length HZV.out (zero_sh _) HZO.out (tab_below HTB.out HB.out) 1 (by decide))
    go_wp2_with fail
    refine HC.out.mono ?_
    rintro e w6 ⟨AHR2, cHR2, rfl, hrow, hws, hch, hb⟩
    clear HC
    replace HBep := Lib.hid (Nat.le_trans HBep.out hb.size)
    replace HB := Lib.hid (HB.out.trans (hb.mono HBsp.out))
    replace HWp := Lib.hid hws
    have HR2 := Lib.hid hrow
    clear hrow hws hch hb
    rw [Z1.out, Z2.out.1]
    clear HR2 HZV HZO HZB
    have HM2 := Lib.hid Z3.out
    generalize stS n.branches (tx1 (List.replicate n.branches.length ⟨#[48]⟩)) 1 t1 st1 = st2 at *
    skip
    have HC := Lib.hid (rleft_any p n.branches st2 _ w1.heap.size w6 HWp.out HNB.out (HM2.out.1.ok (by omega)))
    go_wp2_with fail
    refine HC.out.mono ?_
    rintro e w7 ⟨AHL1, cHL1, rfl, hrow, hb⟩
    clear HC
    have hbs := HB.out.size
    replace HB := Lib.hid (HB.out.trans (hb.mono hbs))
    clear hbs
    replace HWp := Lib.hid (HWp.out.call hb)
    replace HBep := Lib.hid (Nat.le_trans HBep.out hb.size)
    clear hb
    have HL1 := Lib.hid hrow
    clear hrow
    have HLE := Lib.hid (leftL_len n.branches st2 HM2.out.1.len)
    rw [HLE.out] at HL1 ⊢
    have tb : ((n.branches.length : Int) == n.branches.length) = true := beq_self_eq_true _
    have x2 := (HG.out.below HB.out hgl).cell 2
    by_cases he : ee = 0
    · skip
      have t0 : (ee == 0) = true := beq_iff_eq.2 he
      clear he x2
      have HC := Lib.hid (rover_any p n.branches st2 _ w1.heap.size w7 HWp.out HNB.out)
      rw [HM2.out.2.1] at HC
      go_wp2_with fail
      refine HC.out.mono ?_
      rintro e w8 ⟨A9, c9, rfl, hrow, hb⟩
      clear HC
      have hbs := HB.out.size
      replace HB := Lib.hid (HB.out.trans (hb.mono hbs))
      clear hbs
      replace HWp := Lib.hid (HWp.out.call hb)
      replace HBep := Lib.hid (Nat.le_trans HBep.out hb.size)
      replace HL1 := Lib.hid (HL1.out.call hb)
      clear hb
      clear hrow
      have x2 := (HG.out.below HB.out hgl).cell 2
      have HC := Lib.hid (hasLf_any (leftL n.branches st2) HM2.out.2.2 n.branches.length AHL1 cHL1 w8 HL1.out.reads (by have := HNB.out; omega))
      go_wp2_with fail
      refine HC.out.mono ?_
      rintro e w9 ⟨rfl, hb⟩
      clear HC
      have hbs := HB.out.size
      replace HB := Lib.hid (HB.out.trans (hb.mono hbs))
      clear hbs
      replace HWp := Lib.hid (HWp.out.call hb)
      replace HBep := Lib.hid (Nat.le_trans HBep.out hb.size)
      replace HL1 := Lib.hid (HL1.out.call hb)
      clear hb
      clear x2
      go_wp2
      go_ret
      exact ⟨rfl, HZ.out.trans (HB.out.mono HZ.out.size)⟩
    · skip
      have t0 : (ee == 0) = false := beq_eq_false_iff_ne.2 he
      have HT1 := Lib.hid (show t1 = 0 by rw [HTE.out, if_neg he])
      rw [Z2.out.2, HT1.out] at HWp
      clear x2
      have HC := Lib.hid (rtime_any p n.branches st2 (0 + 1) w1.heap.size w7 HWp.out)
      go_wp2_with fail
      refine HC.out.mono ?_
      rintro e w8 ⟨rfl, rfl⟩
      clear HC
      have HC := Lib.hid (rover_any p n.branches st2 _ w1.heap.size w8 HWp.out HNB.out)
      rw [HM2.out.2.1] at HC
      go_wp2_with fail
      refine HC.out.mono ?_
      rintro e w9 ⟨A9, c9, rfl, hrow, hb⟩
      clear HC
      have hbs := HB.out.size
      replace HB := Lib.hid (HB.out.trans (hb.mono hbs))
      clear hbs
      replace HWp := Lib.hid (HWp.out.call hb)
      replace HBep := Lib.hid (Nat.le_trans HBep.out hb.size)
      replace HL1 := Lib.hid (HL1.out.call hb)
      clear hb
      clear hrow
      have x2 := (HG.out.below HB.out hgl).cell 2
      have HC := Lib.hid (hasLf_any (leftL n.branches st2) HM2.out.2.2 n.branches.length AHL1 cHL1 w9 HL1.out.reads (by have := HNB.out; omega))
      go_wp2_with fail
      refine HC.out.mono ?_
      rintro e w10 ⟨rfl, hb⟩
      clear HC
      have hbs := HB.out.size
      replace HB := Lib.hid (HB.out.trans (hb.mono hbs))
      clear hbs
      replace HWp := Lib.hid (HWp.out.call hb)
      replace HBep := Lib.hid (Nat.le_trans HBep.out hb.size)
      replace HL1 := Lib.hid (HL1.out.call hb)
      clear hb
      clear x2
      go_wp2
      go_ret
      exact ⟨rfl, HZ.out.trans (HB.out.mono HZ.out.size)⟩
  · have HE := Lib.hid e
    generalize hck : checkN n = ck at *
    have HCK := Lib.hid hck
    have tc : (ck != 0) = true := bne_iff_ne.2 e
    have tc2 : (ck == ck) = true := beq_self_eq_true _
    clear e hck
    have x0 := (HG.out.below HB.out hgl).cell 0
    have x1 := (HG.out.below HB.out hgl).cell 1
    have x2 := (HG.out.below HB.out hgl).cell 2
    have x3 := (HG.out.below HB.out hgl).cell 3
    have x4 := (HG.out.below HB.out hgl).cell 4
    have x5 := (HG.out.below HB.out hgl).cell 5
    have HC := Lib.hid (show Calls Tryz.prog 7 #[.agg #[.slice v.na n.nodes.length v.nc, .slice v.sa n.switches.length v.sc, .slice v.ba n.branches.length v.bc, .slice v.ga n.gens.length v.gc, .slice v.la n.loads.length v.lc, .slice v.ta n.stores.length v.tc]] w1 (fun e w' => e = .returned (.tuple #[.pointer none, I ck]) ∧ Below w1.heap.size w1 w') from (rnew_any n v w1 (HN.out.below HB.out)).mono fun e w' h => by
        have h1 := h.1 (by rw [HCK.out]; exact HE.out)
        rw [HCK.out] at h1
        exact ⟨h1, h.2.2⟩)
    go_wp2_with fail
    refine HC.out.mono ?_
    rintro e w41 ⟨rfl, hb⟩
    clear HC
    have hbs := HB.out.size
    replace HB := Lib.hid (HB.out.trans (hb.mono hbs))
    clear hbs
    clear hb
    clear x0 x1 x2 x3 x4 x5
    go_wp2
    go_ret
    exact ⟨rfl, HZ.out.trans (HB.out.mono HZ.out.size)⟩
theorem ratingRests_row {P0 : Prop} {PL : Prop} (n : NetD) (v : NetV) (l : List ByteArray) (A : Option Addr) (c : Nat) (a : Int) (w : World) (hN : Net w n v) (hv : Reads w w.heap.size 1 A l.length (l.map Sv)) (hsb : Sh1 l) (_hl : PL) (_h0 : P0) (htab : Tab w) : Calls Tryz.prog 5 #[v.val n, .slice A l.length c, I a] w fun e w' => e = .returned (.bool true) ∧ Below w.heap.size w w' :=
  ratingRests_any n v l l.length A c a w hN hv hsb htab
end Go.Proofs.YtfigffaghaaaoaaGreatDoor
namespace Go.Proofs.YtfigffaghaaaoaaGreatDoor
open Go.ChangeShapes Go.WideShapes Go.ChangeAt Go.RowKit Go.ChangeMaps

theorem ratingRests_door (os : Os) (args : Array Value) : laidMetH Tryz.prog Rows.ratingRestsRow.laid ((World.doorLaid Tryz.prog 62 os).forCall (fun _ _ => 0) ⟨#[], args, []⟩).memory :=
  laidMetH_of_parts3 (fuel := 8) (laidMet_of_run' 8 (by kernel_rfl) (by kernel_rfl)) (by kernel_rfl) (by kernel_rfl)
set_option linter.unusedVariables false in
set_option maxRecDepth 100000 in
theorem ratingRests_lifted (os : Os) (started : os.Started) (H : Type) (enc : TypeId × Value → H) :
    ReturnsInHanded {} Tryz.checked os 5 .any (fun w args => (Rows.ratingRestsSpec.pre enc Tryz.prog Tryz.f5 [] false w args ∧ laidMetH Tryz.prog Rows.ratingRestsRow.laid w) ∧ sizedMet enc Tryz.prog Tryz.f5 (OpenSpec.ofChange Rows.ratingRestsSpec) false w args)
      (Rows.ratingRestsSpec.post enc Tryz.prog Tryz.f5 false true false false) := by
  refine returnsInHanded_of_change_and (C := Tryz.checked) (X := fun w _ => laidMetH Tryz.prog Rows.ratingRestsRow.laid w) (fun _ _ _ hh h => h.of_heap hh) own started (by kernel_rfl) Tryz.func5
    (ChangeSpec.witness_shaped (enc := enc) (C := Tryz.checked) (os := os) (X := fun w _ => laidMetH Tryz.prog Rows.ratingRestsRow.laid w) false (World.doorLaid Tryz.prog 62 os) #[.agg #[.slice none 0 0, .slice none 0 0, .slice none 0 0, .slice none 0 0, .slice none 0 0, .slice none 0 0], .slice none 0 0, .int .i64 0] 8 rfl (World.shaped_of_RefB (by kernel_rfl) (by kernel_rfl)) (by kernel_rfl) (by kernel_rfl) (by kernel_rfl) (ratingRests_door os _)) ?_
  intro W base args ds gs before hval0 hW _ _ hL _
  have hval : ∀ (j : Nat) t v, Tryz.f5.params[j]? = some t → args[j]? = some v → Value.okWide Tryz.prog W .any base t v := hval0
  have hW' := hW
  obtain ⟨p, q, hA0, hV, rfl, hfz, hnd⟩ := hW
  have hA : DataW.TrodAll enc Tryz.prog W 0 (fun _ => true) true Tryz.f5.params.toList args.toList ds p := hA0
  rw [Tryz.params5] at hA hval
  obtain ⟨v0, vs0, d0, ds0, p0, q0, hargs, rfl, rfl, h0, r0⟩ := trodAll_cons hA
  obtain ⟨v1, vs1, d1, ds1, p1, q1, rfl, rfl, rfl, h1, r1⟩ := trodAll_cons r0
  obtain ⟨v2, vs2, d2, ds2, p2, q2, rfl, rfl, rfl, h2, r2⟩ := trodAll_cons r1
  obtain ⟨rfl, rfl, rfl⟩ := trodAll_nil r2
  obtain rfl : args = #[v0, v1, v2] := by cases args; simp_all
  obtain ⟨rfl, rfl⟩ := trodVars_none hV
  have k0 := h0
  have lt0 : ∀ x ∈ p0, x.block < W.heap.size := by obtain ⟨m, hm⟩ := k0; exact DataW.trod_lt m _ _ _ hm
  obtain ⟨n0, nv0, rfl, hn0⟩ := open_net (hval 0 29 v0 rfl rfl) h0
  have k1 := h1
  have lt1 : ∀ x ∈ p1, x.block < W.heap.size := by obtain ⟨m, hm⟩ := k1; exact DataW.trod_lt m _ _ _ hm
  obtain ⟨a1, len1, cap1, rfl⟩ := okWide_slice Tryz.underlying31 (hval 1 31 v1 rfl rfl)
  obtain ⟨fu1, ho1⟩ := h1
  obtain ⟨m1, A1, c1, e1, hm1, hs1, hl1⟩ := open_vec Tryz.underlying31 (u := .slice a1 len1 cap1) ho1
  injection e1 with ea1 eb1 ec1
  subst ea1 eb1 ec1
  obtain ⟨s2, rfl, rfl, rfl, ws2⟩ := open_int Tryz.underlying3 (hval 2 3 v2 rfl rfl) h2
  clear hA0 hval0
  refine (ratingRests_row n0 nv0 m1 _ _ s2 W hn0 hm1 hs1 hl1 (bounds64 ws2) (tab_of_laid hL)).mono fun e W' ⟨he, bel⟩ => ?_
  subst he
  exact ⟨_, rfl, _, _, _, [], _, [], hW', trodAll_mk1 (shut_bool Tryz.underlying4 _), (trodAll_cons_mk (Below.trod laidOut (by kernel_rfl) (of_decide_eq_true (by kernel_rfl)) k0 bel lt0) (trodAll_cons_mk (Below.trod laidOut (by kernel_rfl) (of_decide_eq_true (by kernel_rfl)) k1 bel lt1) (trodAll_cons_mk (shut_int Tryz.underlying3 ws2) trodAll_mk0))), rfl, bel.frame _, fun h => by cases h⟩
end Go.Proofs.YtfigffaghaaaoaaGreatDoor
