/- One more law for regions that draw their order: a guarded operation that is wanted and comes up alone. No program here. loss.Bounds. -/
import Derived.Test.YtmnedfkinepnfaaGreatDoorJDO
import Derived.Test.YtmnedfkinepnfaaGreatDoorLJD
namespace Go.Proofs.YtmnedfkinepnfaaGreatDoor
open Go

theorem wpAnyC_oneW {P : Program} {ops : Array Oper} {Q : Exit → Act → World → Prop} {md : Region.Mode} {S : World → Prop} {c : Nat} {i : Nat} {o : Oper} {fuel : Nat} {listed : Array Bool} {a : Act} {w : World} (hr : Region.ready md ops listed = [i]) (ho : ops[i]? = some o) (hw : Region.wanted o (yielded ops a.tmps) = true)
    (h : ∀ K' : Act → World → Prop, Shut (∀ a w, ((listed.setIfInBounds i true).getD c true = false → S w) → wpAnyC P md ops Q S c fuel (listed.setIfInBounds i true) a w → K' a w) → Oper.wp P o a w K' Q) : wpAnyC P md ops Q S c (fuel + 1) listed a w :=
  wpAnyC_one hr ho fun K' hK => by rw [if_pos hw]; exact h K' hK
end Go.Proofs.YtmnedfkinepnfaaGreatDoor
namespace Go.Proofs.YtmnedfkinepnfaaGreatDoor
open Go.RowKit

theorem cmpQ_lt' {x y : Rat} : decide ((x.num * (y.den : Int) - y.num * (x.den : Int)).sign < 0) = decide (x < y) := by
  show decide (cmpQ x y < 0) = _
  rcases cmpQ_cases x y with h | h | h
  · rw [h]; have := (cmpQ_lt _ _).1 h; rw [decide_eq_true (by decide), decide_eq_true (by grind)]
  · rw [h]; have := (cmpQ_eq _ _).1 h; rw [decide_eq_false (by decide), decide_eq_false (by grind)]
  · rw [h]; have := (cmpQ_gt _ _).1 h; rw [decide_eq_false (by decide), decide_eq_false (by grind)]
def RetB (w : World) (r : List UInt8 × List UInt8 × Int) (e : Ending) (w' : World) : Prop := e = .returned (.tuple #[.string ⟨r.1.toArray⟩, .string ⟨r.2.1.toArray⟩, I r.2.2]) ∧ Below w.heap.size w w'
theorem RetB.mk {w w' : World} {r : List UInt8 × List UInt8 × Int} {a b : List UInt8} {c : Int} (h : r = (a, b, c)) (hb : Below w.heap.size w w') : RetB w r (.returned (.tuple #[.string ⟨a.toArray⟩, .string ⟨b.toArray⟩, I c])) w' := by rw [h]; exact ⟨rfl, hb⟩
theorem maxQ_step {x : Rat} {l : List PcQ} {k : Nat} {p : PcQ} (hp : l[k]? = some p) (low : Rat) : maxQ x (l.drop k) low = maxQ x (l.drop (k + 1)) (if low < pcAt p x then pcAt p x else low) := by
  obtain ⟨h1, e1⟩ := List.getElem?_eq_some_iff.1 hp
  rw [List.drop_eq_getElem_cons h1, e1, maxQ]
theorem firstGe_step {x y : Rat} {l : List Rat} {k : Nat} (hy : l[k]? = some y) : firstGe x (l.drop k) k = if y < x then firstGe x (l.drop (k + 1)) (k + 1) else k := by
  obtain ⟨h1, e1⟩ := List.getElem?_eq_some_iff.1 hy
  rw [List.drop_eq_getElem_cons h1, e1, firstGe]
theorem getD_of {l : List Rat} {k : Nat} {y : Rat} (h : l[k]? = some y) : l.getD k 0 = y := by rw [List.getD_eq_getElem?_getD, h]; rfl
theorem twoT_bad {a b : Rat} (h : ¬ (fitQ a = true ∧ fitQ b = true)) : twoT a b = ([], [], 2) := by
  rw [twoT, if_neg (by rw [Bool.and_eq_true]; exact h)]
theorem twoT_ok {a b : Rat} (h1 : fitQ a = true) (h2 : fitQ b = true) : twoT a b = (qText a, qText b, 0) := by
  rw [twoT, if_pos (by rw [h1, h2]; rfl)]
theorem kw_set4v {w : World} {g : Nat} {b b2 : Bool} {A A2 : Option Addr} {n c n2 c2 : Nat} (hv : Vr w g (.bool b) (.slice A n c) (.bool b2) (.slice A2 n2 c2)) (u0 u1 u2 u3 : Value) : Kw w (set4 w g u0 u1 u2 u3) := by
  refine ⟨by simp [set4, World.setCell], fun q n e => ?_⟩
  have ne : ∀ (j : Nat) (old : Value), w.cell? ⟨g, j, none⟩ = some old → noWord old → ⟨g, j, none⟩ ≠ q := fun j old h hk hq => by
    rw [← hq] at e
    rw [e] at h
    exact hk n (Option.some.inj h)
  unfold set4
  rw [World.cell?_setCell_other _ _ _ _ (ne 3 _ hv.c3 (noWord_slice _ _ _)), World.cell?_setCell_other _ _ _ _ (ne 2 _ hv.c2 (noWord_bool _)), World.cell?_setCell_other _ _ _ _ (ne 1 _ hv.c1 (noWord_slice _ _ _)), World.cell?_setCell_other _ _ _ _ (ne 0 _ hv.c0 (noWord_bool _))]
  exact e
theorem set4_far (w : World) {g k : Nat} (u0 u1 u2 u3 : Value) (h : k ≠ g) : (set4 w g u0 u1 u2 u3).heap[k]? = w.heap[k]? := by
  unfold set4
  rw [Below.heap_setCell _ _ _ _ h, Below.heap_setCell _ _ _ _ h, Below.heap_setCell _ _ _ _ h, Below.heap_setCell _ _ _ _ h]
theorem PRow.far {w : World} {base : Nat} {v : Value} {qs : List PcQ} (h : PRow w base v qs) {g : Nat} {b b2 : Bool} {A A2 : Option Addr} {n c n2 c2 : Nat} (hv : Vr w g (.bool b) (.slice A n c) (.bool b2) (.slice A2 n2 c2)) (hg : g < base) (u0 u1 u2 u3 : Value) : PRow (set4 w g u0 u1 u2 u3) base v qs := by
  obtain ⟨⟨xs, h1, h2⟩, h3⟩ := h
  have hk := kw_set4v hv u0 u1 u2 u3
  have hf : ∀ k, v.ownBlock = some k → (set4 w g u0 u1 u2 u3).heap[k]? = w.heap[k]? := fun k hk => set4_far w _ _ _ _ (by have := (own_lt h1 hk).1; omega)
  refine ⟨⟨xs, ⟨h1.1, h1.2.imp id ?_⟩, h2.kw hk⟩, fun k o n hg => ?_⟩
  · rintro ⟨k, off, cap, cur, hv, hb, hh, r⟩
    exact ⟨k, off, cap, cur, hv, hb, (hf k (by rw [hv]; rfl)).trans hh, r⟩
  · rw [World.cell?_of_block (a := ⟨k, o, none⟩) (hf k hg)]
    exact h3 k o n hg
theorem fitR_neg {N : Nat} {x : Rat} (h : FitR N x) : FitR N (-x) := ⟨by have := h.1; unfold Fits at *; rw [Rat.neg_num, Int.natAbs_neg]; exact this, by have := h.2; unfold Fits at *; rw [Rat.neg_den]; exact this⟩
theorem thru_fit {r p q : Rat} (hr : FitR 210 r) (hp : FitR 210 p) (hq : FitR 210 q) : FitR 1000 (thru r p q).1 ∧ FitR 1000 (thru r p q).2 :=
  ⟨fitR_neg ((fitR_mul (fitR_mul hr hp) (hq.mono (show 210 ≤ 210 + 210 by omega))).mono (by omega)), (fitR_mul (hr.mono (show 210 ≤ 210 + 210 + 1 by omega)) (fitR_add hp hq)).mono (by omega)⟩
theorem pcAt_fit {p : PcQ} {x : Rat} (h1 : FitR 1000 p.1) (h2 : FitR 1000 p.2) (hx : FitR 210 x) : FitR 4000 (pcAt p x) :=
  (fitR_add h1 (fitR_mul h2 (hx.mono (show 210 ≤ 1000 by omega)))).mono (by omega)
theorem lossText_eq {q : Rat} {a : List UInt8} {c : Int} (v : Value) (w : World) (h : ratTx q = (a, c)) (hx : Rt w v q) (htab : Tab w) : Calls Tryz.prog 61 #[v] w fun e w' => e = .returned (.tuple #[.string ⟨a.toArray⟩, I c]) ∧ Below w.heap.size w w' := by
  have := lossText_any v q w hx htab
  rw [h] at this
  exact this
theorem twoT_of {a b : Rat} {a1 h1 : List UInt8} {a2 h2 : Int} (ha : ratTx a = (a1, a2)) (hb : ratTx b = (h1, h2)) : (a2 = 0 → h2 = 0 → twoT a b = (a1, h1, 0)) ∧ (a2 ≠ 0 ∨ h2 ≠ 0 → twoT a b = ([], [], 2)) := by
  have key : ∀ {q : Rat} {x : List UInt8} {c : Int}, ratTx q = (x, c) → (fitQ q = true ∧ x = qText q ∧ c = 0) ∨ (¬ fitQ q = true ∧ c = 2) := fun {q x c} h => by
    unfold ratTx at h
    by_cases hf : fitQ q = true
    · rw [if_pos hf] at h; injection h with e1 e2; exact .inl ⟨hf, e1.symm, e2.symm⟩
    · rw [if_neg hf] at h; injection h with e1 e2; exact .inr ⟨hf, e2.symm⟩
  rcases key ha with ⟨f1, e1, e2⟩ | ⟨f1, e2⟩
  · rcases key hb with ⟨f2, e3, e4⟩ | ⟨f2, e4⟩
    · exact ⟨fun _ _ => by rw [twoT_ok f1 f2, e1, e3], fun h => by omega⟩
    · exact ⟨fun _ h => by omega, fun _ => twoT_bad fun h => f2 h.2⟩
  · exact ⟨fun h _ => by omega, fun _ => twoT_bad fun h => f1 h.1⟩
set_option maxRecDepth 100000 in
set_option maxHeartbeats 16000000 in
theorem bounds_any (r f : ByteArray) (l : List ByteArray) (n : Nat) (A : Option Addr) (c : Nat) (w : World) (sr : r.size ≤ 9223372036854775807) (sf : f.size ≤ 9223372036854775807) (hr : Reads w w.heap.size 1 A n (l.map Sv)) (hs : Sh1 l) (htab : Tab w) :
    Calls Tryz.prog 15 #[.string r, .slice A n c, .string f] w (RetB w (boundsT (SL r) (tx1 l) (SL f))) := by
  have HC := Lib.hid (lchk_any r l n A c w sr hr hs htab)
  have HRD := Lib.hid hr
  have HS := Lib.hid hs
  have HTB := Lib.hid htab
  have hl : l.length = n := by have := hr.1; simpa using this
  have HL := Lib.hid (show (tx1 l).length = n by rw [tx1, List.length_map, hl])
  clear hr hs htab hl
  by_cases h0 : lchk (SL r) (tx1 l) = 0
  · have HO := Lib.hid (lchk_ok h0)
    have H0 := Lib.hid h0
    rw [h0] at HC
    clear h0
    go_enter Tryz.func15, Tryz.ntmps15
    go_wp2_with fail
    refine HC.out.mono ?_
    rintro e w1 ⟨rfl, hb⟩
    have HB := Lib.hid hb
    clear hb HC
    have HC := Lib.hid (rchk_any f w1 sf (tab_below HTB.out HB.out))
    by_cases h1 : rchk (SL f) = 0
    · rw [h1] at HC
      have H1 := Lib.hid h1
      clear h1
      go_wp2_with fail
      refine HC.out.mono ?_
      rintro e w2 ⟨rfl, hb⟩
      clear HC
      replace HB := Lib.hid (HB.out.trans (hb.mono HB.out.size))
      clear hb
      have hn16 : n ≤ 16 := by rw [← HL.out]; exact HO.out.few
      have hn2 : 2 ≤ n := by rw [← HL.out]; exact HO.out.two
      have HC := Lib.hid (parseAll_any l n A c w2 ((HRD.out.below HB.out).more HB.out.size) HS.out (val1_of HO.out.vec) (by omega))
      go_wp2_with fail
      refine HC.out.mono ?_
      rintro e w3 ⟨v3, rfl, hrow, hb⟩
      clear HC
      replace HB := Lib.hid (HB.out.trans (hb.mono HB.out.size))
      clear hb
      have hlv : (valsV (tx1 l)).length = n := by rw [valsV, List.length_map, HL.out]
      obtain ⟨A3, c3, rfl⟩ := hrow.val
      rw [hlv] at hrow ⊢
      have HRV := Lib.hid (hrow.rv)
      have HLV := Lib.hid hlv
      have HF1 := Lib.hid (fit1_of HO.out.vec)
      have HINC := Lib.hid HO.out.inc
      clear hrow hlv
      have HC := Lib.hid (parse_any f w3 sf (rchk_val _ H1.out))
      go_wp2_with fail
      refine HC.out.mono ?_
      rintro e w4 ⟨v4, rfl, hv, hb⟩
      clear HC
      replace HB := Lib.hid (HB.out.trans (hb.mono HB.out.size))
      replace HRV := Lib.hid (HRV.out.below hb)
      clear hb
      have HX := Lib.hid (hv)
      clear hv
      have HC := Lib.hid (parse_any r w4 sr (rchk_val _ HO.out.rok))
      go_wp2_with fail
      refine HC.out.mono ?_
      rintro e w5 ⟨v5, rfl, hv, hb⟩
      clear HC
      replace HB := Lib.hid (HB.out.trans (hb.mono HB.out.size))
      replace HRV := Lib.hid (HRV.out.below hb)
      replace HX := Lib.hid (HX.out.ext hb)
      clear hb
      have HY := Lib.hid (hv)
      clear hv
      obtain ⟨xb, x1, x2, x3, x4, x5, x6, rfl⟩ := HX.out.bools
      obtain ⟨yb, y1, y2, y3, y4, y5, y6, rfl⟩ := HY.out.bools
      obtain ⟨hvx, hvy, hb⟩ := boxes2 w5 (.bool xb) (.slice x1 x2 x3) (.bool false) (.slice x4 x5 x6) (.bool yb) (.slice y1 y2 y3) (.bool false) (.slice y4 y5 y6)
      have hd := below_draw ((w5.alloc (.cells #[.bool xb, .slice x1 x2 x3, .bool false, .slice x4 x5 x6] ratT)).alloc (.cells #[.bool yb, .slice y1 y2 y3, .bool false, .slice y4 y5 y6] ratT))
      replace HB := Lib.hid (HB.out.trans (hb.mono HB.out.size))
      replace HRV := Lib.hid (HRV.out.below hb)
      replace HX := Lib.hid (HX.out.ext hb)
      replace HY := Lib.hid (HY.out.ext hb)
      clear hb
      have VX := Lib.hid (hvx)
      have VY := Lib.hid (hvy)
      replace HB := Lib.hid (HB.out.trans (hd.mono HB.out.size))
      replace HRV := Lib.hid (HRV.out.below hd)
      replace HX := Lib.hid (HX.out.ext hd)
      replace HY := Lib.hid (HY.out.ext hd)
      replace VX := Lib.hid (VX.out.below hd)
      replace VY := Lib.hid (VY.out.below hd)
      clear hd
      clear hvx hvy
      have HFX := Lib.hid (val_fit (rchk_val _ H1.out))
      have HFY := Lib.hid (val_fit (rchk_val _ HO.out.rok))
      unfold ratT at *
      go_upto_region 8 with (fail)
      generalize (w5.alloc (Obj.cells #[Value.bool xb, Value.slice x1 x2 x3, Value.bool false, Value.slice x4 x5 x6] 82)).alloc (Obj.cells #[Value.bool yb, Value.slice y1 y2 y3, Value.bool false, Value.slice y4 y5 y6] 82) = W0 at *
      generalize w5.heap.size = gx at *
      obtain ⟨p0, hp0⟩ : ∃ p, (valsV (tx1 l))[0]? = some p := ⟨_, List.getElem?_eq_getElem (by rw [HLV.out]; omega)⟩
      obtain ⟨pl, hpl⟩ : ∃ p, (valsV (tx1 l))[n - 1]? = some p := ⟨_, List.getElem?_eq_getElem (by rw [HLV.out]; omega)⟩
      obtain ⟨b, o, db, D1, d1, e1, D2, d2, e2, rfl, _, hC0, hr0⟩ := HRV.out.form (k := 0) (by omega) p0 hp0
      obtain ⟨b', o', kb, K1, k1, j1, K2, k2, j2, e', _, hC1, hr1⟩ := HRV.out.form (k := n - 1) (by omega) pl hpl
      obtain ⟨rfl, rfl⟩ : b = b' ∧ o = o' := by injection e' with e'; injection e' with e1 e2; exact ⟨e1, e2⟩
      rw [Nat.zero_mul, Nat.add_zero] at hC0
      have C0 := Lib.hid (hC0)
      have C1 := Lib.hid (hC1)
      have R0 := Lib.hid (hr0)
      have R1 := Lib.hid (hr1)
      have F0 := Lib.hid (HF1.out p0 (List.mem_of_getElem? hp0))
      have FL := Lib.hid (HF1.out pl (List.mem_of_getElem? hpl))
      have E0 := Lib.hid (getD_of hp0)
      have EL := Lib.hid (getD_of hpl)
      have hwn : IntKind.i64.wrap ((n : Int) - 1) = (n : Int) - 1 := IntWalk.i64_in _ (by omega)
      have htn : ((n : Int) - 1).toNat = n - 1 := by omega
      have hn0 : ¬ ((n : Int) - 1 < 0) := by omega
      have hn1 : ¬ n ≤ n - 1 := by omega
      have hn3 : (0 : Int) ≤ (n : Int) - 1 := by omega
      have hn4 : (n : Int) - 1 < n := by omega
      have hn5 : ¬ n = 0 := by omega
      have hn6 : ¬ ((n : Int) < 1) := by omega
      clear e' hC0 hC1 hr0 hr1 hp0 hpl
      by_cases h2 : rval (SL f) < p0
      · have tc : decide (((rval (SL f)).num * (p0.den : Int) - p0.num * ((rval (SL f)).den : Int)).sign < 0) = true := by rw [cmpQ_lt']; exact decide_eq_true h2
        have HRES := Lib.hid (show boundsT (SL r) (tx1 l) (SL f) = ([], [], 4) by rw [boundsT, if_neg (fun k => k H0.out), if_neg (fun k => k H1.out), E0.out, if_pos h2])
        clear h2
        refine wp_region_c (fun w' => w'.cell? ⟨gx, 0, none⟩ = some (.bool xb) ∧ w'.cell? ⟨gx, 1, none⟩ = some (.slice x1 x2 x3) ∧ w'.cell? ⟨gx, 2, none⟩ = some (.bool false) ∧ w'.cell? ⟨gx, 3, none⟩ = some (.slice x4 x5 x6) ∧ w'.cell? ⟨b, o, none⟩ = some (.bool db) ∧ w'.cell? ⟨b, o + 1, none⟩ = some (.slice D1 d1 e1) ∧ w'.cell? ⟨b, o + 2, none⟩ = some (.bool false) ∧ w'.cell? ⟨b, o + 3, none⟩ = some (.slice D2 d2 e2) ∧ w'.cell? ⟨b, o + (n - 1) * 4, none⟩ = some (.bool kb) ∧ w'.cell? ⟨b, o + (n - 1) * 4 + 1, none⟩ = some (.slice K1 k1 j1) ∧ w'.cell? ⟨b, o + (n - 1) * 4 + 2, none⟩ = some (.bool false) ∧ w'.cell? ⟨b, o + (n - 1) * 4 + 3, none⟩ = some (.slice K2 k2 j2)) 16 (by kernel_rfl) ?_
        generalize W0.drew = W1 at *
        refine wpAnyC_take8 (i := 0) (oi := _) (v := .agg #[.bool xb, .slice x1 x2 x3, .bool false, .slice x4 x5 x6]) rfl (by kernel_rfl) (by kernel_rfl) (by kernel_rfl) (by kernel_rfl) (by kernel_rfl) (by kernel_rfl) (fun _ _ _ h => h) (Or.inl ⟨by rfl, ?_⟩) ⟨VX.out.c0, VX.out.c1, VX.out.c2, VX.out.c3, C0.out.c0, C0.out.c1, C0.out.c2, C0.out.c3, C1.out.c0, C1.out.c1, C1.out.c2, C1.out.c3⟩ ?_
        · intro w hSw
          obtain ⟨s0, s1, s2, s3, s4, s5, s6, s7, s8, s9, s10, s11⟩ := hSw
          go_simp
        try simp only [Act.put, List.setIfInBounds_toArray]
        refine wpAnyC_take8 (i := 1) (oi := _) (v := .slice (some ⟨b, o, none⟩) n c3) rfl (by kernel_rfl) (by kernel_rfl) (by kernel_rfl) (by kernel_rfl) (by kernel_rfl) (by kernel_rfl) (fun _ _ _ h => h) (Or.inl ⟨by rfl, ?_⟩) ⟨VX.out.c0, VX.out.c1, VX.out.c2, VX.out.c3, C0.out.c0, C0.out.c1, C0.out.c2, C0.out.c3, C1.out.c0, C1.out.c1, C1.out.c2, C1.out.c3⟩ ?_
        · intro w hSw
          obtain ⟨s0, s1, s2, s3, s4, s5, s6, s7, s8, s9, s10, s11⟩ := hSw
          go_simp
        try simp only [Act.put]
        refine wpAnyC_take8 (i := 2) (oi := _) (v := .pointer (some ⟨b, o, none⟩)) rfl (by kernel_rfl) (by kernel_rfl) (by kernel_rfl) (by kernel_rfl) (by kernel_rfl) (by kernel_rfl) (fun _ _ _ h => h) (Or.inl ⟨by rfl, ?_⟩) ⟨VX.out.c0, VX.out.c1, VX.out.c2, VX.out.c3, C0.out.c0, C0.out.c1, C0.out.c2, C0.out.c3, C1.out.c0, C1.out.c1, C1.out.c2, C1.out.c3⟩ ?_
        · intro w hSw
          obtain ⟨s0, s1, s2, s3, s4, s5, s6, s7, s8, s9, s10, s11⟩ := hSw
          go_simp
        try simp only [Act.put]
        refine wpAnyC_take8 (i := 3) (oi := _) (v := .agg #[.bool db, .slice D1 d1 e1, .bool false, .slice D2 d2 e2]) rfl (by kernel_rfl) (by kernel_rfl) (by kernel_rfl) (by kernel_rfl) (by kernel_rfl) (by kernel_rfl) (fun _ _ _ h => h) (Or.inl ⟨by rfl, ?_⟩) ⟨VX.out.c0, VX.out.c1, VX.out.c2, VX.out.c3, C0.out.c0, C0.out.c1, C0.out.c2, C0.out.c3, C1.out.c0, C1.out.c1, C1.out.c2, C1.out.c3⟩ ?_
        · intro w hSw
          obtain ⟨s0, s1, s2, s3, s4, s5, s6, s7, s8, s9, s10, s11⟩ := hSw
          go_simp
        try simp only [Act.put]
        refine wpAnyC_one (i := 4) (by kernel_rfl) rfl (fun K hK => ?_)
        go_simp
        go_at_call 57
        refine (rcmp_any _ _ (rval (SL f)) p0 _ HX.out R0.out (N := 210) (by decide) HFX.out F0.out).mono ?_
        rintro e w6 ⟨rfl, hb⟩
        replace HB := Lib.hid (HB.out.trans (hb.mono HB.out.size))
        replace HRV := Lib.hid (HRV.out.below hb)
        replace HX := Lib.hid (HX.out.ext hb)
        replace HY := Lib.hid (HY.out.ext hb)
        replace VX := Lib.hid (VX.out.below hb)
        replace VY := Lib.hid (VY.out.below hb)
        replace C0 := Lib.hid (C0.out.below hb)
        replace C1 := Lib.hid (C1.out.below hb)
        replace R0 := Lib.hid (R0.out.ext hb)
        replace R1 := Lib.hid (R1.out.ext hb)
        clear hb
        refine hK.out _ _ (fun _ => ⟨VX.out.c0, VX.out.c1, VX.out.c2, VX.out.c3, C0.out.c0, C0.out.c1, C0.out.c2, C0.out.c3, C1.out.c0, C1.out.c1, C1.out.c2, C1.out.c3⟩) ?_
        clear hK K
        try simp only [Act.put, List.setIfInBounds_toArray, List.set_cons_zero, List.set_cons_succ]
        generalize ((rval (SL f)).num * (p0.den : Int) - p0.num * ((rval (SL f)).den : Int)).sign = sg0 at *
        refine wpAnyC_take8 (i := 5) (oi := _) (v := .bool true) rfl (by kernel_rfl) (by kernel_rfl) (by kernel_rfl) (by kernel_rfl) (by kernel_rfl) (by kernel_rfl) (fun _ _ _ h => h) (Or.inl ⟨by rfl, ?_⟩) ⟨VX.out.c0, VX.out.c1, VX.out.c2, VX.out.c3, C0.out.c0, C0.out.c1, C0.out.c2, C0.out.c3, C1.out.c0, C1.out.c1, C1.out.c2, C1.out.c3⟩ ?_
        · intro w hSw
          obtain ⟨s0, s1, s2, s3, s4, s5, s6, s7, s8, s9, s10, s11⟩ := hSw
          go_simp
        try simp only [Act.put, List.setIfInBounds_toArray]
        refine wpAnyC_take8 (i := 6) (oi := _) (v := .bool true) rfl (by kernel_rfl) (by kernel_rfl) (by kernel_rfl) (by kernel_rfl) (by kernel_rfl) (by kernel_rfl) (fun _ _ _ h => h) (Or.inl ⟨by rfl, ?_⟩) ⟨VX.out.c0, VX.out.c1, VX.out.c2, VX.out.c3, C0.out.c0, C0.out.c1, C0.out.c2, C0.out.c3, C1.out.c0, C1.out.c1, C1.out.c2, C1.out.c3⟩ ?_
        · intro w hSw
          obtain ⟨s0, s1, s2, s3, s4, s5, s6, s7, s8, s9, s10, s11⟩ := hSw
          go_simp
        try simp only [Act.put]
        refine wpAnyC_take8 (i := 7) (oi := _) (v := undef) rfl (by kernel_rfl) (by kernel_rfl) (by kernel_rfl) (by kernel_rfl) (by kernel_rfl) (by kernel_rfl) (fun _ _ _ h => h) (Or.inr ⟨by kernel_rfl, rfl⟩) ⟨VX.out.c0, VX.out.c1, VX.out.c2, VX.out.c3, C0.out.c0, C0.out.c1, C0.out.c2, C0.out.c3, C1.out.c0, C1.out.c1, C1.out.c2, C1.out.c3⟩ ?_
        try simp only [Act.put]
        refine wpAnyC_take8 (i := 8) (oi := _) (v := undef) rfl (by kernel_rfl) (by kernel_rfl) (by kernel_rfl) (by kernel_rfl) (by kernel_rfl) (by kernel_rfl) (fun _ _ _ h => h) (Or.inr ⟨by kernel_rfl, rfl⟩) ⟨VX.out.c0, VX.out.c1, VX.out.c2, VX.out.c3, C0.out.c0, C0.out.c1, C0.out.c2, C0.out.c3, C1.out.c0, C1.out.c1, C1.out.c2, C1.out.c3⟩ ?_
        try simp only [Act.put]
        refine wpAnyC_take8 (i := 9) (oi := _) (v := undef) rfl (by kernel_rfl) (by kernel_rfl) (by kernel_rfl) (by kernel_rfl) (by kernel_rfl) (by kernel_rfl) (fun _ _ _ h => h) (Or.inr ⟨by kernel_rfl, rfl⟩) ⟨VX.out.c0, VX.out.c1, VX.out.c2, VX.out.c3, C0.out.c0, C0.out.c1, C0.out.c2, C0.out.c3, C1.out.c0, C1.out.c1, C1.out.c2, C1.out.c3⟩ ?_
        try simp only [Act.put]
        refine wpAnyC_take8 (i := 10) (oi := _) (v := undef) rfl (by kernel_rfl) (by kernel_rfl) (by kernel_rfl) (by kernel_rfl) (by kernel_rfl) (by kernel_rfl) (fun _ _ _ h => h) (Or.inr ⟨by kernel_rfl, rfl⟩) ⟨VX.out.c0, VX.out.c1, VX.out.c2, VX.out.c3, C0.out.c0, C0.out.c1, C0.out.c2, C0.out.c3, C1.out.c0, C1.out.c1, C1.out.c2, C1.out.c3⟩ ?_
        try simp only [Act.put]
        refine wpAnyC_take8 (i := 11) (oi := _) (v := undef) rfl (by kernel_rfl) (by kernel_rfl) (by kernel_rfl) (by kernel_rfl) (by kernel_rfl) (by kernel_rfl) (fun _ _ _ h => h) (Or.inr ⟨by kernel_rfl, rfl⟩) ⟨VX.out.c0, VX.out.c1, VX.out.c2, VX.out.c3, C0.out.c0, C0.out.c1, C0.out.c2, C0.out.c3, C1.out.c0, C1.out.c1, C1.out.c2, C1.out.c3⟩ ?_
        try simp only [Act.put]
        refine wpAnyC_take8 (i := 12) (oi := _) (v := undef) rfl (by kernel_rfl) (by kernel_rfl) (by kernel_rfl) (by kernel_rfl) (by kernel_rfl) (by kernel_rfl) (fun _ _ _ h => h) (Or.inr ⟨by kernel_rfl, rfl⟩) ⟨VX.out.c0, VX.out.c1, VX.out.c2, VX.out.c3, C0.out.c0, C0.out.c1, C0.out.c2, C0.out.c3, C1.out.c0, C1.out.c1, C1.out.c2, C1.out.c3⟩ ?_
        try simp only [Act.put]
        refine wpAnyC_take8 (i := 13) (oi := _) (v := undef) rfl (by kernel_rfl) (by kernel_rfl) (by kernel_rfl) (by kernel_rfl) (by kernel_rfl) (by kernel_rfl) (fun _ _ _ h => h) (Or.inr ⟨by kernel_rfl, rfl⟩) ⟨VX.out.c0, VX.out.c1, VX.out.c2, VX.out.c3, C0.out.c0, C0.out.c1, C0.out.c2, C0.out.c3, C1.out.c0, C1.out.c1, C1.out.c2, C1.out.c3⟩ ?_
        try simp only [Act.put]
        refine wpAnyC_take8 (i := 14) (oi := _) (v := undef) rfl (by kernel_rfl) (by kernel_rfl) (by kernel_rfl) (by kernel_rfl) (by kernel_rfl) (by kernel_rfl) (fun _ _ _ h => h) (Or.inr ⟨by kernel_rfl, rfl⟩) ⟨VX.out.c0, VX.out.c1, VX.out.c2, VX.out.c3, C0.out.c0, C0.out.c1, C0.out.c2, C0.out.c3, C1.out.c0, C1.out.c1, C1.out.c2, C1.out.c3⟩ ?_
        try simp only [Act.put]
        refine wpAnyC_take8 (i := 15) (oi := _) (v := undef) rfl (by kernel_rfl) (by kernel_rfl) (by kernel_rfl) (by kernel_rfl) (by kernel_rfl) (by kernel_rfl) (fun _ _ _ h => h) (Or.inr ⟨by kernel_rfl, rfl⟩) ⟨VX.out.c0, VX.out.c1, VX.out.c2, VX.out.c3, C0.out.c0, C0.out.c1, C0.out.c2, C0.out.c3, C1.out.c0, C1.out.c1, C1.out.c2, C1.out.c3⟩ ?_
        try simp only [Act.put]
        refine wpAnyC_one (i := 16) (by kernel_rfl) rfl (fun K hK => ?_)
        go_simp
        refine hK.out _ _ (fun h => absurd h (by decide)) ?_
        clear hK K
        try simp only [Act.put, List.setIfInBounds_toArray, List.set_cons_zero, List.set_cons_succ]
        refine wpAnyC_done (by kernel_rfl) ?_ _
        have HQ := Lib.hid (RetB.mk HRES.out HB.out)
        go_wp2
        go_ret3
        exact HQ.out
      · have tc : decide (((rval (SL f)).num * (p0.den : Int) - p0.num * ((rval (SL f)).den : Int)).sign < 0) = false := by rw [cmpQ_lt']; exact decide_eq_false h2
        have H2 := Lib.hid h2
        clear h2
        by_cases h3 : pl < rval (SL f)
        · have tc2 : decide (0 < ((rval (SL f)).num * (pl.den : Int) - pl.num * ((rval (SL f)).den : Int)).sign) = true := by rw [cmpQ_gt']; exact decide_eq_true h3
          have HRES := Lib.hid (show boundsT (SL r) (tx1 l) (SL f) = ([], [], 4) by rw [boundsT, if_neg (fun k => k H0.out), if_neg (fun k => k H1.out), E0.out, if_neg H2.out, HL.out, EL.out, if_pos h3])
          clear h3
          refine wp_region_c (fun w' => w'.cell? ⟨gx, 0, none⟩ = some (.bool xb) ∧ w'.cell? ⟨gx, 1, none⟩ = some (.slice x1 x2 x3) ∧ w'.cell? ⟨gx, 2, none⟩ = some (.bool false) ∧ w'.cell? ⟨gx, 3, none⟩ = some (.slice x4 x5 x6) ∧ w'.cell? ⟨b, o, none⟩ = some (.bool db) ∧ w'.cell? ⟨b, o + 1, none⟩ = some (.slice D1 d1 e1) ∧ w'.cell? ⟨b, o + 2, none⟩ = some (.bool false) ∧ w'.cell? ⟨b, o + 3, none⟩ = some (.slice D2 d2 e2) ∧ w'.cell? ⟨b, o + (n - 1) * 4, none⟩ = some (.bool kb) ∧ w'.cell? ⟨b, o + (n - 1) * 4 + 1, none⟩ = some (.slice K1 k1 j1) ∧ w'.cell? ⟨b, o + (n - 1) * 4 + 2, none⟩ = some (.bool false) ∧ w'.cell? ⟨b, o + (n - 1) * 4 + 3, none⟩ = some (.slice K2 k2 j2)) 16 (by kernel_rfl) ?_
          generalize W0.drew = W1 at *
          refine wpAnyC_take8 (i := 0) (oi := _) (v := .agg #[.bool xb, .slice x1 x2 x3, .bool false, .slice x4 x5 x6]) rfl (by kernel_rfl) (by kernel_rfl) (by kernel_rfl) (by kernel_rfl) (by kernel_rfl) (by kernel_rfl) (fun _ _ _ h => h) (Or.inl ⟨by rfl, ?_⟩) ⟨VX.out.c0, VX.out.c1, VX.out.c2, VX.out.c3, C0.out.c0, C0.out.c1, C0.out.c2, C0.out.c3, C1.out.c0, C1.out.c1, C1.out.c2, C1.out.c3⟩ ?_
          · intro w hSw
            obtain ⟨s0, s1, s2, s3, s4, s5, s6, s7, s8, s9, s10, s11⟩ := hSw
            go_simp
          try simp only [Act.put, List.setIfInBounds_toArray]
          refine wpAnyC_take8 (i := 1) (oi := _) (v := .slice (some ⟨b, o, none⟩) n c3) rfl (by kernel_rfl) (by kernel_rfl) (by kernel_rfl) (by kernel_rfl) (by kernel_rfl) (by kernel_rfl) (fun _ _ _ h => h) (Or.inl ⟨by rfl, ?_⟩) ⟨VX.out.c0, VX.out.c1, VX.out.c2, VX.out.c3, C0.out.c0, C0.out.c1, C0.out.c2, C0.out.c3, C1.out.c0, C1.out.c1, C1.out.c2, C1.out.c3⟩ ?_
          · intro w hSw
            obtain ⟨s0, s1, s2, s3, s4, s5, s6, s7, s8, s9, s10, s11⟩ := hSw
            go_simp
          try simp only [Act.put]
          refine wpAnyC_take8 (i := 2) (oi := _) (v := .pointer (some ⟨b, o, none⟩)) rfl (by kernel_rfl) (by kernel_rfl) (by kernel_rfl) (by kernel_rfl) (by kernel_rfl) (by kernel_rfl) (fun _ _ _ h => h) (Or.inl ⟨by rfl, ?_⟩) ⟨VX.out.c0, VX.out.c1, VX.out.c2, VX.out.c3, C0.out.c0, C0.out.c1, C0.out.c2, C0.out.c3, C1.out.c0, C1.out.c1, C1.out.c2, C1.out.c3⟩ ?_
          · intro w hSw
            obtain ⟨s0, s1, s2, s3, s4, s5, s6, s7, s8, s9, s10, s11⟩ := hSw
            go_simp
          try simp only [Act.put]
          refine wpAnyC_take8 (i := 3) (oi := _) (v := .agg #[.bool db, .slice D1 d1 e1, .bool false, .slice D2 d2 e2]) rfl (by kernel_rfl) (by kernel_rfl) (by kernel_rfl) (by kernel_rfl) (by kernel_rfl) (by kernel_rfl) (fun _ _ _ h => h) (Or.inl ⟨by rfl, ?_⟩) ⟨VX.out.c0, VX.out.c1, VX.out.c2, VX.out.c3, C0.out.c0, C0.out.c1, C0.out.c2, C0.out.c3, C1.out.c0, C1.out.c1, C1.out.c2, C1.out.c3⟩ ?_
          · intro w hSw
            obtain ⟨s0, s1, s2, s3, s4, s5, s6, s7, s8, s9, s10, s11⟩ := hSw
            go_simp
          try simp only [Act.put]
          refine wpAnyC_one (i := 4) (by kernel_rfl) rfl (fun K hK => ?_)
          go_simp
          go_at_call 57
          refine (rcmp_any _ _ (rval (SL f)) p0 _ HX.out R0.out (N := 210) (by decide) HFX.out F0.out).mono ?_
          rintro e w6 ⟨rfl, hb⟩
          replace HB := Lib.hid (HB.out.trans (hb.mono HB.out.size))
          replace HRV := Lib.hid (HRV.out.below hb)
          replace HX := Lib.hid (HX.out.ext hb)
          replace HY := Lib.hid (HY.out.ext hb)
          replace VX := Lib.hid (VX.out.below hb)
          replace VY := Lib.hid (VY.out.below hb)
          replace C0 := Lib.hid (C0.out.below hb)
          replace C1 := Lib.hid (C1.out.below hb)
          replace R0 := Lib.hid (R0.out.ext hb)
          replace R1 := Lib.hid (R1.out.ext hb)
          clear hb
          refine hK.out _ _ (fun _ => ⟨VX.out.c0, VX.out.c1, VX.out.c2, VX.out.c3, C0.out.c0, C0.out.c1, C0.out.c2, C0.out.c3, C1.out.c0, C1.out.c1, C1.out.c2, C1.out.c3⟩) ?_
          clear hK K
          try simp only [Act.put, List.setIfInBounds_toArray, List.set_cons_zero, List.set_cons_succ]
          generalize ((rval (SL f)).num * (p0.den : Int) - p0.num * ((rval (SL f)).den : Int)).sign = sg0 at *
          refine wpAnyC_take8 (i := 5) (oi := _) (v := .bool false) rfl (by kernel_rfl) (by kernel_rfl) (by kernel_rfl) (by kernel_rfl) (by kernel_rfl) (by kernel_rfl) (fun _ _ _ h => h) (Or.inl ⟨by rfl, ?_⟩) ⟨VX.out.c0, VX.out.c1, VX.out.c2, VX.out.c3, C0.out.c0, C0.out.c1, C0.out.c2, C0.out.c3, C1.out.c0, C1.out.c1, C1.out.c2, C1.out.c3⟩ ?_
          · intro w hSw
            obtain ⟨s0, s1, s2, s3, s4, s5, s6, s7, s8, s9, s10, s11⟩ := hSw
            go_simp
          try simp only [Act.put, List.setIfInBounds_toArray]
          refine wpAnyC_take8 (i := 6) (oi := _) (v := .bool false) rfl (by kernel_rfl) (by kernel_rfl) (by kernel_rfl) (by kernel_rfl) (by kernel_rfl) (by kernel_rfl) (fun _ _ _ h => h) (Or.inl ⟨by rfl, ?_⟩) ⟨VX.out.c0, VX.out.c1, VX.out.c2, VX.out.c3, C0.out.c0, C0.out.c1, C0.out.c2, C0.out.c3, C1.out.c0, C1.out.c1, C1.out.c2, C1.out.c3⟩ ?_
          · intro w hSw
            obtain ⟨s0, s1, s2, s3, s4, s5, s6, s7, s8, s9, s10, s11⟩ := hSw
            go_simp
          try simp only [Act.put]
          refine wpAnyC_take8 (i := 7) (oi := _) (v := .agg #[.bool xb, .slice x1 x2 x3, .bool false, .slice x4 x5 x6]) rfl (by kernel_rfl) (by kernel_rfl) (by kernel_rfl) (by kernel_rfl) (by kernel_rfl) (by kernel_rfl) (fun _ _ _ h => h) (Or.inl ⟨by kernel_rfl, ?_⟩) ⟨VX.out.c0, VX.out.c1, VX.out.c2, VX.out.c3, C0.out.c0, C0.out.c1, C0.out.c2, C0.out.c3, C1.out.c0, C1.out.c1, C1.out.c2, C1.out.c3⟩ ?_
          · intro w hSw
            obtain ⟨s0, s1, s2, s3, s4, s5, s6, s7, s8, s9, s10, s11⟩ := hSw
            go_simp
          try simp only [Act.put]
          refine wpAnyC_take8 (i := 8) (oi := _) (v := .slice (some ⟨b, o, none⟩) n c3) rfl (by kernel_rfl) (by kernel_rfl) (by kernel_rfl) (by kernel_rfl) (by kernel_rfl) (by kernel_rfl) (fun _ _ _ h => h) (Or.inl ⟨by kernel_rfl, ?_⟩) ⟨VX.out.c0, VX.out.c1, VX.out.c2, VX.out.c3, C0.out.c0, C0.out.c1, C0.out.c2, C0.out.c3, C1.out.c0, C1.out.c1, C1.out.c2, C1.out.c3⟩ ?_
          · intro w hSw
            obtain ⟨s0, s1, s2, s3, s4, s5, s6, s7, s8, s9, s10, s11⟩ := hSw
            go_simp
          try simp only [Act.put]
          refine wpAnyC_take8 (i := 9) (oi := _) (v := .slice (some ⟨b, o, none⟩) n c3) rfl (by kernel_rfl) (by kernel_rfl) (by kernel_rfl) (by kernel_rfl) (by kernel_rfl) (by kernel_rfl) (fun _ _ _ h => h) (Or.inl ⟨by kernel_rfl, ?_⟩) ⟨VX.out.c0, VX.out.c1, VX.out.c2, VX.out.c3, C0.out.c0, C0.out.c1, C0.out.c2, C0.out.c3, C1.out.c0, C1.out.c1, C1.out.c2, C1.out.c3⟩ ?_
          · intro w hSw
            obtain ⟨s0, s1, s2, s3, s4, s5, s6, s7, s8, s9, s10, s11⟩ := hSw
            go_simp
          try simp only [Act.put]
          refine wpAnyC_take8 (i := 10) (oi := _) (v := I n) rfl (by kernel_rfl) (by kernel_rfl) (by kernel_rfl) (by kernel_rfl) (by kernel_rfl) (by kernel_rfl) (fun _ _ _ h => h) (Or.inl ⟨by kernel_rfl, ?_⟩) ⟨VX.out.c0, VX.out.c1, VX.out.c2, VX.out.c3, C0.out.c0, C0.out.c1, C0.out.c2, C0.out.c3, C1.out.c0, C1.out.c1, C1.out.c2, C1.out.c3⟩ ?_
          · intro w hSw
            obtain ⟨s0, s1, s2, s3, s4, s5, s6, s7, s8, s9, s10, s11⟩ := hSw
            go_simp
          try simp only [Act.put]
          refine wpAnyC_take8 (i := 11) (oi := _) (v := I ((n : Int) - 1)) rfl (by kernel_rfl) (by kernel_rfl) (by kernel_rfl) (by kernel_rfl) (by kernel_rfl) (by kernel_rfl) (fun _ _ _ h => h) (Or.inl ⟨by kernel_rfl, ?_⟩) ⟨VX.out.c0, VX.out.c1, VX.out.c2, VX.out.c3, C0.out.c0, C0.out.c1, C0.out.c2, C0.out.c3, C1.out.c0, C1.out.c1, C1.out.c2, C1.out.c3⟩ ?_
          · intro w hSw
            obtain ⟨s0, s1, s2, s3, s4, s5, s6, s7, s8, s9, s10, s11⟩ := hSw
            go_simp
          try simp only [Act.put]
          refine wpAnyC_take8 (i := 12) (oi := _) (v := .pointer (some ⟨b, o + (n - 1) * 4, none⟩)) rfl (by kernel_rfl) (by kernel_rfl) (by kernel_rfl) (by kernel_rfl) (by kernel_rfl) (by kernel_rfl) (fun _ _ _ h => h) (Or.inl ⟨by kernel_rfl, ?_⟩) ⟨VX.out.c0, VX.out.c1, VX.out.c2, VX.out.c3, C0.out.c0, C0.out.c1, C0.out.c2, C0.out.c3, C1.out.c0, C1.out.c1, C1.out.c2, C1.out.c3⟩ ?_
          · intro w hSw
            obtain ⟨s0, s1, s2, s3, s4, s5, s6, s7, s8, s9, s10, s11⟩ := hSw
            go_simp
          try simp only [Act.put]
          refine wpAnyC_take8 (i := 13) (oi := _) (v := .agg #[.bool kb, .slice K1 k1 j1, .bool false, .slice K2 k2 j2]) rfl (by kernel_rfl) (by kernel_rfl) (by kernel_rfl) (by kernel_rfl) (by kernel_rfl) (by kernel_rfl) (fun _ _ _ h => h) (Or.inl ⟨by kernel_rfl, ?_⟩) ⟨VX.out.c0, VX.out.c1, VX.out.c2, VX.out.c3, C0.out.c0, C0.out.c1, C0.out.c2, C0.out.c3, C1.out.c0, C1.out.c1, C1.out.c2, C1.out.c3⟩ ?_
          · intro w hSw
            obtain ⟨s0, s1, s2, s3, s4, s5, s6, s7, s8, s9, s10, s11⟩ := hSw
            go_simp
          try simp only [Act.put]
          refine wpAnyC_oneW (i := 14) (by kernel_rfl) rfl (by kernel_rfl) (fun K hK => ?_)
          go_simp
          go_at_call 57
          refine (rcmp_any _ _ (rval (SL f)) pl _ HX.out R1.out (N := 210) (by decide) HFX.out FL.out).mono ?_
          rintro e w7 ⟨rfl, hb⟩
          replace HB := Lib.hid (HB.out.trans (hb.mono HB.out.size))
          replace HRV := Lib.hid (HRV.out.below hb)
          replace HX := Lib.hid (HX.out.ext hb)
          replace HY := Lib.hid (HY.out.ext hb)
          replace VX := Lib.hid (VX.out.below hb)
          replace VY := Lib.hid (VY.out.below hb)
          replace C0 := Lib.hid (C0.out.below hb)
          replace C1 := Lib.hid (C1.out.below hb)
          replace R0 := Lib.hid (R0.out.ext hb)
          replace R1 := Lib.hid (R1.out.ext hb)
          clear hb
          refine hK.out _ _ (fun _ => ⟨VX.out.c0, VX.out.c1, VX.out.c2, VX.out.c3, C0.out.c0, C0.out.c1, C0.out.c2, C0.out.c3, C1.out.c0, C1.out.c1, C1.out.c2, C1.out.c3⟩) ?_
          clear hK K
          try simp only [Act.put, List.setIfInBounds_toArray, List.set_cons_zero, List.set_cons_succ]
          generalize ((rval (SL f)).num * (pl.den : Int) - pl.num * ((rval (SL f)).den : Int)).sign = sg1 at *
          refine wpAnyC_take8 (i := 15) (oi := _) (v := .bool true) rfl (by kernel_rfl) (by kernel_rfl) (by kernel_rfl) (by kernel_rfl) (by kernel_rfl) (by kernel_rfl) (fun _ _ _ h => h) (Or.inl ⟨by kernel_rfl, ?_⟩) ⟨VX.out.c0, VX.out.c1, VX.out.c2, VX.out.c3, C0.out.c0, C0.out.c1, C0.out.c2, C0.out.c3, C1.out.c0, C1.out.c1, C1.out.c2, C1.out.c3⟩ ?_
          · intro w hSw
            obtain ⟨s0, s1, s2, s3, s4, s5, s6, s7, s8, s9, s10, s11⟩ := hSw
            go_simp
          try simp only [Act.put, List.setIfInBounds_toArray]
          refine wpAnyC_one (i := 16) (by kernel_rfl) rfl (fun K hK => ?_)
          go_simp
          refine hK.out _ _ (fun h => absurd h (by decide)) ?_
          clear hK K
          try simp only [Act.put, List.setIfInBounds_toArray, List.set_cons_zero, List.set_cons_succ]
          refine wpAnyC_done (by kernel_rfl) ?_ _
          have HQ := Lib.hid (RetB.mk HRES.out HB.out)
          go_wp2
          go_ret3
          exact HQ.out
        · have tc2 : decide (0 < ((rval (SL f)).num * (pl.den : Int) - pl.num * ((rval (SL f)).den : Int)).sign) = false := by rw [cmpQ_gt']; exact decide_eq_false h3
          have HRES := Lib.hid (show boundsT (SL r) (tx1 l) (SL f) = twoT (lowQ (SL r) (tx1 l) (SL f)) (highQ (SL r) (tx1 l) (SL f)) by rw [boundsT, if_neg (fun k => k H0.out), if_neg (fun k => k H1.out), E0.out, if_neg H2.out, HL.out, EL.out, if_neg h3])
          have HXL := Lib.hid (show rval (SL f) ≤ (valsV (tx1 l)).getD (n - 1) 0 by rw [EL.out]; exact Rat.not_lt.1 h3)
          clear h3
          refine wp_region_c (fun w' => w'.cell? ⟨gx, 0, none⟩ = some (.bool xb) ∧ w'.cell? ⟨gx, 1, none⟩ = some (.slice x1 x2 x3) ∧ w'.cell? ⟨gx, 2, none⟩ = some (.bool false) ∧ w'.cell? ⟨gx, 3, none⟩ = some (.slice x4 x5 x6) ∧ w'.cell? ⟨b, o, none⟩ = some (.bool db) ∧ w'.cell? ⟨b, o + 1, none⟩ = some (.slice D1 d1 e1) ∧ w'.cell? ⟨b, o + 2, none⟩ = some (.bool false) ∧ w'.cell? ⟨b, o + 3, none⟩ = some (.slice D2 d2 e2) ∧ w'.cell? ⟨b, o + (n - 1) * 4, none⟩ = some (.bool kb) ∧ w'.cell? ⟨b, o + (n - 1) * 4 + 1, none⟩ = some (.slice K1 k1 j1) ∧ w'.cell? ⟨b, o + (n - 1) * 4 + 2, none⟩ = some (.bool false) ∧ w'.cell? ⟨b, o + (n - 1) * 4 + 3, none⟩ = some (.slice K2 k2 j2)) 16 (by kernel_rfl) ?_
          generalize W0.drew = W1 at *
          refine wpAnyC_take8 (i := 0) (oi := _) (v := .agg #[.bool xb, .slice x1 x2 x3, .bool false, .slice x4 x5 x6]) rfl (by kernel_rfl) (by kernel_rfl) (by kernel_rfl) (by kernel_rfl) (by kernel_rfl) (by kernel_rfl) (fun _ _ _ h => h) (Or.inl ⟨by rfl, ?_⟩) ⟨VX.out.c0, VX.out.c1, VX.out.c2, VX.out.c3, C0.out.c0, C0.out.c1, C0.out.c2, C0.out.c3, C1.out.c0, C1.out.c1, C1.out.c2, C1.out.c3⟩ ?_
          · intro w hSw
            obtain ⟨s0, s1, s2, s3, s4, s5, s6, s7, s8, s9, s10, s11⟩ := hSw
            go_simp
          try simp only [Act.put, List.setIfInBounds_toArray]
          refine wpAnyC_take8 (i := 1) (oi := _) (v := .slice (some ⟨b, o, none⟩) n c3) rfl (by kernel_rfl) (by kernel_rfl) (by kernel_rfl) (by kernel_rfl) (by kernel_rfl) (by kernel_rfl) (fun _ _ _ h => h) (Or.inl ⟨by rfl, ?_⟩) ⟨VX.out.c0, VX.out.c1, VX.out.c2, VX.out.c3, C0.out.c0, C0.out.c1, C0.out.c2, C0.out.c3, C1.out.c0, C1.out.c1, C1.out.c2, C1.out.c3⟩ ?_
          · intro w hSw
            obtain ⟨s0, s1, s2, s3, s4, s5, s6, s7, s8, s9, s10, s11⟩ := hSw
            go_simp
          try simp only [Act.put]
          refine wpAnyC_take8 (i := 2) (oi := _) (v := .pointer (some ⟨b, o, none⟩)) rfl (by kernel_rfl) (by kernel_rfl) (by kernel_rfl) (by kernel_rfl) (by kernel_rfl) (by kernel_rfl) (fun _ _ _ h => h) (Or.inl ⟨by rfl, ?_⟩) ⟨VX.out.c0, VX.out.c1, VX.out.c2, VX.out.c3, C0.out.c0, C0.out.c1, C0.out.c2, C0.out.c3, C1.out.c0, C1.out.c1, C1.out.c2, C1.out.c3⟩ ?_
          · intro w hSw
            obtain ⟨s0, s1, s2, s3, s4, s5, s6, s7, s8, s9, s10, s11⟩ := hSw
            go_simp
          try simp only [Act.put]
          refine wpAnyC_take8 (i := 3) (oi := _) (v := .agg #[.bool db, .slice D1 d1 e1, .bool false, .slice D2 d2 e2]) rfl (by kernel_rfl) (by kernel_rfl) (by kernel_rfl) (by kernel_rfl) (by kernel_rfl) (by kernel_rfl) (fun _ _ _ h => h) (Or.inl ⟨by rfl, ?_⟩) ⟨VX.out.c0, VX.out.c1, VX.out.c2, VX.out.c3, C0.out.c0, C0.out.c1, C0.out.c2, C0.out.c3, C1.out.c0, C1.out.c1, C1.out.c2, C1.out.c3⟩ ?_
          · intro w hSw
            obtain ⟨s0, s1, s2, s3, s4, s5, s6, s7, s8, s9, s10, s11⟩ := hSw
            go_simp
          try simp only [Act.put]
          refine wpAnyC_one (i := 4) (by kernel_rfl) rfl (fun K hK => ?_)
          go_simp
          go_at_call 57
          refine (rcmp_any _ _ (rval (SL f)) p0 _ HX.out R0.out (N := 210) (by decide) HFX.out F0.out).mono ?_
          rintro e w6 ⟨rfl, hb⟩
          replace HB := Lib.hid (HB.out.trans (hb.mono HB.out.size))
          replace HRV := Lib.hid (HRV.out.below hb)
          replace HX := Lib.hid (HX.out.ext hb)
          replace HY := Lib.hid (HY.out.ext hb)
          replace VX := Lib.hid (VX.out.below hb)
          replace VY := Lib.hid (VY.out.below hb)
          replace C0 := Lib.hid (C0.out.below hb)
          replace C1 := Lib.hid (C1.out.below hb)
          replace R0 := Lib.hid (R0.out.ext hb)
          replace R1 := Lib.hid (R1.out.ext hb)
          clear hb
          refine hK.out _ _ (fun _ => ⟨VX.out.c0, VX.out.c1, VX.out.c2, VX.out.c3, C0.out.c0, C0.out.c1, C0.out.c2, C0.out.c3, C1.out.c0, C1.out.c1, C1.out.c2, C1.out.c3⟩) ?_
          clear hK K
          try simp only [Act.put, List.setIfInBounds_toArray, List.set_cons_zero, List.set_cons_succ]
          generalize ((rval (SL f)).num * (p0.den : Int) - p0.num * ((rval (SL f)).den : Int)).sign = sg0 at *
          refine wpAnyC_take8 (i := 5) (oi := _) (v := .bool false) rfl (by kernel_rfl) (by kernel_rfl) (by kernel_rfl) (by kernel_rfl) (by kernel_rfl) (by kernel_rfl) (fun _ _ _ h => h) (Or.inl ⟨by rfl, ?_⟩) ⟨VX.out.c0, VX.out.c1, VX.out.c2, VX.out.c3, C0.out.c0, C0.out.c1, C0.out.c2, C0.out.c3, C1.out.c0, C1.out.c1, C1.out.c2, C1.out.c3⟩ ?_
          · intro w hSw
            obtain ⟨s0, s1, s2, s3, s4, s5, s6, s7, s8, s9, s10, s11⟩ := hSw
            go_simp
          try simp only [Act.put, List.setIfInBounds_toArray]
          refine wpAnyC_take8 (i := 6) (oi := _) (v := .bool false) rfl (by kernel_rfl) (by kernel_rfl) (by kernel_rfl) (by kernel_rfl) (by kernel_rfl) (by kernel_rfl) (fun _ _ _ h => h) (Or.inl ⟨by rfl, ?_⟩) ⟨VX.out.c0, VX.out.c1, VX.out.c2, VX.out.c3, C0.out.c0, C0.out.c1, C0.out.c2, C0.out.c3, C1.out.c0, C1.out.c1, C1.out.c2, C1.out.c3⟩ ?_
          · intro w hSw
            obtain ⟨s0, s1, s2, s3, s4, s5, s6, s7, s8, s9, s10, s11⟩ := hSw
            go_simp
          try simp only [Act.put]
          refine wpAnyC_take8 (i := 7) (oi := _) (v := .agg #[.bool xb, .slice x1 x2 x3, .bool false, .slice x4 x5 x6]) rfl (by kernel_rfl) (by kernel_rfl) (by kernel_rfl) (by kernel_rfl) (by kernel_rfl) (by kernel_rfl) (fun _ _ _ h => h) (Or.inl ⟨by kernel_rfl, ?_⟩) ⟨VX.out.c0, VX.out.c1, VX.out.c2, VX.out.c3, C0.out.c0, C0.out.c1, C0.out.c2, C0.out.c3, C1.out.c0, C1.out.c1, C1.out.c2, C1.out.c3⟩ ?_
          · intro w hSw
            obtain ⟨s0, s1, s2, s3, s4, s5, s6, s7, s8, s9, s10, s11⟩ := hSw
            go_simp
          try simp only [Act.put]
          refine wpAnyC_take8 (i := 8) (oi := _) (v := .slice (some ⟨b, o, none⟩) n c3) rfl (by kernel_rfl) (by kernel_rfl) (by kernel_rfl) (by kernel_rfl) (by kernel_rfl) (by kernel_rfl) (fun _ _ _ h => h) (Or.inl ⟨by kernel_rfl, ?_⟩) ⟨VX.out.c0, VX.out.c1, VX.out.c2, VX.out.c3, C0.out.c0, C0.out.c1, C0.out.c2, C0.out.c3, C1.out.c0, C1.out.c1, C1.out.c2, C1.out.c3⟩ ?_
          · intro w hSw
            obtain ⟨s0, s1, s2, s3, s4, s5, s6, s7, s8, s9, s10, s11⟩ := hSw
            go_simp
          try simp only [Act.put]
          refine wpAnyC_take8 (i := 9) (oi := _) (v := .slice (some ⟨b, o, none⟩) n c3) rfl (by kernel_rfl) (by kernel_rfl) (by kernel_rfl) (by kernel_rfl) (by kernel_rfl) (by kernel_rfl) (fun _ _ _ h => h) (Or.inl ⟨by kernel_rfl, ?_⟩) ⟨VX.out.c0, VX.out.c1, VX.out.c2, VX.out.c3, C0.out.c0, C0.out.c1, C0.out.c2, C0.out.c3, C1.out.c0, C1.out.c1, C1.out.c2, C1.out.c3⟩ ?_
          · intro w hSw
            obtain ⟨s0, s1, s2, s3, s4, s5, s6, s7, s8, s9, s10, s11⟩ := hSw
            go_simp
          try simp only [Act.put]
          refine wpAnyC_take8 (i := 10) (oi := _) (v := I n) rfl (by kernel_rfl) (by kernel_rfl) (by kernel_rfl) (by kernel_rfl) (by kernel_rfl) (by kernel_rfl) (fun _ _ _ h => h) (Or.inl ⟨by kernel_rfl, ?_⟩) ⟨VX.out.c0, VX.out.c1, VX.out.c2, VX.out.c3, C0.out.c0, C0.out.c1, C0.out.c2, C0.out.c3, C1.out.c0, C1.out.c1, C1.out.c2, C1.out.c3⟩ ?_
          · intro w hSw
            obtain ⟨s0, s1, s2, s3, s4, s5, s6, s7, s8, s9, s10, s11⟩ := hSw
            go_simp
          try simp only [Act.put]
          refine wpAnyC_take8 (i := 11) (oi := _) (v := I ((n : Int) - 1)) rfl (by kernel_rfl) (by kernel_rfl) (by kernel_rfl) (by kernel_rfl) (by kernel_rfl) (by kernel_rfl) (fun _ _ _ h => h) (Or.inl ⟨by kernel_rfl, ?_⟩) ⟨VX.out.c0, VX.out.c1, VX.out.c2, VX.out.c3, C0.out.c0, C0.out.c1, C0.out.c2, C0.out.c3, C1.out.c0, C1.out.c1, C1.out.c2, C1.out.c3⟩ ?_
          · intro w hSw
            obtain ⟨s0, s1, s2, s3, s4, s5, s6, s7, s8, s9, s10, s11⟩ := hSw
            go_simp
          try simp only [Act.put]
          refine wpAnyC_take8 (i := 12) (oi := _) (v := .pointer (some ⟨b, o + (n - 1) * 4, none⟩)) rfl (by kernel_rfl) (by kernel_rfl) (by kernel_rfl) (by kernel_rfl) (by kernel_rfl) (by kernel_rfl) (fun _ _ _ h => h) (Or.inl ⟨by kernel_rfl, ?_⟩) ⟨VX.out.c0, VX.out.c1, VX.out.c2, VX.out.c3, C0.out.c0, C0.out.c1, C0.out.c2, C0.out.c3, C1.out.c0, C1.out.c1, C1.out.c2, C1.out.c3⟩ ?_
          · intro w hSw
            obtain ⟨s0, s1, s2, s3, s4, s5, s6, s7, s8, s9, s10, s11⟩ := hSw
            go_simp
          try simp only [Act.put]
          refine wpAnyC_take8 (i := 13) (oi := _) (v := .agg #[.bool kb, .slice K1 k1 j1, .bool false, .slice K2 k2 j2]) rfl (by kernel_rfl) (by kernel_rfl) (by kernel_rfl) (by kernel_rfl) (by kernel_rfl) (by kernel_rfl) (fun _ _ _ h => h) (Or.inl ⟨by kernel_rfl, ?_⟩) ⟨VX.out.c0, VX.out.c1, VX.out.c2, VX.out.c3, C0.out.c0, C0.out.c1, C0.out.c2, C0.out.c3, C1.out.c0, C1.out.c1, C1.out.c2, C1.out.c3⟩ ?_
          · intro w hSw
            obtain ⟨s0, s1, s2, s3, s4, s5, s6, s7, s8, s9, s10, s11⟩ := hSw
            go_simp
          try simp only [Act.put]
          refine wpAnyC_oneW (i := 14) (by kernel_rfl) rfl (by kernel_rfl) (fun K hK => ?_)
          go_simp
          go_at_call 57
          refine (rcmp_any _ _ (rval (SL f)) pl _ HX.out R1.out (N := 210) (by decide) HFX.out FL.out).mono ?_
          rintro e w7 ⟨rfl, hb⟩
          replace HB := Lib.hid (HB.out.trans (hb.mono HB.out.size))
          replace HRV := Lib.hid (HRV.out.below hb)
          replace HX := Lib.hid (HX.out.ext hb)
          replace HY := Lib.hid (HY.out.ext hb)
          replace VX := Lib.hid (VX.out.below hb)
          replace VY := Lib.hid (VY.out.below hb)
          replace C0 := Lib.hid (C0.out.below hb)
          replace C1 := Lib.hid (C1.out.below hb)
          replace R0 := Lib.hid (R0.out.ext hb)
          replace R1 := Lib.hid (R1.out.ext hb)
          clear hb
          refine hK.out _ _ (fun _ => ⟨VX.out.c0, VX.out.c1, VX.out.c2, VX.out.c3, C0.out.c0, C0.out.c1, C0.out.c2, C0.out.c3, C1.out.c0, C1.out.c1, C1.out.c2, C1.out.c3⟩) ?_
          clear hK K
          try simp only [Act.put, List.setIfInBounds_toArray, List.set_cons_zero, List.set_cons_succ]
          generalize ((rval (SL f)).num * (pl.den : Int) - pl.num * ((rval (SL f)).den : Int)).sign = sg1 at *
          refine wpAnyC_take8 (i := 15) (oi := _) (v := .bool false) rfl (by kernel_rfl) (by kernel_rfl) (by kernel_rfl) (by kernel_rfl) (by kernel_rfl) (by kernel_rfl) (fun _ _ _ h => h) (Or.inl ⟨by kernel_rfl, ?_⟩) ⟨VX.out.c0, VX.out.c1, VX.out.c2, VX.out.c3, C0.out.c0, C0.out.c1, C0.out.c2, C0.out.c3, C1.out.c0, C1.out.c1, C1.out.c2, C1.out.c3⟩ ?_
          · intro w hSw
            obtain ⟨s0, s1, s2, s3, s4, s5, s6, s7, s8, s9, s10, s11⟩ := hSw
            go_simp
          try simp only [Act.put, List.setIfInBounds_toArray]
          refine wpAnyC_one (i := 16) (by kernel_rfl) rfl (fun K hK => ?_)
          go_simp
          refine hK.out _ _ (fun h => absurd h (by decide)) ?_
          clear hK K
          try simp only [Act.put, List.setIfInBounds_toArray, List.set_cons_zero, List.set_cons_succ]
          refine wpAnyC_done (by kernel_rfl) ?_ _
          clear tc tc2 hwn htn hn0 hn1 hn3 hn4 hn5 hn6
          clear C0 C1 R0 R1
          have HC := Lib.hid (rwhole_any 0 w7 (by decide) (by decide))
          go_wp2_with fail
          refine HC.out.mono ?_
          rintro e w8 ⟨v8, rfl, hv, hb⟩
          clear HC
          replace HB := Lib.hid (HB.out.trans (hb.mono HB.out.size))
          replace HRV := Lib.hid (HRV.out.below hb)
          replace HX := Lib.hid (HX.out.ext hb)
          replace HY := Lib.hid (HY.out.ext hb)
          replace VX := Lib.hid (VX.out.below hb)
          replace VY := Lib.hid (VY.out.below hb)
          clear hb
          obtain ⟨nb0, A0, l0, c0, B0, m0, d0, rfl⟩ := hv.bools
          obtain ⟨vs1, hb⟩ := boxes1 w8 (.bool nb0) (.slice A0 l0 c0) (.bool false) (.slice B0 m0 d0)
          unfold ratT at vs1 hb
          have hR : w.heap.size ≤ w8.heap.size := HB.out.size
          have HW8 := Lib.hid HB.out
          have HV := Lib.hid (show Vq _ w8.heap.size 0 from ⟨_, _, _, _, _, _, _, vs1, hv.ext hb⟩)
          clear vs1 hv
          have HRVa := Lib.hid (HRV.out.below hb)
          have HXa := Lib.hid (HX.out.ext hb)
          have HYa := Lib.hid (HY.out.ext hb)
          have VXa := Lib.hid (VX.out.below hb)
          have VYa := Lib.hid (VY.out.below hb)
          have HBa := Lib.hid (HB.out.trans (hb.mono HB.out.size))
          have HB8 := Lib.hid hb
          clear hb
          have y0 := VYa.out.c0
          have y1 := VYa.out.c1
          have y2 := VYa.out.c2
          have y3 := VYa.out.c3
          have HC := Lib.hid (tangents_any _ (rval (SL r)) (valsV (tx1 l)) n (some ⟨b, o, none⟩) c3 _ HYa.out HRVa.out (by omega) (N := 210) (by decide) HFY.out HF1.out)
          go_wp2_with fail
          refine HC.out.mono ?_
          rintro e w9 ⟨vt, rfl, hp, hb⟩
          clear HC
          replace HB8 := Lib.hid (HB8.out.trans (hb.mono HB8.out.size))
          clear HRVa HXa HYa VXa VYa y0 y1 y2 y3
          replace HV := Lib.hid (HV.out.below hb)
          clear hb
          clear HBa
          have hsz : w8.heap.size < (w8.alloc (.cells #[.bool nb0, .slice A0 l0 c0, .bool false, .slice B0 m0 d0] 82)).heap.size := by rw [World.size_alloc]; omega
          replace hp := hp.less (show w8.heap.size + 1 ≤ _ by omega)
          obtain ⟨A4, c4, rfl⟩ := hp.val
          have hln : (tanQ (rval (SL r)) (valsV (tx1 l))).length = n := by rw [tanQ, List.length_map, HLV.out]
          rw [hln] at hp ⊢
          have HP := Lib.hid hp
          have HLT := Lib.hid hln
          have FT := Lib.hid (show ∀ p ∈ tanQ (rval (SL r)) (valsV (tx1 l)), FitR 1000 p.1 ∧ FitR 1000 p.2 from fun p hp => by
            obtain ⟨q, hq, rfl⟩ := List.mem_map.1 hp
            exact thru_fit HFY.out (HF1.out q hq) (HF1.out q hq))
          have HLOW := Lib.hid (show lowQ (SL r) (tx1 l) (SL f) = maxQ (rval (SL f)) ((tanQ (rval (SL r)) (valsV (tx1 l))).drop 0) 0 from rfl)
          clear hp hln hsz
          generalize tanQ (rval (SL r)) (valsV (tx1 l)) = ts at *
          have HF0 := Lib.hid (show FitR 4000 0 from fitR_zero.mono (by omega))
          generalize hsB : w8.heap.size = sB at *
          go_wp2
          go_loopg [62] (n - 0) (fun mm v wr => ∃ (k : Nat) (cur : Rat), mm = n - k ∧ v = I k ∧ k ≤ n ∧ Hid (Vq wr sB cur) ∧ Hid (PRow wr (sB + 1) (.slice A4 n c4) ts) ∧ Hid (lowQ (SL r) (tx1 l) (SL f) = maxQ (rval (SL f)) (ts.drop k) cur) ∧ Hid (FitR 4000 cur) ∧ Hid (Below w8.heap.size w8 wr))
          case atStart => exact ⟨0, 0, rfl, rfl, by omega, HV, HP, HLOW, HF0, by rw [hsB]; exact HB8⟩
          case round =>
            clear HV HP HLOW HF0 HB8
            obtain ⟨k, cur, rfl, rfl, hk, HV, HP, HLOW, HF, HB8⟩ := hrel
            obtain ⟨wa, rfl⟩ : ∃ wa : World, wa = wr := ⟨_, rfl⟩
            by_cases hlt : k < n
            · obtain ⟨p, hp⟩ : ∃ p, ts[k]? = some p := ⟨_, List.getElem?_eq_getElem (by rw [HLT.out]; exact hlt)⟩
              obtain ⟨b4, o4, ab, A1, n1, k1, A2, n2, k2, bb, B1, m1, j1, B2, m2, j2, rfl, hbl, hC, h1, h2⟩ := HP.out.pv.form hlt p hp
              have FP := Lib.hid (FT.out p (List.mem_of_getElem? hp))
              have HLN := Lib.hid (show lowQ (SL r) (tx1 l) (SL f) = maxQ (rval (SL f)) (ts.drop (k + 1)) (if cur < pcAt p (rval (SL f)) then pcAt p (rval (SL f)) else cur) by rw [HLOW.out, maxQ_step hp])
              have hc0 := hC.c0
              have hc1 := hC.c1
              have hc2 := hC.c2
              have hc3 := hC.c3
              have hc4 := hC.c4
              have hc5 := hC.c5
              have hc6 := hC.c6
              have hc7 := hC.c7
              have hvx := VX.out.below HB8.out
              have x0 := hvx.c0
              have x1_ := hvx.c1
              have x2_ := hvx.c2
              have x3_ := hvx.c3
              have hxl := hvx.lt
              have hb := below_new wa (.cells #[.bool ab, .slice A1 n1 k1, .bool false, .slice A2 n2 k2, .bool bb, .slice B1 m1 j1, .bool false, .slice B2 m2 j2] 89)
              have HC := Lib.hid (pcAt_any _ _ p (rval (SL f)) _ (show Pv _ _ p from ⟨_, _, _, _, _, _, _, _, rfl, h1.ext hb, h2.ext hb⟩) ((HX.out.ext HB8.out).ext hb) (N := 1000) (by decide) FP.out.1 FP.out.2 (HFX.out.mono (by omega)))
              replace HB8 := Lib.hid (HB8.out.trans (hb.mono HB8.out.size))
              replace HV := Lib.hid (HV.out.below hb)
              replace HP := Lib.hid (HP.out.call hb)
              clear hp hC h1 h2 hb HLOW hvx
              go_wp2_with fail
              refine HC.out.mono ?_
              rintro e w10 ⟨vv, rfl, hv, hb⟩
              clear HC hc0 hc1 hc2 hc3 hc4 hc5 hc6 hc7 x0 x1_ x2_ x3_ hxl hbl
              replace HB8 := Lib.hid (HB8.out.trans (hb.mono HB8.out.size))
              replace HV := Lib.hid (HV.out.below hb)
              replace HP := Lib.hid (HP.out.call hb)
              obtain ⟨tb, T1, t1, e3, T2, t2, e4, rfl⟩ := hv.bools
              clear hb
              obtain ⟨vz, hb⟩ := boxes1 w10 (.bool tb) (.slice T1 t1 e3) (.bool false) (.slice T2 t2 e4)
              unfold ratT at vz hb
              replace HB8 := Lib.hid (HB8.out.trans (hb.mono HB8.out.size))
              replace HV := Lib.hid (HV.out.below hb)
              replace HP := Lib.hid (HP.out.call hb)
              have HQ := Lib.hid (hv.ext hb)
              have VZ := Lib.hid vz
              clear hb hv vz
              obtain ⟨fb, F1, f1, g1, F2, f2, g2, vs, hs⟩ := HV.out
              have HFD := Lib.hid (pcAt_fit FP.out.1 FP.out.2 HFX.out)
              have HC := Lib.hid (rcmp_any _ _ (pcAt p (rval (SL f))) cur _ HQ.out hs (N := 4000) (by decide) HFD.out HF.out)
              have s0 := vs.c0
              have s1 := vs.c1
              have s2 := vs.c2
              have s3 := vs.c3
              have hsl := vs.lt
              rw [World.size_alloc] at hsl
              clear vs hs
              go_wp2_with fail
              refine HC.out.mono ?_
              rintro e w11 ⟨rfl, hb⟩
              clear HC s0 s1 s2 s3 hsl
              replace HB8 := Lib.hid (HB8.out.trans (hb.mono HB8.out.size))
              replace HV := Lib.hid (HV.out.below hb)
              replace HP := Lib.hid (HP.out.call hb)
              replace HQ := Lib.hid (HQ.out.ext hb)
              replace VZ := Lib.hid (VZ.out.below hb)
              clear hb
              generalize w10.heap.size = zB at *
              by_cases hcmp : cur < pcAt p (rval (SL f))
              · have tc : decide (0 < ((pcAt p (rval (SL f))).num * (cur.den : Int) - cur.num * ((pcAt p (rval (SL f))).den : Int)).sign) = true := by rw [cmpQ_gt']; exact decide_eq_true hcmp
                rw [if_pos hcmp] at HLN
                clear hcmp
                generalize pcAt p (rval (SL f)) = q at *
                generalize (q.num * (cur.den : Int) - cur.num * (q.den : Int)).sign = sg at *
                obtain ⟨fb, F1, f1, g1, F2, f2, g2, vs, hs⟩ := HV.out
                have HN := Lib.hid (show Vq _ sB q from ⟨_, _, _, _, _, _, _, vs.set (.bool tb) (.slice T1 t1 e3) (.bool false) (.slice T2 t2 e4), HQ.out.set4 vs (.bool tb) (.slice T1 t1 e3) (.bool false) (.slice T2 t2 e4)⟩)
                have HPN := Lib.hid (HP.out.far vs (by omega) (.bool tb) (.slice T1 t1 e3) (.bool false) (.slice T2 t2 e4))
                have HBN := Lib.hid (below_set4 HB8.out (g := sB) (by omega) (.bool tb) (.slice T1 t1 e3) (.bool false) (.slice T2 t2 e4))
                unfold set4 at HN HPN HBN
                have z0 := VZ.out.c0
                have r0 := vs.c0
                have q0 := vs.f0
                have z1 := VZ.out.c1
                have r1 := vs.c1
                have q1 := vs.f1
                have z2 := VZ.out.c2
                have r2 := vs.c2
                have q2 := vs.f2
                have z3 := VZ.out.c3
                have r3 := vs.c3
                have q3 := vs.f3
                clear VZ vs hs HQ HV HP HB8
                go_wp2
                go_roundg (n - (k + 1))
                case measure => omega
                case rel => exact ⟨k + 1, q, rfl, by go_num, by omega, HN, HPN, HLN, HFD, HBN⟩
              · have tc : decide (0 < ((pcAt p (rval (SL f))).num * (cur.den : Int) - cur.num * ((pcAt p (rval (SL f))).den : Int)).sign) = false := by rw [cmpQ_gt']; exact decide_eq_false hcmp
                rw [if_neg hcmp] at HLN
                clear hcmp
                generalize pcAt p (rval (SL f)) = q at *
                generalize (q.num * (cur.den : Int) - cur.num * (q.den : Int)).sign = sg at *
                clear VZ HQ
                go_wp2
                go_roundg (n - (k + 1))
                case measure => omega
                case rel => exact ⟨k + 1, cur, rfl, by go_num, by omega, HV, HP, HLN, HF, HB8⟩
            · have hkn : k = n := by omega
              subst hkn
              have HLQ := Lib.hid (show lowQ (SL r) (tx1 l) (SL f) = cur by rw [HLOW.out, List.drop_of_length_le (by rw [HLT.out]; omega), maxQ])
              clear HLOW HP FT HLT
              go_wp2
              go_loopg [18] (k - 1) (fun mm v wr => ∃ i : Nat, mm = k - i ∧ v = I i ∧ 1 ≤ i ∧ i < k ∧ Hid (Vq wr sB cur) ∧ Hid (atK (tx1 l) (SL f) = firstGe (rval (SL f)) ((valsV (tx1 l)).drop i) i) ∧ Hid (Below w8.heap.size w8 wr))
              case atStart => exact ⟨1, rfl, rfl, by omega, by omega, HV, rfl, HB8⟩
              case round =>
                clear HV HB8
                obtain ⟨i, rfl, rfl, hi1, hi, HV, HG, HB8⟩ := hrel
                obtain ⟨wb, rfl⟩ : ∃ wb : World, wb = wr := ⟨_, rfl⟩
                obtain ⟨p, hp⟩ : ∃ p, (valsV (tx1 l))[i]? = some p := ⟨_, List.getElem?_eq_getElem (by rw [HLV.out]; exact hi)⟩
                obtain ⟨b', o', kb, K1, k1, j1, K2, k2, j2, e', _, hC1, hr1⟩ := (HRV.out.below HB8.out).form hi p hp
                obtain ⟨rfl, rfl⟩ : b = b' ∧ o = o' := by injection e' with e'; injection e' with e1 e2; exact ⟨e1, e2⟩
                have FPP := Lib.hid (HF1.out p (List.mem_of_getElem? hp))
                have hd := below_draw wb
                have VXb := Lib.hid ((VX.out.below HB8.out).below hd)
                have HXb := Lib.hid ((HX.out.ext HB8.out).ext hd)
                have CB := Lib.hid (hC1.below hd)
                have RB := Lib.hid (hr1.ext hd)
                replace HV := Lib.hid (HV.out.below hd)
                replace HB8 := Lib.hid (HB8.out.trans (hd.mono HB8.out.size))
                clear hC1 hr1 hd e'
                have hki : ¬ k ≤ i := by omega
                by_cases hcmp : p < rval (SL f)
                · have tc : decide ((p.num * ((rval (SL f)).den : Int) - (rval (SL f)).num * (p.den : Int)).sign < 0) = true := by rw [cmpQ_lt']; exact decide_eq_true hcmp
                  have hk2 : i + 1 < k := by
                    rcases Nat.lt_or_ge (i + 1) k with h | h
                    · exact h
                    · exfalso
                      have h1 := getD_of hp
                      rw [show i = k - 1 by omega] at h1
                      have h2 := HXL.out
                      rw [h1] at h2
                      grind
                  have HGN := Lib.hid (show atK (tx1 l) (SL f) = firstGe (rval (SL f)) ((valsV (tx1 l)).drop (i + 1)) (i + 1) by rw [HG.out, firstGe_step hp, if_pos hcmp])
                  clear hp hcmp HG
                  go_upto_region 19 with (fail)
                  refine wp_region_c (fun w' => w'.cell? ⟨b, o + i * 4, none⟩ = some (.bool kb) ∧ w'.cell? ⟨b, o + i * 4 + 1, none⟩ = some (.slice K1 k1 j1) ∧ w'.cell? ⟨b, o + i * 4 + 2, none⟩ = some (.bool false) ∧ w'.cell? ⟨b, o + i * 4 + 3, none⟩ = some (.slice K2 k2 j2) ∧ w'.cell? ⟨gx, 0, none⟩ = some (.bool xb) ∧ w'.cell? ⟨gx, 1, none⟩ = some (.slice x1 x2 x3) ∧ w'.cell? ⟨gx, 2, none⟩ = some (.bool false) ∧ w'.cell? ⟨gx, 3, none⟩ = some (.slice x4 x5 x6)) 6 (by kernel_rfl) ?_
                  generalize wb.drew = W1 at *
                  refine wpAnyC_take8 (i := 0) (oi := _) (v := .slice (some ⟨b, o, none⟩) k c3) rfl (by kernel_rfl) (by kernel_rfl) (by kernel_rfl) (by kernel_rfl) (by kernel_rfl) (by kernel_rfl) (fun _ _ _ h => h) (Or.inl ⟨by rfl, ?_⟩) ⟨CB.out.c0, CB.out.c1, CB.out.c2, CB.out.c3, VXb.out.c0, VXb.out.c1, VXb.out.c2, VXb.out.c3⟩ ?_
                  · intro w hSw
                    obtain ⟨s0, s1, s2, s3, s4, s5, s6, s7⟩ := hSw
                    go_simp
                  try simp only [Act.put, List.setIfInBounds_toArray]
                  refine wpAnyC_take8 (i := 1) (oi := _) (v := I i) rfl (by kernel_rfl) (by kernel_rfl) (by kernel_rfl) (by kernel_rfl) (by kernel_rfl) (by kernel_rfl) (fun _ _ _ h => h) (Or.inl ⟨by rfl, ?_⟩) ⟨CB.out.c0, CB.out.c1, CB.out.c2, CB.out.c3, VXb.out.c0, VXb.out.c1, VXb.out.c2, VXb.out.c3⟩ ?_
                  · intro w hSw
                    obtain ⟨s0, s1, s2, s3, s4, s5, s6, s7⟩ := hSw
                    go_simp
                  try simp only [Act.put]
                  refine wpAnyC_take8 (i := 2) (oi := _) (v := .pointer (some ⟨b, o + i * 4, none⟩)) rfl (by kernel_rfl) (by kernel_rfl) (by kernel_rfl) (by kernel_rfl) (by kernel_rfl) (by kernel_rfl) (fun _ _ _ h => h) (Or.inl ⟨by rfl, ?_⟩) ⟨CB.out.c0, CB.out.c1, CB.out.c2, CB.out.c3, VXb.out.c0, VXb.out.c1, VXb.out.c2, VXb.out.c3⟩ ?_
                  · intro w hSw
                    obtain ⟨s0, s1, s2, s3, s4, s5, s6, s7⟩ := hSw
                    go_simp
                  try simp only [Act.put]
                  refine wpAnyC_take8 (i := 3) (oi := _) (v := .agg #[.bool kb, .slice K1 k1 j1, .bool false, .slice K2 k2 j2]) rfl (by kernel_rfl) (by kernel_rfl) (by kernel_rfl) (by kernel_rfl) (by kernel_rfl) (by kernel_rfl) (fun _ _ _ h => h) (Or.inl ⟨by rfl, ?_⟩) ⟨CB.out.c0, CB.out.c1, CB.out.c2, CB.out.c3, VXb.out.c0, VXb.out.c1, VXb.out.c2, VXb.out.c3⟩ ?_
                  · intro w hSw
                    obtain ⟨s0, s1, s2, s3, s4, s5, s6, s7⟩ := hSw
                    go_simp
                  try simp only [Act.put]
                  refine wpAnyC_take8 (i := 4) (oi := _) (v := .agg #[.bool xb, .slice x1 x2 x3, .bool false, .slice x4 x5 x6]) rfl (by kernel_rfl) (by kernel_rfl) (by kernel_rfl) (by kernel_rfl) (by kernel_rfl) (by kernel_rfl) (fun _ _ _ h => h) (Or.inl ⟨by rfl, ?_⟩) ⟨CB.out.c0, CB.out.c1, CB.out.c2, CB.out.c3, VXb.out.c0, VXb.out.c1, VXb.out.c2, VXb.out.c3⟩ ?_
                  · intro w hSw
                    obtain ⟨s0, s1, s2, s3, s4, s5, s6, s7⟩ := hSw
                    go_simp
                  try simp only [Act.put]
                  refine wpAnyC_one (i := 5) (by kernel_rfl) rfl (fun K hK => ?_)
                  go_simp
                  go_at_call 57
                  refine (rcmp_any _ _ p (rval (SL f)) _ RB.out HXb.out (N := 210) (by decide) FPP.out HFX.out).mono ?_
                  rintro e w12 ⟨rfl, hb⟩
                  replace VXb := Lib.hid (VXb.out.below hb)
                  replace HXb := Lib.hid (HXb.out.ext hb)
                  replace CB := Lib.hid (CB.out.below hb)
                  replace RB := Lib.hid (RB.out.ext hb)
                  replace HV := Lib.hid (HV.out.below hb)
                  replace HB8 := Lib.hid (HB8.out.trans (hb.mono HB8.out.size))
                  clear hb
                  refine hK.out _ _ (fun _ => ⟨CB.out.c0, CB.out.c1, CB.out.c2, CB.out.c3, VXb.out.c0, VXb.out.c1, VXb.out.c2, VXb.out.c3⟩) ?_
                  clear hK K
                  try simp only [Act.put, List.setIfInBounds_toArray, List.set_cons_zero, List.set_cons_succ]
                  generalize (p.num * ((rval (SL f)).den : Int) - (rval (SL f)).num * (p.den : Int)).sign = sg at *
                  refine wpAnyC_one (i := 6) (by kernel_rfl) rfl (fun K hK => ?_)
                  go_simp
                  refine hK.out _ _ (fun h => absurd h (by decide)) ?_
                  clear hK K
                  try simp only [Act.put, List.setIfInBounds_toArray, List.set_cons_zero, List.set_cons_succ]
                  refine wpAnyC_done (by kernel_rfl) ?_ _
                  clear VXb HXb CB RB
                  go_wp2
                  go_roundg (k - (i + 1))
                  case measure => omega
                  case rel => exact ⟨i + 1, rfl, by go_num, by omega, hk2, HV, HGN, HB8⟩
                · have tc : decide ((p.num * ((rval (SL f)).den : Int) - (rval (SL f)).num * (p.den : Int)).sign < 0) = false := by rw [cmpQ_lt']; exact decide_eq_false hcmp
                  have HAK := Lib.hid (show atK (tx1 l) (SL f) = i by rw [HG.out, firstGe_step hp, if_neg hcmp])
                  have EB := Lib.hid (getD_of hp)
                  clear hp hcmp HG
                  go_upto_region 19 with (fail)
                  refine wp_region_c (fun w' => w'.cell? ⟨b, o + i * 4, none⟩ = some (.bool kb) ∧ w'.cell? ⟨b, o + i * 4 + 1, none⟩ = some (.slice K1 k1 j1) ∧ w'.cell? ⟨b, o + i * 4 + 2, none⟩ = some (.bool false) ∧ w'.cell? ⟨b, o + i * 4 + 3, none⟩ = some (.slice K2 k2 j2) ∧ w'.cell? ⟨gx, 0, none⟩ = some (.bool xb) ∧ w'.cell? ⟨gx, 1, none⟩ = some (.slice x1 x2 x3) ∧ w'.cell? ⟨gx, 2, none⟩ = some (.bool false) ∧ w'.cell? ⟨gx, 3, none⟩ = some (.slice x4 x5 x6)) 6 (by kernel_rfl) ?_
                  generalize wb.drew = W1 at *
                  refine wpAnyC_take8 (i := 0) (oi := _) (v := .slice (some ⟨b, o, none⟩) k c3) rfl (by kernel_rfl) (by kernel_rfl) (by kernel_rfl) (by kernel_rfl) (by kernel_rfl) (by kernel_rfl) (fun _ _ _ h => h) (Or.inl ⟨by rfl, ?_⟩) ⟨CB.out.c0, CB.out.c1, CB.out.c2, CB.out.c3, VXb.out.c0, VXb.out.c1, VXb.out.c2, VXb.out.c3⟩ ?_
                  · intro w hSw
                    obtain ⟨s0, s1, s2, s3, s4, s5, s6, s7⟩ := hSw
                    go_simp
                  try simp only [Act.put, List.setIfInBounds_toArray]
                  refine wpAnyC_take8 (i := 1) (oi := _) (v := I i) rfl (by kernel_rfl) (by kernel_rfl) (by kernel_rfl) (by kernel_rfl) (by kernel_rfl) (by kernel_rfl) (fun _ _ _ h => h) (Or.inl ⟨by rfl, ?_⟩) ⟨CB.out.c0, CB.out.c1, CB.out.c2, CB.out.c3, VXb.out.c0, VXb.out.c1, VXb.out.c2, VXb.out.c3⟩ ?_
                  · intro w hSw
                    obtain ⟨s0, s1, s2, s3, s4, s5, s6, s7⟩ := hSw
                    go_simp
                  try simp only [Act.put]
                  refine wpAnyC_take8 (i := 2) (oi := _) (v := .pointer (some ⟨b, o + i * 4, none⟩)) rfl (by kernel_rfl) (by kernel_rfl) (by kernel_rfl) (by kernel_rfl) (by kernel_rfl) (by kernel_rfl) (fun _ _ _ h => h) (Or.inl ⟨by rfl, ?_⟩) ⟨CB.out.c0, CB.out.c1, CB.out.c2, CB.out.c3, VXb.out.c0, VXb.out.c1, VXb.out.c2, VXb.out.c3⟩ ?_
                  · intro w hSw
                    obtain ⟨s0, s1, s2, s3, s4, s5, s6, s7⟩ := hSw
                    go_simp
                  try simp only [Act.put]
                  refine wpAnyC_take8 (i := 3) (oi := _) (v := .agg #[.bool kb, .slice K1 k1 j1, .bool false, .slice K2 k2 j2]) rfl (by kernel_rfl) (by kernel_rfl) (by kernel_rfl) (by kernel_rfl) (by kernel_rfl) (by kernel_rfl) (fun _ _ _ h => h) (Or.inl ⟨by rfl, ?_⟩) ⟨CB.out.c0, CB.out.c1, CB.out.c2, CB.out.c3, VXb.out.c0, VXb.out.c1, VXb.out.c2, VXb.out.c3⟩ ?_
                  · intro w hSw
                    obtain ⟨s0, s1, s2, s3, s4, s5, s6, s7⟩ := hSw
                    go_simp
                  try simp only [Act.put]
                  refine wpAnyC_take8 (i := 4) (oi := _) (v := .agg #[.bool xb, .slice x1 x2 x3, .bool false, .slice x4 x5 x6]) rfl (by kernel_rfl) (by kernel_rfl) (by kernel_rfl) (by kernel_rfl) (by kernel_rfl) (by kernel_rfl) (fun _ _ _ h => h) (Or.inl ⟨by rfl, ?_⟩) ⟨CB.out.c0, CB.out.c1, CB.out.c2, CB.out.c3, VXb.out.c0, VXb.out.c1, VXb.out.c2, VXb.out.c3⟩ ?_
                  · intro w hSw
                    obtain ⟨s0, s1, s2, s3, s4, s5, s6, s7⟩ := hSw
                    go_simp
                  try simp only [Act.put]
                  refine wpAnyC_one (i := 5) (by kernel_rfl) rfl (fun K hK => ?_)
                  go_simp
                  go_at_call 57
                  refine (rcmp_any _ _ p (rval (SL f)) _ RB.out HXb.out (N := 210) (by decide) FPP.out HFX.out).mono ?_
                  rintro e w12 ⟨rfl, hb⟩
                  replace VXb := Lib.hid (VXb.out.below hb)
                  replace HXb := Lib.hid (HXb.out.ext hb)
                  replace CB := Lib.hid (CB.out.below hb)
                  replace RB := Lib.hid (RB.out.ext hb)
                  replace HV := Lib.hid (HV.out.below hb)
                  replace HB8 := Lib.hid (HB8.out.trans (hb.mono HB8.out.size))
                  clear hb
                  refine hK.out _ _ (fun _ => ⟨CB.out.c0, CB.out.c1, CB.out.c2, CB.out.c3, VXb.out.c0, VXb.out.c1, VXb.out.c2, VXb.out.c3⟩) ?_
                  clear hK K
                  try simp only [Act.put, List.setIfInBounds_toArray, List.set_cons_zero, List.set_cons_succ]
                  generalize (p.num * ((rval (SL f)).den : Int) - (rval (SL f)).num * (p.den : Int)).sign = sg at *
                  refine wpAnyC_one (i := 6) (by kernel_rfl) rfl (fun K hK => ?_)
                  go_simp
                  refine hK.out _ _ (fun h => absurd h (by decide)) ?_
                  clear hK K
                  try simp only [Act.put, List.setIfInBounds_toArray, List.set_cons_zero, List.set_cons_succ]
                  refine wpAnyC_done (by kernel_rfl) ?_ _
                  clear tc
                  obtain ⟨pa, hpa⟩ : ∃ p, (valsV (tx1 l))[i - 1]? = some p := ⟨_, List.getElem?_eq_getElem (by rw [HLV.out]; omega)⟩
                  obtain ⟨b', o', qb, Q1, q1, r1, Q2, q2, r2, e', _, hC1, hr1⟩ := (HRV.out.below HB8.out).form (k := i - 1) (by omega) pa hpa
                  obtain ⟨rfl, rfl⟩ : b = b' ∧ o = o' := by injection e' with e'; injection e' with e1 e2; exact ⟨e1, e2⟩
                  have CA := Lib.hid (hC1)
                  have RA := Lib.hid (hr1)
                  have FPA := Lib.hid (HF1.out pa (List.mem_of_getElem? hpa))
                  have EA := Lib.hid (getD_of hpa)
                  clear e' hC1 hr1 hpa
                  have VYb := Lib.hid (VY.out.below HB8.out)
                  have HYb := Lib.hid (HY.out.ext HB8.out)
                  have HBT := Lib.hid (HW8.out.trans (HB8.out.mono HW8.out.size))
                  have HHI := Lib.hid (show highQ (SL r) (tx1 l) (SL f) = pcAt (thru (rval (SL r)) pa p) (rval (SL f)) by rw [highQ, HAK.out, EA.out, EB.out])
                  obtain ⟨a1, a2, ha⟩ : ∃ a c, ratTx cur = (a, c) := ⟨_, _, rfl⟩
                  obtain ⟨h1, h2, hh⟩ : ∃ a c, ratTx (pcAt (thru (rval (SL r)) pa p) (rval (SL f))) = (a, c) := ⟨_, _, rfl⟩
                  have HTW := Lib.hid (twoT_of ha hh)
                  rw [← HHI.out, ← HLQ.out] at HTW
                  have HA := Lib.hid ha
                  have HH := Lib.hid hh
                  clear ha hh
                  obtain ⟨fb, F1, f1, g1, F2, f2, g2, vs, hs⟩ := HV.out
                  have HC := Lib.hid (lossText_eq _ _ HA.out hs (tab_below HTB.out HBT.out))
                  have s0 := vs.c0
                  have s1 := vs.c1
                  have s2 := vs.c2
                  have s3 := vs.c3
                  clear vs hs HV
                  go_wp2_with fail
                  refine HC.out.mono ?_
                  rintro e w13 ⟨rfl, hb⟩
                  clear HC s0 s1 s2 s3
                  replace VXb := Lib.hid (VXb.out.below hb)
                  replace HXb := Lib.hid (HXb.out.ext hb)
                  replace CB := Lib.hid (CB.out.below hb)
                  replace RB := Lib.hid (RB.out.ext hb)
                  replace HB8 := Lib.hid (HB8.out.trans (hb.mono HB8.out.size))
                  replace CA := Lib.hid (CA.out.below hb)
                  replace RA := Lib.hid (RA.out.ext hb)
                  replace VYb := Lib.hid (VYb.out.below hb)
                  replace HYb := Lib.hid (HYb.out.ext hb)
                  replace HBT := Lib.hid (HBT.out.trans (hb.mono HBT.out.size))
                  clear hb
                  have hd := below_draw w13
                  replace VXb := Lib.hid (VXb.out.below hd)
                  replace HXb := Lib.hid (HXb.out.ext hd)
                  replace CB := Lib.hid (CB.out.below hd)
                  replace RB := Lib.hid (RB.out.ext hd)
                  replace HB8 := Lib.hid (HB8.out.trans (hd.mono HB8.out.size))
                  replace CA := Lib.hid (CA.out.below hd)
                  replace RA := Lib.hid (RA.out.ext hd)
                  replace VYb := Lib.hid (VYb.out.below hd)
                  replace HYb := Lib.hid (HYb.out.ext hd)
                  replace HBT := Lib.hid (HBT.out.trans (hd.mono HBT.out.size))
                  clear hd
                  have hwi : IntKind.i64.wrap ((i : Int) - 1) = (i : Int) - 1 := IntWalk.i64_in _ (by omega)
                  have hti : ((i : Int) - 1).toNat = i - 1 := by omega
                  have hi0 : ¬ ((i : Int) - 1 < 0) := by omega
                  have hi2 : ¬ k ≤ i - 1 := by omega
                  have hi3 : (0 : Int) ≤ (i : Int) - 1 := by omega
                  have hi4 : (i : Int) - 1 < k := by omega
                  have hi5 : ¬ ((i : Int) < 1) := by omega
                  go_upto_region 22 with (fail)
                  refine wp_region_c (fun w' => w'.cell? ⟨(gx + 1), 0, none⟩ = some (.bool yb) ∧ w'.cell? ⟨(gx + 1), 1, none⟩ = some (.slice y1 y2 y3) ∧ w'.cell? ⟨(gx + 1), 2, none⟩ = some (.bool false) ∧ w'.cell? ⟨(gx + 1), 3, none⟩ = some (.slice y4 y5 y6) ∧ w'.cell? ⟨b, o + (i - 1) * 4, none⟩ = some (.bool qb) ∧ w'.cell? ⟨b, o + (i - 1) * 4 + 1, none⟩ = some (.slice Q1 q1 r1) ∧ w'.cell? ⟨b, o + (i - 1) * 4 + 2, none⟩ = some (.bool false) ∧ w'.cell? ⟨b, o + (i - 1) * 4 + 3, none⟩ = some (.slice Q2 q2 r2) ∧ w'.cell? ⟨b, o + i * 4, none⟩ = some (.bool kb) ∧ w'.cell? ⟨b, o + i * 4 + 1, none⟩ = some (.slice K1 k1 j1) ∧ w'.cell? ⟨b, o + i * 4 + 2, none⟩ = some (.bool false) ∧ w'.cell? ⟨b, o + i * 4 + 3, none⟩ = some (.slice K2 k2 j2) ∧ w'.cell? ⟨gx, 0, none⟩ = some (.bool xb) ∧ w'.cell? ⟨gx, 1, none⟩ = some (.slice x1 x2 x3) ∧ w'.cell? ⟨gx, 2, none⟩ = some (.bool false) ∧ w'.cell? ⟨gx, 3, none⟩ = some (.slice x4 x5 x6)) 18 (by kernel_rfl) ?_
                  generalize w13.drew = W1 at *
                  refine wpAnyC_take8 (i := 0) (oi := _) (v := .agg #[.bool yb, .slice y1 y2 y3, .bool false, .slice y4 y5 y6]) rfl (by kernel_rfl) (by kernel_rfl) (by kernel_rfl) (by kernel_rfl) (by kernel_rfl) (by kernel_rfl) (fun _ _ _ h => h) (Or.inl ⟨by rfl, ?_⟩) ⟨VYb.out.c0, VYb.out.c1, VYb.out.c2, VYb.out.c3, CA.out.c0, CA.out.c1, CA.out.c2, CA.out.c3, CB.out.c0, CB.out.c1, CB.out.c2, CB.out.c3, VXb.out.c0, VXb.out.c1, VXb.out.c2, VXb.out.c3⟩ ?_
                  · intro w hSw
                    obtain ⟨s0, s1, s2, s3, s4, s5, s6, s7, s8, s9, s10, s11, s12, s13, s14, s15⟩ := hSw
                    go_simp
                  try simp only [Act.put, List.setIfInBounds_toArray]
                  refine wpAnyC_take8 (i := 1) (oi := _) (v := .slice (some ⟨b, o, none⟩) k c3) rfl (by kernel_rfl) (by kernel_rfl) (by kernel_rfl) (by kernel_rfl) (by kernel_rfl) (by kernel_rfl) (fun _ _ _ h => h) (Or.inl ⟨by rfl, ?_⟩) ⟨VYb.out.c0, VYb.out.c1, VYb.out.c2, VYb.out.c3, CA.out.c0, CA.out.c1, CA.out.c2, CA.out.c3, CB.out.c0, CB.out.c1, CB.out.c2, CB.out.c3, VXb.out.c0, VXb.out.c1, VXb.out.c2, VXb.out.c3⟩ ?_
                  · intro w hSw
                    obtain ⟨s0, s1, s2, s3, s4, s5, s6, s7, s8, s9, s10, s11, s12, s13, s14, s15⟩ := hSw
                    go_simp
                  try simp only [Act.put]
                  refine wpAnyC_take8 (i := 2) (oi := _) (v := I i) rfl (by kernel_rfl) (by kernel_rfl) (by kernel_rfl) (by kernel_rfl) (by kernel_rfl) (by kernel_rfl) (fun _ _ _ h => h) (Or.inl ⟨by rfl, ?_⟩) ⟨VYb.out.c0, VYb.out.c1, VYb.out.c2, VYb.out.c3, CA.out.c0, CA.out.c1, CA.out.c2, CA.out.c3, CB.out.c0, CB.out.c1, CB.out.c2, CB.out.c3, VXb.out.c0, VXb.out.c1, VXb.out.c2, VXb.out.c3⟩ ?_
                  · intro w hSw
                    obtain ⟨s0, s1, s2, s3, s4, s5, s6, s7, s8, s9, s10, s11, s12, s13, s14, s15⟩ := hSw
                    go_simp
                  try simp only [Act.put]
                  refine wpAnyC_take8 (i := 3) (oi := _) (v := I ((i : Int) - 1)) rfl (by kernel_rfl) (by kernel_rfl) (by kernel_rfl) (by kernel_rfl) (by kernel_rfl) (by kernel_rfl) (fun _ _ _ h => h) (Or.inl ⟨by rfl, ?_⟩) ⟨VYb.out.c0, VYb.out.c1, VYb.out.c2, VYb.out.c3, CA.out.c0, CA.out.c1, CA.out.c2, CA.out.c3, CB.out.c0, CB.out.c1, CB.out.c2, CB.out.c3, VXb.out.c0, VXb.out.c1, VXb.out.c2, VXb.out.c3⟩ ?_
                  · intro w hSw
                    obtain ⟨s0, s1, s2, s3, s4, s5, s6, s7, s8, s9, s10, s11, s12, s13, s14, s15⟩ := hSw
                    go_simp
                  try simp only [Act.put]
                  refine wpAnyC_take8 (i := 4) (oi := _) (v := .pointer (some ⟨b, o + (i - 1) * 4, none⟩)) rfl (by kernel_rfl) (by kernel_rfl) (by kernel_rfl) (by kernel_rfl) (by kernel_rfl) (by kernel_rfl) (fun _ _ _ h => h) (Or.inl ⟨by rfl, ?_⟩) ⟨VYb.out.c0, VYb.out.c1, VYb.out.c2, VYb.out.c3, CA.out.c0, CA.out.c1, CA.out.c2, CA.out.c3, CB.out.c0, CB.out.c1, CB.out.c2, CB.out.c3, VXb.out.c0, VXb.out.c1, VXb.out.c2, VXb.out.c3⟩ ?_
                  · intro w hSw
                    obtain ⟨s0, s1, s2, s3, s4, s5, s6, s7, s8, s9, s10, s11, s12, s13, s14, s15⟩ := hSw
                    go_simp
                  try simp only [Act.put]
                  refine wpAnyC_take8 (i := 5) (oi := _) (v := .agg #[.bool qb, .slice Q1 q1 r1, .bool false, .slice Q2 q2 r2]) rfl (by kernel_rfl) (by kernel_rfl) (by kernel_rfl) (by kernel_rfl) (by kernel_rfl) (by kernel_rfl) (fun _ _ _ h => h) (Or.inl ⟨by rfl, ?_⟩) ⟨VYb.out.c0, VYb.out.c1, VYb.out.c2, VYb.out.c3, CA.out.c0, CA.out.c1, CA.out.c2, CA.out.c3, CB.out.c0, CB.out.c1, CB.out.c2, CB.out.c3, VXb.out.c0, VXb.out.c1, VXb.out.c2, VXb.out.c3⟩ ?_
                  · intro w hSw
                    obtain ⟨s0, s1, s2, s3, s4, s5, s6, s7, s8, s9, s10, s11, s12, s13, s14, s15⟩ := hSw
                    go_simp
                  try simp only [Act.put]
                  refine wpAnyC_take8 (i := 6) (oi := _) (v := .slice (some ⟨b, o, none⟩) k c3) rfl (by kernel_rfl) (by kernel_rfl) (by kernel_rfl) (by kernel_rfl) (by kernel_rfl) (by kernel_rfl) (fun _ _ _ h => h) (Or.inl ⟨by rfl, ?_⟩) ⟨VYb.out.c0, VYb.out.c1, VYb.out.c2, VYb.out.c3, CA.out.c0, CA.out.c1, CA.out.c2, CA.out.c3, CB.out.c0, CB.out.c1, CB.out.c2, CB.out.c3, VXb.out.c0, VXb.out.c1, VXb.out.c2, VXb.out.c3⟩ ?_
                  · intro w hSw
                    obtain ⟨s0, s1, s2, s3, s4, s5, s6, s7, s8, s9, s10, s11, s12, s13, s14, s15⟩ := hSw
                    go_simp
                  try simp only [Act.put]
                  refine wpAnyC_take8 (i := 7) (oi := _) (v := I i) rfl (by kernel_rfl) (by kernel_rfl) (by kernel_rfl) (by kernel_rfl) (by kernel_rfl) (by kernel_rfl) (fun _ _ _ h => h) (Or.inl ⟨by rfl, ?_⟩) ⟨VYb.out.c0, VYb.out.c1, VYb.out.c2, VYb.out.c3, CA.out.c0, CA.out.c1, CA.out.c2, CA.out.c3, CB.out.c0, CB.out.c1, CB.out.c2, CB.out.c3, VXb.out.c0, VXb.out.c1, VXb.out.c2, VXb.out.c3⟩ ?_
                  · intro w hSw
                    obtain ⟨s0, s1, s2, s3, s4, s5, s6, s7, s8, s9, s10, s11, s12, s13, s14, s15⟩ := hSw
                    go_simp
                  try simp only [Act.put]
                  refine wpAnyC_take8 (i := 8) (oi := _) (v := .pointer (some ⟨b, o + i * 4, none⟩)) rfl (by kernel_rfl) (by kernel_rfl) (by kernel_rfl) (by kernel_rfl) (by kernel_rfl) (by kernel_rfl) (fun _ _ _ h => h) (Or.inl ⟨by rfl, ?_⟩) ⟨VYb.out.c0, VYb.out.c1, VYb.out.c2, VYb.out.c3, CA.out.c0, CA.out.c1, CA.out.c2, CA.out.c3, CB.out.c0, CB.out.c1, CB.out.c2, CB.out.c3, VXb.out.c0, VXb.out.c1, VXb.out.c2, VXb.out.c3⟩ ?_
                  · intro w hSw
                    obtain ⟨s0, s1, s2, s3, s4, s5, s6, s7, s8, s9, s10, s11, s12, s13, s14, s15⟩ := hSw
                    go_simp
                  try simp only [Act.put]
                  refine wpAnyC_take8 (i := 9) (oi := _) (v := .agg #[.bool kb, .slice K1 k1 j1, .bool false, .slice K2 k2 j2]) rfl (by kernel_rfl) (by kernel_rfl) (by kernel_rfl) (by kernel_rfl) (by kernel_rfl) (by kernel_rfl) (fun _ _ _ h => h) (Or.inl ⟨by rfl, ?_⟩) ⟨VYb.out.c0, VYb.out.c1, VYb.out.c2, VYb.out.c3, CA.out.c0, CA.out.c1, CA.out.c2, CA.out.c3, CB.out.c0, CB.out.c1, CB.out.c2, CB.out.c3, VXb.out.c0, VXb.out.c1, VXb.out.c2, VXb.out.c3⟩ ?_
                  · intro w hSw
                    obtain ⟨s0, s1, s2, s3, s4, s5, s6, s7, s8, s9, s10, s11, s12, s13, s14, s15⟩ := hSw
                    go_simp
                  try simp only [Act.put]
                  refine wpAnyC_take8 (i := 11) (oi := _) (v := .agg #[.bool xb, .slice x1 x2 x3, .bool false, .slice x4 x5 x6]) rfl (by kernel_rfl) (by kernel_rfl) (by kernel_rfl) (by kernel_rfl) (by kernel_rfl) (by kernel_rfl) (fun _ _ _ h => h) (Or.inl ⟨by rfl, ?_⟩) ⟨VYb.out.c0, VYb.out.c1, VYb.out.c2, VYb.out.c3, CA.out.c0, CA.out.c1, CA.out.c2, CA.out.c3, CB.out.c0, CB.out.c1, CB.out.c2, CB.out.c3, VXb.out.c0, VXb.out.c1, VXb.out.c2, VXb.out.c3⟩ ?_
                  · intro w hSw
                    obtain ⟨s0, s1, s2, s3, s4, s5, s6, s7, s8, s9, s10, s11, s12, s13, s14, s15⟩ := hSw
                    go_simp
                  try simp only [Act.put]
                  refine wpAnyC_one (i := 10) (by kernel_rfl) rfl (fun K hK => ?_)
                  go_simp
                  go_at_call 62
                  refine (thru_any _ _ _ (rval (SL r)) pa p _ HYb.out RA.out RB.out (N := 210) (by decide) HFY.out FPA.out FPP.out).mono ?_
                  rintro e w14 ⟨v14, rfl, hv, hb⟩
                  replace VXb := Lib.hid (VXb.out.below hb)
                  replace HXb := Lib.hid (HXb.out.ext hb)
                  replace CB := Lib.hid (CB.out.below hb)
                  replace RB := Lib.hid (RB.out.ext hb)
                  replace HB8 := Lib.hid (HB8.out.trans (hb.mono HB8.out.size))
                  replace CA := Lib.hid (CA.out.below hb)
                  replace RA := Lib.hid (RA.out.ext hb)
                  replace VYb := Lib.hid (VYb.out.below hb)
                  replace HYb := Lib.hid (HYb.out.ext hb)
                  replace HBT := Lib.hid (HBT.out.trans (hb.mono HBT.out.size))
                  clear hb
                  refine hK.out _ _ (fun _ => ⟨VYb.out.c0, VYb.out.c1, VYb.out.c2, VYb.out.c3, CA.out.c0, CA.out.c1, CA.out.c2, CA.out.c3, CB.out.c0, CB.out.c1, CB.out.c2, CB.out.c3, VXb.out.c0, VXb.out.c1, VXb.out.c2, VXb.out.c3⟩) ?_
                  clear hK K
                  try simp only [Act.put, List.setIfInBounds_toArray, List.set_cons_zero, List.set_cons_succ]
                  have HPV := Lib.hid (hv)
                  clear hv
                  refine wpAnyC_one (i := 12) (by kernel_rfl) rfl (fun K hK => ?_)
                  go_simp
                  go_at_call 60
                  refine (pcAt_any _ _ (thru (rval (SL r)) pa p) (rval (SL f)) _ HPV.out HXb.out (N := 1000) (by decide) (thru_fit HFY.out FPA.out FPP.out).1 (thru_fit HFY.out FPA.out FPP.out).2 (HFX.out.mono (by omega))).mono ?_
                  rintro e w15 ⟨v15, rfl, hv, hb⟩
                  replace VXb := Lib.hid (VXb.out.below hb)
                  replace HXb := Lib.hid (HXb.out.ext hb)
                  replace CB := Lib.hid (CB.out.below hb)
                  replace RB := Lib.hid (RB.out.ext hb)
                  replace HB8 := Lib.hid (HB8.out.trans (hb.mono HB8.out.size))
                  replace CA := Lib.hid (CA.out.below hb)
                  replace RA := Lib.hid (RA.out.ext hb)
                  replace VYb := Lib.hid (VYb.out.below hb)
                  replace HYb := Lib.hid (HYb.out.ext hb)
                  replace HBT := Lib.hid (HBT.out.trans (hb.mono HBT.out.size))
                  replace HPV := Lib.hid (HPV.out.ext hb)
                  clear hb
                  refine hK.out _ _ (fun _ => ⟨VYb.out.c0, VYb.out.c1, VYb.out.c2, VYb.out.c3, CA.out.c0, CA.out.c1, CA.out.c2, CA.out.c3, CB.out.c0, CB.out.c1, CB.out.c2, CB.out.c3, VXb.out.c0, VXb.out.c1, VXb.out.c2, VXb.out.c3⟩) ?_
                  clear hK K
                  try simp only [Act.put, List.setIfInBounds_toArray, List.set_cons_zero, List.set_cons_succ]
                  have HQV := Lib.hid (hv)
                  clear hv
                  refine wpAnyC_one (i := 13) (by kernel_rfl) rfl (fun K hK => ?_)
                  go_simp
                  go_at_call 61
                  refine (lossText_eq _ _ HH.out HQV.out (tab_below HTB.out HBT.out)).mono ?_
                  rintro e w16 ⟨rfl, hb⟩
                  replace VXb := Lib.hid (VXb.out.below hb)
                  replace HXb := Lib.hid (HXb.out.ext hb)
                  replace CB := Lib.hid (CB.out.below hb)
                  replace RB := Lib.hid (RB.out.ext hb)
                  replace HB8 := Lib.hid (HB8.out.trans (hb.mono HB8.out.size))
                  replace CA := Lib.hid (CA.out.below hb)
                  replace RA := Lib.hid (RA.out.ext hb)
                  replace VYb := Lib.hid (VYb.out.below hb)
                  replace HYb := Lib.hid (HYb.out.ext hb)
                  replace HBT := Lib.hid (HBT.out.trans (hb.mono HBT.out.size))
                  replace HPV := Lib.hid (HPV.out.ext hb)
                  replace HQV := Lib.hid (HQV.out.ext hb)
                  clear hb
                  refine hK.out _ _ (fun _ => ⟨VYb.out.c0, VYb.out.c1, VYb.out.c2, VYb.out.c3, CA.out.c0, CA.out.c1, CA.out.c2, CA.out.c3, CB.out.c0, CB.out.c1, CB.out.c2, CB.out.c3, VXb.out.c0, VXb.out.c1, VXb.out.c2, VXb.out.c3⟩) ?_
                  clear hK K
                  try simp only [Act.put, List.setIfInBounds_toArray, List.set_cons_zero, List.set_cons_succ]
                  refine wpAnyC_take8 (i := 14) (oi := _) (v := .tuple #[.string ⟨h1.toArray⟩, I h2]) rfl (by kernel_rfl) (by kernel_rfl) (by kernel_rfl) (by kernel_rfl) (by kernel_rfl) (by kernel_rfl) (fun _ _ _ h => h) (Or.inl ⟨by rfl, ?_⟩) ⟨VYb.out.c0, VYb.out.c1, VYb.out.c2, VYb.out.c3, CA.out.c0, CA.out.c1, CA.out.c2, CA.out.c3, CB.out.c0, CB.out.c1, CB.out.c2, CB.out.c3, VXb.out.c0, VXb.out.c1, VXb.out.c2, VXb.out.c3⟩ ?_
                  · intro w hSw
                    obtain ⟨s0, s1, s2, s3, s4, s5, s6, s7, s8, s9, s10, s11, s12, s13, s14, s15⟩ := hSw
                    go_simp
                  try simp only [Act.put, List.setIfInBounds_toArray]
                  refine wpAnyC_take8 (i := 15) (oi := _) (v := .string ⟨h1.toArray⟩) rfl (by kernel_rfl) (by kernel_rfl) (by kernel_rfl) (by kernel_rfl) (by kernel_rfl) (by kernel_rfl) (fun _ _ _ h => h) (Or.inl ⟨by rfl, ?_⟩) ⟨VYb.out.c0, VYb.out.c1, VYb.out.c2, VYb.out.c3, CA.out.c0, CA.out.c1, CA.out.c2, CA.out.c3, CB.out.c0, CB.out.c1, CB.out.c2, CB.out.c3, VXb.out.c0, VXb.out.c1, VXb.out.c2, VXb.out.c3⟩ ?_
                  · intro w hSw
                    obtain ⟨s0, s1, s2, s3, s4, s5, s6, s7, s8, s9, s10, s11, s12, s13, s14, s15⟩ := hSw
                    go_simp
                  try simp only [Act.put]
                  refine wpAnyC_take8 (i := 16) (oi := _) (v := I h2) rfl (by kernel_rfl) (by kernel_rfl) (by kernel_rfl) (by kernel_rfl) (by kernel_rfl) (by kernel_rfl) (fun _ _ _ h => h) (Or.inl ⟨by rfl, ?_⟩) ⟨VYb.out.c0, VYb.out.c1, VYb.out.c2, VYb.out.c3, CA.out.c0, CA.out.c1, CA.out.c2, CA.out.c3, CB.out.c0, CB.out.c1, CB.out.c2, CB.out.c3, VXb.out.c0, VXb.out.c1, VXb.out.c2, VXb.out.c3⟩ ?_
                  · intro w hSw
                    obtain ⟨s0, s1, s2, s3, s4, s5, s6, s7, s8, s9, s10, s11, s12, s13, s14, s15⟩ := hSw
                    go_simp
                  try simp only [Act.put]
                  refine wpAnyC_one (i := 17) (by kernel_rfl) rfl (fun K hK => ?_)
                  go_simp
                  refine hK.out _ _ (fun _ => ⟨VYb.out.c0, VYb.out.c1, VYb.out.c2, VYb.out.c3, CA.out.c0, CA.out.c1, CA.out.c2, CA.out.c3, CB.out.c0, CB.out.c1, CB.out.c2, CB.out.c3, VXb.out.c0, VXb.out.c1, VXb.out.c2, VXb.out.c3⟩) ?_
                  clear hK K
                  try simp only [Act.put, List.setIfInBounds_toArray, List.set_cons_zero, List.set_cons_succ]
                  refine wpAnyC_one (i := 18) (by kernel_rfl) rfl (fun K hK => ?_)
                  go_simp
                  refine hK.out _ _ (fun h => absurd h (by decide)) ?_
                  clear hK K
                  try simp only [Act.put, List.setIfInBounds_toArray, List.set_cons_zero, List.set_cons_succ]
                  refine wpAnyC_done (by kernel_rfl) ?_ _
                  have HBE := Lib.hid HBT.out
                  clear VXb HXb CB RB HB8 CA RA VYb HYb HBT HPV HQV
                  clear hwi hti hi0 hi2 hi3 hi4 hi5
                  by_cases ea : a2 = 0
                  · subst ea
                    by_cases eh : h2 = 0
                    · subst eh
                      have HQ := Lib.hid (RetB.mk (HRES.out.trans (HTW.out.1 rfl rfl)) HBE.out)
                      clear HTW HH HA
                      go_wp2
                      go_ret3
                      exact HQ.out
                    · have HQ := Lib.hid (RetB.mk (HRES.out.trans (HTW.out.2 (.inr eh))) HBE.out)
                      have te : (h2 != 0) = true := bne_iff_ne.2 eh
                      clear HTW HH HA eh
                      go_wp2
                      go_ret3
                      exact HQ.out
                  · have HQ := Lib.hid (RetB.mk (HRES.out.trans (HTW.out.2 (.inl ea))) HBE.out)
                    have te : (a2 != 0) = true := bne_iff_ne.2 ea
                    clear HTW HH HA ea
                    go_wp2
                    go_ret3
                    exact HQ.out
    · have HRES := Lib.hid (show boundsT (SL r) (tx1 l) (SL f) = ([], [], rchk (SL f)) by rw [boundsT, if_neg (fun k => k H0.out), if_pos h1])
      have hne : (rchk (SL f) != 0) = true := bne_iff_ne.2 h1
      generalize rchk (SL f) = ce at *
      clear h1
      go_wp2_with fail
      refine HC.out.mono ?_
      rintro e w2 ⟨rfl, hb⟩
      clear HC
      replace HB := Lib.hid (HB.out.trans (hb.mono HB.out.size))
      clear hb
      have HQ := Lib.hid (RetB.mk HRES.out HB.out)
      go_wp2
      go_ret3
      exact HQ.out
  · have HRES := Lib.hid (show boundsT (SL r) (tx1 l) (SL f) = ([], [], lchk (SL r) (tx1 l)) by rw [boundsT, if_pos h0])
    have hne : (lchk (SL r) (tx1 l) != 0) = true := bne_iff_ne.2 h0
    generalize lchk (SL r) (tx1 l) = ce at *
    clear h0
    go_enter Tryz.func15, Tryz.ntmps15
    go_wp2_with fail
    refine HC.out.mono ?_
    rintro e w1 ⟨rfl, hb⟩
    have HB := Lib.hid hb
    clear hb HC
    have HQ := Lib.hid (RetB.mk HRES.out HB.out)
    go_wp2
    go_ret3
    exact HQ.out
end Go.Proofs.YtmnedfkinepnfaaGreatDoor
