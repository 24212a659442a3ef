/- rating.Step. -/
import Derived.Test.YtfigffaghaaaoaaGreatDoorRX2
import Derived.Test.YtfigffaghaaaoaaGreatDoorRV
namespace Go.Proofs.YtfigffaghaaaoaaGreatDoor
open Go.RowKit

theorem blk_ne {w : World} {a b : Nat} {t u : TypeId} {cs ds : Array Value} (h : Blk w a t cs) (k : Blk w b u ds) (ht : t ≠ u) : a ≠ b := by
  rintro rfl
  unfold Blk at h k
  rw [h] at k
  injection k with k
  injection k with _ k
  exact ht k
theorem noWord_I (n : Int) : noWord (I n) := fun m e => by cases e
theorem set_self {α : Type} {l : List α} {i : Nat} {x : α} (h : l[i]? = some x) : l.set i x = l := by
  apply List.ext_getElem?
  intro j
  rw [List.getElem?_set]
  by_cases e : i = j
  · subst e
    have hl := (List.getElem?_eq_some_iff.1 h).1
    rw [if_pos rfl, if_pos hl, h]
  · rw [if_neg e]
/-- what a step may change -/
structure Chg (p : Wat) (w w' : World) : Prop where
  kw : Kw w w'
  oth : ∀ b, b < w.heap.size → b ≠ p.g → b ≠ p.ab → b ≠ p.ob → (∀ o, p.fA ≠ some ⟨b, o, none⟩) → w'.heap[b]? = w.heap[b]?
theorem Chg.refl (p : Wat) (w : World) : Chg p w w := ⟨Kw.refl w, fun _ _ _ _ _ _ => rfl⟩
theorem Chg.step {p : Wat} {w wr w' : World} (h : Chg p w wr) (k : Chg p wr w') : Chg p w w' :=
  ⟨h.kw.trans k.kw, fun b hb h1 h2 h3 h4 => (k.oth b (Nat.lt_of_lt_of_le hb h.kw.size) h1 h2 h3 h4).trans (h.oth b hb h1 h2 h3 h4)⟩
theorem Chg.below {p : Wat} {w wr w' : World} (h : Chg p w wr) (hb : Below wr.heap.size wr w') : Chg p w w' := h.step ⟨kw_below hb, fun b hb' _ _ _ _ => hb.block b hb'⟩
section
variable {w : World} {base : Nat} {p : Wat} {bs : List BranchD} {st : List RtB} {t : Int}
theorem RRow.far_t {v : Value} {qs : List Rat} (h : RRow w base v qs) {g o : Nat} {t : TypeId} {cs : Array Value} (hB : Blk w g t cs) (h2 : ratT ≠ t) {old : Value} (hc : w.cell? ⟨g, o, none⟩ = some old) (hk : noWord old) (u : Value) : RRow (w.setCell ⟨g, o, none⟩ u) base v qs := by
  obtain ⟨⟨ys, hrow, _⟩, _⟩ := id h
  exact h.keep (kw_set hc hk u) fun b hb => Below.heap_setCell w _ u b (own_ne hrow hB h2 b hb)
theorem Row.far_t {sz n : Nat} {e : TypeId} {v : Value} {xs : List Value} (h : Row w base e sz v n xs) {g o : Nat} {t : TypeId} {cs : Array Value} (hB : Blk w g t cs) (h2 : e ≠ t) (u : Value) : Row (w.setCell ⟨g, o, none⟩ u) base e sz v n xs :=
  h.keepO fun b hb => Below.heap_setCell w _ u b (own_ne h hB h2 b hb)
theorem chg_set {g o : Nat} {old : Value} (hg : g = p.g ∨ g = p.ab ∨ g = p.ob) (hc : w.cell? ⟨g, o, none⟩ = some old) (hk : noWord old) (u : Value) : Chg p w (w.setCell ⟨g, o, none⟩ u) :=
  ⟨kw_set hc hk u, fun b _ h1 h2 h3 _ => Below.heap_setCell w _ u b (by rcases hg with rfl | rfl | rfl <;> assumption)⟩
theorem WS.time (h : WS w base p bs st t) (t' : Int) : WS (w.setCell ⟨p.g, 4, none⟩ (I t')) base p bs st t' ∧ Chg p w (w.setCell ⟨p.g, 4, none⟩ (I t')) :=
  ⟨⟨h.len, h.blk.set_ 4 (I t'), h.ge, fun k => (h.br k).far_t h.blk (by decide) _, h.fl.far_t h.blk (by decide) h.c4 (noWord_I _) _, h.ab.far (p := ⟨p.g, 4, none⟩) (blk_ne h.ab h.blk (by decide)) _, h.abg, h.ob.far (p := ⟨p.g, 4, none⟩) (blk_ne h.ob h.blk (by decide)) _, h.obg⟩, chg_set (.inl rfl) h.c4 (noWord_I _) _⟩
theorem WS.putA (h : WS w base p bs st t) {i : Nat} {x : RtB} (hi : st[i]? = some x) (a : Int) : WS (w.setCell ⟨p.ab, i, none⟩ (I a)) base p bs (st.set i ⟨x.f, a, x.o⟩) t ∧ Chg p w (w.setCell ⟨p.ab, i, none⟩ (I a)) := by
  have hl := (List.getElem?_eq_some_iff.1 hi).1
  have hc : w.cell? ⟨p.ab, i, none⟩ = some (I x.a) := by rw [h.abv (by rw [← h.len]; exact hl), getD_of hi]
  refine ⟨⟨by rw [List.length_set, h.len], h.blk.far (p := ⟨p.ab, i, none⟩) (blk_ne h.blk h.ab (by decide)) _, h.ge, fun k => (h.br k).far_t h.ab (by decide) _, ?_, ?_, h.abg, ?_, h.obg⟩, chg_set (.inr (.inl rfl)) hc (noWord_I _) _⟩
  · rw [List.map_set, set_self (by rw [List.getElem?_map, hi]; rfl)]
    exact h.fl.far_t h.ab (by decide) hc (noWord_I _) _
  · have := h.ab.set_ i (I a)
    rw [List.setIfInBounds_toArray] at this
    rw [List.map_set]
    exact this
  · rw [List.map_set, set_self (by rw [List.getElem?_map, hi]; rfl)]
    exact h.ob.far (p := ⟨p.ab, i, none⟩) (blk_ne h.ob h.ab (by decide)) _
theorem WS.putO (h : WS w base p bs st t) {i : Nat} {x : RtB} (hi : st[i]? = some x) (b : Bool) : WS (w.setCell ⟨p.ob, i, none⟩ (.bool b)) base p bs (st.set i ⟨x.f, x.a, b⟩) t ∧ Chg p w (w.setCell ⟨p.ob, i, none⟩ (.bool b)) := by
  have hl := (List.getElem?_eq_some_iff.1 hi).1
  have hc : w.cell? ⟨p.ob, i, none⟩ = some (.bool x.o) := by rw [h.obv (by rw [← h.len]; exact hl), getD_of hi]
  refine ⟨⟨by rw [List.length_set, h.len], h.blk.far (p := ⟨p.ob, i, none⟩) (blk_ne h.blk h.ob (by decide)) _, h.ge, fun k => (h.br k).far_t h.ob (by decide) _, ?_, ?_, h.abg, ?_, h.obg⟩, chg_set (.inr (.inr rfl)) hc (noWord_bool _) _⟩
  · rw [List.map_set, set_self (by rw [List.getElem?_map, hi]; rfl)]
    exact h.fl.far_t h.ob (by decide) hc (noWord_bool _) _
  · rw [List.map_set, set_self (by rw [List.getElem?_map, hi]; rfl)]
    exact h.ab.far (p := ⟨p.ob, i, none⟩) (blk_ne h.ab h.ob (by decide)) _
  · have := h.ob.set_ i (.bool b)
    rw [List.setIfInBounds_toArray] at this
    rw [List.map_set]
    exact this
theorem WS.putF (h : WS w base p bs st t) {i b o : Nat} {x : RtB} (hi : st[i]? = some x) (hA : p.fA = some ⟨b, o, none⟩) {u0 u1 u2 u3 : Value} {r : Rat} (hr : Rt w (.agg #[u0, u1, u2, u3]) r) : WS (put4 w b (o + i * 4) u0 u1 u2 u3) base p bs (st.set i ⟨r, x.a, x.o⟩) t ∧ Chg p w (put4 w b (o + i * 4) u0 u1 u2 u3) := by
  have hl := (List.getElem?_eq_some_iff.1 hi).1
  have hfl := h.fl
  rw [hA] at hfl
  obtain ⟨hput, hkw, _⟩ := hfl.putEl (k := i) (by rw [← h.len]; exact hl) hr
  obtain ⟨cur, hB⟩ := hfl.blk (g := b) rfl
  refine ⟨⟨by rw [List.length_set, h.len], ?_, h.ge, fun k => (h.br k).keepO fun g hg => put4_other w _ _ _ _ _ (own_ne (h.br k) hB (by decide) g hg), ?_, ?_, h.abg, ?_, h.obg⟩, hkw, fun g _ _ _ _ h4 => put4_other w _ _ _ _ _ fun e => h4 o (by rw [hA, e])⟩
  · exact (put4_other w _ _ _ _ _ (blk_ne h.blk hB (by decide))).trans h.blk
  · rw [hA, List.map_set]; exact hput
  · rw [List.map_set, set_self (by rw [List.getElem?_map, hi]; rfl)]
    exact (put4_other w _ _ _ _ _ (blk_ne h.ab hB (by decide))).trans h.ab
  · rw [List.map_set, set_self (by rw [List.getElem?_map, hi]; rfl)]
    exact (put4_other w _ _ _ _ _ (blk_ne h.ob hB (by decide))).trans h.ob
end
/-- a slice that is not part of a watch -/
def Off (p : Wat) (n : Nat) (A : Option Addr) : Prop := 0 < n → ∀ b o, A = some ⟨b, o, none⟩ → b ≠ p.g ∧ b ≠ p.ab ∧ b ≠ p.ob ∧ ∀ o', p.fA ≠ some ⟨b, o', none⟩
theorem Chg.sv {p : Wat} {w w' : World} {A : Option Addr} {n sz : Nat} {xs : List Value} (h : Chg p w w') (hA : Off p n A) (hr : Reads w w.heap.size sz A n xs) : Reads w' w'.heap.size sz A n xs :=
  ⟨hr.1, fun hn => by
    obtain ⟨b, off, e, hb, hc⟩ := hr.2 hn
    obtain ⟨k1, k2, k3, k4⟩ := hA hn b off e
    have hk := h.oth b hb k1 k2 k3 k4
    refine ⟨b, off, e, Nat.lt_of_lt_of_le hb h.kw.size, fun j u hu => ?_⟩
    have := hc j u hu
    simp only [World.cell?] at this ⊢
    rw [hk]
    exact this⟩
/-- the states, i branches being done -/
def mixS (bs : List BranchD) (qs : List Rat) (s : Int) (st : List RtB) (i : Nat) : List RtB := (stepL bs qs s st).take i ++ st.drop i
theorem stepL_at : ∀ (bs : List BranchD) (qs : List Rat) (s : Int) (st : List RtB) (i : Nat) (b : BranchD) (q : Rat) (x : RtB), bs[i]? = some b → qs[i]? = some q → st[i]? = some x → (stepL bs qs s st)[i]? = some (rtStep b q s x)
  | [], _, _, _, _, _, _, _, h, _, _ => by simp at h
  | _ :: _, [], _, _, _, _, _, _, _, h, _ => by simp at h
  | _ :: _, _ :: _, _, [], _, _, _, _, _, _, h => by simp at h
  | b :: bs, q :: qs, s, x :: st, 0, b', q', x', h1, h2, h3 => by
    simp at h1 h2 h3; subst h1 h2 h3
    simp [stepL]
  | b :: bs, q :: qs, s, x :: st, i + 1, b', q', x', h1, h2, h3 => by
    rw [stepL, List.getElem?_cons_succ]
    exact stepL_at bs qs s st i b' q' x' (by simpa using h1) (by simpa using h2) (by simpa using h3)
theorem mixS_at {bs : List BranchD} {qs : List Rat} {s : Int} {st : List RtB} {i : Nat} {b : BranchD} {q : Rat} {x : RtB} (h1 : bs[i]? = some b) (h2 : qs[i]? = some q) (h3 : st[i]? = some x) : (mixS bs qs s st i)[i]? = some x ∧ mixS bs qs s st (i + 1) = (mixS bs qs s st i).set i (rtStep b q s x) := by
  have h4 := stepL_at bs qs s st i b q x h1 h2 h3
  have l4 := (List.getElem?_eq_some_iff.1 h4).1
  have l3 := (List.getElem?_eq_some_iff.1 h3).1
  have hl : ((stepL bs qs s st).take i).length = i := by rw [List.length_take]; omega
  unfold mixS
  have hd : st.drop i = x :: st.drop (i + 1) := by
    rw [List.drop_eq_getElem_cons l3]
    congr 1
    rw [List.getElem?_eq_getElem l3] at h3
    exact Option.some.inj h3
  refine ⟨by rw [hd, List.getElem?_append_right (by omega), hl]; simp, ?_⟩
  rw [hd, List.set_append_right i _ (by omega), hl, Nat.sub_self, List.set_cons_zero, List.take_add_one, h4]
  simp
theorem mixS_all {bs : List BranchD} {qs : List Rat} {s : Int} {st : List RtB} (h1 : qs.length = bs.length) (h2 : st.length = bs.length) : mixS bs qs s st bs.length = stepL bs qs s st := by
  unfold mixS
  rw [List.take_of_length_le (by rw [stepL_len bs qs s st h1 h2]; exact Nat.le_refl _), List.drop_of_length_le (by omega), List.append_nil]
/-- the error of a step -/
def stepE (n : Nat) (l : List (List UInt8)) (s t : Int) : Int := if chkV l ≠ 0 then chkV l else if l.length ≠ n then 3 else if s < 1 ∨ 200000 - t < s then 12 else 0
def RetStep (w : World) (base : Nat) (p : Wat) (bs : List BranchD) (st : List RtB) (t : Int) (l : List (List UInt8)) (s : Int) (e : Ending) (w' : World) : Prop :=
  (stepE bs.length l s t ≠ 0 → ∃ v, e = .returned (.tuple #[.slice none 0 0, I (stepE bs.length l s t)]) ∧ v = () ∧ WS w' base p bs st t ∧ Below w.heap.size w w') ∧
  (stepE bs.length l s t = 0 → ∃ A c, e = .returned (.tuple #[.slice A (overL bs (stepL bs (valsV l) s st)).length c, I 0]) ∧ Row w' w.heap.size 9 1 (.slice A (overL bs (stepL bs (valsV l) s st)).length c) (overL bs (stepL bs (valsV l) s st)).length ((overL bs (stepL bs (valsV l) s st)).map S) ∧ WS w' base p bs (stepL bs (valsV l) s st) (t + s)) ∧
  Chg p w w' ∧ Below base w w'
theorem step_err {w w' : World} {base : Nat} {p : Wat} {bs : List BranchD} {st : List RtB} {t : Int} {l : List (List UInt8)} {s c : Int} (h : stepE bs.length l s t = c) (hc : c ≠ 0) (hW : WS w base p bs st t) (hb : Below w.heap.size w w') : RetStep w base p bs st t l s (.returned (.tuple #[.slice none 0 0, I c])) w' :=
  ⟨fun _ => ⟨(), by rw [h], rfl, hW.call hb, hb⟩, fun k => absurd (h.symm.trans k) hc, (Chg.refl p w).below hb, hb.mono (Nat.le_trans hW.ge (Nat.le_of_lt hW.blk.lt))⟩
theorem abs_fit {q : Rat} (h : FitR 210 q) : FitR 210 (absQ q) := by
  rw [absQ]
  split
  · exact ⟨by have := h.1; unfold Fits at *; rw [Rat.neg_num, Int.natAbs_neg]; exact this, by have := h.2; unfold Fits at *; rw [Rat.neg_den]; exact this⟩
  · exact h
theorem blk_far4 {w : World} {a b : Nat} {t : TypeId} {cs : Array Value} (h : Blk w a t cs) (hne : a ≠ b) (o : Nat) (u0 u1 u2 u3 : Value) : Blk (put4 w b o u0 u1 u2 u3) a t cs := (put4_other w _ _ _ _ _ hne).trans h
theorem set_get {l : List RtB} {i : Nat} {x : RtB} (h : l[i]? = some x) (y : RtB) : (l.set i y)[i]? = some y := by
  rw [List.getElem?_set, if_pos rfl, if_pos (List.getElem?_eq_some_iff.1 h).1]
theorem rt_over {nm sr ds : ByteArray} {bx ta sh li so ho : Int} {q : Rat} {s : Int} {x : RtB} (h : gtI (absQ q) li = true) (k : x.a + s > ho ∨ gtI (absQ q) so = true) : rtStep ⟨nm, sr, ds, bx, ta, sh, li, so, ho⟩ q s x = ⟨absQ q, x.a + s, true⟩ := by
  rw [rtStep, if_pos h]
  rcases k with k | k
  · simp [k]
  · simp [k]
theorem rt_keep {nm sr ds : ByteArray} {bx ta sh li so ho : Int} {q : Rat} {s : Int} {x : RtB} (h : gtI (absQ q) li = true) (k : ¬ x.a + s > ho) (k2 : gtI (absQ q) so = false) : rtStep ⟨nm, sr, ds, bx, ta, sh, li, so, ho⟩ q s x = ⟨absQ q, x.a + s, x.o⟩ := by
  rw [rtStep, if_pos h, k2]
  have : ¬ ho < x.a + s := k
  simp [this]
theorem rt_low {nm sr ds : ByteArray} {bx ta sh li so ho : Int} {q : Rat} {s : Int} {x : RtB} (h : gtI (absQ q) li = false) : rtStep ⟨nm, sr, ds, bx, ta, sh, li, so, ho⟩ q s x = ⟨absQ q, 0, false⟩ := by
  rw [rtStep, if_neg (by rw [h]; decide)]
set_option maxRecDepth 100000 in
set_option maxHeartbeats 16000000 in
theorem rstep_any (p : Wat) (bs : List BranchD) (st : List RtB) (t : Int) (base : Nat) (w : World) (h : WS w base p bs st t) (hbn : bs.length ≤ 24) (hok : StOk bs st) (ht0 : 0 ≤ t) (ht1 : t ≤ 200000) (l : List ByteArray) (n : Nat) (A : Option Addr) (c : Nat) (hv : SV w A n l) (hsb : Sh1 l) (hoff : Off p n A) (htab : Tab w) (s : Int) (hsr : -9000000000000000000 ≤ s ∧ s ≤ 9000000000000000000) :
    Calls Tryz.prog 9 #[.pointer (some ⟨p.g, 0, none⟩), .slice A n c, I s] w (RetStep w base p bs st t (tx1 l) s) := by
  obtain ⟨g, bA, bc, fA, fc, ab, ob⟩ := p
  have H := Lib.hid h
  have HLN := Lib.hid h.len
  have HOK := Lib.hid hok
  have HOF := Lib.hid hoff
  have HV := Lib.hid hv
  have HSB := Lib.hid hsb
  have HC := Lib.hid (chkV_any l n A c w hv hsb htab)
  have LT := Lib.hid (show (tx1 l).length = n by rw [tx1, List.length_map]; exact hv.len)
  have c0 := h.c0
  have c4 := h.c4
  simp only at c0 c4 ⊢
  have hng : g < w.heap.size := H.out.blk.lt
  clear h hok hoff hv hsb htab
  by_cases e : chkV (tx1 l) = 0
  · have HV1 := Lib.hid (val1_of e)
    have HFT := Lib.hid (fit1_of e)
    have HCV := Lib.hid e
    rw [e] at HC
    clear e
    by_cases hnl : n = bs.length
    · by_cases ht : s < 1 ∨ 200000 - t < s
      · have HE := Lib.hid (show stepE bs.length (tx1 l) s t = 12 by rw [stepE, if_neg (fun k => k HCV.out), if_neg (by rw [LT.out]; exact fun k => k hnl), if_pos ht])
        subst hnl
        have tn : ((bs.length : Int) != bs.length) = false := bne_self_eq_false _
        by_cases h1 : s < 1
        · have h1d : decide (s < 1) = true := decide_eq_true h1
          go_enter Tryz.func9, Tryz.ntmps9
          go_wp2_with fail
          refine HC.out.mono ?_
          rintro e w1 ⟨rfl, hb⟩
          clear HC
          replace c0 := cell_below c0 hb
          replace c4 := cell_below c4 hb
          have HB := Lib.hid hb
          clear hb
          go_wp2
          go_ret2
          exact step_err HE.out (by decide) H.out HB.out
        · have h1d : decide (s < 1) = false := decide_eq_false h1
          have h2 : 200000 - t < s := ht.resolve_left h1
          have h2d : decide (s > 200000 - t) = true := decide_eq_true h2
          go_enter Tryz.func9, Tryz.ntmps9
          go_wp2_with fail
          refine HC.out.mono ?_
          rintro e w1 ⟨rfl, hb⟩
          clear HC
          replace c0 := cell_below c0 hb
          replace c4 := cell_below c4 hb
          have HB := Lib.hid hb
          clear hb
          go_wp2
          go_ret2
          exact step_err HE.out (by decide) H.out HB.out
      · have HE := Lib.hid (show stepE bs.length (tx1 l) s t = 0 by rw [stepE, if_neg (fun k => k HCV.out), if_neg (by rw [LT.out]; exact fun k => k hnl), if_neg ht])
        have hs1 : 1 ≤ s := by omega
        have hs2 : s ≤ 200000 - t := by omega
        have h1d : decide (s < 1) = false := decide_eq_false (by omega)
        have h2d : decide (s > 200000 - t) = false := decide_eq_false (by omega)
        clear ht
        subst hnl
        have tn : ((bs.length : Int) != bs.length) = false := bne_self_eq_false _
        go_enter Tryz.func9, Tryz.ntmps9
        go_wp2_with fail
        refine HC.out.mono ?_
        rintro e w1 ⟨rfl, hb⟩
        clear HC
        replace c0 := cell_below c0 hb
        replace c4 := cell_below c4 hb
        have HBB := Lib.hid (hb.mono (Nat.le_trans H.out.ge (Nat.le_of_lt H.out.blk.lt)))
        have HCH := Lib.hid ((Chg.refl ⟨g, bA, bc, fA, fc, ab, ob⟩ w).below hb)
        have HW1 := Lib.hid (H.out.call hb)
        have HSZ := Lib.hid hb.size
        clear hb
        have y4 := HW1.out.blk.frozen 4
        simp only at y4
        go_upto_region 9 with (fail)
        obtain ⟨hw2, hc2⟩ := HW1.out.time (t + s)
        simp only at hw2 hc2
        clear y4 c4 c0 HW1
        have HBB2 := Lib.hid (HBB.out.setCell (p := ⟨g, 4, none⟩) H.out.ge (I (t + s)))
        have HCH2 := Lib.hid (HCH.out.step hc2)
        have c0 := hw2.c0
        simp only at c0
        have HW2 := Lib.hid (show WS (w1.setCell ⟨g, 4, none⟩ (I (t + s))) base ⟨g, bA, bc, fA, fc, ab, ob⟩ bs (mixS bs (valsV (tx1 l)) s st 0) (t + s) from by unfold mixS; exact hw2)
        clear hw2 hc2 HBB HCH
        generalize w1.setCell ⟨g, 4, none⟩ (I (t + s)) = w2 at *
        have HQL := Lib.hid (show (valsV (tx1 l)).length = bs.length by rw [valsV, List.length_map]; exact LT.out)
        go_wp2
        clear c0
        go_loopg [51] (bs.length - 0) (fun r v wr => ∃ k : Nat, r = bs.length - k ∧ v = I k ∧ k ≤ bs.length ∧ Hid (WS wr base ⟨g, bA, bc, fA, fc, ab, ob⟩ bs (mixS bs (valsV (tx1 l)) s st k) (t + s)) ∧ Hid (Chg ⟨g, bA, bc, fA, fc, ab, ob⟩ w wr) ∧ Hid (Below base w wr))
        case atStart => exact ⟨0, rfl, rfl, by omega, HW2, HCH2, HBB2⟩
        case round =>
          clear HW2 HCH2 HBB2
          obtain ⟨k, rfl, rfl, hk, HW, HCH, HBB⟩ := hrel
          obtain ⟨wa, rfl⟩ : ∃ wa : World, wa = wr := ⟨_, rfl⟩
          by_cases hlt : k < bs.length
          · obtain ⟨b, x, hb1, hx1⟩ := H.out.get hlt
            obtain ⟨sx, hsx⟩ : ∃ sx, l[k]? = some sx := ⟨_, List.getElem?_eq_getElem (by have := LT.out; rw [tx1, List.length_map] at this; omega)⟩
            have hqx : (valsV (tx1 l))[k]? = some (rval (SL sx)) := by rw [valsV, tx1, List.getElem?_map, List.getElem?_map, hsx]; rfl
            obtain ⟨hmx, hmn⟩ := mixS_at (s := s) hb1 hqx hx1
            have HMX := Lib.hid hmx
            have HMN := Lib.hid hmn
            obtain ⟨bb, off, e, hbl, u0, u1, u2, u3, u4, u5, u6, u7, u8⟩ := HW.out.br0 hb1
            simp only at e
            subst e
            obtain ⟨fb, fo, fn, F1, f1, k1, F2, f2, k2, e, hE, hfg, hfl, hrt⟩ := HW.out.flow hmx
            simp only at e
            subst e
            obtain ⟨p1, off1, uu, hA1, _, hu, hcf⟩ := (HCH.out.sv HOF.out HV.out).at1 hlt
            obtain rfl : uu = Sv sx := by rw [List.getElem?_map, hsx] at hu; simpa using hu.symm
            subst hA1
            have hlim := branch_lim (HOK.out.b b (List.mem_of_getElem? hb1))
            have hxa := HOK.out.a x (List.mem_of_getElem? hx1)
            have HSX := Lib.hid (HSB.out sx (List.mem_of_getElem? hsx))
            have HVX := Lib.hid (HV1.out sx (List.mem_of_getElem? hsx))
            have HVX := Lib.hid (rchk_val _ (HV1.out sx (List.mem_of_getElem? hsx)))
            have HFX := Lib.hid (abs_fit (HFT.out _ (List.mem_of_getElem? hqx)))
            clear hmx hmn hb1 hx1 hsx hqx hu hrt hE
            obtain ⟨nm, sr, ds, bx, ta, sh, li, so, ho⟩ := b
            simp only at u0 u1 u2 u3 u4 u5 u6 u7 u8 hlim
            obtain ⟨hl0, hl1, hs0, hs3, hh0, hh1⟩ := hlim
            obtain ⟨ha0, ha1⟩ := hxa
            go_upto_region 12 with (fail)
            clear u0 u1 u2 u3 u4 u5 u6 u7 u8
            have hz := below_new wa (Obj.cells #[.string nm, .string sr, .string ds, I bx, I ta, I sh, I li, I so, I ho] brT)
            have HBX := Lib.hid (Blk.new wa brT #[.string nm, .string sr, .string ds, I bx, I ta, I sh, I li, I so, I ho])
            have hs9 := World.size_alloc wa (Obj.cells #[.string nm, .string sr, .string ds, I bx, I ta, I sh, I li, I so, I ho] brT)
            unfold brT at *
            replace HW := Lib.hid (HW.out.call hz)
            replace HCH := Lib.hid (HCH.out.below hz)
            have hbw : base ≤ wa.heap.size := Nat.le_trans hfg (Nat.le_of_lt hfl)
            replace HBB := Lib.hid (HBB.out.trans (hz.mono hbw))
            replace hcf := cell_below hcf hz
            clear hz
            generalize wa.alloc (Obj.cells #[.string nm, .string sr, .string ds, I bx, I ta, I sh, I li, I so, I ho] 68) = W1 at *
            have hg1 : wa.heap.size < W1.heap.size := by omega
            clear hs9
            generalize hga : wa.heap.size = ga at *
            clear hga
            have HP := Lib.hid (parse_any sx W1 HSX.out HVX.out)
            go_wp2_with fail
            refine HP.out.mono ?_
            rintro e W2 ⟨v2, rfl, hv2, hb⟩
            clear HP hcf
            replace HCH := Lib.hid (HCH.out.below hb)
            have hbw2 := HW.out.ge
            replace HBB := Lib.hid (HBB.out.trans (hb.mono (Nat.le_trans hbw2 (Nat.le_of_lt HW.out.blk.lt))))
            clear hbw2
            replace HW := Lib.hid (HW.out.call hb)
            replace HBX := Lib.hid (HBX.out.below hb HBX.out.lt)
            clear hb
            have HP := Lib.hid (rabs_any _ _ W2 hv2)
            clear hv2
            go_wp2_with fail
            refine HP.out.mono ?_
            rintro e W3 ⟨v3, rfl, hv3, hb⟩
            clear HP
            replace HCH := Lib.hid (HCH.out.below hb)
            have hbw2 := HW.out.ge
            replace HBB := Lib.hid (HBB.out.trans (hb.mono (Nat.le_trans hbw2 (Nat.le_of_lt HW.out.blk.lt))))
            clear hbw2
            replace HW := Lib.hid (HW.out.call hb)
            replace HBX := Lib.hid (HBX.out.below hb HBX.out.lt)
            clear hb
            obtain ⟨tb, T1, t1, u1, T2, t2, u2, rfl⟩ := hv3.bools
            go_upto_region 13 with (fail)
            have hb := below_new W3 (Obj.cells #[.bool tb, .slice T1 t1 u1, .bool false, .slice T2 t2 u2] ratT)
            have HFB := Lib.hid (Blk.new W3 ratT #[.bool tb, .slice T1 t1 u1, .bool false, .slice T2 t2 u2])
            have HRF := Lib.hid (hv3.ext hb)
            clear hv3
            have hgf : fb < W3.heap.size := by have := HBX.out.lt; omega
            replace HCH := Lib.hid (HCH.out.below hb)
            have hbw2 := HW.out.ge
            replace HBB := Lib.hid (HBB.out.trans (hb.mono (Nat.le_trans hbw2 (Nat.le_of_lt HW.out.blk.lt))))
            clear hbw2
            replace HW := Lib.hid (HW.out.call hb)
            replace HBX := Lib.hid (HBX.out.below hb HBX.out.lt)
            clear hb
            unfold ratT at *
            generalize W3.alloc (Obj.cells #[.bool tb, .slice T1 t1 u1, .bool false, .slice T2 t2 u2] 73) = W4 at *
            generalize hgfe : W3.heap.size = gf at *
            clear hgfe
            have hb := below_draw W4
            replace HCH := Lib.hid (HCH.out.below hb)
            have hbw2 := HW.out.ge
            replace HBB := Lib.hid (HBB.out.trans (hb.mono (Nat.le_trans hbw2 (Nat.le_of_lt HW.out.blk.lt))))
            clear hbw2
            replace HW := Lib.hid (HW.out.call hb)
            replace HBX := Lib.hid (HBX.out.below hb HBX.out.lt)
            replace HFB := Lib.hid (HFB.out.below hb HFB.out.lt)
            replace HRF := Lib.hid (HRF.out.ext hb)
            clear hb
            have c0 := Lib.hid (show W4.drew.cell? ⟨g, 1, none⟩ = some (.slice (some ⟨fb, fo, none⟩) bs.length fc) from HW.out.c1)
            have c1 := Lib.hid (show W4.drew.cell? ⟨gf, 0, none⟩ = some (.bool tb) from HFB.out.cell 0)
            have c2 := Lib.hid (show W4.drew.cell? ⟨gf, 1, none⟩ = some (.slice T1 t1 u1) from HFB.out.cell 1)
            have c3 := Lib.hid (show W4.drew.cell? ⟨gf, 2, none⟩ = some (.bool false) from HFB.out.cell 2)
            have c4 := Lib.hid (show W4.drew.cell? ⟨gf, 3, none⟩ = some (.slice T2 t2 u2) from HFB.out.cell 3)
            refine wp_region_c (fun w' => w'.cell? ⟨g, 1, none⟩ = some (.slice (some ⟨fb, fo, none⟩) bs.length fc) ∧ w'.cell? ⟨gf, 0, none⟩ = some (.bool tb) ∧ w'.cell? ⟨gf, 1, none⟩ = some (.slice T1 t1 u1) ∧ w'.cell? ⟨gf, 2, none⟩ = some (.bool false) ∧ w'.cell? ⟨gf, 3, none⟩ = some (.slice T2 t2 u2)) 7 (by kernel_rfl) ?_
            generalize W4.drew = W5 at *
            refine wpAnyC_take8 (i := 0) (oi := _) (v := .pointer (some ⟨g, 0, none⟩)) rfl (by kernel_rfl) (by kernel_rfl) (by kernel_rfl) (by kernel_rfl) (by kernel_rfl) (by kernel_rfl) (fun _ _ _ h => h) (Or.inl ⟨by rfl, ?_⟩) ⟨c0.out, c1.out, c2.out, c3.out, c4.out⟩ ?_
            · intro w hSw
              obtain ⟨s0, s1, s2, s3, s4⟩ := hSw
              go_simp
            try simp only [Act.put, List.setIfInBounds_toArray]
            refine wpAnyC_take8 (i := 1) (oi := _) (v := .pointer (some ⟨g, 0, none⟩)) rfl (by kernel_rfl) (by kernel_rfl) (by kernel_rfl) (by kernel_rfl) (by kernel_rfl) (by kernel_rfl) (fun _ _ _ h => h) (Or.inl ⟨by rfl, ?_⟩) ⟨c0.out, c1.out, c2.out, c3.out, c4.out⟩ ?_
            · intro w hSw
              obtain ⟨s0, s1, s2, s3, s4⟩ := hSw
              go_simp
            try simp only [Act.put]
            refine wpAnyC_take8 (i := 2) (oi := _) (v := .pointer (some ⟨g, 1, none⟩)) rfl (by kernel_rfl) (by kernel_rfl) (by kernel_rfl) (by kernel_rfl) (by kernel_rfl) (by kernel_rfl) (fun _ _ _ h => h) (Or.inl ⟨by rfl, ?_⟩) ⟨c0.out, c1.out, c2.out, c3.out, c4.out⟩ ?_
            · intro w hSw
              obtain ⟨s0, s1, s2, s3, s4⟩ := hSw
              go_simp
            try simp only [Act.put]
            refine wpAnyC_take8 (i := 3) (oi := _) (v := .slice (some ⟨fb, fo, none⟩) bs.length fc) rfl (by kernel_rfl) (by kernel_rfl) (by kernel_rfl) (by kernel_rfl) (by kernel_rfl) (by kernel_rfl) (fun _ _ _ h => h) (Or.inl ⟨by rfl, ?_⟩) ⟨c0.out, c1.out, c2.out, c3.out, c4.out⟩ ?_
            · intro w hSw
              obtain ⟨s0, s1, s2, s3, s4⟩ := hSw
              go_simp
            try simp only [Act.put]
            refine wpAnyC_take8 (i := 4) (oi := _) (v := I k) rfl (by kernel_rfl) (by kernel_rfl) (by kernel_rfl) (by kernel_rfl) (by kernel_rfl) (by kernel_rfl) (fun _ _ _ h => h) (Or.inl ⟨by rfl, ?_⟩) ⟨c0.out, c1.out, c2.out, c3.out, c4.out⟩ ?_
            · intro w hSw
              obtain ⟨s0, s1, s2, s3, s4⟩ := hSw
              go_simp
            try simp only [Act.put]
            refine wpAnyC_take8 (i := 5) (oi := _) (v := .agg #[.bool tb, .slice T1 t1 u1, .bool false, .slice T2 t2 u2]) rfl (by kernel_rfl) (by kernel_rfl) (by kernel_rfl) (by kernel_rfl) (by kernel_rfl) (by kernel_rfl) (fun _ _ _ h => h) (Or.inl ⟨by rfl, ?_⟩) ⟨c0.out, c1.out, c2.out, c3.out, c4.out⟩ ?_
            · intro w hSw
              obtain ⟨s0, s1, s2, s3, s4⟩ := hSw
              go_simp
            try simp only [Act.put]
            refine wpAnyC_take8 (i := 6) (oi := _) (v := .pointer (some ⟨fb, fo + k * 4, none⟩)) rfl (by kernel_rfl) (by kernel_rfl) (by kernel_rfl) (by kernel_rfl) (by kernel_rfl) (by kernel_rfl) (fun _ _ _ h => h) (Or.inl ⟨by rfl, ?_⟩) ⟨c0.out, c1.out, c2.out, c3.out, c4.out⟩ ?_
            · intro w hSw
              obtain ⟨s0, s1, s2, s3, s4⟩ := hSw
              go_simp
            try simp only [Act.put]
            obtain ⟨b9, o9, n9, N1, m1, j1, N2, m2, j2, e9, hE, -, -, -⟩ := HW.out.flow HMX.out
            simp only at e9
            injection e9 with e9
            injection e9 with e8 e9
            subst e8 e9
            have z0 := hE.c0
            have y0 := hE.f0
            have z1 := hE.c1
            have y1 := hE.f1
            have z2 := hE.c2
            have y2 := hE.f2
            have z3 := hE.c3
            have y3 := hE.f3
            refine wpAnyC_one (i := 7) (by kernel_rfl) rfl (fun K hK => ?_)
            go_simp
            obtain ⟨hw6, hc6⟩ := HW.out.putF HMX.out rfl HRF.out
            have hfb2 := blk_far4 HFB.out (Nat.ne_of_gt hgf) (fo + k * 4) (.bool tb) (.slice T1 t1 u1) (.bool false) (.slice T2 t2 u2)
            obtain ⟨cur9, hB9⟩ := HW.out.fl.blk (g := fb) rfl
            have hbx2 := blk_far4 HBX.out (blk_ne HBX.out hB9 (by decide)) (fo + k * 4) (.bool tb) (.slice T1 t1 u1) (.bool false) (.slice T2 t2 u2)
            have hbb2 := put4_below (o := fo + k * 4) HBB.out hfg (.bool tb) (.slice T1 t1 u1) (.bool false) (.slice T2 t2 u2)
            replace HRF := Lib.hid (HRF.out.kw hc6.kw)
            replace HCH := Lib.hid (HCH.out.step hc6)
            clear hE hB9 z0 z1 z2 z3 y0 y1 y2 y3 HW HFB HBX HBB hc6
            rw [put4_eq]
            generalize put4 W5 fb (fo + k * 4) (.bool tb) (.slice T1 t1 u1) (.bool false) (.slice T2 t2 u2) = W6 at *
            have HW := Lib.hid hw6
            have HFB := Lib.hid hfb2
            have HBX := Lib.hid hbx2
            have HBB := Lib.hid hbb2
            clear hw6 hfb2 hbx2 hbb2
            refine hK.out _ _ (fun h => absurd h (by decide)) ?_
            clear hK K
            clear c0 c1 c2 c3 c4
            try simp only [Act.put, List.setIfInBounds_toArray, List.set_cons_zero, List.set_cons_succ]
            refine wpAnyC_done (by kernel_rfl) ?_ _
            go_upto_region 14 with (fail)
            have hb := below_draw W6
            replace HCH := Lib.hid (HCH.out.below hb)
            have hbw2 := HW.out.ge
            replace HBB := Lib.hid (HBB.out.trans (hb.mono (Nat.le_trans hbw2 (Nat.le_of_lt HW.out.blk.lt))))
            clear hbw2
            replace HW := Lib.hid (HW.out.call hb)
            replace HBX := Lib.hid (HBX.out.below hb HBX.out.lt)
            replace HFB := Lib.hid (HFB.out.below hb HFB.out.lt)
            replace HRF := Lib.hid (HRF.out.ext hb)
            clear hb
            have c0 := Lib.hid (show W6.drew.cell? ⟨gf, 0, none⟩ = some (.bool tb) from HFB.out.cell 0)
            have c1 := Lib.hid (show W6.drew.cell? ⟨gf, 1, none⟩ = some (.slice T1 t1 u1) from HFB.out.cell 1)
            have c2 := Lib.hid (show W6.drew.cell? ⟨gf, 2, none⟩ = some (.bool false) from HFB.out.cell 2)
            have c3 := Lib.hid (show W6.drew.cell? ⟨gf, 3, none⟩ = some (.slice T2 t2 u2) from HFB.out.cell 3)
            have c4 := Lib.hid (show W6.drew.cell? ⟨ga, 6, none⟩ = some (I li) from HBX.out.cell 6)
            refine wp_region_c (fun w' => w'.cell? ⟨gf, 0, none⟩ = some (.bool tb) ∧ w'.cell? ⟨gf, 1, none⟩ = some (.slice T1 t1 u1) ∧ w'.cell? ⟨gf, 2, none⟩ = some (.bool false) ∧ w'.cell? ⟨gf, 3, none⟩ = some (.slice T2 t2 u2) ∧ w'.cell? ⟨ga, 6, none⟩ = some (I li)) 4 (by kernel_rfl) ?_
            generalize W6.drew = W7 at *
            refine wpAnyC_take8 (i := 0) (oi := _) (v := .agg #[.bool tb, .slice T1 t1 u1, .bool false, .slice T2 t2 u2]) rfl (by kernel_rfl) (by kernel_rfl) (by kernel_rfl) (by kernel_rfl) (by kernel_rfl) (by kernel_rfl) (fun _ _ _ h => h) (Or.inl ⟨by rfl, ?_⟩) ⟨c0.out, c1.out, c2.out, c3.out, c4.out⟩ ?_
            · intro w hSw
              obtain ⟨s0, s1, s2, s3, s4⟩ := hSw
              go_simp
            try simp only [Act.put, List.setIfInBounds_toArray]
            refine wpAnyC_take8 (i := 1) (oi := _) (v := .pointer (some ⟨ga, 6, none⟩)) rfl (by kernel_rfl) (by kernel_rfl) (by kernel_rfl) (by kernel_rfl) (by kernel_rfl) (by kernel_rfl) (fun _ _ _ h => h) (Or.inl ⟨by rfl, ?_⟩) ⟨c0.out, c1.out, c2.out, c3.out, c4.out⟩ ?_
            · intro w hSw
              obtain ⟨s0, s1, s2, s3, s4⟩ := hSw
              go_simp
            try simp only [Act.put]
            refine wpAnyC_take8 (i := 2) (oi := _) (v := I li) rfl (by kernel_rfl) (by kernel_rfl) (by kernel_rfl) (by kernel_rfl) (by kernel_rfl) (by kernel_rfl) (fun _ _ _ h => h) (Or.inl ⟨by rfl, ?_⟩) ⟨c0.out, c1.out, c2.out, c3.out, c4.out⟩ ?_
            · intro w hSw
              obtain ⟨s0, s1, s2, s3, s4⟩ := hSw
              go_simp
            try simp only [Act.put]
            refine wpAnyC_one (i := 3) (by kernel_rfl) rfl (fun K hK => ?_)
            go_simp
            go_at_call 28
            refine (rwhole_any li W7 (by omega) (by omega)).mono ?_
            rintro e W8 ⟨vw, rfl, hvw, hb⟩
            replace c0 := Lib.hid (cell_below c0.out hb)
            replace c1 := Lib.hid (cell_below c1.out hb)
            replace c2 := Lib.hid (cell_below c2.out hb)
            replace c3 := Lib.hid (cell_below c3.out hb)
            replace c4 := Lib.hid (cell_below c4.out hb)
            replace HCH := Lib.hid (HCH.out.below hb)
            have hbw2 := HW.out.ge
            replace HBB := Lib.hid (HBB.out.trans (hb.mono (Nat.le_trans hbw2 (Nat.le_of_lt HW.out.blk.lt))))
            clear hbw2
            replace HW := Lib.hid (HW.out.call hb)
            replace HBX := Lib.hid (HBX.out.below hb HBX.out.lt)
            replace HFB := Lib.hid (HFB.out.below hb HFB.out.lt)
            replace HRF := Lib.hid (HRF.out.ext hb)
            clear hb
            refine hK.out _ _ (fun _ => ⟨c0.out, c1.out, c2.out, c3.out, c4.out⟩) ?_
            clear hK K
            try simp only [Act.put, List.setIfInBounds_toArray, List.set_cons_zero, List.set_cons_succ]
            refine wpAnyC_one (i := 4) (by kernel_rfl) rfl (fun K hK => ?_)
            go_simp
            go_at_call 27
            refine (rcmp_any _ _ _ (li : Rat) W8 HRF.out hvw (N := 210) (by decide) HFX.out (fitR_lim hl0 hl1)).mono ?_
            rintro e W9 ⟨rfl, hb⟩
            clear hvw
            replace HCH := Lib.hid (HCH.out.below hb)
            have hbw2 := HW.out.ge
            replace HBB := Lib.hid (HBB.out.trans (hb.mono (Nat.le_trans hbw2 (Nat.le_of_lt HW.out.blk.lt))))
            clear hbw2
            replace HW := Lib.hid (HW.out.call hb)
            replace HBX := Lib.hid (HBX.out.below hb HBX.out.lt)
            replace HFB := Lib.hid (HFB.out.below hb HFB.out.lt)
            replace HRF := Lib.hid (HRF.out.ext hb)
            clear hb
            clear c0 c1 c2 c3 c4
            have HGT := Lib.hid (show gtI (absQ (rval (SL sx))) li = decide (0 < ((absQ (rval (SL sx))).num * ((li : Rat).den : Int) - (li : Rat).num * ((absQ (rval (SL sx))).den : Int)).sign) from rfl)
            generalize ((absQ (rval (SL sx))).num * ((li : Rat).den : Int) - (li : Rat).num * ((absQ (rval (SL sx))).den : Int)).sign = sg at *
            refine hK.out _ _ (fun h => absurd h (by decide)) ?_
            clear hK K
            try simp only [Act.put, List.setIfInBounds_toArray, List.set_cons_zero, List.set_cons_succ]
            have hmx2 := set_get HMX.out
            by_cases hgt : 0 < sg
            · have hgd : decide (sg ≤ 0) = false := decide_eq_false (by omega)
              refine wpAnyC_one (i := 5) (by kernel_rfl) rfl (fun K hK => ?_)
              go_simp
              refine hK.out _ _ (fun h => absurd h (by decide)) ?_
              clear hK K
              try simp only [Act.put, List.setIfInBounds_toArray, List.set_cons_zero, List.set_cons_succ]
              refine wpAnyC_done (by kernel_rfl) ?_ _
              have HG := Lib.hid (show gtI (absQ (rval (SL sx))) li = true by rw [HGT.out]; exact decide_eq_true hgt)
              clear HGT hgt
              have c2 := HW.out.c2
              have ca := HW.out.abv hlt
              rw [getD_of (hmx2 _)] at ca
              have ya := HW.out.ab.frozen k
              simp only at c2 ca ya
              go_upto_region 17 with (fail)
              clear hgd c2 ca ya
              obtain ⟨hw, hc⟩ := HW.out.putA (hmx2 _) (x.a + s)
              simp only at hw hc
              rw [List.set_set] at hw
              have hb2 := HBB.out.setCell (p := ⟨ab, k, none⟩) HW.out.abg (I (x.a + s))
              have hx2 := HBX.out.far (p := ⟨ab, k, none⟩) (blk_ne HBX.out HW.out.ab (by decide)) (I (x.a + s))
              have hf2 := HFB.out.far (p := ⟨ab, k, none⟩) (blk_ne HFB.out HW.out.ab (by decide)) (I (x.a + s))
              replace HRF := Lib.hid (HRF.out.kw hc.kw)
              replace HCH := Lib.hid (HCH.out.step hc)
              clear HW HBB HBX HFB hc
              generalize W9.setCell ⟨ab, k, none⟩ (I (x.a + s)) = Wa at *
              have HW := Lib.hid hw
              have HBB := Lib.hid hb2
              have HBX := Lib.hid hx2
              have HFB := Lib.hid hf2
              clear hw hb2 hx2 hf2
              have hb := below_draw Wa
              replace HCH := Lib.hid (HCH.out.below hb)
              have hbw2 := HW.out.ge
              replace HBB := Lib.hid (HBB.out.trans (hb.mono (Nat.le_trans hbw2 (Nat.le_of_lt HW.out.blk.lt))))
              clear hbw2
              replace HW := Lib.hid (HW.out.call hb)
              replace HBX := Lib.hid (HBX.out.below hb HBX.out.lt)
              replace HFB := Lib.hid (HFB.out.below hb HFB.out.lt)
              replace HRF := Lib.hid (HRF.out.ext hb)
              clear hb
              have c0 := Lib.hid (show Wa.drew.cell? ⟨g, 2, none⟩ = some (.slice (some ⟨ab, 0, none⟩) bs.length bs.length) from HW.out.c2)
              have c1 := Lib.hid (show Wa.drew.cell? ⟨ab, k, none⟩ = some (I (x.a + s)) from by have := HW.out.abv hlt; rw [getD_of (hmx2 _)] at this; exact this)
              have c2 := Lib.hid (show Wa.drew.cell? ⟨ga, 8, none⟩ = some (I ho) from HBX.out.cell 8)
              have c3 := Lib.hid (show Wa.drew.cell? ⟨gf, 0, none⟩ = some (.bool tb) from HFB.out.cell 0)
              have c4 := Lib.hid (show Wa.drew.cell? ⟨gf, 1, none⟩ = some (.slice T1 t1 u1) from HFB.out.cell 1)
              have c5 := Lib.hid (show Wa.drew.cell? ⟨gf, 2, none⟩ = some (.bool false) from HFB.out.cell 2)
              have c6 := Lib.hid (show Wa.drew.cell? ⟨gf, 3, none⟩ = some (.slice T2 t2 u2) from HFB.out.cell 3)
              have c7 := Lib.hid (show Wa.drew.cell? ⟨ga, 7, none⟩ = some (I so) from HBX.out.cell 7)
              refine wp_region_c (fun w' => w'.cell? ⟨g, 2, none⟩ = some (.slice (some ⟨ab, 0, none⟩) bs.length bs.length) ∧ w'.cell? ⟨ab, k, none⟩ = some (I (x.a + s)) ∧ w'.cell? ⟨ga, 8, none⟩ = some (I ho) ∧ w'.cell? ⟨gf, 0, none⟩ = some (.bool tb) ∧ w'.cell? ⟨gf, 1, none⟩ = some (.slice T1 t1 u1) ∧ w'.cell? ⟨gf, 2, none⟩ = some (.bool false) ∧ w'.cell? ⟨gf, 3, none⟩ = some (.slice T2 t2 u2) ∧ w'.cell? ⟨ga, 7, none⟩ = some (I so)) 15 (by kernel_rfl) ?_
              generalize Wa.drew = Wb at *
              refine wpAnyC_take8 (i := 0) (oi := _) (v := .pointer (some ⟨g, 0, none⟩)) rfl (by kernel_rfl) (by kernel_rfl) (by kernel_rfl) (by kernel_rfl) (by kernel_rfl) (by kernel_rfl) (fun _ _ _ h => h) (Or.inl ⟨by rfl, ?_⟩) ⟨c0.out, c1.out, c2.out, c3.out, c4.out, c5.out, c6.out, c7.out⟩ ?_
              · intro w hSw
                obtain ⟨s0, s1, s2, s3, s4, s5, s6, s7⟩ := hSw
                go_simp
              try simp only [Act.put, List.setIfInBounds_toArray]
              refine wpAnyC_take8 (i := 1) (oi := _) (v := .pointer (some ⟨g, 0, none⟩)) rfl (by kernel_rfl) (by kernel_rfl) (by kernel_rfl) (by kernel_rfl) (by kernel_rfl) (by kernel_rfl) (fun _ _ _ h => h) (Or.inl ⟨by rfl, ?_⟩) ⟨c0.out, c1.out, c2.out, c3.out, c4.out, c5.out, c6.out, c7.out⟩ ?_
              · intro w hSw
                obtain ⟨s0, s1, s2, s3, s4, s5, s6, s7⟩ := hSw
                go_simp
              try simp only [Act.put]
              refine wpAnyC_take8 (i := 2) (oi := _) (v := .pointer (some ⟨g, 2, none⟩)) rfl (by kernel_rfl) (by kernel_rfl) (by kernel_rfl) (by kernel_rfl) (by kernel_rfl) (by kernel_rfl) (fun _ _ _ h => h) (Or.inl ⟨by rfl, ?_⟩) ⟨c0.out, c1.out, c2.out, c3.out, c4.out, c5.out, c6.out, c7.out⟩ ?_
              · intro w hSw
                obtain ⟨s0, s1, s2, s3, s4, s5, s6, s7⟩ := hSw
                go_simp
              try simp only [Act.put]
              refine wpAnyC_take8 (i := 3) (oi := _) (v := .slice (some ⟨ab, 0, none⟩) bs.length bs.length) rfl (by kernel_rfl) (by kernel_rfl) (by kernel_rfl) (by kernel_rfl) (by kernel_rfl) (by kernel_rfl) (fun _ _ _ h => h) (Or.inl ⟨by rfl, ?_⟩) ⟨c0.out, c1.out, c2.out, c3.out, c4.out, c5.out, c6.out, c7.out⟩ ?_
              · intro w hSw
                obtain ⟨s0, s1, s2, s3, s4, s5, s6, s7⟩ := hSw
                go_simp
              try simp only [Act.put]
              refine wpAnyC_take8 (i := 4) (oi := _) (v := I k) rfl (by kernel_rfl) (by kernel_rfl) (by kernel_rfl) (by kernel_rfl) (by kernel_rfl) (by kernel_rfl) (fun _ _ _ h => h) (Or.inl ⟨by rfl, ?_⟩) ⟨c0.out, c1.out, c2.out, c3.out, c4.out, c5.out, c6.out, c7.out⟩ ?_
              · intro w hSw
                obtain ⟨s0, s1, s2, s3, s4, s5, s6, s7⟩ := hSw
                go_simp
              try simp only [Act.put]
              refine wpAnyC_take8 (i := 5) (oi := _) (v := .pointer (some ⟨ab, k, none⟩)) rfl (by kernel_rfl) (by kernel_rfl) (by kernel_rfl) (by kernel_rfl) (by kernel_rfl) (by kernel_rfl) (fun _ _ _ h => h) (Or.inl ⟨by rfl, ?_⟩) ⟨c0.out, c1.out, c2.out, c3.out, c4.out, c5.out, c6.out, c7.out⟩ ?_
              · intro w hSw
                obtain ⟨s0, s1, s2, s3, s4, s5, s6, s7⟩ := hSw
                go_simp
              try simp only [Act.put]
              refine wpAnyC_take8 (i := 6) (oi := _) (v := I (x.a + s)) rfl (by kernel_rfl) (by kernel_rfl) (by kernel_rfl) (by kernel_rfl) (by kernel_rfl) (by kernel_rfl) (fun _ _ _ h => h) (Or.inl ⟨by rfl, ?_⟩) ⟨c0.out, c1.out, c2.out, c3.out, c4.out, c5.out, c6.out, c7.out⟩ ?_
              · intro w hSw
                obtain ⟨s0, s1, s2, s3, s4, s5, s6, s7⟩ := hSw
                go_simp
              try simp only [Act.put]
              refine wpAnyC_take8 (i := 7) (oi := _) (v := .pointer (some ⟨ga, 8, none⟩)) rfl (by kernel_rfl) (by kernel_rfl) (by kernel_rfl) (by kernel_rfl) (by kernel_rfl) (by kernel_rfl) (fun _ _ _ h => h) (Or.inl ⟨by rfl, ?_⟩) ⟨c0.out, c1.out, c2.out, c3.out, c4.out, c5.out, c6.out, c7.out⟩ ?_
              · intro w hSw
                obtain ⟨s0, s1, s2, s3, s4, s5, s6, s7⟩ := hSw
                go_simp
              try simp only [Act.put]
              refine wpAnyC_take8 (i := 8) (oi := _) (v := I ho) rfl (by kernel_rfl) (by kernel_rfl) (by kernel_rfl) (by kernel_rfl) (by kernel_rfl) (by kernel_rfl) (fun _ _ _ h => h) (Or.inl ⟨by rfl, ?_⟩) ⟨c0.out, c1.out, c2.out, c3.out, c4.out, c5.out, c6.out, c7.out⟩ ?_
              · intro w hSw
                obtain ⟨s0, s1, s2, s3, s4, s5, s6, s7⟩ := hSw
                go_simp
              try simp only [Act.put]
              refine wpAnyC_take8 (i := 9) (oi := _) (v := .bool (decide (x.a + s > ho))) rfl (by kernel_rfl) (by kernel_rfl) (by kernel_rfl) (by kernel_rfl) (by kernel_rfl) (by kernel_rfl) (fun _ _ _ h => h) (Or.inl ⟨by rfl, ?_⟩) ⟨c0.out, c1.out, c2.out, c3.out, c4.out, c5.out, c6.out, c7.out⟩ ?_
              · intro w hSw
                obtain ⟨s0, s1, s2, s3, s4, s5, s6, s7⟩ := hSw
                go_simp
              try simp only [Act.put]
              refine wpAnyC_take8 (i := 10) (oi := _) (v := .bool (decide (x.a + s > ho))) rfl (by kernel_rfl) (by kernel_rfl) (by kernel_rfl) (by kernel_rfl) (by kernel_rfl) (by kernel_rfl) (fun _ _ _ h => h) (Or.inl ⟨by rfl, ?_⟩) ⟨c0.out, c1.out, c2.out, c3.out, c4.out, c5.out, c6.out, c7.out⟩ ?_
              · intro w hSw
                obtain ⟨s0, s1, s2, s3, s4, s5, s6, s7⟩ := hSw
                go_simp
              try simp only [Act.put]
              by_cases hho : x.a + s > ho
              · have hhd : decide (x.a + s > ho) = true := decide_eq_true hho
                rw [hhd]
                refine wpAnyC_take8 (i := 11) (oi := _) (v := undef) rfl (by kernel_rfl) (by kernel_rfl) (by kernel_rfl) (by kernel_rfl) (by kernel_rfl) (by kernel_rfl) (fun _ _ _ h => h) (Or.inr ⟨by kernel_rfl, rfl⟩) ⟨c0.out, c1.out, c2.out, c3.out, c4.out, c5.out, c6.out, c7.out⟩ ?_
                try simp only [Act.put]
                refine wpAnyC_take8 (i := 12) (oi := _) (v := undef) rfl (by kernel_rfl) (by kernel_rfl) (by kernel_rfl) (by kernel_rfl) (by kernel_rfl) (by kernel_rfl) (fun _ _ _ h => h) (Or.inr ⟨by kernel_rfl, rfl⟩) ⟨c0.out, c1.out, c2.out, c3.out, c4.out, c5.out, c6.out, c7.out⟩ ?_
                try simp only [Act.put]
                refine wpAnyC_take8 (i := 13) (oi := _) (v := undef) rfl (by kernel_rfl) (by kernel_rfl) (by kernel_rfl) (by kernel_rfl) (by kernel_rfl) (by kernel_rfl) (fun _ _ _ h => h) (Or.inr ⟨by kernel_rfl, rfl⟩) ⟨c0.out, c1.out, c2.out, c3.out, c4.out, c5.out, c6.out, c7.out⟩ ?_
                try simp only [Act.put]
                refine wpAnyC_one (i := 14) (by kernel_rfl) rfl (fun K hK => ?_)
                go_simp
                refine hK.out _ _ (fun _ => ⟨c0.out, c1.out, c2.out, c3.out, c4.out, c5.out, c6.out, c7.out⟩) ?_
                clear hK K
                try simp only [Act.put, List.setIfInBounds_toArray, List.set_cons_zero, List.set_cons_succ]
                refine wpAnyC_one (i := 15) (by kernel_rfl) rfl (fun K hK => ?_)
                go_simp
                refine hK.out _ _ (fun _ => ⟨c0.out, c1.out, c2.out, c3.out, c4.out, c5.out, c6.out, c7.out⟩) ?_
                clear hK K
                try simp only [Act.put, List.setIfInBounds_toArray, List.set_cons_zero, List.set_cons_succ]
                refine wpAnyC_one (i := 16) (by kernel_rfl) rfl (fun K hK => ?_)
                go_simp
                refine hK.out _ _ (fun _ => ⟨c0.out, c1.out, c2.out, c3.out, c4.out, c5.out, c6.out, c7.out⟩) ?_
                clear hK K
                try simp only [Act.put, List.setIfInBounds_toArray, List.set_cons_zero, List.set_cons_succ]
                refine wpAnyC_one (i := 17) (by kernel_rfl) rfl (fun K hK => ?_)
                go_simp
                refine hK.out _ _ (fun h => absurd h (by decide)) ?_
                clear hK K
                try simp only [Act.put, List.setIfInBounds_toArray, List.set_cons_zero, List.set_cons_succ]
                clear c0 c1 c2 c3 c4 c5 c6 c7
                refine wpAnyC_done (by kernel_rfl) ?_ _
                go_upto_region 18 with (fail)
                have c3 := HW.out.c3
                have ca := HW.out.obv hlt
                rw [getD_of (hmx2 _)] at ca
                have ya := HW.out.ob.frozen k
                simp only at c3 ca ya
                go_upto_region 19 with (fail)
                clear c3 ca ya
                obtain ⟨hw, hc⟩ := HW.out.putO (hmx2 _) true
                simp only at hw hc
                rw [List.set_set] at hw
                have hb2 := HBB.out.setCell (p := ⟨ob, k, none⟩) HW.out.obg (.bool true)
                replace HCH := Lib.hid (HCH.out.step hc)
                clear HW HBB hc HBX HFB HRF
                generalize Wb.setCell ⟨ob, k, none⟩ (.bool true) = Wz at *
                have HWN := Lib.hid (show WS Wz base ⟨g, some ⟨bb, off, none⟩, bc, some ⟨fb, fo, none⟩, fc, ab, ob⟩ bs (mixS bs (valsV (tx1 l)) s st (k + 1)) (t + s) by rw [HMN.out, rt_over HG.out (.inl hho)]; exact hw)
                have HBN := Lib.hid hb2
                clear hw hb2 hmx2 HMX HMN
                go_wp2
                go_roundg (bs.length - (k + 1))
                case measure => omega
                case rel => exact ⟨k + 1, rfl, by go_num, by omega, HWN, HCH, HBN⟩
              · have hhd : decide (x.a + s > ho) = false := decide_eq_false hho
                rw [hhd]
                refine wpAnyC_take8 (i := 11) (oi := _) (v := .agg #[.bool tb, .slice T1 t1 u1, .bool false, .slice T2 t2 u2]) rfl (by kernel_rfl) (by kernel_rfl) (by kernel_rfl) (by kernel_rfl) (by kernel_rfl) (by kernel_rfl) (fun _ _ _ h => h) (Or.inl ⟨by kernel_rfl, ?_⟩) ⟨c0.out, c1.out, c2.out, c3.out, c4.out, c5.out, c6.out, c7.out⟩ ?_
                · intro w hSw
                  obtain ⟨s0, s1, s2, s3, s4, s5, s6, s7⟩ := hSw
                  go_simp
                try simp only [Act.put]
                refine wpAnyC_take8 (i := 12) (oi := _) (v := .pointer (some ⟨ga, 7, none⟩)) rfl (by kernel_rfl) (by kernel_rfl) (by kernel_rfl) (by kernel_rfl) (by kernel_rfl) (by kernel_rfl) (fun _ _ _ h => h) (Or.inl ⟨by kernel_rfl, ?_⟩) ⟨c0.out, c1.out, c2.out, c3.out, c4.out, c5.out, c6.out, c7.out⟩ ?_
                · intro w hSw
                  obtain ⟨s0, s1, s2, s3, s4, s5, s6, s7⟩ := hSw
                  go_simp
                try simp only [Act.put]
                refine wpAnyC_take8 (i := 13) (oi := _) (v := I so) rfl (by kernel_rfl) (by kernel_rfl) (by kernel_rfl) (by kernel_rfl) (by kernel_rfl) (by kernel_rfl) (fun _ _ _ h => h) (Or.inl ⟨by kernel_rfl, ?_⟩) ⟨c0.out, c1.out, c2.out, c3.out, c4.out, c5.out, c6.out, c7.out⟩ ?_
                · intro w hSw
                  obtain ⟨s0, s1, s2, s3, s4, s5, s6, s7⟩ := hSw
                  go_simp
                try simp only [Act.put]
                refine wpAnyC_oneW (i := 14) (by kernel_rfl) rfl (by kernel_rfl) (fun K hK => ?_)
                go_simp
                go_at_call 28
                refine (rwhole_any so Wb (by omega) (by omega)).mono ?_
                rintro e Wc ⟨vw, rfl, hvw, hb⟩
                replace c0 := Lib.hid (cell_below c0.out hb)
                replace c1 := Lib.hid (cell_below c1.out hb)
                replace c2 := Lib.hid (cell_below c2.out hb)
                replace c3 := Lib.hid (cell_below c3.out hb)
                replace c4 := Lib.hid (cell_below c4.out hb)
                replace c5 := Lib.hid (cell_below c5.out hb)
                replace c6 := Lib.hid (cell_below c6.out hb)
                replace c7 := Lib.hid (cell_below c7.out hb)
                replace HCH := Lib.hid (HCH.out.below hb)
                have hbw2 := HW.out.ge
                replace HBB := Lib.hid (HBB.out.trans (hb.mono (Nat.le_trans hbw2 (Nat.le_of_lt HW.out.blk.lt))))
                clear hbw2
                replace HW := Lib.hid (HW.out.call hb)
                replace HBX := Lib.hid (HBX.out.below hb HBX.out.lt)
                replace HFB := Lib.hid (HFB.out.below hb HFB.out.lt)
                replace HRF := Lib.hid (HRF.out.ext hb)
                clear hb
                refine hK.out _ _ (fun _ => ⟨c0.out, c1.out, c2.out, c3.out, c4.out, c5.out, c6.out, c7.out⟩) ?_
                clear hK K
                try simp only [Act.put, List.setIfInBounds_toArray, List.set_cons_zero, List.set_cons_succ]
                refine wpAnyC_oneW (i := 15) (by kernel_rfl) rfl (by kernel_rfl) (fun K hK => ?_)
                go_simp
                go_at_call 27
                refine (rcmp_any _ _ _ (so : Rat) Wc HRF.out hvw (N := 210) (by decide) HFX.out (fitR_lim hs0 hs3)).mono ?_
                rintro e Wd ⟨rfl, hb⟩
                clear hvw
                replace HCH := Lib.hid (HCH.out.below hb)
                have hbw2 := HW.out.ge
                replace HBB := Lib.hid (HBB.out.trans (hb.mono (Nat.le_trans hbw2 (Nat.le_of_lt HW.out.blk.lt))))
                clear hbw2
                replace HW := Lib.hid (HW.out.call hb)
                replace HBX := Lib.hid (HBX.out.below hb HBX.out.lt)
                replace HFB := Lib.hid (HFB.out.below hb HFB.out.lt)
                replace HRF := Lib.hid (HRF.out.ext hb)
                clear hb
                clear c0 c1 c2 c3 c4 c5 c6 c7
                have HGS := Lib.hid (show gtI (absQ (rval (SL sx))) so = decide (0 < ((absQ (rval (SL sx))).num * ((so : Rat).den : Int) - (so : Rat).num * ((absQ (rval (SL sx))).den : Int)).sign) from rfl)
                generalize ((absQ (rval (SL sx))).num * ((so : Rat).den : Int) - (so : Rat).num * ((absQ (rval (SL sx))).den : Int)).sign = sg2 at *
                refine hK.out _ _ (fun h => absurd h (by decide)) ?_
                clear hK K
                try simp only [Act.put, List.setIfInBounds_toArray, List.set_cons_zero, List.set_cons_succ]
                by_cases hgs : 0 < sg2
                · skip
                  have hsd : decide (sg2 > 0) = true := decide_eq_true hgs
                  refine wpAnyC_oneW (i := 16) (by kernel_rfl) rfl (by kernel_rfl) (fun K hK => ?_)
                  go_simp
                  refine hK.out _ _ (fun h => absurd h (by decide)) ?_
                  clear hK K
                  try simp only [Act.put, List.setIfInBounds_toArray, List.set_cons_zero, List.set_cons_succ]
                  refine wpAnyC_one (i := 17) (by kernel_rfl) rfl (fun K hK => ?_)
                  go_simp
                  refine hK.out _ _ (fun h => absurd h (by decide)) ?_
                  clear hK K
                  try simp only [Act.put, List.setIfInBounds_toArray, List.set_cons_zero, List.set_cons_succ]
                  refine wpAnyC_done (by kernel_rfl) ?_ _
                  go_upto_region 18 with (fail)
                  have c3 := HW.out.c3
                  have ca := HW.out.obv hlt
                  rw [getD_of (hmx2 _)] at ca
                  have ya := HW.out.ob.frozen k
                  simp only at c3 ca ya
                  go_upto_region 19 with (fail)
                  clear c3 ca ya
                  obtain ⟨hw, hc⟩ := HW.out.putO (hmx2 _) true
                  simp only at hw hc
                  rw [List.set_set] at hw
                  have hb2 := HBB.out.setCell (p := ⟨ob, k, none⟩) HW.out.obg (.bool true)
                  replace HCH := Lib.hid (HCH.out.step hc)
                  clear HW HBB hc HBX HFB HRF
                  generalize Wd.setCell ⟨ob, k, none⟩ (.bool true) = Wz at *
                  have HWN := Lib.hid (show WS Wz base ⟨g, some ⟨bb, off, none⟩, bc, some ⟨fb, fo, none⟩, fc, ab, ob⟩ bs (mixS bs (valsV (tx1 l)) s st (k + 1)) (t + s) by rw [HMN.out, rt_over HG.out (.inr (by rw [HGS.out]; exact decide_eq_true hgs))]; exact hw)
                  have HBN := Lib.hid hb2
                  clear hw hb2 hmx2 HMX HMN
                  go_wp2
                  go_roundg (bs.length - (k + 1))
                  case measure => omega
                  case rel => exact ⟨k + 1, rfl, by go_num, by omega, HWN, HCH, HBN⟩
                · skip
                  have hsd : decide (sg2 > 0) = false := decide_eq_false hgs
                  refine wpAnyC_oneW (i := 16) (by kernel_rfl) rfl (by kernel_rfl) (fun K hK => ?_)
                  go_simp
                  refine hK.out _ _ (fun h => absurd h (by decide)) ?_
                  clear hK K
                  try simp only [Act.put, List.setIfInBounds_toArray, List.set_cons_zero, List.set_cons_succ]
                  refine wpAnyC_one (i := 17) (by kernel_rfl) rfl (fun K hK => ?_)
                  go_simp
                  refine hK.out _ _ (fun h => absurd h (by decide)) ?_
                  clear hK K
                  try simp only [Act.put, List.setIfInBounds_toArray, List.set_cons_zero, List.set_cons_succ]
                  refine wpAnyC_done (by kernel_rfl) ?_ _
                  have HWN := Lib.hid (show WS Wd base ⟨g, some ⟨bb, off, none⟩, bc, some ⟨fb, fo, none⟩, fc, ab, ob⟩ bs (mixS bs (valsV (tx1 l)) s st (k + 1)) (t + s) by rw [HMN.out, rt_keep HG.out hho (by rw [HGS.out]; exact decide_eq_false hgs)]; exact HW.out)
                  clear HW HBX HFB HRF hmx2 HMX HMN
                  go_wp2
                  go_roundg (bs.length - (k + 1))
                  case measure => omega
                  case rel => exact ⟨k + 1, rfl, by go_num, by omega, HWN, HCH, HBB⟩
            · have hgd : decide (sg ≤ 0) = true := decide_eq_true (by omega)
              refine wpAnyC_one (i := 5) (by kernel_rfl) rfl (fun K hK => ?_)
              go_simp
              refine hK.out _ _ (fun h => absurd h (by decide)) ?_
              clear hK K
              try simp only [Act.put, List.setIfInBounds_toArray, List.set_cons_zero, List.set_cons_succ]
              refine wpAnyC_done (by kernel_rfl) ?_ _
              have HG := Lib.hid (show gtI (absQ (rval (SL sx))) li = false by rw [HGT.out]; exact decide_eq_false hgt)
              clear HGT hgt hgd
              go_upto_region 15 with (fail)
              have hb := below_draw W9
              replace HCH := Lib.hid (HCH.out.below hb)
              have hbw2 := HW.out.ge
              replace HBB := Lib.hid (HBB.out.trans (hb.mono (Nat.le_trans hbw2 (Nat.le_of_lt HW.out.blk.lt))))
              clear hbw2
              replace HW := Lib.hid (HW.out.call hb)
              replace HBX := Lib.hid (HBX.out.below hb HBX.out.lt)
              replace HFB := Lib.hid (HFB.out.below hb HFB.out.lt)
              replace HRF := Lib.hid (HRF.out.ext hb)
              clear hb
              have c0 := Lib.hid (show W9.drew.cell? ⟨g, 2, none⟩ = some (.slice (some ⟨ab, 0, none⟩) bs.length bs.length) from HW.out.c2)
              have c1 := Lib.hid (show W9.drew.cell? ⟨g, 3, none⟩ = some (.slice (some ⟨ob, 0, none⟩) bs.length bs.length) from HW.out.c3)
              refine wp_region_c (fun w' => w'.cell? ⟨g, 2, none⟩ = some (.slice (some ⟨ab, 0, none⟩) bs.length bs.length) ∧ w'.cell? ⟨g, 3, none⟩ = some (.slice (some ⟨ob, 0, none⟩) bs.length bs.length)) 13 (by kernel_rfl) ?_
              generalize W9.drew = Wa at *
              refine wpAnyC_take8 (i := 0) (oi := _) (v := .pointer (some ⟨g, 0, none⟩)) rfl (by kernel_rfl) (by kernel_rfl) (by kernel_rfl) (by kernel_rfl) (by kernel_rfl) (by kernel_rfl) (fun _ _ _ h => h) (Or.inl ⟨by rfl, ?_⟩) ⟨c0.out, c1.out⟩ ?_
              · intro w hSw
                obtain ⟨s0, s1⟩ := hSw
                go_simp
              try simp only [Act.put, List.setIfInBounds_toArray]
              refine wpAnyC_take8 (i := 1) (oi := _) (v := .pointer (some ⟨g, 0, none⟩)) rfl (by kernel_rfl) (by kernel_rfl) (by kernel_rfl) (by kernel_rfl) (by kernel_rfl) (by kernel_rfl) (fun _ _ _ h => h) (Or.inl ⟨by rfl, ?_⟩) ⟨c0.out, c1.out⟩ ?_
              · intro w hSw
                obtain ⟨s0, s1⟩ := hSw
                go_simp
              try simp only [Act.put]
              refine wpAnyC_take8 (i := 2) (oi := _) (v := .pointer (some ⟨g, 2, none⟩)) rfl (by kernel_rfl) (by kernel_rfl) (by kernel_rfl) (by kernel_rfl) (by kernel_rfl) (by kernel_rfl) (fun _ _ _ h => h) (Or.inl ⟨by rfl, ?_⟩) ⟨c0.out, c1.out⟩ ?_
              · intro w hSw
                obtain ⟨s0, s1⟩ := hSw
                go_simp
              try simp only [Act.put]
              refine wpAnyC_take8 (i := 3) (oi := _) (v := .slice (some ⟨ab, 0, none⟩) bs.length bs.length) rfl (by kernel_rfl) (by kernel_rfl) (by kernel_rfl) (by kernel_rfl) (by kernel_rfl) (by kernel_rfl) (fun _ _ _ h => h) (Or.inl ⟨by rfl, ?_⟩) ⟨c0.out, c1.out⟩ ?_
              · intro w hSw
                obtain ⟨s0, s1⟩ := hSw
                go_simp
              try simp only [Act.put]
              refine wpAnyC_take8 (i := 4) (oi := _) (v := I k) rfl (by kernel_rfl) (by kernel_rfl) (by kernel_rfl) (by kernel_rfl) (by kernel_rfl) (by kernel_rfl) (fun _ _ _ h => h) (Or.inl ⟨by rfl, ?_⟩) ⟨c0.out, c1.out⟩ ?_
              · intro w hSw
                obtain ⟨s0, s1⟩ := hSw
                go_simp
              try simp only [Act.put]
              refine wpAnyC_take8 (i := 5) (oi := _) (v := .pointer (some ⟨g, 0, none⟩)) rfl (by kernel_rfl) (by kernel_rfl) (by kernel_rfl) (by kernel_rfl) (by kernel_rfl) (by kernel_rfl) (fun _ _ _ h => h) (Or.inl ⟨by rfl, ?_⟩) ⟨c0.out, c1.out⟩ ?_
              · intro w hSw
                obtain ⟨s0, s1⟩ := hSw
                go_simp
              try simp only [Act.put]
              refine wpAnyC_take8 (i := 6) (oi := _) (v := .pointer (some ⟨g, 0, none⟩)) rfl (by kernel_rfl) (by kernel_rfl) (by kernel_rfl) (by kernel_rfl) (by kernel_rfl) (by kernel_rfl) (fun _ _ _ h => h) (Or.inl ⟨by rfl, ?_⟩) ⟨c0.out, c1.out⟩ ?_
              · intro w hSw
                obtain ⟨s0, s1⟩ := hSw
                go_simp
              try simp only [Act.put]
              refine wpAnyC_take8 (i := 7) (oi := _) (v := .pointer (some ⟨g, 3, none⟩)) rfl (by kernel_rfl) (by kernel_rfl) (by kernel_rfl) (by kernel_rfl) (by kernel_rfl) (by kernel_rfl) (fun _ _ _ h => h) (Or.inl ⟨by rfl, ?_⟩) ⟨c0.out, c1.out⟩ ?_
              · intro w hSw
                obtain ⟨s0, s1⟩ := hSw
                go_simp
              try simp only [Act.put]
              refine wpAnyC_take8 (i := 8) (oi := _) (v := .slice (some ⟨ob, 0, none⟩) bs.length bs.length) rfl (by kernel_rfl) (by kernel_rfl) (by kernel_rfl) (by kernel_rfl) (by kernel_rfl) (by kernel_rfl) (fun _ _ _ h => h) (Or.inl ⟨by rfl, ?_⟩) ⟨c0.out, c1.out⟩ ?_
              · intro w hSw
                obtain ⟨s0, s1⟩ := hSw
                go_simp
              try simp only [Act.put]
              refine wpAnyC_take8 (i := 9) (oi := _) (v := I k) rfl (by kernel_rfl) (by kernel_rfl) (by kernel_rfl) (by kernel_rfl) (by kernel_rfl) (by kernel_rfl) (fun _ _ _ h => h) (Or.inl ⟨by rfl, ?_⟩) ⟨c0.out, c1.out⟩ ?_
              · intro w hSw
                obtain ⟨s0, s1⟩ := hSw
                go_simp
              try simp only [Act.put]
              refine wpAnyC_take8 (i := 10) (oi := _) (v := .pointer (some ⟨ab, k, none⟩)) rfl (by kernel_rfl) (by kernel_rfl) (by kernel_rfl) (by kernel_rfl) (by kernel_rfl) (by kernel_rfl) (fun _ _ _ h => h) (Or.inl ⟨by rfl, ?_⟩) ⟨c0.out, c1.out⟩ ?_
              · intro w hSw
                obtain ⟨s0, s1⟩ := hSw
                go_simp
              try simp only [Act.put]
              have ca := HW.out.abv hlt
              rw [getD_of (hmx2 _)] at ca
              have ya := HW.out.ab.frozen k
              simp only at ca ya
              refine wpAnyC_one (i := 11) (by kernel_rfl) rfl (fun K hK => ?_)
              go_simp
              obtain ⟨hw, hc⟩ := HW.out.putA (hmx2 _) 0
              simp only at hw hc
              rw [List.set_set] at hw
              have hb2 := HBB.out.setCell (p := ⟨ab, k, none⟩) HW.out.abg (I 0)
              replace HCH := Lib.hid (HCH.out.step hc)
              clear HW HBB hc HBX HFB HRF ca ya c0 c1
              generalize Wa.setCell ⟨ab, k, none⟩ (I 0) = Wb at *
              have HW := Lib.hid hw
              have HBB := Lib.hid hb2
              clear hw hb2
              have c0 := Lib.hid (show Wb.cell? ⟨g, 2, none⟩ = some (.slice (some ⟨ab, 0, none⟩) bs.length bs.length) from HW.out.c2)
              have c1 := Lib.hid (show Wb.cell? ⟨g, 3, none⟩ = some (.slice (some ⟨ob, 0, none⟩) bs.length bs.length) from HW.out.c3)
              refine hK.out _ _ (fun _ => ⟨c0.out, c1.out⟩) ?_
              clear hK K
              try simp only [Act.put, List.setIfInBounds_toArray, List.set_cons_zero, List.set_cons_succ]
              refine wpAnyC_take8 (i := 12) (oi := _) (v := .pointer (some ⟨ob, k, none⟩)) rfl (by kernel_rfl) (by kernel_rfl) (by kernel_rfl) (by kernel_rfl) (by kernel_rfl) (by kernel_rfl) (fun _ _ _ h => h) (Or.inl ⟨by rfl, ?_⟩) ⟨c0.out, c1.out⟩ ?_
              · intro w hSw
                obtain ⟨s0, s1⟩ := hSw
                go_simp
              try simp only [Act.put, List.setIfInBounds_toArray]
              have ca := HW.out.obv hlt
              rw [getD_of (hmx2 _)] at ca
              have ya := HW.out.ob.frozen k
              simp only at ca ya
              refine wpAnyC_one (i := 13) (by kernel_rfl) rfl (fun K hK => ?_)
              go_simp
              obtain ⟨hw, hc⟩ := HW.out.putO (hmx2 _) false
              simp only at hw hc
              rw [List.set_set] at hw
              have hb2 := HBB.out.setCell (p := ⟨ob, k, none⟩) HW.out.obg (.bool false)
              replace HCH := Lib.hid (HCH.out.step hc)
              clear HW HBB hc ca ya c0 c1
              generalize Wb.setCell ⟨ob, k, none⟩ (.bool false) = Wz at *
              have HBB := Lib.hid hb2
              have HWN := Lib.hid (show WS Wz base ⟨g, some ⟨bb, off, none⟩, bc, some ⟨fb, fo, none⟩, fc, ab, ob⟩ bs (mixS bs (valsV (tx1 l)) s st (k + 1)) (t + s) by rw [HMN.out, rt_low HG.out]; exact hw)
              clear hw hb2 hmx2 HMX HMN
              refine hK.out _ _ (fun h => absurd h (by decide)) ?_
              clear hK K
              try simp only [Act.put, List.setIfInBounds_toArray, List.set_cons_zero, List.set_cons_succ]
              refine wpAnyC_done (by kernel_rfl) ?_ _
              go_wp2
              go_roundg (bs.length - (k + 1))
              case measure => omega
              case rel => exact ⟨k + 1, rfl, by go_num, by omega, HWN, HCH, HBB⟩
          · have hin : k = bs.length := by omega
            subst hin
            have hw := HW.out
            rw [mixS_all HQL.out HLN.out] at hw
            have HO := Lib.hid (rover_any _ bs _ _ base wa hw hbn)
            have HWF := Lib.hid hw
            clear hw HW
            simp only at HO
            go_wp2_with fail
            refine HO.out.mono ?_
            rintro e Wf ⟨A9, c9, rfl, hrow, hb⟩
            clear HO
            have HF := Lib.hid (show RetStep w base ⟨g, bA, bc, fA, fc, ab, ob⟩ bs st t (tx1 l) s (.returned (.tuple #[.slice A9 (overL bs (stepL bs (valsV (tx1 l)) s st)).length c9, I 0])) Wf from ⟨fun k => absurd HE.out k, fun _ => ⟨A9, c9, rfl, hrow.less HCH.out.kw.size, HWF.out.call hb⟩, HCH.out.below hb, HBB.out.trans (hb.mono (Nat.le_trans HWF.out.ge (Nat.le_of_lt HWF.out.blk.lt)))⟩)
            clear hrow hb HWF HCH HBB
            go_wp2
            go_ret2
            exact HF.out
    · have HE := Lib.hid (show stepE bs.length (tx1 l) s t = 3 by rw [stepE, if_neg (fun k => k HCV.out), if_pos (by rw [LT.out]; exact hnl)])
      have tn : ((n : Int) != (bs.length : Int)) = true := bne_iff_ne.2 (by omega)
      go_enter Tryz.func9, Tryz.ntmps9
      go_wp2_with fail
      refine HC.out.mono ?_
      rintro e w1 ⟨rfl, hb⟩
      clear HC
      replace c0 := cell_below c0 hb
      replace c4 := cell_below c4 hb
      have HB := Lib.hid hb
      clear hb
      go_wp2
      go_ret2
      exact step_err HE.out (by decide) H.out HB.out
  · have HE := Lib.hid (show stepE bs.length (tx1 l) s t = chkV (tx1 l) by rw [stepE, if_pos e])
    have HNE := Lib.hid e
    have tc : (chkV (tx1 l) != 0) = true := bne_iff_ne.2 e
    clear e
    generalize chkV (tx1 l) = cc at *
    go_enter Tryz.func9, Tryz.ntmps9
    go_wp2_with fail
    refine HC.out.mono ?_
    rintro e w1 ⟨rfl, hb⟩
    clear HC
    replace c0 := cell_below c0 hb
    replace c4 := cell_below c4 hb
    have HB := Lib.hid hb
    clear hb
    go_wp2
    go_ret2
    exact step_err HE.out HNE.out H.out HB.out
end Go.Proofs.YtfigffaghaaaoaaGreatDoor
