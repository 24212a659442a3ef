/- Tables of linear programs in memory. matrix.Text: rows of texts that the call owns. slices.Repeat at vectors of texts, of one element. -/
import Derived.Test.YtcgfdfdcbamceaaGreatDoorXAS
import Derived.Test.YtcgfdfdcbamceaaGreatDoorXBB
import Derived.Test.YtcgfdfdcbamceaaGreatDoorXAY
import Derived.Test.YtcgfdfdcbamceaaGreatDoorXG
import Derived.Laws.CopyOwn
import Derived.Deep.RegionLaw
namespace Go.Proofs.YtcgfdfdcbamceaaGreatDoor
open Go.RowKit
structure Far (base b : Nat) (w w' : World) : Prop where
 below : Below base w w'
 kw : Kw w w'
 blk : ∀ x, x ≠ b → x < w.heap.size → w'.heap[x]? = w.heap[x]?
section
variable {base b : Nat} {w w' w2 : World}
theorem Far.size (h : Far base b w w') : w.heap.size ≤ w'.heap.size := h.kw.size
theorem Far.trans (h : Far base b w w') (k : Far base b w' w2) : Far base b w w2 :=
 ⟨h.below.trans k.below, h.kw.trans k.kw, fun x hx hl => (k.blk x hx (Nat.lt_of_lt_of_le hl h.size)).trans (h.blk x hx hl)⟩
theorem Far.call (h : Below w.heap.size w w') (hb : base ≤ w.heap.size) : Far base b w w' := ⟨h.mono hb, kw_below h, fun x _ hl => h.block x hl⟩
theorem Far.then_ (h : Far base b w w') (k : Below w'.heap.size w' w2) (hb : base ≤ w.heap.size) : Far base b w w2 := h.trans (Far.call k (Nat.le_trans hb h.size))
theorem Far.cell (h : Far base b w w') {p : Addr} {v : Value} (hp : w.cell? p = some v) (hne : p.block ≠ b) : w'.cell? p = some v := by
 rw [World.cell?_of_block (h.blk p.block hne (World.block_lt_of_cell? w p hp))]
 exact hp
theorem Far.blk_ (h : Far base b w w') {g : Nat} {t : TypeId} {cs : Array Value} (hB : Blk w g t cs) (hne : g ≠ b) : Blk w' g t cs := (h.blk g hne hB.lt).trans hB
theorem Far.row (h : Far base b w w') {B : Nat} {v : Value} {qs : List Rat} (hr : RRow w B v qs) (hne : v.ownBlock ≠ some b) : RRow w' B v qs :=
 hr.keep h.kw fun g hg => h.blk g (fun e => hne (by rw [hg, e])) (hr.lt hg).2
theorem Far.nrow (h : Far base b w w') {B : Nat} {e : TypeId} {v : Value} {xs : List Value} (hr : NRow w B e v xs) (hne : v.ownBlock ≠ some b) : NRow w' B e v xs :=
 hr.keep fun g hg => h.blk g (fun e => hne (by rw [hg, e])) (hr.blk hg).2.1
theorem Far.lm (h : Far base b w w') {B : Nat} {v u : Value} {vs : List Value} {m : List (List Rat)} {i : Nat} {q : List Rat} (hL : LM w B v vs m) (hu : vs[i]? = some u) (hb : u.ownBlock = some b) (hi : i < m.length) (_hq : q.length = (m.getD i []).length) (hr : RRow w' B u q) : LM w' B v vs (m.set i q) := by
 have hmi : m[i]? = some (m.getD i []) := by rw [List.getD_eq_getElem?_getD, List.getElem?_eq_getElem hi]; rfl
 have hrow := hL.inner i _ _ hu hmi
 obtain ⟨cur, hB⟩ := hrow.blk hb
 refine ⟨?_, fun j x qs h2 h3 => ?_, hL.apart⟩
 ·rw [List.length_set]
  exact hL.outer.keepO fun g hg => h.blk g (fun e => own_ne hL.outer hB (by decide) g hg e) (own_lt hL.outer hg).2.1
 ·by_cases hij : i = j
  ·subst hij
   rw [hu] at h2
   injection h2 with h2
   subst h2
   rw [List.getElem?_set_self hi] at h3
   injection h3 with h3
   rw [← h3]
   exact hr
  ·rw [List.getElem?_set_ne hij] at h3
   exact h.row (hL.inner j x qs h2 h3) fun e => hL.apart i j u x b hij hu h2 hb e
theorem Far.lm0 (h : Far base b w w') {B : Nat} {v : Value} {vs : List Value} {m : List (List Rat)} (hL : LM w B v vs m) {cur : Array Value} (hB : Blk w b ratT cur) (hne : ∀ (i : Nat) (u : Value), vs[i]? = some u → u.ownBlock ≠ some b) : LM w' B v vs m :=
 ⟨hL.outer.keepO fun g hg => h.blk g (fun e => own_ne hL.outer hB (by decide) g hg e) (own_lt hL.outer hg).2.1, fun j x qs h2 h3 => h.row (hL.inner j x qs h2 h3) (hne j x h2), hL.apart⟩
theorem Far.put4 {cs : Array Value} (hb : base ≤ b) (o : Nat) {u0 u1 u2 u3 : Value} (hk : Kw w (Proofs.YtcgfdfdcbamceaaGreatDoor.put4 w b o u0 u1 u2 u3)) : Far base b w (Proofs.YtcgfdfdcbamceaaGreatDoor.put4 w b o u0 u1 u2 u3) := by
 have := cs
 exact ⟨put4_below (Below.refl _ _) hb u0 u1 u2 u3, hk, fun x hx _ => put4_other w o u0 u1 u2 u3 hx⟩
end
abbrev tabT : TypeId := 112
structure TBx (w : World) (base g : Nat) (A : Option Addr) (cv : Nat) (vs : List Value) (bt ot ct : Nat) (Ab : Option Addr) (cb m V W : Nat) (t : TabQ) : Prop where
 blk : Blk w g tabT #[.slice A m cv, .slice (some ⟨bt, ot, none⟩) V ct, .slice Ab m cb, I t.cols]
 lm : LM w base (.slice A m cv) vs t.rows
 tg : RRow w base (.slice (some ⟨bt, ot, none⟩) V ct) t.tgt
 ba : NRow w base intT (.slice Ab m cb) (ints t.bas)
 sh : ShQ t m W
 hv : V = W + 1
 ap : ∀ (i : Nat) (u : Value), vs[i]? = some u → u.ownBlock ≠ some bt
section
variable {w w' : World} {base g cv bt ot ct cb m V W : Nat} {A Ab : Option Addr} {vs : List Value} {t : TabQ}
theorem TBx.call (h : TBx w base g A cv vs bt ot ct Ab cb m V W t) (hb : Below w.heap.size w w') : TBx w' base g A cv vs bt ot ct Ab cb m V W t :=
 ⟨h.blk.below hb h.blk.lt, h.lm.call hb, h.tg.call hb, h.ba.call hb, h.sh, h.hv, h.ap⟩
theorem TBx.ne_ty {b : Nat} {cur cs : Array Value} {t1 t2 : TypeId} (hB : Blk w b t1 cur) (hC : Blk w g t2 cs) (hne : t1 ≠ t2) : g ≠ b := fun e => by
 subst e
 unfold Blk at hB hC
 rw [hB] at hC
 injection hC with hC
 injection hC with _ ht
 exact hne ht
theorem TBx.row (h : TBx w base g A cv vs bt ot ct Ab cb m V W t) {i : Nat} (hi : i < m) : ∃ gv ov b o k, A = some ⟨gv, ov, none⟩ ∧ vs[i]? = some (.slice (some ⟨b, o, none⟩) V k) ∧ w.cell? ⟨gv, ov + i, none⟩ = some (.slice (some ⟨b, o, none⟩) V k) ∧
  RRow w base (.slice (some ⟨b, o, none⟩) V k) (t.rows.getD i []) ∧ g ≠ b ∧ gv ≠ b ∧ bt ≠ b ∧ b < w.heap.size ∧ gv < w.heap.size := by
 have hl := h.sh.len
 obtain ⟨gv, ov, cap, B, c, e, hb, hlt, hu, hc, hf, hr⟩ := h.lm.at_ (i := i) (by omega)
 have hlen : (t.rows.getD i []).length = V := by rw [h.hv]; exact h.sh.rowAt hi
 have hvw := h.hv
 rw [hlen] at hu hc hr
 injection e with e _ _
 have hq : (t.rows.getD i [])[0]? = some ((t.rows.getD i []).getD 0 0) := by rw [List.getD_eq_getElem?_getD (l := t.rows.getD i []), List.getElem?_eq_getElem (by omega)]; rfl
 obtain ⟨b, o, nb, B1, l1, c1, B2, l2, c2, rfl, hbl, _, _⟩ := hr.rv.form (k := 0) (by omega) _ hq
 obtain ⟨cur, hB⟩ := hr.blk (g := b) rfl
 obtain ⟨cs, hO⟩ : ∃ cs, Blk w gv rowT cs := by
  obtain ⟨g', off', cap', cur', e', _, hh, _⟩ := h.lm.outer.form (by omega)
  injection e' with e' _ _
  rw [e] at e'
  injection e' with e'
  injection e' with e1 _
  subst e1
  exact ⟨_, hh⟩
 exact ⟨gv, ov, b, o, c, e, hu, hc, hr, TBx.ne_ty hB h.blk (by decide), TBx.ne_ty hB hO (by decide), fun e => h.ap i _ hu (by rw [e]; rfl), hbl, hlt⟩
theorem TBx.rowCell {gv ov : Nat} (h : TBx w base g (some ⟨gv, ov, none⟩) cv vs bt ot ct Ab cb m V W t) {i b o k : Nat} (hi : i < m) (hu : vs[i]? = some (.slice (some ⟨b, o, none⟩) V k)) : w.cell? ⟨gv, ov + i, none⟩ = some (.slice (some ⟨b, o, none⟩) V k) := by
 obtain ⟨gv2, ov2, b2, o2, k2, e, hu2, hc, _⟩ := h.row hi
 injection e with e
 injection e with e1 e2 _
 subst e1 e2
 rw [hu] at hu2
 rw [hc]
 exact hu2.symm
theorem TBx.rowRow (h : TBx w base g A cv vs bt ot ct Ab cb m V W t) {i : Nat} {u : Value} (hi : i < m) (hu : vs[i]? = some u) : RRow w base u (t.rows.getD i []) := by
 have hl := h.sh.len
 exact h.lm.inner i _ _ hu (by rw [List.getD_eq_getElem?_getD, List.getElem?_eq_getElem (by omega)]; rfl)
theorem TBx.tgtNe {gv ov : Nat} (h : TBx w base g (some ⟨gv, ov, none⟩) cv vs bt ot ct Ab cb m V W t) (hm : 0 < m) : g ≠ bt ∧ gv ≠ bt ∧ bt < w.heap.size := by
 obtain ⟨cur, hB⟩ := h.tg.blk (g := bt) rfl
 have hl := h.sh.len
 obtain ⟨g', off', cap', cur', e', _, hh, _⟩ := h.lm.outer.form (by omega)
 obtain ⟨rfl, rfl⟩ := sl_inj e'
 exact ⟨TBx.ne_ty hB h.blk (by decide), TBx.ne_ty hB hh (by decide), hB.lt⟩
theorem TBx.el (h : TBx w base g A cv vs bt ot ct Ab cb m V W t) {i k b o c : Nat} (hi : i < m) (hk : k ≤ W) (hu : vs[i]? = some (.slice (some ⟨b, o, none⟩) V c)) :
  ∃ nb B1 l1 c1 B2 l2 c2, El w b (o + k * 4) (.bool nb) (.slice B1 l1 c1) (.bool false) (.slice B2 l2 c2) ∧ Rt w (.agg #[.bool nb, .slice B1 l1 c1, .bool false, .slice B2 l2 c2]) (ent t.rows i k) := by
 have hl := h.sh.len
 have hmi : t.rows[i]? = some (t.rows.getD i []) := by rw [List.getD_eq_getElem?_getD, List.getElem?_eq_getElem (by omega)]; rfl
 have hr := h.lm.inner i _ _ hu hmi
 have hlen : (t.rows.getD i []).length = V := by rw [h.hv]; exact h.sh.rowAt hi
 have hvw := h.hv
 have hq : (t.rows.getD i [])[k]? = some ((t.rows.getD i []).getD k 0) := by rw [List.getD_eq_getElem?_getD (l := t.rows.getD i []), List.getElem?_eq_getElem (by omega)]; rfl
 obtain ⟨b', o', nb, B1, l1, c1, B2, l2, c2, e, hbl, hC, hrt⟩ := hr.rv.form (k := k) (by omega) _ hq
 injection e with e
 injection e with e1 e2 _
 subst e1 e2
 obtain ⟨cur, hB⟩ := hr.blk (g := b) rfl
 exact ⟨nb, B1, l1, c1, B2, l2, c2, ⟨hC.c0, hC.c1, hC.c2, hC.c3, hB.frozen _, hB.frozen _, hB.frozen _, hB.frozen _⟩, hrt⟩
theorem ShQ.rows (h : ShQ t m W) {i : Nat} {q : List Rat} (hq : q.length = W + 1) : ShQ { t with rows := t.rows.set i q } m W :=
 ⟨by show (t.rows.set i q).length = m; rw [List.length_set]; exact h.len, fun r hr => by
  rcases List.mem_or_eq_of_mem_set hr with k | k
  ·exact h.row r k
  ·rw [k]; exact hq, h.tgt, h.bas⟩
theorem TBx.farRow (h : TBx w base g A cv vs bt ot ct Ab cb m V W t) {i b o k : Nat} (hi : i < m) (hu : vs[i]? = some (.slice (some ⟨b, o, none⟩) V k)) (F : Far base b w w') {q : List Rat} (hr : RRow w' base (.slice (some ⟨b, o, none⟩) V k) q) : TBx w' base g A cv vs bt ot ct Ab cb m V W { t with rows := t.rows.set i q } := by
 have hl := h.sh.len
 have hq : q.length = W + 1 := by have := hr.rv.len; have := h.hv; omega
 have hmi : t.rows[i]? = some (t.rows.getD i []) := by rw [List.getD_eq_getElem?_getD, List.getElem?_eq_getElem (by omega)]; rfl
 obtain ⟨cur, hB⟩ := (h.lm.inner i _ _ hu hmi).blk (g := b) rfl
 refine ⟨F.blk_ h.blk (TBx.ne_ty hB h.blk (by decide)), F.lm h.lm hu rfl (by omega) (by rw [hq, h.sh.rowAt hi]) hr, F.row h.tg (fun e => h.ap i _ hu (Eq.symm e)), F.nrow h.ba fun e => ?_, h.sh.rows hq, h.hv, h.ap⟩
 obtain ⟨_, _, cs, hC⟩ := h.ba.blk e
 exact TBx.ne_ty hB hC (by decide) rfl
theorem TBx.put (h : TBx w base g A cv vs bt ot ct Ab cb m V W t) {i k b o c : Nat} (hi : i < m) (hk : k ≤ W) (hu : vs[i]? = some (.slice (some ⟨b, o, none⟩) V c)) {u0 u1 u2 u3 : Value} {q : Rat} (hv : Rt w (.agg #[u0, u1, u2, u3]) q) :
  TBx (put4 w b (o + k * 4) u0 u1 u2 u3) base g A cv vs bt ot ct Ab cb m V W { t with rows := t.rows.set i ((t.rows.getD i []).set k q) } ∧ Kw w (put4 w b (o + k * 4) u0 u1 u2 u3) ∧ base ≤ b := by
 have hl := h.sh.len
 have hmi : t.rows[i]? = some (t.rows.getD i []) := by rw [List.getD_eq_getElem?_getD, List.getElem?_eq_getElem (by omega)]; rfl
 have hvw := h.hv
 obtain ⟨h1, h2, h3⟩ := (h.lm.inner i _ _ hu hmi).putEl (k := k) (by omega) hv
 exact ⟨h.farRow hi hu (Far.put4 (cs := #[]) h3 _ h2) h1, h2, h3⟩
theorem TBx.farTgt (h : TBx w base g A cv vs bt ot ct Ab cb m V W t) (F : Far base bt w w') {q : List Rat} (hr : RRow w' base (.slice (some ⟨bt, ot, none⟩) V ct) q) : TBx w' base g A cv vs bt ot ct Ab cb m V W { t with tgt := q } := by
 obtain ⟨cur, hB⟩ := h.tg.blk (g := bt) rfl
 refine ⟨F.blk_ h.blk (TBx.ne_ty hB h.blk (by decide)), F.lm0 h.lm hB h.ap, hr, F.nrow h.ba fun e => ?_, ⟨h.sh.len, h.sh.row, by show q.length = W + 1; rw [← h.hv]; exact hr.rv.len, h.sh.bas⟩, h.hv, h.ap⟩
 obtain ⟨_, _, cs, hC⟩ := h.ba.blk e
 exact TBx.ne_ty hB hC (by decide) rfl
theorem TBx.basAt (h : TBx w base g A cv vs bt ot ct Ab cb m V W t) {r : Nat} (hr : r < m) (c : Nat) : ∃ b o, Ab = some ⟨b, o, none⟩ ∧ base ≤ b ∧ b < w.heap.size ∧ w.cell? ⟨b, o + r, none⟩ = some (I (basF t r : Nat)) ∧ w.frozen? ⟨b, o + r, none⟩ = false ∧
  TBx (w.setCell ⟨b, o + r, none⟩ (I c)) base g A cv vs bt ot ct Ab cb m V W { t with bas := t.bas.set r c } ∧ Below base w (w.setCell ⟨b, o + r, none⟩ (I c)) := by
 have hbl := h.sh.bas
 have hil : (ints t.bas).length = m := by rw [ints_len, hbl]
 have hrow := h.ba.row
 rw [hil] at hrow
 obtain ⟨b, o, e, hlt, hcs⟩ := hrow.reads.2 (by omega)
 subst e
 obtain ⟨hb, _, cur, hB⟩ := own_lt hrow (g := b) rfl
 have hcell : w.cell? ⟨b, o + r, none⟩ = some (I (basF t r : Nat)) := hcs r _ (by
  unfold ints basF
  rw [List.getElem?_map, List.getD_eq_getElem?_getD, List.getElem?_eq_getElem (by omega)]
  rfl)
 have hkw : Kw w (w.setCell ⟨b, o + r, none⟩ (I c)) := kw_set hcell (noWord_int _) _
 have hfar : ∀ {x : Nat}, x ≠ b → (w.setCell ⟨b, o + r, none⟩ (I c)).heap[x]? = w.heap[x]? := fun hx => Below.heap_setCell _ _ _ _ hx
 refine ⟨b, o, rfl, hb, hlt, hcell, hB.frozen _, ⟨h.blk.far (p := ⟨b, o + r, none⟩) (TBx.ne_ty hB h.blk (by decide)) _, ⟨h.lm.outer.keepO fun g' hg' => hfar (own_ne h.lm.outer hB (by decide) g' hg'), fun i u qs a d => (h.lm.inner i u qs a d).keep hkw fun g' hg' => hfar fun e => ?_, h.lm.apart⟩,
  h.tg.keep hkw fun g' hg' => hfar fun e => ?_, ?_, ⟨h.sh.len, h.sh.row, h.sh.tgt, by show (t.bas.set r c).length = m; rw [List.length_set]; exact hbl⟩, h.hv, h.ap⟩, (Below.refl _ _).setCell (p := ⟨b, o + r, none⟩) hb _⟩
 ·obtain ⟨cs, hC⟩ := (h.lm.inner i u qs a d).blk hg'
  exact TBx.ne_ty hB hC (by decide) e
 ·obtain ⟨cs, hC⟩ := h.tg.blk hg'
  exact TBx.ne_ty hB hC (by decide) e
 ·have hset := Row.set_at hrow (j := r) (by omega) (I c)
  refine ⟨?_, fun g' o' n' hg' => ?_, fun u hu => ?_⟩
  ·show Row _ base intT 1 _ (ints (t.bas.set r c)).length (ints (t.bas.set r c))
   rw [ints_len, List.length_set, hbl]
   unfold ints at hset ⊢
   rw [List.map_set]
   exact hset
  ·obtain rfl : b = g' := by simpa [Value.ownBlock] using hg'
   intro e
   rcases Nat.decEq o' (o + r) with hne | rfl
   ·rw [World.cell?_setCell_other _ _ _ _ (by intro h2; injection h2 with _ h2; exact hne h2.symm)] at e
    exact h.ba.nw b o' n' rfl e
   ·rw [World.cell?_setCell_same w _ _ hcell] at e
    exact noWord_int _ n' (Option.some.inj e.symm)
  ·obtain ⟨x, _, rfl⟩ := List.mem_map.1 hu
   exact ⟨noWord_int _, rfl⟩
theorem TBx.tgtPut (h : TBx w base g A cv vs bt ot ct Ab cb m V W t) {k : Nat} (hk : k < V) {u0 u1 u2 u3 : Value} {q : Rat} (hv : Rt w (.agg #[u0, u1, u2, u3]) q) :
  TBx (put4 w bt (ot + k * 4) u0 u1 u2 u3) base g A cv vs bt ot ct Ab cb m V W { t with tgt := t.tgt.set k q } ∧ Kw w (put4 w bt (ot + k * 4) u0 u1 u2 u3) ∧ base ≤ bt := by
 obtain ⟨h1, h2, h3⟩ := h.tg.putEl hk hv
 exact ⟨h.farTgt (Far.put4 (cs := #[]) h3 _ h2) h1, h2, h3⟩
theorem TBx.tgtEl (h : TBx w base g A cv vs bt ot ct Ab cb m V W t) {k : Nat} (hk : k < V) : ∃ nb B1 l1 c1 B2 l2 c2, El w bt (ot + k * 4) (.bool nb) (.slice B1 l1 c1) (.bool false) (.slice B2 l2 c2) ∧ Rt w (.agg #[.bool nb, .slice B1 l1 c1, .bool false, .slice B2 l2 c2]) (t.tgt.getD k 0) := by
 have hl : t.tgt.length = V := h.tg.rv.len
 obtain ⟨b', o', nb, B1, l1, c1, B2, l2, c2, e, hbl, hC, hrt⟩ := h.tg.rv.form (k := k) hk (t.tgt.getD k 0) (by rw [List.getD_eq_getElem?_getD, List.getElem?_eq_getElem (by omega)]; rfl)
 injection e with e
 injection e with e1 e2 _
 subst e1 e2
 obtain ⟨cur, hB⟩ := h.tg.blk (g := bt) rfl
 exact ⟨nb, B1, l1, c1, B2, l2, c2, ⟨hC.c0, hC.c1, hC.c2, hC.c3, hB.frozen _, hB.frozen _, hB.frozen _, hB.frozen _⟩, hrt⟩
end
structure TB0 (w : World) (base g : Nat) (A : Option Addr) (cv : Nat) (vs : List Value) (tv : Value) (Ab : Option Addr) (cb m V W : Nat) (t : TabQ) : Prop where
 blk : Blk w g tabT #[.slice A m cv, tv, .slice Ab m cb, I t.cols]
 lm : LM w base (.slice A m cv) vs t.rows
 ba : NRow w base intT (.slice Ab m cb) (ints t.bas)
 len : t.rows.length = m
 row : ∀ r ∈ t.rows, r.length = W + 1
 bas : t.bas.length = m
 hv : V = W + 1
section
variable {w w' : World} {base g cv cb m V W : Nat} {A Ab : Option Addr} {vs : List Value} {tv : Value} {t : TabQ}
theorem TB0.call (h : TB0 w base g A cv vs tv Ab cb m V W t) (hb : Below w.heap.size w w') : TB0 w' base g A cv vs tv Ab cb m V W t :=
 ⟨h.blk.below hb h.blk.lt, h.lm.call hb, h.ba.call hb, h.len, h.row, h.bas, h.hv⟩
theorem kw_tab {b : Nat} {cs : Array Value} (hB : Blk w b tabT cs) (hn : ∀ u ∈ cs.toList, noWord u) (i : Nat) (u : Value) : Kw w (w.setCell ⟨b, i, none⟩ u) := kw_nw hB hn i u
theorem LM.far1 {v : Value} {vs : List Value} {m : List (List Rat)} {b i : Nat} {cs : Array Value} {u : Value} {T : TypeId} (h : LM w base v vs m) (hB : Blk w b T cs) (hk : Kw w (w.setCell ⟨b, i, none⟩ u)) (h1 : rowT ≠ T) (h2 : ratT ≠ T) : LM (w.setCell ⟨b, i, none⟩ u) base v vs m :=
 ⟨h.outer.keepO fun g' hg' => Below.heap_setCell _ _ _ _ (own_ne h.outer hB h1 g' hg'), fun i u qs a d => (h.inner i u qs a d).keep hk fun g' hg' => Below.heap_setCell _ _ _ _ fun e => by
  obtain ⟨cs', hC⟩ := (h.inner i u qs a d).blk hg'
  exact TBx.ne_ty hB hC (Ne.symm h2) e, h.apart⟩
theorem RRow.far1 {v : Value} {q : List Rat} {b i : Nat} {cs : Array Value} {u : Value} {T : TypeId} (h : RRow w base v q) (hB : Blk w b T cs) (hk : Kw w (w.setCell ⟨b, i, none⟩ u)) (h2 : ratT ≠ T) : RRow (w.setCell ⟨b, i, none⟩ u) base v q :=
 h.keep hk fun g' hg' => Below.heap_setCell _ _ _ _ fun e => by
  obtain ⟨cs', hC⟩ := h.blk hg'
  exact TBx.ne_ty hB hC (Ne.symm h2) e
theorem NRow.far1 {v : Value} {xs : List Value} {e : TypeId} {b i : Nat} {cs : Array Value} {u : Value} {T : TypeId} (h : NRow w base e v xs) (hB : Blk w b T cs) (h2 : e ≠ T) : NRow (w.setCell ⟨b, i, none⟩ u) base e v xs :=
 h.keep fun g' hg' => Below.heap_setCell _ _ _ _ (own_ne h.row hB h2 g' hg')
theorem TB0.tgtSet (h : TB0 w base g A cv vs tv Ab cb m V W t) {bt ot ct : Nat} {q : List Rat} (hr : RRow w base (.slice (some ⟨bt, ot, none⟩) V ct) q) (hn : ∀ (i : Nat) (u : Value), vs[i]? = some u → u.ownBlock ≠ some bt) (htv : noWord tv) (hg : base ≤ g) :
  TBx (w.setCell ⟨g, 1, none⟩ (.slice (some ⟨bt, ot, none⟩) V ct)) base g A cv vs bt ot ct Ab cb m V W { t with tgt := q } ∧ Kw w (w.setCell ⟨g, 1, none⟩ (.slice (some ⟨bt, ot, none⟩) V ct)) ∧ Below base w (w.setCell ⟨g, 1, none⟩ (.slice (some ⟨bt, ot, none⟩) V ct)) := by
 have hk := kw_tab h.blk (fun u hu => by
  simp only [List.mem_cons, List.not_mem_nil, or_false] at hu
  rcases hu with rfl | rfl | rfl | rfl
  ·exact noWord_slice _ _ _
  ·exact htv
  ·exact noWord_slice _ _ _
  ·exact noWord_int _) 1 (.slice (some ⟨bt, ot, none⟩) V ct)
 exact ⟨⟨h.blk.set_ 1 _, h.lm.far1 h.blk hk (by decide) (by decide), hr.far1 h.blk hk (by decide), h.ba.far1 h.blk (by decide), ⟨h.len, h.row, by show q.length = W + 1; rw [← h.hv]; exact hr.rv.len, h.bas⟩, h.hv, hn⟩, hk, (Below.refl _ _).setCell (p := ⟨g, 1, none⟩) hg _⟩
end
theorem clearQ_elP {pr row : List Rat} (hl : row.length = pr.length) (c : Nat) : clearQ pr c row = elP 0 row.length (row.getD c 0) pr row := by
 refine list_ext_getD (by rw [clear_len hl, elP_len]) fun k => ?_
 rw [clear_at hl]
 by_cases hk : k < row.length
 ·unfold elP
  rw [getD_mapIdx row _ k 0 0 hk, if_pos ⟨by omega, hk⟩]
 ·rw [elP_at _ _ _ _ _ k (by omega), getD_ge pr k 0 (by omega), Rat.mul_zero, show ∀ x : Rat, x - 0 = x from fun x => by grind]
theorem clearQ_none {pr row : List Rat} (hl : row.length = pr.length) {c : Nat} (h : row.getD c 0 = 0) : clearQ pr c row = row := by
 refine list_ext_getD (clear_len hl c) fun k => ?_
 rw [clear_at hl, h]
 grind
theorem mul_one_any (x n : Int) (w : World) (hx : x = 1) (h0 : 0 ≤ n) (h1 : n ≤ 1099511627776) :
  Calls Tryz.prog 109 #[.int .u64 x, .int .u64 n] w fun e w' => e = .returned (.tuple #[.int .u64 0, .int .u64 n]) ∧ w = w' := by
 subst hx
 obtain ⟨k, rfl⟩ := Int.eq_ofNat_of_zero_le h0
 refine (Tryz.bits_Mul 1 k (by omega) (by omega) w).mono fun e w' ⟨he, hw⟩ => ⟨?_, hw.symm⟩
 rw [he]
 have e1 : 1 * k / 18446744073709551616 = 0 := by rw [Nat.div_eq_of_lt]; omega
 have e2 : 1 * k % 18446744073709551616 = k := by rw [Nat.mod_eq_of_lt] <;> omega
 rw [e1, e2]
 rfl
end Go.Proofs.YtcgfdfdcbamceaaGreatDoor
