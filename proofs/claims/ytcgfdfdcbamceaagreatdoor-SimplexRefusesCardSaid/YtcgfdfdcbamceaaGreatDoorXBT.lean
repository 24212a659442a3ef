/- Results of linear programs in memory. What simplex.proved decides: plain definitions, and what its walk needs besides. Regions that draw their order: all that may come up, one after the other in any order; laws for what comes up behind number c. No program here. Regions that draw their order: a chain of calls, and two allocations that may come up at any time. No program here. -/
import Derived.Test.YtcgfdfdcbamceaaGreatDoorXBR
import Derived.Test.YtcgfdfdcbamceaaGreatDoorXBS
import Derived.Test.YtcgfdfdcbamceaaGreatDoorXAY
import Derived.Test.YtcgfdfdcbamceaaGreatDoorXBH
import Derived.Test.YtcgfdfdcbamceaaGreatDoorXBI
import Derived.Test.YtcgfdfdcbamceaaGreatDoorXBB
namespace Go.Proofs.YtcgfdfdcbamceaaGreatDoor
open Go.RowKit
abbrev rsT : TypeId := 32
structure ResT where
 kind : Int
 x : List (List UInt8)
 y : List (List UInt8)
 ray : List (List UInt8)
 value : List UInt8
def ResV (w : World) (base : Nat) (v : Value) (r : ResT) : Prop := ∃ X lx cx Y ly cy R lr cr, v = .agg #[I r.kind, .slice X lx cx, .slice Y ly cy, .slice R lr cr, .string ⟨r.value.toArray⟩] ∧
 Row w base strT 1 (.slice X lx cx) lx ((mkS r.x).map Sv) ∧ Row w base strT 1 (.slice Y ly cy) ly ((mkS r.y).map Sv) ∧ Row w base strT 1 (.slice R lr cr) lr ((mkS r.ray).map Sv)
def RetPr (w : World) (r : ResT) (c : Int) (e : Ending) (w' : World) : Prop := ∃ v, e = .returned (.tuple #[v, I c]) ∧ ResV w' w.heap.size v r ∧ Below w.heap.size w w'
structure V5 (w : World) (g : Nat) (x0 x1 x2 x3 x4 : Value) : Prop where
 c0 : w.cell? ⟨g, 0, none⟩ = some x0
 c1 : w.cell? ⟨g, 1, none⟩ = some x1
 c2 : w.cell? ⟨g, 2, none⟩ = some x2
 c3 : w.cell? ⟨g, 3, none⟩ = some x3
 c4 : w.cell? ⟨g, 4, none⟩ = some x4
 f0 : w.frozen? ⟨g, 0, none⟩ = false
 f1 : w.frozen? ⟨g, 1, none⟩ = false
 f2 : w.frozen? ⟨g, 2, none⟩ = false
 f3 : w.frozen? ⟨g, 3, none⟩ = false
 f4 : w.frozen? ⟨g, 4, none⟩ = false
section
variable {w w' : World} {g : Nat} {x0 x1 x2 x3 x4 : Value}
theorem Blk.v5 {t : TypeId} (h : Blk w g t #[x0, x1, x2, x3, x4]) : V5 w g x0 x1 x2 x3 x4 := ⟨h.cell 0, h.cell 1, h.cell 2, h.cell 3, h.cell 4, h.frozen 0, h.frozen 1, h.frozen 2, h.frozen 3, h.frozen 4⟩
end
def set5 (w : World) (g : Nat) (u0 u1 u2 u3 u4 : Value) : World := ((((w.setCell ⟨g, 0, none⟩ u0).setCell ⟨g, 1, none⟩ u1).setCell ⟨g, 2, none⟩ u2).setCell ⟨g, 3, none⟩ u3).setCell ⟨g, 4, none⟩ u4
theorem set5_blk {w : World} {g : Nat} {t : TypeId} {x0 x1 x2 x3 x4 : Value} (h : Blk w g t #[x0, x1, x2, x3, x4]) (u0 u1 u2 u3 u4 : Value) : Blk (set5 w g u0 u1 u2 u3 u4) g t #[u0, u1, u2, u3, u4] := by
 have h5 := ((((h.set_ 0 u0).set_ 1 u1).set_ 2 u2).set_ 3 u3).set_ 4 u4
 simp only [List.setIfInBounds_toArray, List.set_cons_zero, List.set_cons_succ] at h5
 exact h5
theorem set5_other (w : World) {g k : Nat} (u0 u1 u2 u3 u4 : Value) (h : k ≠ g) : (set5 w g u0 u1 u2 u3 u4).heap[k]? = w.heap[k]? := by
 unfold set5
 rw [Below.heap_setCell _ _ _ _ h, Below.heap_setCell _ _ _ _ h, Below.heap_setCell _ _ _ _ h, Below.heap_setCell _ _ _ _ h, Below.heap_setCell _ _ _ _ h]
theorem below_set5 {w w' : World} {g : Nat} (hb : Below w.heap.size w w') (hg : w.heap.size ≤ g) (u0 u1 u2 u3 u4 : Value) : Below w.heap.size w (set5 w' g u0 u1 u2 u3 u4) :=
 ((((hb.setCell (p := ⟨g, 0, none⟩) hg u0).setCell (p := ⟨g, 1, none⟩) hg u1).setCell (p := ⟨g, 2, none⟩) hg u2).setCell (p := ⟨g, 3, none⟩) hg u3).setCell (p := ⟨g, 4, none⟩) hg u4
theorem res_end {w0 w : World} {b3 g : Nat} {r : ResT} {c k : Int} {xs ys rs : List (List UInt8)} {vs : List UInt8} {X Y R : Option Addr} {lx cx ly cy lr cr : Nat} {s : ByteArray} {x0 x1 x2 x3 x4 : Value} (hB : Blk w g rsT #[x0, x1, x2, x3, x4]) (hb : Below w0.heap.size w0 w) (hg : w0.heap.size ≤ g) (hgb : g < b3)
  (hr : r = ⟨k, xs, ys, rs, vs⟩) (hs : s = ⟨vs.toArray⟩) (hX : Row w b3 strT 1 (.slice X lx cx) lx ((mkS xs).map Sv)) (hY : Row w b3 strT 1 (.slice Y ly cy) ly ((mkS ys).map Sv)) (hR : Row w b3 strT 1 (.slice R lr cr) lr ((mkS rs).map Sv)) :
  V5 (set5 w g (I k) (.slice X lx cx) (.slice Y ly cy) (.slice R lr cr) (.string s)) g (I k) (.slice X lx cx) (.slice Y ly cy) (.slice R lr cr) (.string s) ∧
  RetPr w0 r c (.returned (.tuple #[.agg #[I k, .slice X lx cx, .slice Y ly cy, .slice R lr cr, .string s], I c])) (set5 w g (I k) (.slice X lx cx) (.slice Y ly cy) (.slice R lr cr) (.string s)) := by
 subst hr hs
 have hk : ∀ x, b3 ≤ x → x < w.heap.size → (set5 w g (I k) (.slice X lx cx) (.slice Y ly cy) (.slice R lr cr) (.string ⟨vs.toArray⟩)).heap[x]? = w.heap[x]? := fun x hx _ => set5_other w _ _ _ _ _ (by omega)
 have h0 : w0.heap.size ≤ b3 := by omega
 exact ⟨(set5_blk hB _ _ _ _ _).v5, _, rfl, ⟨_, _, _, _, _, _, _, _, _, rfl, (hX.keep hk).less h0, (hY.keep hk).less h0, (hR.keep hk).less h0⟩, below_set5 hb hg _ _ _ _ _⟩
def noRes : ResT := ⟨0, [], [], [], []⟩
def resTx (s : SolvedQ) : ResT := ⟨s.kind, s.x.map qText, s.y.map qText, s.ray.map qText, if s.kind = 0 then qText s.value else []⟩
structure FitS (s : SolvedQ) : Prop where
 lx : s.x.length ≤ 40
 ly : s.y.length ≤ 40
 lr : s.ray.length ≤ 40
 fx : s.x.all fitQ = true
 fy : s.y.all fitQ = true
 fr : s.ray.all fitQ = true
 fv : s.kind = 0 → fitQ s.value = true
def solP (a : MT) (b c : List (List UInt8)) : ResT := if chkP a b c = 0 then resTx (solveQ (valsM a) (valsV b) (valsV c)) else noRes
structure Good (m : List (List ByteArray)) (lb lc : List ByteArray) (na nc : Nat) : Prop where
 ok : OkQ (valsM (tx2 m)) (valsV (tx1 lb)) (valsV (tx1 lc)) na nc
 fit : FitS (solveQ (valsM (tx2 m)) (valsV (tx1 lb)) (valsV (tx1 lc)))
 va : Val2 m
 vb : Val1 lb
 vc : Val1 lc
theorem noWord5 (k : Int) (u1 u2 u3 : Value) (s : ByteArray) (h1 : noWord u1) (h2 : noWord u2) (h3 : noWord u3) : ∀ u ∈ (#[I k, u1, u2, u3, .string s] : Array Value).toList, noWord u := fun u hu => by
 simp only [List.mem_cons, List.not_mem_nil, or_false] at hu
 rcases hu with rfl | rfl | rfl | rfl | rfl
 ·exact noWord_int _
 ·exact h1
 ·exact h2
 ·exact h3
 ·exact fun m e => by cases e
theorem Row.farT {w : World} {base sz n : Nat} {e : TypeId} {v : Value} {xs : List Value} (h : Row w base e sz v n xs) {g o : Nat} {t : TypeId} {cs : Array Value} (hB : Blk w g t cs) (h2 : e ≠ t) (u : Value) : Row (w.setCell ⟨g, o, none⟩ u) base e sz v n xs :=
 h.keepO fun b hb => Below.heap_setCell w _ u b (own_ne h hB h2 b hb)
theorem Blk.farB {w : World} {g b o : Nat} {t : TypeId} {cs : Array Value} (h : Blk w g t cs) (hne : g ≠ b) (u : Value) : Blk (w.setCell ⟨b, o, none⟩ u) g t cs := (Below.heap_setCell w _ u g hne).trans h
theorem pos_iffZ {q : Rat} {b : Bool} (h : decide (0 < q) = b) : decide (0 < q.num.sign) = b := by
 rw [← h]
 congr 1
 have hn : 0 < q ↔ 0 < q.num := by
  rw [Rat.lt_iff]
  simp
 refine propext ⟨fun k => ?_, fun k => ?_⟩
 ·rcases Int.sign_trichotomy q.num with e | e | e
  ·exact hn.2 (Int.sign_eq_one_iff_pos.1 e)
  ·rw [e] at k
   exact absurd k (by decide)
  ·rw [e] at k
   exact absurd k (by decide)
 ·rw [Int.sign_eq_one_iff_pos.2 (hn.1 k)]
  decide
def nnP (l : List Rat) (i : Nat) : Bool := !decide (l.getD i 0 < 0)
def nnL (l : List Rat) : Bool := (List.range l.length).all (nnP l)
def bestP (a : MQ) (c y : List Rat) (m k : Nat) : Bool := !decide (mixQ a y m k < c.getD k 0)
def noneP (a : MQ) (y : List Rat) (m k : Nat) : Bool := !decide (mixQ a y m k < 0)
def freeP (a : MQ) (r : List Rat) (i : Nat) : Bool := !decide (0 < dotQ (a.getD i []) r)
def bestB (a : MQ) (b c x y : List Rat) (v : Rat) (m n : Nat) : Bool := (List.range n).all (bestP a c y m) && (feasQ a b x && (decide (dotQ c x = v) && decide (dotQ b y = v)))
def noneB (a : MQ) (b y : List Rat) (m n : Nat) : Bool := (List.range n).all (noneP a y m) && decide (dotQ b y < 0)
def freeB (a : MQ) (b c x r : List Rat) (m : Nat) : Bool := (List.range m).all (freeP a r) && (feasQ a b x && decide (0 < dotQ c r))
def provedB (k : Nat) (a : MQ) (b c x y r : List Rat) (v : Rat) (m n : Nat) : Bool :=
 nnL x && (nnL y && (nnL r && (if k = 0 then bestB a b c x y v m n else if k = 1 then noneB a b y m n else freeB a b c x r m)))
set_option maxRecDepth 100000 in
theorem mix_fitZ {a : MQ} {y : List Rat} (fa : ∀ i k, FitR 1000 (ent a i k)) (fy : ∀ i, FitR 1000 (y.getD i 0)) {m : Nat} (hm : m ≤ 40) (k : Nat) : FitR 200000 (mixQ a y m k) :=
 (fitR_sum (N := 2000) m fun j _ => fitR_mul (N := 1000) (fy j) (fa j k)).mono (by
  have := Nat.mul_le_mul_right 2001 hm
  omega)
theorem Row.ltB {w : World} {base sz n : Nat} {e : TypeId} {v : Value} {xs : List Value} (h : Row w base e sz v n xs) {g : Nat} (hg : v.ownBlock = some g) : base ≤ g ∧ g < w.heap.size := by
 rcases h.2 with ⟨h2, _⟩ | ⟨g2, off, cap, cur, hv2, hb, hh, _⟩
 ·rw [h2] at hg
  cases hg
 ·rw [hv2] at hg
  injection hg with hg
  subst hg
  exact ⟨hb, hh.lt⟩
def LMN (v : Value) (vs : List Value) (n g : Nat) : Prop := v.ownBlock ≠ some g ∧ ∀ (i : Nat) (u : Value), i < n → vs[i]? = some u → u.ownBlock ≠ some g
section
variable {w : World} {base g o : Nat} {v : Value} {vs : List Value} {m : List (List Rat)}
theorem LM.newN (h : LM w base v vs m) (hg : g < base) : LMN v vs m.length g :=
 ⟨fun e => by have := (h.outer.ltB e).1; omega, fun i u hi hu e => by
  have := ((h.inner i u (m[i]) hu (List.getElem?_eq_getElem hi)).lt e).1
  omega⟩
theorem LM.oldN (h : LM w base v vs m) (hg : w.heap.size ≤ g) : LMN v vs m.length g :=
 ⟨fun e => by have := (h.outer.ltB e).2; omega, fun i u hi hu e => by
  have := ((h.inner i u (m[i]) hu (List.getElem?_eq_getElem hi)).lt e).2
  omega⟩
theorem LM.off1 (h : LM w base v vs m) {u' : Value} (hk : Kw w (w.setCell ⟨g, o, none⟩ u')) (hne : LMN v vs m.length g) : LM (w.setCell ⟨g, o, none⟩ u') base v vs m :=
 ⟨h.outer.keepO fun b hb => Below.heap_setCell w _ u' b fun e => hne.1 (by rw [← show b = g from e]; exact hb),
  fun i u qs h1 h2 => (h.inner i u qs h1 h2).keep hk fun b hb => Below.heap_setCell w _ u' b fun e => hne.2 i u (List.getElem?_eq_some_iff.1 h2).1 h1 (by rw [← show b = g from e]; exact hb), h.apart⟩
end
structure RsW (w : World) (X : Option Addr) (lx : Nat) (Y : Option Addr) (ly : Nat) (R : Option Addr) (lr : Nat) (tx ty tr : List ByteArray) : Prop where
 vx : Reads w w.heap.size 1 X lx (tx.map Sv)
 vy : Reads w w.heap.size 1 Y ly (ty.map Sv)
 vr : Reads w w.heap.size 1 R lr (tr.map Sv)
theorem RsW.below {w w' : World} {X Y R : Option Addr} {lx ly lr : Nat} {tx ty tr : List ByteArray} (h : RsW w X lx Y ly R lr tx ty tr) (hb : Below w.heap.size w w') : RsW w' X lx Y ly R lr tx ty tr :=
 ⟨(h.vx.below hb).more hb.size, (h.vy.below hb).more hb.size, (h.vr.below hb).more hb.size⟩
structure OkV (tx : List ByteArray) (l : Nat) : Prop where
 sh : Sh1 tx
 va : Val1 tx
 len : tx.length = l
 le : l ≤ 40
 fit : ∀ i, FitR 1000 ((valsV (tx1 tx)).getD i 0)
end Go.Proofs.YtcgfdfdcbamceaaGreatDoor
namespace Go.Proofs.YtcgfdfdcbamceaaGreatDoor
open Go
section
variable {P : Program} {md : Region.Mode} {ops : Array Oper} {Q : Exit → Act → World → Prop} {S : World → Prop} {c : Nat}
def AllC (P : Program) (md : Region.Mode) (ops : Array Oper) (Q : Exit → Act → World → Prop) (S : World → Prop) (c fuel : Nat) (listed : Array Bool) (a : Act) (w : World) (l : List Nat) : Prop :=
 ∀ i ∈ l, wpOp P ops Q i (fun a' w' => ((listed.setIfInBounds i true).getD c true = false → S w') ∧ wpAnyC P md ops Q S c fuel (listed.setIfInBounds i true) a' w') a w
theorem AllC.nil {fuel : Nat} {listed : Array Bool} {a : Act} {w : World} : AllC P md ops Q S c fuel listed a w [] := fun _ h => by cases h
theorem AllC.cons {fuel : Nat} {listed : Array Bool} {a : Act} {w : World} {i : Nat} {o : Oper} {rs : List Nat} (ho : ops[i]? = some o)
  (h : ∀ K' : Act → World → Prop, Shut (∀ a w, ((listed.setIfInBounds i true).getD c true = false → S w) → wpAnyC P md ops Q S c fuel (listed.setIfInBounds i true) a w → K' a w) → if Region.wanted o (yielded ops a.tmps) = true then Oper.wp P o a w K' Q else K' (a.put o.dst undef) w)
  (hs : AllC P md ops Q S c fuel listed a w rs) : AllC P md ops Q S c fuel listed a w (i :: rs) := fun j hj => by
 rcases List.mem_cons.1 hj with rfl | hj
 ·exact wpOp_step ho fun K' hK => h K' (fun a w hS hW => hK a w ⟨hS, hW⟩)
 ·exact hs j hj
theorem wpAnyC_all {l : List Nat} {fuel : Nat} {listed : Array Bool} {a : Act} {w : World} (hr : Region.ready md ops listed = l) (hne : l.isEmpty = false) (h : AllC P md ops Q S c fuel listed a w l) : wpAnyC P md ops Q S c (fuel + 1) listed a w := by
 refine ⟨fun h0 => ?_, fun i hi => h i (by rw [← hr]; exact hi)⟩
 rw [← hr, h0] at hne
 cases hne
end
theorem wpAnyC_float {P : Program} {md : Region.Mode} {ops : Array Oper} {Q : Exit → Act → World → Prop} {S : World → Prop} {c : Nat} (N : Nat) (E : Nat → Bool → Bool) (L : Nat → Bool → Bool → Array Bool) (cs : Nat → Nat) (j1 j2 : Nat)
  (ho : ∀ i, i < N → (ops[cs i]?).isSome = true) (h1 : (ops[j1]?).isSome = true) (h2 : (ops[j2]?).isSome = true)
  (hLc : ∀ i p q, i < N → (L i p q).setIfInBounds (cs i) true = L (i + 1) p q) (hL1 : ∀ i q, i ≤ N → (L i false q).setIfInBounds j1 true = L i true q) (hL2 : ∀ i p, i ≤ N → (L i p false).setIfInBounds j2 true = L i p true)
  (hr : ∀ i p q, i ≤ N → ¬ (i = N ∧ p = true ∧ q = true) → ((Region.ready md ops (L i p q)).isEmpty = false ∧ (Region.ready md ops (L i p q)).all (fun j => ((if i < N ∧ E i p = true then [cs i] else []) ++ ((if p = true then [] else [j1]) ++ (if q = true then [] else [j2]))).contains j) = true))
  (Inv : Nat → Bool → Bool → Act → World → Prop) (hS : ∀ i p q a w, Inv i p q a w → S w)
  (Hc : ∀ i p q o a w K', i < N → E i p = true → ops[cs i]? = some o → Inv i p q a w → (∀ a' w', Inv (i + 1) p q a' w' → K' a' w') → if Region.wanted o (yielded ops a.tmps) = true then Oper.wp P o a w K' Q else K' (a.put o.dst undef) w)
  (H1 : ∀ i q o a w K', i ≤ N → ops[j1]? = some o → Inv i false q a w → (∀ a' w', Inv i true q a' w' → K' a' w') → if Region.wanted o (yielded ops a.tmps) = true then Oper.wp P o a w K' Q else K' (a.put o.dst undef) w)
  (H2 : ∀ i p o a w K', i ≤ N → ops[j2]? = some o → Inv i p false a w → (∀ a' w', Inv i p true a' w' → K' a' w') → if Region.wanted o (yielded ops a.tmps) = true then Oper.wp P o a w K' Q else K' (a.put o.dst undef) w)
  (rest : Nat) (hf : ∀ a w, Inv N true true a w → wpAnyC P md ops Q S c rest (L N true true) a w) :
  ∀ (n i : Nat) (p q : Bool) (a : Act) (w : World), i ≤ N → n = (N - i) + (if p = true then 0 else 1) + (if q = true then 0 else 1) → Inv i p q a w → wpAnyC P md ops Q S c (rest + n) (L i p q) a w
 | 0, i, p, q, a, w, hi, hn, hI => by
  cases p <;> cases q <;> simp at hn
  obtain rfl : i = N := by omega
  exact hf a w hI
 | n + 1, i, p, q, a, w, hi, hn, hI => by
  have ih := wpAnyC_float N E L cs j1 j2 ho h1 h2 hLc hL1 hL2 hr Inv hS Hc H1 H2 rest hf n
  have hnf : ¬ (i = N ∧ p = true ∧ q = true) := fun ⟨e1, e2, e3⟩ => by
   subst e1 e2 e3
   simp at hn
  have hrr := hr i p q hi hnf
  refine ⟨fun h0 => ?_, ?_⟩
  ·rw [h0] at hrr
   exact absurd hrr.1 (by decide)
  ·intro j hjr
   have hj := List.contains_iff_mem.1 (List.all_eq_true.1 hrr.2 j hjr)
   rcases List.mem_append.1 hj with hj | hj
   ·by_cases hlt2 : i < N ∧ E i p = true
    ·have hlt := hlt2.1
     rw [if_pos hlt2] at hj
     obtain rfl : j = cs i := by simpa using hj
     obtain ⟨o, hoo⟩ := Option.isSome_iff_exists.1 (ho i hlt)
     refine wpOp_step hoo fun K' hK => Hc i p q o a w K' hlt hlt2.2 hoo hI fun a' w' hI' => hK a' w' ⟨fun _ => hS _ _ _ _ _ hI', ?_⟩
     rw [hLc i p q hlt]
     exact ih (i + 1) p q a' w' hlt (by omega) hI'
    ·rw [if_neg hlt2] at hj
     cases hj
   ·rcases List.mem_append.1 hj with hj | hj
    ·cases p with
     | true => simp at hj
     | false =>
      obtain rfl : j = j1 := by simpa using hj
      obtain ⟨o, hoo⟩ := Option.isSome_iff_exists.1 h1
      refine wpOp_step hoo fun K' hK => H1 i q o a w K' hi hoo hI fun a' w' hI' => hK a' w' ⟨fun _ => hS _ _ _ _ _ hI', ?_⟩
      rw [hL1 i q hi]
      exact ih i true q a' w' hi (by simp at hn ⊢; omega) hI'
    ·cases q with
     | true => simp at hj
     | false =>
      obtain rfl : j = j2 := by simpa using hj
      obtain ⟨o, hoo⟩ := Option.isSome_iff_exists.1 h2
      refine wpOp_step hoo fun K' hK => H2 i p o a w K' hi hoo hI fun a' w' hI' => hK a' w' ⟨fun _ => hS _ _ _ _ _ hI', ?_⟩
      rw [hL2 i p hi]
      exact ih i p true a' w' hi (by simp at hn ⊢; omega) hI'
theorem wpAnyC_floatA {P : Program} {md : Region.Mode} {ops : Array Oper} {Q : Exit → Act → World → Prop} {S : World → Prop} {c : Nat} {a0 : Act} {w0 : World} (Inv : Act → Nat → Bool → Bool → Act → World → Prop) (rest N : Nat) (E : Nat → Bool → Bool) (L : Nat → Bool → Bool → Array Bool) (cs : Nat → Nat) (j1 j2 : Nat)
  (ho : ∀ i, i < N → (ops[cs i]?).isSome = true) (h1 : (ops[j1]?).isSome = true) (h2 : (ops[j2]?).isSome = true)
  (hLc : ∀ i p q, i < N → (L i p q).setIfInBounds (cs i) true = L (i + 1) p q) (hL1 : ∀ i q, i ≤ N → (L i false q).setIfInBounds j1 true = L i true q) (hL2 : ∀ i p, i ≤ N → (L i p false).setIfInBounds j2 true = L i p true)
  (hr : ∀ i p q, i ≤ N → ¬ (i = N ∧ p = true ∧ q = true) → ((Region.ready md ops (L i p q)).isEmpty = false ∧ (Region.ready md ops (L i p q)).all (fun j => ((if i < N ∧ E i p = true then [cs i] else []) ++ ((if p = true then [] else [j1]) ++ (if q = true then [] else [j2]))).contains j) = true))
  (hI : Inv a0 0 false false a0 w0) (hS : ∀ i p q a w, Inv a0 i p q a w → S w)
  (Hc : ∀ i p q o a w K', i < N → E i p = true → ops[cs i]? = some o → Inv a0 i p q a w → (∀ a' w', Inv a0 (i + 1) p q a' w' → K' a' w') → if Region.wanted o (yielded ops a.tmps) = true then Oper.wp P o a w K' Q else K' (a.put o.dst undef) w)
  (H1 : ∀ i q o a w K', i ≤ N → ops[j1]? = some o → Inv a0 i false q a w → (∀ a' w', Inv a0 i true q a' w' → K' a' w') → if Region.wanted o (yielded ops a.tmps) = true then Oper.wp P o a w K' Q else K' (a.put o.dst undef) w)
  (H2 : ∀ i p o a w K', i ≤ N → ops[j2]? = some o → Inv a0 i p false a w → (∀ a' w', Inv a0 i p true a' w' → K' a' w') → if Region.wanted o (yielded ops a.tmps) = true then Oper.wp P o a w K' Q else K' (a.put o.dst undef) w)
  (hf : ∀ a w, Inv a0 N true true a w → wpAnyC P md ops Q S c rest (L N true true) a w) : wpAnyC P md ops Q S c (rest + (N + 2)) (L 0 false false) a0 w0 :=
 wpAnyC_float N E L cs j1 j2 ho h1 h2 hLc hL1 hL2 hr (Inv a0) hS Hc H1 H2 rest hf (N + 2) 0 false false a0 w0 (Nat.zero_le N) (by simp) hI
end Go.Proofs.YtcgfdfdcbamceaaGreatDoor
