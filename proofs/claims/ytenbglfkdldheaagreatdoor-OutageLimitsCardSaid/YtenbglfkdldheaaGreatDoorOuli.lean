/- A network with greater limits: plain facts. The search for an overload that was none before. The branches of a copy get greater limits one after the other. OutageLimits: the walk. The reach of a network that is handed in: its slices and strings take at most reachBytes. OutageLimits returns true for every input: with greater limits no outage has more overloads. No conditions. The row's listed variables hold what the program's text lays (the card ties them). -/
import Derived.Test.YtenbglfkdldheaaGreatDoorOXH
import Derived.Test.YtenbglfkdldheaaGreatDoorOPK
import Derived.Test.YtenbglfkdldheaaGreatDoorODR
import Derived.ShutString
import Derived.ChangeMaps5
set_option maxRecDepth 100000
set_option maxHeartbeats 20000000
namespace Go.Proofs.YtenbglfkdldheaaGreatDoor
section
open Go.RowKit
def gN (p l : Int) : Int := wrap64 (l + max 0 (min p (wrap64 (100000 - l))))
def fT (p : Int) (b : BranchD) : BranchD := { b with limit := gN p b.limit, short := max b.short (gN p b.limit) }
def bB (p : Int) (n : NetD) : NetD := { n with branches := n.branches.map (fT p) }
theorem mS (p : Int) (n : NetD) : (bB p n).branches.length = n.branches.length := List.length_map _
theorem aJx (p : Int) (n : NetD) : cF (bB p n) = cF n := by
 show (n.branches.map (fT p)).map _ = _
 rw [List.map_map]
 rfl
theorem aNq (p : Int) (n : NetD) : toL (bB p n) = toL n := by
 show (n.branches.map (fT p)).map _ = _
 rw [List.map_map]
 rfl
theorem aQu (p : Int) (n : NetD) : bLQ (bB p n) = bLQ n := by
 show (n.branches.map (fT p)).map _ = _
 rw [List.map_map]
 rfl
theorem aQv (p : Int) (n : NetD) : cLQ (bB p n) = cLQ n := by
 show (n.branches.map (fT p)).map _ = _
 rw [List.map_map]
 rfl
theorem aQd (p : Int) (n : NetD) : aU (bB p n) = aU n := by
 show (n.branches.map (fT p)).map _ = _
 rw [List.map_map]
 rfl
theorem aJy (p : Int) (n : NetD) : aG (bB p n) = aG n := rfl
theorem aAu (p : Int) (n : NetD) : aC (bB p n) = aC n := by
 unfold aC
 rw [aQd, aJy]
theorem aPe (p : Int) (n : NetD) (inj : List Int) : rC (bB p n) inj = rC n inj := by
 have e : (bB p n).nodes = n.nodes := rfl
 unfold rC flN aPq aGs shN smN pP fwM nfN nbN bE
 rw [aJx, aNq, aQu, aQv, aAu, aJy, mS, e]
theorem uQ {α β : Type} (f : α → β) : ∀ (l : List α) (k : Nat), (l.map f).eraseIdx k = (l.eraseIdx k).map f
 | [], _ => rfl
 | _ :: _, 0 => rfl
 | a :: l, k + 1 => by
  rw [List.map_cons, List.eraseIdx_cons_succ, List.eraseIdx_cons_succ, List.map_cons, uQ f l k]
theorem aNa (p : Int) (n : NetD) (k : Nat) : wG (bB p n) k = bB p (wG n k) := by
 unfold wG bB
 simp only [uQ]
theorem aAv (p : Int) (n : NetD) : ∀ g, cG (bB p n) g = bB p (cG n g)
 | [] => rfl
 | k :: g => by rw [jF, jF, aAv p n g, aNa]
theorem aNb (p : Int) (n : NetD) (inj : List Int) (g : List Nat) : dY (bB p n) inj g = dY n inj g := by
 unfold dY
 rw [aAv, aPe]
theorem aNc (p : Int) (n : NetD) (g : List Nat) : nW (bB p n) g = nW n g := by
 unfold nW
 rw [show yS (bB p n) g = yS n g from funext fun k => by unfold yS; rw [aAv, aAu, aJx, aNq]]
theorem aCm {p l : Int} (_h0 : 0 ≤ p) (_hp : p < 50) (h1 : 0 ≤ l) (h2 : l ≤ 100000) : l ≤ gN p l ∧ gN p l ≤ 100000 := by
 unfold gN
 rw [IntWalk.wrap64_in (100000 - l) (by omega), IntWalk.wrap64_in _ (by omega)]
 omega
theorem aQe {p : Int} {b : BranchD} (h0 : 0 ≤ p) (hp : p < 50) (h : aT b = true) : aT (fT p b) = true := by
 have h1 : 0 ≤ b.limit ∧ b.limit ≤ 100000 := by
  unfold aT cV at h
  simp only [Bool.not_eq_true', Bool.or_eq_false_iff, decide_eq_false_iff_not] at h
  omega
 have h2 := aCm h0 hp h1.1 h1.2
 unfold aT cV fT at *
 simp only [Bool.not_eq_true', Bool.or_eq_false_iff, decide_eq_false_iff_not] at h ⊢
 omega
theorem aJz {p : Int} {n : NetD} (h0 : 0 ≤ p) (hp : p < 50) (h : bJ n = 0) : bJ (bB p n) = 0 := by
 have hV := oN h
 have hi : (bB p n).items = n.items := by
  have hb : (bB p n).branches.map (fun b => (b.name, [b.src, b.dst], aT b)) = n.branches.map fun b => (b.name, [b.src, b.dst], aT b) := by
   show (n.branches.map (fT p)).map _ = _
   rw [List.map_map]
   refine List.map_congr_left fun b hb => ?_
   have h4 := (hV.br b hb).2.2.2
   show (b.name, [b.src, b.dst], aT (fT p b)) = _
   rw [h4, aQe h0 hp h4]
  unfold NetD.items
  rw [hb]
  rfl
 unfold bJ at h ⊢
 rw [hi, mS]
 exact h
theorem aNd (p : Int) (n : NetD) : cS (bB p n) = cS n := by
 show (List.range n.nodes.length).map (fun (i : Nat) => at_ (aC (bB p n)) (at_ (aG n) (i : Int))) = _
 rw [aAu]
 rfl
theorem aNe {p : Int} {n : NetD} {inj : List Int} (h0 : 0 ≤ p) (hp : p < 50) (h : aM n inj = 0) : aM (bB p n) inj = 0 := by
 have hc := (gY h).1
 unfold aM at h ⊢
 rw [if_neg (fun k => k hc)] at h
 rw [aNd, if_neg (fun k => k (aJz h0 hp hc))]
 exact h
theorem aQf {p : Int} {n : NetD} (h0 : 0 ≤ p) (hp : p < 50) (hV : VNet n) (l : List Rat) : ∀ x ∈ ovN (bB p n) l, x ∈ ovN n l := by
 intro x hx
 unfold ovN ovP at hx ⊢
 rw [mS] at hx
 obtain ⟨i, hi, rfl⟩ := List.mem_map.1 hx
 obtain ⟨hr, ho⟩ := List.mem_filter.1 hi
 refine List.mem_map.2 ⟨i, List.mem_filter.2 ⟨hr, ?_⟩, rfl⟩
 unfold ovB at ho ⊢
 rw [show (bB p n).branches[i]? = (n.branches[i]?).map (fT p) from List.getElem?_map] at ho
 cases hb : n.branches[i]? with
 | none => rw [hb] at ho; cases ho
 | some b =>
  rw [hb] at ho
  have hl := aAr hV (List.mem_of_getElem? hb)
  have h2 := (aCm h0 hp hl.1 hl.2).1
  simp only [Option.map_some] at ho
  have h3 := of_decide_eq_true ho
  have h4 : ((b.limit : Int) : Rat) ≤ ((gN p b.limit : Int) : Rat) := Rat.intCast_le_intCast.2 h2
  have h5 : ((gN p b.limit : Int) : Rat) < lN (l.getD i 0) := h3
  refine decide_eq_true ?_
  grind
theorem aPf {p : Int} {n : NetD} (h0 : 0 ≤ p) (hp : p < 50) (hV : VNet n) (inj : List Int) (k : Nat) : (kY (bB p n) inj k).1 = (kY n inj k).1 ∧ ∀ x ∈ (kY (bB p n) inj k).2, x ∈ (kY n inj k).2 := by
 unfold kY
 rw [aNc, aNb]
 split
 ·exact ⟨rfl, aQf h0 hp hV _⟩
 ·exact ⟨rfl, fun x hx => hx⟩
theorem aKa (l : List Int) (n : Nat) (x : Int) (A : Option Addr) (c : Nat) (w : World) (hr : Reads w w.heap.size 1 A n (l.map I)) (hb : n ≤ 1000000) :
  Calls Tryz.prog 21 #[.slice A n c, I x] w fun e w' => e = .returned (.bool (l.contains x)) ∧ w' = w := by
 obtain rfl : l.length = n := by have := hr.1; simpa using this
 by_cases h0 : l.length = 0
 ·obtain rfl : l = [] := List.eq_nil_of_length_eq_zero h0
  exact (Tryz.slices_Contains_int_empty A c x w).mono fun e w' ⟨h1, h2⟩ => ⟨by simpa using h1, h2⟩
 ·obtain ⟨b, off, rfl, _, hc⟩ := hr.2 (by omega)
  refine (Tryz.slices_Contains_int b off l.length c l x w lR (by omega) (fun j hj => hc j _ (by simp [hj]))).mono fun e w' ⟨h1, h2⟩ => ⟨by rw [h1, List.take_of_length_le lR], h2⟩
structure OvAt (w : World) (tb ib : Nat) (L : List Int) : Prop where
 ex : ∃ b off n c i B d, w.cell? ⟨tb, 0, none⟩ = some (.slice (some ⟨b, off, none⟩) n c) ∧ w.cell? ⟨ib, 0, none⟩ = some (I (i : Nat)) ∧ i < n ∧ n ≤ 1000000 ∧ w.cell? ⟨b, off + i * 3 + 2, none⟩ = some (.slice B L.length d) ∧ Reads w w.heap.size 1 B L.length (L.map I)
 le : L.length ≤ 1000000
theorem aKb (x : Int) (tb ib : Nat) (L : List Int) (w : World) (h : OvAt w tb ib L) : Calls Tryz.prog 26 #[I x, .pointer (some ⟨tb, 0, none⟩), .pointer (some ⟨ib, 0, none⟩)] w fun e w' => e = .returned (.bool (!L.contains x)) ∧ w' = w := by
 obtain ⟨⟨b, off, n, c, i, B, d, h1, h2, hi, hn, h3, hr⟩, hle⟩ := h
 have HC := aH (aKa L L.length x B d w hr hle)
 clear hr hle
 generalize L.length = m at *
 generalize L.contains x = bb at *
 go_enter Tryz.func26, Tryz.ntmps26
 go_wp2_with fail
 refine HC.out.mono ?_
 rintro e w1 ⟨rfl, rfl⟩
 clear HC
 go_wp2
 go_ret
 exact ⟨rfl, rfl⟩
theorem aKc (ys : List Int) (n : Nat) (A : Option Addr) (c tb ib : Nat) (L : List Int) (w : World) (hy : Reads w w.heap.size 1 A n (ys.map I)) (hn : n ≤ 1000000) (h : OvAt w tb ib L) (hs : ∀ y ∈ ys, y ∈ L) :
  Calls Tryz.prog 75 #[.slice A n c, .func (.func 26) #[] #[.pointer (some ⟨tb, 0, none⟩), .pointer (some ⟨ib, 0, none⟩)]] w fun e w' => e = .returned (I (-1)) ∧ w' = w := by
 have HY := aH hy
 have HL := aH (show ys.length = n by have := hy.1; simpa using this)
 have HS := aH hs
 have HO := aH h
 clear hy hs h
 go_enter Tryz.func75, Tryz.ntmps75
 go_wp2
 go_loopg [8] (n - 0) (fun r v wr => ∃ k : Nat, r = n - k ∧ v = I k ∧ k ≤ n ∧ wr = w)
 case atStart => exact ⟨0, rfl, rfl, by omega, rfl⟩
 case round =>
  obtain ⟨k, rfl, rfl, hk, rfl⟩ := hrel
  by_cases hlt : k < n
  ·obtain ⟨b, off, rfl, _, hc⟩ := HY.out.2 (by omega)
   obtain ⟨y, hy⟩ : ∃ y, ys[k]? = some y := ⟨_, gE (by rw [HL.out]; exact hlt)⟩
   have x1 := hc k (I y) (by rw [List.getElem?_map, hy]; rfl)
   have hct : L.contains y = true := List.contains_iff_mem.2 (HS.out y (List.mem_of_getElem? hy))
   have HC := aH (aKb y tb ib L wr HO.out)
   rw [hct] at HC
   clear hc hy hct
   go_wp2_with fail
   refine HC.out.mono ?_
   rintro e w1 ⟨rfl, rfl⟩
   clear HC
   go_wp2
   go_roundg (n - (k + 1))
   case measure => omega
   case rel => exact ⟨k + 1, rfl, by go_num, by omega, rfl⟩
  ·go_wp2
   go_ret
   exact ⟨rfl, rfl⟩
theorem aKd (ys : List Int) (n : Nat) (A : Option Addr) (c tb ib : Nat) (L : List Int) (w : World) (hy : Reads w w.heap.size 1 A n (ys.map I)) (hn : n ≤ 1000000) (h : OvAt w tb ib L) (hs : ∀ y ∈ ys, y ∈ L) :
  Calls Tryz.prog 25 #[.slice A n c, .func (.func 26) #[] #[.pointer (some ⟨tb, 0, none⟩), .pointer (some ⟨ib, 0, none⟩)]] w fun e w' => e = .returned (.bool false) ∧ w' = w := by
 have HX := aH (aKc ys n A c tb ib L w hy hn h hs)
 clear hy h hs
 go_enter Tryz.func25, Tryz.ntmps25
 go_wp2_with fail
 refine HX.out.mono ?_
 rintro e w1 ⟨rfl, rfl⟩
 clear HX
 go_wp2
 go_ret
 exact ⟨rfl, rfl⟩
def upB (p : Int) (j : Nat) (l : List BranchD) : List BranchD := (l.take j).map (fT p) ++ l.drop j
def upN (p : Int) (j : Nat) (n : NetD) : NetD := { n with branches := upB p j n.branches }
theorem aPg (p : Int) (j : Nat) (l : List BranchD) : (upB p j l).length = l.length := by
 unfold upB
 rw [List.length_append, List.length_map, ← List.length_append, List.take_append_drop]
theorem aQj (p : Int) (n : NetD) : upN p 0 n = n := rfl
theorem aPh (p : Int) (n : NetD) : upN p n.branches.length n = bB p n := by
 unfold upN upB bB
 rw [List.take_of_length_le lR, List.drop_of_length_le lR, List.append_nil]
theorem uR (x : Int) (b : BranchD) : ∀ (l : List BranchD) (i : Nat), l[i]? = some b → aF BranchD.cells (l.set i { b with limit := x }) = (aF BranchD.cells l).set (i * 9 + 6) (I x)
 | [], i, h => by simp at h
 | c :: l, 0, h => by
  obtain rfl : c = b := by simpa using h
  simp [aF, BranchD.cells]
 | c :: l, i + 1, h => by
  have ih := uR x b l i (by simpa using h)
  have e : (i + 1) * 9 + 6 = (i * 9 + 6) + 9 := by omega
  rw [e]
  simp only [aF, List.set_cons_succ, List.flatMap_cons] at ih ⊢
  rw [ih]
  rfl
theorem uS (x : Int) (b : BranchD) : ∀ (l : List BranchD) (i : Nat), l[i]? = some b → aF BranchD.cells (l.set i { b with short := x }) = (aF BranchD.cells l).set (i * 9 + 7) (I x)
 | [], i, h => by simp at h
 | c :: l, 0, h => by
  obtain rfl : c = b := by simpa using h
  simp [aF, BranchD.cells]
 | c :: l, i + 1, h => by
  have ih := uS x b l i (by simpa using h)
  have e : (i + 1) * 9 + 7 = (i * 9 + 7) + 9 := by omega
  rw [e]
  simp only [aF, List.set_cons_succ, List.flatMap_cons] at ih ⊢
  rw [ih]
  rfl
theorem aQg {p : Int} {j : Nat} {l : List BranchD} {b : BranchD} (h : l[j]? = some b) : (upB p j l)[j]? = some b := by
 obtain ⟨h1, _⟩ := List.getElem?_eq_some_iff.1 h
 unfold upB
 rw [List.getElem?_append_right (by rw [List.length_map, List.length_take]; omega), List.length_map, List.length_take, Nat.min_eq_left (by omega), Nat.sub_self, List.getElem?_drop]
 exact h
theorem aCn {p : Int} : ∀ {j : Nat} {l : List BranchD} {b : BranchD}, l[j]? = some b → upB p (j + 1) l = (upB p j l).set j (fT p b)
 | _, [], _, h => by simp at h
 | 0, c :: l, b, h => by
  obtain rfl : c = b := by simpa using h
  rfl
 | j + 1, c :: l, b, h => by
  have ih := aCn (p := p) (j := j) (l := l) (b := b) (by simpa using h)
  unfold upB at ih ⊢
  rw [List.take_succ_cons, List.map_cons, List.drop_succ_cons, List.cons_append, ih]
  rfl
theorem aKe {p : Int} {n : NetD} (h : NetOk n) : NetOk (bB p n) :=
 ⟨h.nodes, h.switches, fun s hs => by
  obtain ⟨b, hb, rfl⟩ := List.mem_map.1 hs
  exact h.branches b hb, h.gens, h.loads, h.stores⟩
def mB (n : NetD) (j : Nat) (b : BranchD) : NetD := { n with branches := n.branches.set j b }
theorem aKf {w : World} {base : Nat} {n : NetD} {v : NetV} (h : NetRows w base n v) (hn : 0 < n.branches.length) : ∃ g off cur, v.ba = some ⟨g, off, none⟩ ∧ Blk w g 41 cur := by
 obtain ⟨g, off, cap, cur, hv, _, hB, _⟩ := (h.r2 hn).form hn
 injection hv with hA _ hc
 exact ⟨g, off, cur, hA, hB⟩
theorem aNr {w : World} {base g off : Nat} {n : NetD} {v : NetV} (h : NetRows w base n v) (hA : v.ba = some ⟨g, off, none⟩) {j : Nat} {b : BranchD} (hb : n.branches[j]? = some b) : base ≤ g ∧
  w.cell? ⟨g, off + j * 9 + 6, none⟩ = some (I b.limit) ∧ w.cell? ⟨g, off + j * 9 + 7, none⟩ = some (I b.short) ∧ (∀ i, w.frozen? ⟨g, i, none⟩ = false) ∧
  (∀ x, NetRows (w.setCell ⟨g, off + j * 9 + 6, none⟩ (I x)) base (mB n j { b with limit := x }) v) ∧ (∀ x, NetRows (w.setCell ⟨g, off + j * 9 + 7, none⟩ (I x)) base (mB n j { b with short := x }) v) := by
 obtain ⟨hj, _⟩ := List.getElem?_eq_some_iff.1 hb
 have h2 := h.r2 (by omega)
 obtain ⟨g', off', cap, cur, hv, hg, hB, _⟩ := h2.form (by omega)
 injection hv with hA' _ hc
 rw [hA] at hA'
 injection hA' with hA'
 injection hA' with e1 e2
 subst e1 e2
 rw [hA] at h2
 have hat := fun k u hu => h2.cell_at (j := j * 9 + k) (u := u) hu
 have hcs : ∀ k u, (b.cells)[k]? = some u → (aF BranchD.cells n.branches)[j * 9 + k]? = some u := fun k u hu => (mC (f := BranchD.cells) (sz := 9) (fun _ => rfl) _ j b hb k (List.getElem?_eq_some_iff.1 hu).1).trans hu
 have k6 := hat 6 _ (hcs 6 _ rfl)
 have k7 := hat 7 _ (hcs 7 _ rfl)
 rw [← Nat.add_assoc] at k6 k7
 refine ⟨hg, k6, k7, fun i => hB.frozen i, fun x => ?_, fun x => ?_⟩
 ·refine ⟨fun q => (h.r0 q).setNet hB (by decide) _ _, fun q => (h.r1 q).setNet hB (by decide) _ _, fun _ => ?_, fun q => (h.r3 q).setNet hB (by decide) _ _, fun q => (h.r4 q).setNet hB (by decide) _ _, fun q => (h.r5 q).setNet hB (by decide) _ _⟩
  have h3 := h2.set_at (j := j * 9 + 6) (by omega) (I x)
  rw [← uR x b _ _ hb, ← Nat.add_assoc] at h3
  rw [show (mB n j { b with limit := x }).branches = n.branches.set j { b with limit := x } from rfl, List.length_set, hA]
  exact h3
 ·refine ⟨fun q => (h.r0 q).setNet hB (by decide) _ _, fun q => (h.r1 q).setNet hB (by decide) _ _, fun _ => ?_, fun q => (h.r3 q).setNet hB (by decide) _ _, fun q => (h.r4 q).setNet hB (by decide) _ _, fun q => (h.r5 q).setNet hB (by decide) _ _⟩
  have h3 := h2.set_at (j := j * 9 + 7) (by omega) (I x)
  rw [← uS x b _ _ hb, ← Nat.add_assoc] at h3
  rw [show (mB n j { b with short := x }).branches = n.branches.set j { b with short := x } from rfl, List.length_set, hA]
  exact h3
theorem aPi {p : Int} {j : Nat} {n : NetD} {b : BranchD} (h : n.branches[j]? = some b) : (upN p j n).branches[j]? = some b := aQg h
theorem aNf {n : NetD} {j : Nat} (b : BranchD) (h : j < n.branches.length) : (mB n j b).branches[j]? = some b := by
 show (n.branches.set j b)[j]? = _
 rw [List.getElem?_set_self h]
theorem aNg {p : Int} {j : Nat} {n : NetD} {b : BranchD} (h : n.branches[j]? = some b) : mB (mB (upN p j n) j { b with limit := gN p b.limit }) j { b with limit := gN p b.limit, short := max b.short (gN p b.limit) } = upN p (j + 1) n := by
 unfold upN
 rw [aCn h]
 unfold mB
 simp only [List.set_set]
 rfl
def MayO (w : World) (base : Nat) (u : Value) (n : NetD) (inj : List Int) : Prop := aM n inj = 0 → ∃ es, ResO w base u es (fS n inj n.branches.length)
theorem MayO.call {w w' : World} {base : Nat} {u : Value} {n : NetD} {inj : List Int} (h : MayO w base u n inj) (hb : Below w.heap.size w w') : MayO w' base u n inj := fun k => by
 obtain ⟨es, he⟩ := h k
 exact ⟨es, he.call hb⟩
theorem aNh {w : World} {n : NetD} {inj : List Int} {e : Ending} {w' : World} (h : uO w n inj e w') : ∃ A nu c, e = .returned (.tuple #[.slice A nu c, I (aM n inj)]) ∧ (nu = if aM n inj = 0 then n.branches.length else 0) ∧ MayO w' w.heap.size (.slice A nu c) n inj ∧ Below w.heap.size w w' := by
 obtain ⟨u, h1, h2, h3, h4⟩ := h
 by_cases hc : aM n inj = 0
 ·obtain ⟨es, hr⟩ := h2 hc
  have hrow := hr.row
  rw [jG] at hrow
  obtain ⟨A, c, rfl⟩ := hrow.val
  exact ⟨A, _, c, h1, by rw [if_pos hc], fun _ => ⟨es, hr⟩, h4⟩
 ·obtain rfl := h3 hc
  exact ⟨none, 0, 0, h1, by rw [if_neg hc], fun k => absurd k hc, h4⟩
theorem aPj (n : NetD) (l : List Rat) : (ovN n l).length ≤ n.branches.length := by
 unfold ovN ovP
 rw [List.length_map]
 exact Nat.le_trans (List.length_filter_le _ _) (by simp)
theorem aCo (n : NetD) (inj : List Int) (k : Nat) : (kY n inj k).2.length ≤ n.branches.length := by
 unfold kY
 split
 ·exact aPj n _
 ·exact Nat.zero_le _
theorem yX {n : NetD} {inj : List Int} {k j : Nat} (h : j < k) : (fS n inj k)[j]? = some (kY n inj j) := by simp [fS, h]
theorem ResO.at_ {w : World} {base n c j : Nat} {A : Option Addr} {es : List (Int × Bool × Value)} {rs : List (Bool × List Int)} (h : ResO w base (.slice A n c) es rs) (hn : rs.length = n) {r : Bool × List Int} (hj : rs[j]? = some r) : ∃ b off B d, A = some ⟨b, off, none⟩ ∧ w.cell? ⟨b, off + j * 3, none⟩ = some (I j) ∧ w.cell? ⟨b, off + j * 3 + 1, none⟩ = some (.bool r.1) ∧ w.cell? ⟨b, off + j * 3 + 2, none⟩ = some (.slice B r.2.length d) ∧ Row w base 3 1 (.slice B r.2.length d) r.2.length (r.2.map I) := by
 obtain ⟨h1, _⟩ := List.getElem?_eq_some_iff.1 hj
 have hel := h.len
 have hke : j < es.length := by omega
 have hrow := h.row
 rw [hn] at hrow
 obtain ⟨b, off, e1, _, hc⟩ := dN (f := eC) (sz := 3) aAq (by decide) hrow.reads (k := j) hke
 obtain ⟨k1, k2, k3⟩ := h.inn j _ _ (gE hke) hj
 obtain ⟨B, d, k4⟩ := k3.val
 have c0 := hc 0 _ rfl
 have c1 := hc 1 _ rfl
 have c2 := hc 2 _ rfl
 rw [k1] at c0
 rw [k2] at c1
 rw [k4] at c2 k3
 simp only [← Nat.add_assoc, Nat.add_zero] at c0 c1 c2
 exact ⟨b, off, B, d, e1, c0, c1, c2, k3⟩
theorem aNi {w : World} {n : NetD} {inj : List Int} {e : Ending} {w' : World} (h : uO w n inj e w') (hc : aM n inj = 0) {k : Nat} (hk : n.branches.length = k) : ∃ A c es, e = .returned (.tuple #[.slice A k c, I 0]) ∧ ResO w' w.heap.size (.slice A k c) es (fS n inj k) ∧ Below w.heap.size w w' := by
 obtain ⟨u, h1, h2, _, h4⟩ := h
 obtain ⟨es, hr⟩ := h2 hc
 rw [hc] at h1
 rw [hk] at hr
 have hrow := hr.row
 rw [jG] at hrow
 obtain ⟨A, c, rfl⟩ := hrow.val
 exact ⟨A, c, es, h1, hr, h4⟩
theorem pB (n : NetD) (v : NetV) (inj : List Int) (m : Nat) (A : Option Addr) (c : Nat) (y : Int) (w : World) (hN : Net w n v) (hby : NetBy n) (hj : Reads w w.heap.size 1 A m (inj.map I)) (hm : m ≤ 9223372036854775807) (htab : Tab w) : Calls Tryz.prog 4 #[v.val n, .slice A m c, I y] w fun e w' => e = .returned (.bool true) ∧ Below w.heap.size w w' := by
 have HBY := aH hby
 have HOK := aH hN.ok
 clear hby
 have hz := aD w (Obj.cells (v.parts n) 29)
 have HN := aH (hN.below hz)
 have HG := aH (Blk.new w 29 (v.parts n))
 have HB := aH hz
 have HTB := aH htab
 have HJ := aH ((hj.below hz).more hz.size)
 clear hz hN htab hj
 unfold NetV.val NetV.parts at *
 go_enter Tryz.func4, Tryz.ntmps4
 have HC := aH (sN (w.alloc (Obj.cells #[.slice v.na n.nodes.length v.nc, .slice v.sa n.switches.length v.sc, .slice v.ba n.branches.length v.bc, .slice v.ga n.gens.length v.gc, .slice v.la n.loads.length v.lc, .slice v.ta n.stores.length v.tc] 29)) (fA HTB.out HB.out))
 go_wp2_with fail
 refine HC.out.mono ?_
 rintro e w1 ⟨rfl, hb⟩
 clear HC
 have hbs := HB.out.size
 replace HB := aH (HB.out.trans (hb.mono hbs))
 clear hbs
 replace HN := aH (HN.out.below hb)
 replace HG := bL HG hb
 replace HJ := aH ((HJ.out.below hb).more hb.size)
 clear hb
 have x0 := HG.out.cell 0
 have x1 := HG.out.cell 1
 have x2 := HG.out.cell 2
 have x3 := HG.out.cell 3
 have x4 := HG.out.cell 4
 have x5 := HG.out.cell 5
 have HC := aH (aGx n v w1)
 unfold NetV.val NetV.parts at HC
 go_wp2_with fail
 refine HC.out.mono ?_
 rintro e w2 ⟨rfl, hb⟩
 clear HC
 clear x0 x1 x2 x3 x4 x5
 have hbs := HB.out.size
 replace HB := aH (HB.out.trans (hb.mono hbs))
 clear hbs
 replace HN := aH (HN.out.below hb)
 replace HG := bL HG hb
 replace HJ := aH ((HJ.out.below hb).more hb.size)
 clear hb
 cases hw : tN n with
 | true =>
  go_wp2
  go_ret
  exact ⟨rfl, HB.out⟩
 | false =>
  have HW := aH hw
  clear hw
  have hbb := (aGv HW.out).2.1
  have hp0 := (kO y (n := 50) (by decide)).1
  have hp1 := (kO y (n := 50) (by decide)).2
  have x0 := HG.out.cell 0
  have x1 := HG.out.cell 1
  have x2 := HG.out.cell 2
  have x3 := HG.out.cell 3
  have x4 := HG.out.cell 4
  have x5 := HG.out.cell 5
  have HC := aH (show Calls Tryz.prog 23 #[.agg #[.slice v.na n.nodes.length v.nc, .slice v.sa n.switches.length v.sc, .slice v.ba n.branches.length v.bc, .slice v.ga n.gens.length v.gc, .slice v.la n.loads.length v.lc, .slice v.ta n.stores.length v.tc], .slice A m c] w2 (fun e w' => ∃ A nu c, e = .returned (.tuple #[.slice A nu c, I (aM n inj)]) ∧ (nu = if aM n inj = 0 then n.branches.length else 0) ∧ MayO w' w2.heap.size (.slice A nu c) n inj ∧ Below w2.heap.size w2 w') from (jW n v inj m A c w2 HN.out HJ.out hm).mono fun e w' h => aNh h)
  go_wp2_with fail
  refine HC.out.mono ?_
  rintro e w3 ⟨AU, nu, cu, rfl, hnu, hmay, hb⟩
  clear HC
  clear x0 x1 x2 x3 x4 x5
  have hbs := HB.out.size
  replace HB := aH (HB.out.trans (hb.mono hbs))
  clear hbs
  replace HN := aH (HN.out.below hb)
  replace HG := bL HG hb
  replace HJ := aH ((HJ.out.below hb).more hb.size)
  clear hb
  have HNU := aH hnu
  have HMAY := aH hmay
  obtain ⟨ec, hec⟩ : ∃ x, aM n inj = x := ⟨_, rfl⟩
  have HEC := aH hec
  rw [hec]
  clear hnu hmay hec
  go_upto_region 6 with (fail)
  have hb := aD w3 (.cells #[.slice AU nu cu] 53)
  have hx := Blk.new w3 53 #[.slice AU nu cu]
  have hbs := HB.out.size
  replace HB := aH (HB.out.trans (hb.mono hbs))
  clear hbs
  replace HN := aH (HN.out.below hb)
  replace HG := bL HG hb
  replace HJ := aH ((HJ.out.below hb).more hb.size)
  replace HMAY := aH (HMAY.out.call hb)
  clear hb
  have H7 := aH hx
  clear hx
  generalize w3.alloc (.cells #[.slice AU nu cu] 53) = ws7 at *
  generalize w3.heap.size = g7 at *
  have x0 := HG.out.cell 0
  have x1 := HG.out.cell 1
  have x2 := HG.out.cell 2
  have x3 := HG.out.cell 3
  have x4 := HG.out.cell 4
  have x5 := HG.out.cell 5
  have HC := aH (xQ n v ws7 HN.out.net HBY.out)
  unfold NetV.val NetV.parts at HC
  go_wp2_with fail
  refine HC.out.mono ?_
  rintro e w4 ⟨v2, rfl, hin, hrows, hb⟩
  clear HC
  clear x0 x1 x2 x3 x4 x5
  obtain ⟨na2, nc2, sa2, sc2, ba2, bc2, ga2, gc2, la2, lc2, ta2, tc2⟩ := v2
  unfold NetV.val NetV.parts
  simp only
  clear hin
  have HBW := aH hb
  have hsz := hb.size
  have HROWS := aH hrows
  clear hb hrows
  have ha := aD w4 (Obj.cells #[.slice na2 n.nodes.length nc2, .slice sa2 n.switches.length sc2, .slice ba2 n.branches.length bc2, .slice ga2 n.gens.length gc2, .slice la2 n.loads.length lc2, .slice ta2 n.stores.length tc2] 29)
  have HBOX := aH (Blk.new w4 29 #[.slice na2 n.nodes.length nc2, .slice sa2 n.switches.length sc2, .slice ba2 n.branches.length bc2, .slice ga2 n.gens.length gc2, .slice la2 n.loads.length lc2, .slice ta2 n.stores.length tc2])
  replace HROWS := aH (HROWS.out.keep (w' := w4.alloc (Obj.cells #[.slice na2 n.nodes.length nc2, .slice sa2 n.switches.length sc2, .slice ba2 n.branches.length bc2, .slice ga2 n.gens.length gc2, .slice la2 n.loads.length lc2, .slice ta2 n.stores.length tc2] 29)) (fun g _ hg => Below.heap_alloc w4 _ g hg))
  replace HBW := aH (HBW.out.trans (ha.mono hsz))
  clear ha
  go_upto_region 7 with (fail)
  have hs2 := HBOX.out.lt
  generalize w4.alloc (Obj.cells #[.slice na2 n.nodes.length nc2, .slice sa2 n.switches.length sc2, .slice ba2 n.branches.length bc2, .slice ga2 n.gens.length gc2, .slice la2 n.loads.length lc2, .slice ta2 n.stores.length tc2] 29) = ws9 at *
  generalize w4.heap.size = b2 at *
  obtain ⟨pk, hpk⟩ : ∃ x, uB y 50 = x := ⟨_, rfl⟩
  have HPK := aH hpk
  rw [hpk] at hp0 hp1
  clear hpk
  have HST := aH (show NetRows ws9 ws7.heap.size (upN pk 0 n) ⟨na2, nc2, sa2, sc2, ba2, bc2, ga2, gc2, la2, lc2, ta2, tc2⟩ from HROWS.out)
  clear HROWS
  obtain ⟨nb, hnb⟩ : ∃ x, n.branches.length = x := ⟨_, rfl⟩
  have HNB := aH hnb
  rw [hnb] at HBOX hbb
  clear hnb
  have x2 := HBOX.out.cell 2
  go_wp2
  go_loopg [32] (nb - 0) (fun r lv wr => ∃ j : Nat, r = nb - j ∧ lv = I j ∧ j ≤ nb ∧ Hid (Blk wr b2 29 #[.slice na2 n.nodes.length nc2, .slice sa2 n.switches.length sc2, .slice ba2 nb bc2, .slice ga2 n.gens.length gc2, .slice la2 n.loads.length lc2, .slice ta2 n.stores.length tc2]) ∧ Hid (NetRows wr ws7.heap.size (upN pk j n) ⟨na2, nc2, sa2, sc2, ba2, bc2, ga2, gc2, la2, lc2, ta2, tc2⟩) ∧ Hid (Below ws7.heap.size ws7 wr))
  case atStart => exact ⟨0, rfl, rfl, Nat.zero_le _, HBOX, HST, HBW⟩
  case round =>
   clear HBOX HST HBW x2
   obtain ⟨j, rfl, rfl, hj, HBOX, HROWS, HBW⟩ := hrel
   obtain ⟨wa, rfl⟩ := wE wr
   by_cases hlt : j < nb
   ·obtain ⟨b, hb⟩ : ∃ b, n.branches[j]? = some b := ⟨_, gE (by rw [HNB.out]; exact hlt)⟩
    have hlN : (upN pk j n).branches.length = nb := by show (upB _ _ _).length = nb; rw [aPg, HNB.out]
    obtain ⟨gB, off, cur, eA, hcur⟩ := aKf HROWS.out (by omega)
    have HNE := aH (kH HBOX.out hcur (by decide))
    clear hcur
    change ba2 = _ at eA
    subst eA
    have HBR := aH hb
    have hjn : (upN pk j n).branches[j]? = some b := aPi hb
    have HJN := aH hjn
    clear hb hjn
    have x2 := HBOX.out.cell 2
    go_upto_region 11 with (fail)
    clear x2
    have HBD := aH HBOX.out.drew
    have HRD := aH (HROWS.out.keep (w' := wa.drew) (fun _ _ _ => rfl))
    have HWD := aH HBW.out.drew
    clear HBOX HROWS HBW
    obtain ⟨hgB, d6, d7, hfz, hs6, hs7⟩ := aNr HRD.out rfl HJN.out
    have HS6 := aH (hs6 (gN pk b.limit))
    clear hs6 hs7
    have f6 := hfz (off + j * 9 + 6)
    clear hfz
    obtain ⟨lim, hlim⟩ : ∃ x, b.limit = x := ⟨_, rfl⟩
    obtain ⟨sho, hsho⟩ : ∃ x, b.short = x := ⟨_, rfl⟩
    have HLIM := aH hlim
    have HSHO := aH hsho
    rw [hlim] at d6
    rw [hsho] at d7
    clear hlim hsho
    refine aI (fun w' => w'.cell? ⟨gB, off + j * 9 + 6, none⟩ = some (I lim)) 8 (by kernel_rfl) ?_
    generalize wa.drew = wz at *
    refine tq 0 (I y) rfl ?_ d6 ?_
    ·intro w hSw
     have s0 := hSw
     go_simp
    refine tq 2 (.pointer (some ⟨gB, off + j * 9, none⟩)) rfl ?_ d6 ?_
    ·intro w hSw
     have s0 := hSw
     go_simp
    refine tq 3 (.pointer (some ⟨gB, off + j * 9, none⟩)) rfl ?_ d6 ?_
    ·intro w hSw
     have s0 := hSw
     go_simp
    refine tq 4 (.pointer (some ⟨gB, off + j * 9 + 6, none⟩)) rfl ?_ d6 ?_
    ·intro w hSw
     have s0 := hSw
     go_simp
    refine tq 5 (I lim) rfl ?_ d6 ?_
    ·intro w hSw
     have s0 := hSw
     go_simp
    refine tq 6 (I (wrap64 (100000 - lim))) rfl ?_ d6 ?_
    ·intro w hSw
     have s0 := hSw
     go_simp
     exact IntWalk.i64_left _
    have HC := aH (aMb y 50 wz (by decide) (by decide))
    rw [HPK.out] at HC
    refine on1 1 fun K hK => ?_
    go_simp
    go_at_call 17
    refine HC.out.mono ?_
    rintro e wz ⟨rfl, rfl⟩
    clear HC
    refine hK.out _ _ (fun _ => d6) ?_
    clear hK K
    refine on1 7 fun K hK => ?_
    go_simp
    refine hK.out _ _ (fun _ => d6) ?_
    clear hK K
    refine on1 8 fun K hK => ?_
    go_simp
    refine hK.out _ _ (fun h => absurd h (by decide)) ?_
    clear hK K
    refine aE (by kernel_rfl) ?_ _
    go_upto_region 13 with (fail)
    have HS7 := aH (show NetRows (wz.setCell ⟨gB, off + j * 9 + 6, none⟩ (I (wrap64 (lim + max 0 (min pk (wrap64 (100000 - lim))))))) ws7.heap.size (mB (upN pk j n) j { b with limit := gN pk b.limit }) ⟨na2, nc2, sa2, sc2, some ⟨gB, off, none⟩, bc2, ga2, gc2, la2, lc2, ta2, tc2⟩ by have h := HS6.out; rw [HLIM.out] at h ⊢; exact h)
    have HWE := aH (HWD.out.setCell (p := ⟨gB, off + j * 9 + 6, none⟩) hgB (I (wrap64 (lim + max 0 (min pk (wrap64 (100000 - lim)))))))
    have HBE := aH (HBD.out.far (p := ⟨gB, off + j * 9 + 6, none⟩) HNE.out (I (wrap64 (lim + max 0 (min pk (wrap64 (100000 - lim)))))))
    clear HS6 HWD HBD HRD d6 d7 f6
    have hml : gN pk lim = wrap64 (lim + max 0 (min pk (wrap64 (100000 - lim)))) := rfl
    rw [← hml] at HS7 HWE HBE ⊢
    clear hml
    obtain ⟨ml, hml⟩ : ∃ x, gN pk lim = x := ⟨_, rfl⟩
    have HML := aH hml
    rw [hml] at HS7 HWE HBE ⊢
    clear hml
    generalize wz.setCell ⟨gB, off + j * 9 + 6, none⟩ (I ml) = wy at *
    have HRE := aH (HS7.out.keep (w' := wy.drew) (fun _ _ _ => rfl))
    have HBF := aH HBE.out.drew
    have HWF := aH HWE.out.drew
    clear HS7 HBE HWE
    have hjs : (mB (upN pk j n) j { b with limit := gN pk b.limit }).branches[j]? = some { b with limit := gN pk b.limit } := aNf _ (by omega)
    obtain ⟨_, d6, d7, hfz, hs6, hs7⟩ := aNr HRE.out rfl hjs
    have HS8 := aH (hs7 (max sho ml))
    clear hs6 hs7 hjs HRE
    have f7 := hfz (off + j * 9 + 7)
    clear hfz
    simp only [HLIM.out, HSHO.out, HML.out] at d6 d7
    refine aI (fun w' => w'.cell? ⟨gB, off + j * 9 + 6, none⟩ = some (I ml) ∧ w'.cell? ⟨gB, off + j * 9 + 7, none⟩ = some (I sho)) 12 (by kernel_rfl) ?_
    generalize wy.drew = wx at *
    refine aZ 0 (.pointer (some ⟨gB, off + j * 9, none⟩)) rfl ⟨d6, d7⟩ ?_
    refine aZ 1 (.pointer (some ⟨gB, off + j * 9, none⟩)) rfl ⟨d6, d7⟩ ?_
    refine aZ 2 (.pointer (some ⟨gB, off + j * 9, none⟩)) rfl ⟨d6, d7⟩ ?_
    refine aZ 3 (.pointer (some ⟨gB, off + j * 9 + 7, none⟩)) rfl ⟨d6, d7⟩ ?_
    refine aZ 4 (I sho) rfl ⟨d6, d7⟩ ?_
    refine aZ 5 (.pointer (some ⟨gB, off + j * 9, none⟩)) rfl ⟨d6, d7⟩ ?_
    refine aZ 6 (.pointer (some ⟨gB, off + j * 9, none⟩)) rfl ⟨d6, d7⟩ ?_
    refine aZ 7 (.pointer (some ⟨gB, off + j * 9 + 6, none⟩)) rfl ⟨d6, d7⟩ ?_
    refine aZ 8 (I ml) rfl ⟨d6, d7⟩ ?_
    refine aZ 9 (I (max sho ml)) rfl ⟨d6, d7⟩ ?_
    refine aZ 10 (.pointer (some ⟨gB, off + j * 9, none⟩)) rfl ⟨d6, d7⟩ ?_
    refine aZ 11 (.pointer (some ⟨gB, off + j * 9 + 7, none⟩)) rfl ⟨d6, d7⟩ ?_
    refine on1 12 fun K hK => ?_
    go_simp
    refine hK.out _ _ (fun h => absurd h (by decide)) ?_
    clear hK K
    refine aE (by kernel_rfl) ?_ _
    have HBN := aH (HBF.out.far (p := ⟨gB, off + j * 9 + 7, none⟩) HNE.out (I (max sho ml)))
    have HWN := aH (HWF.out.setCell (p := ⟨gB, off + j * 9 + 7, none⟩) hgB (I (max sho ml)))
    have HRN := aH (show NetRows (wx.setCell ⟨gB, off + j * 9 + 7, none⟩ (I (max sho ml))) ws7.heap.size (upN pk (j + 1) n) ⟨na2, nc2, sa2, sc2, some ⟨gB, off, none⟩, bc2, ga2, gc2, la2, lc2, ta2, tc2⟩ by
     have h := HS8.out
     rw [← aNg HBR.out, HSHO.out, HLIM.out, HML.out]
     rw [HLIM.out, HML.out, HSHO.out] at h
     exact h)
    clear HS8 HBF HWF d6 d7 f7 HBR HJN HLIM HSHO HML hgB HNE
    generalize wx.setCell ⟨gB, off + j * 9 + 7, none⟩ (I (max sho ml)) = wv at *
    go_wp2
    go_roundg (nb - (j + 1))
    case measure => omega
    case rel => exact ⟨j + 1, rfl, by go_num, by omega, HBN, HRN, HWN⟩
   ·obtain rfl : j = nb := by omega
    have HRN := aH (show NetRows wa ws7.heap.size (bB pk n) ⟨na2, nc2, sa2, sc2, ba2, bc2, ga2, gc2, la2, lc2, ta2, tc2⟩ by rw [← aPh, HNB.out]; exact HROWS.out)
    have hsb := HBW.out.size
    have HBOX9 := HBOX
    have hb := HBW.out
    clear HROWS HBW HBOX hj hlt
    have HBOX := HBOX9
    clear HBOX9
    have hbs := HB.out.size
    replace HB := aH (HB.out.trans (hb.mono hbs))
    clear hbs
    replace HN := aH (HN.out.below hb)
    replace HG := bL HG hb
    replace HJ := aH ((HJ.out.below hb).more hb.size)
    replace HMAY := aH (HMAY.out.call hb)
    replace H7 := bL H7 hb
    clear hb
    by_cases hc : ec = 0
    rotate_left
    ·have tc : (ec != 0) = true := bne_iff_ne.2 hc
     have hnu0 : nu = 0 := by rw [HNU.out, if_neg (fun k => hc (HEC.out.symm.trans k))]
     subst hnu0
     have c7 := H7.out.cell 0
     clear hc
     go_wp2
     go_ret
     exact ⟨rfl, HB.out⟩
    subst hc
    have hfc := HEC.out
    have hnu1 : j = nu := by rw [HNU.out, if_pos hfc, HNB.out]
    subst hnu1
    have HCK := aH (gY hfc).1
    have HV := aH (oN HCK.out)
    have HFC2 := aH (aNe hp0 hp1 hfc)
    obtain ⟨es, hes⟩ := HMAY.out hfc
    have HES := aH hes
    clear hes hfc HMAY HNU HEC
    have HNM := aH (show Net wa (bB pk n) ⟨na2, nc2, sa2, sc2, ba2, bc2, ga2, gc2, la2, lc2, ta2, tc2⟩ from ⟨HRN.out.netIn, aKe HOK.out, HN.out.l1, HN.out.l2, by rw [mS]; exact HN.out.l3, HN.out.l4, HN.out.l5, HN.out.l6⟩)
    clear HRN
    have HES1 := aH (show ResO wa _ (.slice AU j cu) es (fS n inj j) from by have h := HES.out; rw [HNB.out] at h; exact h)
    clear HES
    have x0 := HBOX.out.cell 0
    have x1 := HBOX.out.cell 1
    have x2 := HBOX.out.cell 2
    have x3 := HBOX.out.cell 3
    have x4 := HBOX.out.cell 4
    have x5 := HBOX.out.cell 5
    clear HBOX
    have HC := aH (show Calls Tryz.prog 23 #[.agg #[.slice na2 n.nodes.length nc2, .slice sa2 n.switches.length sc2, .slice ba2 j bc2, .slice ga2 n.gens.length gc2, .slice la2 n.loads.length lc2, .slice ta2 n.stores.length tc2], .slice A m c] wa (fun e w' => ∃ A c es, e = .returned (.tuple #[.slice A j c, I 0]) ∧ ResO w' wa.heap.size (.slice A j c) es (fS (bB pk n) inj j) ∧ Below wa.heap.size wa w') from by
     have h := jW (bB pk n) _ inj m A c wa HNM.out HJ.out hm
     unfold NetV.val NetV.parts at h
     rw [mS, HNB.out] at h
     exact h.mono fun e w' k => aNi k HFC2.out (by rw [mS, HNB.out]))
    go_wp2_with fail
    refine HC.out.mono ?_
    rintro e w5 ⟨AW, cw, es2, rfl, hes2, hb⟩
    clear HC
    clear x0 x1 x2 x3 x4 x5
    clear HNM
    have hbs := HB.out.size
    replace HB := aH (HB.out.trans (hb.mono hbs))
    clear hbs
    replace HN := aH (HN.out.below hb)
    replace HG := bL HG hb
    replace HJ := aH ((HJ.out.below hb).more hb.size)
    replace H7 := bL H7 hb
    replace HES1 := aH (HES1.out.call hb)
    clear hb
    have HES2 := aH hes2
    clear hes2
    have c7 := H7.out.cell 0
    have HBW := aH (Below.refl w5.heap.size w5)
    go_wp2
    go_loopg [91] (j - 0) (fun r lv wr => ∃ i : Nat, r = j - i ∧ lv = I i ∧ i ≤ j ∧ Hid (Below w5.heap.size w5 wr))
    case atStart => exact ⟨0, rfl, rfl, Nat.zero_le _, HBW⟩
    case round =>
     clear HBW c7
     obtain ⟨i, rfl, rfl, hi, HBW⟩ := hrel
     obtain ⟨wa2, rfl⟩ := wE wr
     by_cases hlt : i < j
     ·obtain ⟨bW, oW, BW, dW, eW, w0, w1, w2, hrW⟩ := (HES2.out.call HBW.out).at_ (jG _ _ _) (yX hlt)
      subst eW
      obtain ⟨bL, oL, BL, dL, eL, _, l1, l2, hrL⟩ := (HES1.out.call HBW.out).at_ (jG _ _ _) (yX hlt)
      subst eL
      have hro := aPf hp0 hp1 HV.out inj i
      have HSUB := aH hro.2
      have hle1 := aCo (bB pk n) inj i
      have hle2 := aCo n inj i
      rw [mS, HNB.out] at hle1
      rw [HNB.out] at hle2
      rw [hro.1] at w1
      clear hro
      obtain ⟨ys, hys⟩ : ∃ x, (kY (bB pk n) inj i).2 = x := ⟨_, rfl⟩
      obtain ⟨Ls, hLs⟩ : ∃ x, (kY n inj i).2 = x := ⟨_, rfl⟩
      rw [hys] at w2 hrW HSUB hle1
      rw [hLs] at l2 hrL HSUB hle2
      generalize (kY n inj i).1 = bb at w1 l1
      clear hys hLs
      have HRW := aH hrW
      have HRL := aH hrL
      have H7A := aH (H7.out.below HBW.out H7.out.lt)
      clear hrW hrL
      obtain ⟨ml, hml⟩ : ∃ x, ys.length = x := ⟨_, rfl⟩
      have HML := aH hml
      rw [hml] at w2 hle1
      clear hml
      go_upto_region 23 with (fail)
      have ha := (aD wa2 (Obj.cells #[Value.int IntKind.i64 (i : Int)] 3))
      have hb2 := aD (wa2.alloc (Obj.cells #[Value.int IntKind.i64 (i : Int)] 3)) (Obj.cells #[Value.int IntKind.i64 (i : Int), Value.bool bb, Value.slice BW ml dW] 59)
      have hbA : Below wa2.heap.size wa2 ((wa2.alloc (Obj.cells #[Value.int IntKind.i64 (i : Int)] 3)).alloc (Obj.cells #[Value.int IntKind.i64 (i : Int), Value.bool bb, Value.slice BW ml dW] 59)) := ha.trans (hb2.mono ha.size)
      have B15 := aH ((Blk.new wa2 3 #[Value.int IntKind.i64 (i : Int)]).below hb2 (Blk.new wa2 3 #[Value.int IntKind.i64 (i : Int)]).lt)
      have B16 := aH (Blk.new (wa2.alloc (Obj.cells #[Value.int IntKind.i64 (i : Int)] 3)) 59 #[Value.int IntKind.i64 (i : Int), Value.bool bb, Value.slice BW ml dW])
      simp only [World.size_alloc] at B16 ⊢
      have HBN := aH (HBW.out.trans (hbA.mono HBW.out.size))
      have l1a := aA l1 hbA
      have l2a := aA l2 hbA
      have HRWA := aH (HRW.out.call hbA)
      have HRLA := aH (HRL.out.call hbA)
      have H7B := aH (H7A.out.below hbA H7A.out.lt)
      clear ha hb2 hbA w0 w1 w2 l1 l2 HRW HRL H7A HBW
      generalize ((wa2.alloc (Obj.cells #[Value.int IntKind.i64 (i : Int)] 3)).alloc (Obj.cells #[Value.int IntKind.i64 (i : Int), Value.bool bb, Value.slice BW ml dW] 59)) = wb at *
      obtain ⟨g15, hg15⟩ : ∃ x, wa2.heap.size = x := ⟨_, rfl⟩
      rw [hg15] at B15 B16 ⊢
      clear hg15
      have d0 : wb.drew.cell? ⟨g15 + 1, 1, none⟩ = some (.bool bb) := B16.out.cell 1
      have d1 : wb.drew.cell? ⟨g15 + 1, 2, none⟩ = some (.slice BW ml dW) := B16.out.cell 2
      have d2 : wb.drew.cell? ⟨g7, 0, none⟩ = some (.slice (some ⟨bL, oL, none⟩) j cu) := H7B.out.cell 0
      have d3 : wb.drew.cell? ⟨g15, 0, none⟩ = some (I (i : Int)) := B15.out.cell 0
      have d4 : wb.drew.cell? ⟨bL, oL + i * 3 + 1, none⟩ = some (.bool bb) := l1a
      have d5 : wb.drew.cell? ⟨bL, oL + i * 3 + 2, none⟩ = some (.slice BL Ls.length dL) := l2a
      have HRWD := aH (HRWA.out.keep (w' := wb.drew) (fun _ _ _ => rfl))
      have HRLD := aH (HRLA.out.keep (w' := wb.drew) (fun _ _ _ => rfl))
      have HBD := aH HBN.out.drew
      clear l1a l2a HRWA HRLA H7B B15 B16 HBN
      refine aI (fun w' => w'.cell? ⟨g15 + 1, 1, none⟩ = some (.bool bb) ∧ w'.cell? ⟨g15 + 1, 2, none⟩ = some (.slice BW ml dW) ∧ w'.cell? ⟨g7, 0, none⟩ = some (.slice (some ⟨bL, oL, none⟩) j cu) ∧ w'.cell? ⟨g15, 0, none⟩ = some (I i) ∧ w'.cell? ⟨bL, oL + i * 3 + 1, none⟩ = some (.bool bb)) 13 (by kernel_rfl) ?_
      generalize wb.drew = wz at *
      refine aZ 0 (.pointer (some ⟨g15 + 1, 1, none⟩)) rfl ⟨d0, d1, d2, d3, d4⟩ ?_
      refine aZ 1 (.bool bb) rfl ⟨d0, d1, d2, d3, d4⟩ ?_
      refine aZ 2 (.slice (some ⟨bL, oL, none⟩) j cu) rfl ⟨d0, d1, d2, d3, d4⟩ ?_
      refine aZ 3 (I i) rfl ⟨d0, d1, d2, d3, d4⟩ ?_
      refine aZ 4 (.pointer (some ⟨bL, oL + i * 3, none⟩)) rfl ⟨d0, d1, d2, d3, d4⟩ ?_
      refine aZ 5 (.pointer (some ⟨bL, oL + i * 3 + 1, none⟩)) rfl ⟨d0, d1, d2, d3, d4⟩ ?_
      refine aZ 6 (.bool bb) rfl ⟨d0, d1, d2, d3, d4⟩ ?_
      refine aZ 7 (.bool false) rfl ⟨d0, d1, d2, d3, d4⟩ ?_
      refine aZ 8 (.bool false) rfl ⟨d0, d1, d2, d3, d4⟩ ?_
      refine aZ 9 (.pointer (some ⟨g15 + 1, 2, none⟩)) rfl ⟨d0, d1, d2, d3, d4⟩ ?_
      refine aZ 10 (.slice BW ml dW) rfl ⟨d0, d1, d2, d3, d4⟩ ?_
      refine aZ 11 (.func (.func 26) #[] #[.pointer (some ⟨g7, 0, none⟩), .pointer (some ⟨g15, 0, none⟩)]) rfl ⟨d0, d1, d2, d3, d4⟩ ?_
      have hrd : Reads wz wz.heap.size 1 BW ml (ys.map I) := by have h := HRWD.out.reads; rw [HML.out] at h; exact h
      have hov : OvAt wz g7 g15 Ls := ⟨⟨bL, oL, j, cu, i, BL, dL, d2, d3, hlt, by omega, d5, HRLD.out.reads⟩, by omega⟩
      have HC := aH (aKd ys ml BW dW g7 g15 Ls wz hrd (by omega) hov HSUB.out)
      clear hrd hov
      refine yJ (i := 12) (by kernel_rfl) rfl (by kernel_rfl) (fun K hK => ?_)
      go_simp
      go_at_call 25
      refine HC.out.mono ?_
      rintro e wz ⟨rfl, rfl⟩
      clear HC
      refine hK.out _ _ (fun _ => ⟨d0, d1, d2, d3, d4⟩) ?_
      clear hK K
      refine on1 13 fun K hK => ?_
      go_simp
      refine hK.out _ _ (fun h => absurd h (by decide)) ?_
      clear hK K
      refine aE (by kernel_rfl) ?_ _
      clear d0 d1 d2 d3 d4 d5 HRWD HRLD HSUB HML
      go_wp2
      go_roundg (j - (i + 1))
      case measure => omega
      case rel => exact ⟨i + 1, rfl, by go_num, by omega, HBD⟩
     ·obtain rfl : i = j := by omega
      have hb := HBW.out
      clear HBW hi hlt
      have hbs := HB.out.size
      replace HB := aH (HB.out.trans (hb.mono hbs))
      clear hbs
      replace HN := aH (HN.out.below hb)
      replace HG := bL HG hb
      replace HJ := aH ((HJ.out.below hb).more hb.size)
      replace H7 := bL H7 hb
      replace HES1 := aH (HES1.out.call hb)
      replace HES2 := aH (HES2.out.call hb)
      clear hb
      go_wp2
      go_ret
      exact ⟨rfl, HB.out⟩
theorem pC (n : NetD) (v : NetV) (la : List Int) (A : Option Addr) (ca : Nat) (y : Int) (w : World) (hN : Net w n v) (hby : NetBy n) (hj : Reads w w.heap.size 1 A la.length (la.map I)) (hm : la.length ≤ 9223372036854775807) (_ : -9223372036854775808 ≤ y ∧ y ≤ 9223372036854775807) (htab : Tab w) : Calls Tryz.prog 4 #[v.val n, .slice A la.length ca, I y] w fun e w' => e = .returned (.bool true) ∧ Below w.heap.size w w' :=
 pB n v la la.length A ca y w hN hby hj hm htab
end
section
open Go.ChangeShapes Go.WideShapes Go.ChangeAt Go.RowKit Go.Deep
section
variable {H : Type} {enc : TypeId × Value → H} {W : World}
theorem gJ {P : Program} {x : Nat} : ∀ {ts : List TypeId} {ds : List (DataW H)} {i : Nat} {t : TypeId} {d : DataW H}, ts[i]? = some t → ds[i]? = some d → x ∈ d.weights P t → x ∈ DataW.weightsEach P ts ds
 | [], _, _, _, _, h, _, _ => by simp at h
 | _ :: _, [], _, _, _, _, h, _ => by simp at h
 | t :: ts, d :: ds, 0, t', d', h1, h2, hx => by
  rw [List.getElem?_cons_zero] at h1 h2
  injection h1 with h1
  injection h2 with h2
  subst h1 h2
  rw [DataW.weightsEach, List.mem_append]
  exact .inl hx
 | t :: ts, d :: ds, i + 1, t', d', h1, h2, hx => by
  rw [DataW.weightsEach, List.mem_append]
  exact .inr (gJ (by simpa using h1) (by simpa using h2) hx)
theorem aKg {t : TypeId} {fs : Array Field} {fuel : Nat} {cs : List Value} {x : DataW H × List MemPlace} (ht : Tryz.prog.underlying t = some (.struct fs)) (hone : oneCellFields Tryz.prog fs = true) (hC : Tryz.prog.cellsOf t = fs.size)
  (h : DataW.trod enc Tryz.prog W 0 (fun _ => true) true fuel t cs = some x) (hw : ∀ z ∈ x.1.weights Tryz.prog t, z ≤ reachBytes) (j : Nat) (f : Field) (hj : fs[j]? = some f) : ∃ v n y, cs[j]? = some v ∧ DataW.trod enc Tryz.prog W 0 (fun _ => true) true n f.type [v] = some y ∧ ∀ z ∈ y.1.weights Tryz.prog f.type, z ≤ reachBytes := by
 obtain ⟨xs, n, _, hx, hl, hxl, hf⟩ := DataW.trod_struct ht h
 rw [hC] at hl
 obtain ⟨ho, hk⟩ := hone_of hone j f hj
 have hjl : j < fs.size := (Array.getElem?_eq_some_iff.1 hj).1
 have h1 := hf j f hj
 rw [ho, hk] at h1
 have hd : (cs.drop j).take 1 = [cs[j]'(by omega)] := by
  rw [List.drop_eq_getElem_cons (by omega)]; rfl
 rw [hd] at h1
 refine ⟨cs[j]'(by omega), n, xs[j]'(by omega), gE (by omega), h1.trans (gE (by omega)), fun z hz => hw z ?_⟩
 rw [hx, DataW.weights, ht]
 exact gJ (i := j) (t := f.type) (d := (xs[j]'(by omega)).1) (by simp [hj]) (by rw [List.getElem?_map, gE (by omega)]; rfl) hz
theorem lM {T E : TypeId} {fuel len cap : Nat} {A : Option Addr} {y : DataW H × List MemPlace} (hT : Tryz.prog.underlying T = some (.slice E)) (h : DataW.trod enc Tryz.prog W 0 (fun _ => true) true fuel T [.slice A len cap] = some y) (hw : ∀ z ∈ y.1.weights Tryz.prog T, z ≤ reachBytes) :
  len * Tryz.prog.bytesOf E ≤ reachBytes ∧ True := by
 rcases open_slice hT h with ⟨hcs, _⟩ | ⟨a, len', cap', m, n, D, Pl, hcs, _, hl, _, hmm, hx, hi⟩
 ·injection hcs with hcs
  injection hcs with _ hcs _
  subst hcs
  exact ⟨by simp, trivial⟩
 ·injection hcs with hcs
  injection hcs with hA hlen hcap
  subst hlen hcap
  simp at hmm
  subst hmm
  rw [hx, DataW.weights, hT] at hw
  exact ⟨Nat.le_trans (Nat.mul_le_mul_right _ (by simp)) (hw _ List.mem_cons_self), trivial⟩
theorem aNj {n : NetD} {u : NetV} {d : DataW H} {p : List MemPlace} (_ : Net W n u) (h : DataW.Trod enc Tryz.prog W 0 (fun _ => true) true 29 (u.val n) d p) (hw : ∀ z ∈ d.weights Tryz.prog 29, z ≤ reachBytes) :
  NetBy n := by
 obtain ⟨fuel, hf⟩ := h
 have F := aKg Tryz.underlying29 (by kernel_rfl) (by kernel_rfl) hf hw
 obtain ⟨v0, n0, y0, e0, t0, w0⟩ := F 0 _ rfl
 obtain rfl : .slice u.na n.nodes.length u.nc = v0 := by simpa [Value.cells, NetV.val, NetV.parts] using e0
 obtain ⟨v1, n1, y1, e1, t1, w1⟩ := F 1 _ rfl
 obtain rfl : .slice u.sa n.switches.length u.sc = v1 := by simpa [Value.cells, NetV.val, NetV.parts] using e1
 obtain ⟨v2, n2, y2, e2, t2, w2⟩ := F 2 _ rfl
 obtain rfl : .slice u.ba n.branches.length u.bc = v2 := by simpa [Value.cells, NetV.val, NetV.parts] using e2
 obtain ⟨v3, n3, y3, e3, t3, w3⟩ := F 3 _ rfl
 obtain rfl : .slice u.ga n.gens.length u.gc = v3 := by simpa [Value.cells, NetV.val, NetV.parts] using e3
 obtain ⟨v4, n4, y4, e4, t4, w4⟩ := F 4 _ rfl
 obtain rfl : .slice u.la n.loads.length u.lc = v4 := by simpa [Value.cells, NetV.val, NetV.parts] using e4
 obtain ⟨v5, n5, y5, e5, t5, w5⟩ := F 5 _ rfl
 obtain rfl : .slice u.ta n.stores.length u.tc = v5 := by simpa [Value.cells, NetV.val, NetV.parts] using e5
 clear F e0 e1 e2 e3 e4 e5
 have b0 := (lM Tryz.underlying22 t0 w0).1
 have b1 := (lM Tryz.underlying23 t1 w1).1
 have b2 := (lM Tryz.underlying24 t2 w2).1
 have b3 := (lM Tryz.underlying25 t3 w3).1
 have b4 := (lM Tryz.underlying26 t4 w4).1
 have b5 := (lM Tryz.underlying27 t5 w5).1
 rw [show Tryz.prog.bytesOf 9 = 16 by kernel_rfl] at b0
 rw [show Tryz.prog.bytesOf 134 = 56 by kernel_rfl] at b1
 rw [show Tryz.prog.bytesOf 41 = 96 by kernel_rfl] at b2
 rw [show Tryz.prog.bytesOf 138 = 56 by kernel_rfl] at b3
 rw [show Tryz.prog.bytesOf 141 = 40 by kernel_rfl] at b4
 rw [show Tryz.prog.bytesOf 144 = 56 by kernel_rfl] at b5
 unfold reachBytes at b0 b1 b2 b3 b4 b5
 exact ⟨by omega, by omega, by omega, by omega, by omega, by omega⟩
end
end
section
open Go.ChangeShapes Go.WideShapes Go.ChangeAt Go.RowKit Go.ChangeMaps
theorem nY (os : Os) (args : Array Value) : laidMetH Tryz.prog Rows.outageLimitsRow.laid ((World.doorLaid Tryz.prog 62 os).forCall (fun _ _ => 0) ⟨#[], args, []⟩).memory :=
 laidMetH_of_parts3 (fuel := 8) (laidMet_of_run' 8 (by kernel_rfl) (by kernel_rfl)) (by kernel_rfl) (by kernel_rfl)
set_option linter.unusedVariables false in
theorem lO (os : Os) (started : os.Started) (H : Type) (enc : TypeId × Value → H) :
  ReturnsInHanded {} Tryz.checked os 4 .any (fun w args => (Rows.outageLimitsSpec.pre enc Tryz.prog Tryz.f4 [] false w args ∧ laidMetH Tryz.prog Rows.outageLimitsRow.laid w) ∧ sizedMet enc Tryz.prog Tryz.f4 (OpenSpec.ofChange Rows.outageLimitsSpec) false w args)
   (Rows.outageLimitsSpec.post enc Tryz.prog Tryz.f4 false true false false) := by
 refine returnsInHanded_of_change_and (C := Tryz.checked) (X := fun w _ => laidMetH Tryz.prog Rows.outageLimitsRow.laid w) (fun _ _ _ hh h => h.of_heap hh) own started (by kernel_rfl) Tryz.func4
  (ChangeSpec.witness_shaped (enc := enc) (C := Tryz.checked) (os := os) (X := fun w _ => laidMetH Tryz.prog Rows.outageLimitsRow.laid w) false (World.doorLaid Tryz.prog 62 os) #[.agg #[.slice none 0 0, .slice none 0 0, .slice none 0 0, .slice none 0 0, .slice none 0 0, .slice none 0 0], .slice none 0 0, .int .i64 0] 8 rfl (World.shaped_of_RefB (by kernel_rfl) (by kernel_rfl)) (by kernel_rfl) (by kernel_rfl) (by kernel_rfl) (nY os _)) ?_
 intro W base args ds gs before hval0 hW _ hwt hL _
 have hval : ∀ (j : Nat) t v, Tryz.f4.params[j]? = some t → args[j]? = some v → Value.okWide Tryz.prog W .any base t v := hval0
 have hW' := hW
 obtain ⟨p, q, hA0, hV, rfl, hfz, hnd⟩ := hW
 have hA : DataW.TrodAll enc Tryz.prog W 0 (fun _ => true) true Tryz.f4.params.toList args.toList ds p := hA0
 rw [Tryz.params4] at hA hval
 obtain ⟨v0, vs0, d0, ds0, p0, q0, hargs, rfl, rfl, h0, r0⟩ := trodAll_cons hA
 obtain ⟨v1, vs1, d1, ds1, p1, q1, rfl, rfl, rfl, h1, r1⟩ := trodAll_cons r0
 obtain ⟨v2, vs2, d2, ds2, p2, q2, rfl, rfl, rfl, h2, r2⟩ := trodAll_cons r1
 obtain ⟨rfl, rfl, rfl⟩ := trodAll_nil r2
 obtain rfl : args = #[v0, v1, v2] := by cases args; simp_all
 obtain ⟨rfl, rfl⟩ := trodVars_none hV
 have k0 := h0
 have lt0 : ∀ x ∈ p0, x.block < W.heap.size := by obtain ⟨m, hm⟩ := k0; exact DataW.trod_lt m _ _ _ hm
 obtain ⟨n0, nv0, rfl, hn0⟩ := aFs (hval 0 29 v0 rfl rfl) h0
 have k1 := h1
 have lt1 : ∀ x ∈ p1, x.block < W.heap.size := by obtain ⟨m, hm⟩ := k1; exact DataW.trod_lt m _ _ _ hm
 obtain ⟨a1, len1, cap1, rfl⟩ := okWide_slice Tryz.underlying31 (hval 1 31 v1 rfl rfl)
 obtain ⟨fu1, ho1⟩ := h1
 obtain ⟨m1, A1, c1, e1, hm1, hl1⟩ := aCw Tryz.underlying31 (u := .slice a1 len1 cap1) ho1
 injection e1 with ea1 eb1 ec1
 subst ea1 eb1 ec1
 obtain ⟨s2, rfl, rfl, rfl, ws2⟩ := open_int Tryz.underlying3 (hval 2 3 v2 rfl rfl) h2
 have hby := aNj hn0 h0 fun z hz => by simpa using List.all_eq_true.1 hwt z (gJ (i := 0) (t := 29) (d := d0) (by rfl) (by rfl) hz)
 clear hA0 hval0
 refine (pC n0 nv0 m1 _ _ s2 W hn0 hby hm1 hl1 (aFr ws2) (tab_of_laid3 hL)).mono fun e W' ⟨he, bel⟩ => ?_
 subst he
 exact ⟨_, rfl, _, _, _, [], _, [], hW', trodAll_mk1 (shut_bool Tryz.underlying4 _), (trodAll_cons_mk (Below.trod aBa (by kernel_rfl) (of_decide_eq_true (by kernel_rfl)) k0 bel lt0) (trodAll_cons_mk (Below.trod aBa (by kernel_rfl) (of_decide_eq_true (by kernel_rfl)) k1 bel lt1) (trodAll_cons_mk (shut_int Tryz.underlying3 ws2) trodAll_mk0))), rfl, bel.frame _, fun h => by cases h⟩
end
end Go.Proofs.YtenbglfkdldheaaGreatDoor
