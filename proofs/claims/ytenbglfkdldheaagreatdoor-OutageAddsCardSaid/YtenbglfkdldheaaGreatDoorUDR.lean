/- What all doors share: slices of things that came in as arguments. A network that came in as an argument, opened. A matrix that came in as an argument, opened; the table of powers of ten, out of the row's list. The arguments of laws with networks, ints, vectors and texts, opened; the table of powers of ten, out of a row's list of three. -/
import Derived.ProofKit
import Derived.OpenShut
import Derived.Deep.Slices
import Derived.Deep.Fields
import Derived.ChangeOld
import Derived.Test.YtenbglfkdldheaaGreatDoorUNB
import Derived.Test.YtenbglfkdldheaaGreatDoorUP
import Derived.Test.YtenbglfkdldheaaGreatDoorRows
import Derived.Lib.LaidTab
import Derived.Stop.LaidErr
import Derived.LaidMore
set_option maxRecDepth 100000
namespace Go.Proofs.YtenbglfkdldheaaGreatDoor
open Go.ChangeShapes Go.WideShapes Go.ChangeAt Go.RowKit Go.Deep
theorem own : ownKnob Tryz.prog.godebug = none := by kernel_rfl
theorem aIt : laidOutB Tryz.prog = true := by kernel_rfl
theorem bAm : (Tryz.prog.globalNamed "internal/strconv.uint64pow10").isSome = true := by kernel_rfl
theorem aPb {x : Int} (h : (Lit.int .i64 x).wf = true) : -9223372036854775808 ≤ x ∧ x ≤ 9223372036854775807 := bounds_i64 h
section
variable {H : Type} {enc : TypeId × Value → H} {W : World}
theorem gQ {D : Type} [Inhabited D] {f : D → List Value} {ok : D → Prop} {sz : Nat} {T E : TypeId} (hsz : 0 < sz) (hf : ∀ x, (f x).length = sz) (hT : Tryz.prog.underlying T = some (.slice E)) (hC : Tryz.prog.cellsOf E = sz)
  (hel : ∀ (fuel : Nat) (cs : List Value) (y : DataW H × List MemPlace), DataW.trod enc Tryz.prog W 0 (fun _ => true) true fuel E cs = some y → ∃ x : D, f x = cs ∧ ok x)
  {fuel : Nat} {u : Value} {y : DataW H × List MemPlace} (h : DataW.trod enc Tryz.prog W 0 (fun _ => true) true fuel T [u] = some y) :
  ∃ (l : List D) (A : Option Addr) (c : Nat), u = .slice A l.length c ∧ Reads W W.heap.size sz A l.length (aN f l) ∧ (∀ x ∈ l, ok x) ∧ l.length ≤ 9223372036854775807 ∧ l.length ≤ c := by
 rcases open_slice hT h with ⟨hcs, _⟩ | ⟨a, len, cap, m, n, Dd, Pl, hcs, _, hl, hm, hmm, _, hi⟩
 ·injection hcs with hcs
  exact ⟨[], none, 0, hcs, Reads.nil, by simp, by simp, by simp⟩
 ·injection hcs with hcs
  simp at hmm
  subst hmm
  rw [hC] at hi
  have each : ∀ i, i < m → ∃ x : D, ok x ∧ ∀ j u, (f x)[j]? = some u → W.cell? (a.add (i * sz + j)) = some u := by
   intro i him
   obtain ⟨cs', g1, g2⟩ := hi i him
   obtain ⟨x, hx, hok⟩ := hel _ _ _ g2
   obtain ⟨_, hcl, hat⟩ := World.cells?_some g1
   refine ⟨x, hok, fun j u hu => ?_⟩
   rw [hx] at hu
   have hj : j < sz := by have := (List.getElem?_eq_some_iff.1 hu).1; omega
   rw [← add_add, hat j hj]
   exact hu
  obtain ⟨g, hg⟩ := choose_lt each
  have hlen : ((List.range len).map g).length = len := by simp
  refine ⟨(List.range len).map g, some a, m, by rw [hlen]; exact hcs, ?_, ?_, by unfold maxLen at hm; rw [hlen]; omega, by rw [hlen]; exact hl⟩
  ·refine ⟨dY hf _, fun h0 => ?_⟩
   rw [hlen] at h0
   obtain ⟨b, off, spot⟩ := a
   have h00 : 0 < (f (g 0)).length := by rw [hf]; exact hsz
   have hc0 := (hg 0 (by omega)).2 0 _ (gE h00)
   have hspot : spot = none := by simpa [Addr.add] using World.cell?_spot hc0
   subst hspot
   refine ⟨b, off, rfl, by have := World.block_lt_of_cell? _ _ hc0; rwa [Addr.add_lit] at this, fun j u hu => ?_⟩
   have hj : j < len * sz := by
    have := (List.getElem?_eq_some_iff.1 hu).1
    rw [dY hf, hlen] at this
    exact this
   have hk : j / sz < len := Nat.div_lt_of_lt_mul (by rw [Nat.mul_comm]; exact hj)
   have hjm : j / sz * sz + j % sz = j := by rw [Nat.mul_comm]; exact Nat.div_add_mod j sz
   have hx := uT hf ((List.range len).map g) (j / sz) (g (j / sz)) (by simp [hk]) (j % sz) (Nat.mod_lt _ hsz)
   rw [hjm] at hx
   rw [hx] at hu
   have := (hg (j / sz) (by omega)).2 (j % sz) u hu
   rw [hjm, Addr.add_lit] at this
   exact this
  ·intro x hx
   obtain ⟨i, hi', rfl⟩ := List.mem_map.1 hx
   exact (hg i (by have := List.mem_range.1 hi'; omega)).1
end
instance : Inhabited SwitchD := ⟨⟨default, default, default, false, false⟩⟩
instance : Inhabited BranchD := ⟨⟨default, default, default, 0, 0, 0, 0, 0, 0⟩⟩
instance : Inhabited GenD := ⟨⟨default, default, 0, 0, 0⟩⟩
instance : Inhabited LoadD := ⟨⟨default, default, 0⟩⟩
instance : Inhabited StoreD := ⟨⟨default, default, 0, 0, 0⟩⟩
section
variable {H : Type} {enc : TypeId × Value → H} {W : World}
theorem iV {t : TypeId} {fs : Array Field} {fuel : Nat} {cs : List Value} {x : DataW H × List MemPlace} (ht : Tryz.prog.underlying t = some (.struct fs)) (hone : oneCellFields Tryz.prog fs = true) (hC : Tryz.prog.cellsOf t = fs.size)
  (h : DataW.trod enc Tryz.prog W 0 (fun _ => true) true fuel t cs = some x) : cs.length = fs.size ∧ ∀ (j : Nat) (f : Field), fs[j]? = some f → ∃ v n y, cs[j]? = some v ∧ DataW.trod enc Tryz.prog W 0 (fun _ => true) true n f.type [v] = some y := by
 obtain ⟨xs, n, _, _, hl, hxl, hf⟩ := DataW.trod_struct ht h
 rw [hC] at hl
 refine ⟨hl, fun j f hj => ?_⟩
 obtain ⟨ho, hk⟩ := hone_of hone j f hj
 have hjl : j < fs.size := (Array.getElem?_eq_some_iff.1 hj).1
 have h1 := hf j f hj
 rw [ho, hk] at h1
 have hd : (cs.drop j).take 1 = [cs[j]'(by omega)] := by
  rw [List.drop_eq_getElem_cons (by omega)]; rfl
 rw [hd] at h1
 exact ⟨cs[j]'(by omega), n, xs[j]'(by omega), gE (by omega), h1.trans (gE (by omega))⟩
theorem dA {s : ByteArray} (h : s.size ≤ maxLen) : s.size ≤ 9223372036854775807 := by unfold maxLen at h; omega
theorem bBt (fuel : Nat) (cs : List Value) (y : DataW H × List MemPlace) (h : DataW.trod enc Tryz.prog W 0 (fun _ => true) true fuel 134 cs = some y) : ∃ x : SwitchD, x.cells = cs ∧ (x.name.size ≤ 9223372036854775807 ∧ x.a.size ≤ 9223372036854775807 ∧ x.b.size ≤ 9223372036854775807) := by
 obtain ⟨hl, hf⟩ := iV Tryz.underlying134 (by kernel_rfl) (by kernel_rfl) h
 obtain ⟨v0, n0, y0, e0, t0⟩ := hf 0 _ rfl
 obtain ⟨v1, n1, y1, e1, t1⟩ := hf 1 _ rfl
 obtain ⟨v2, n2, y2, e2, t2⟩ := hf 2 _ rfl
 obtain ⟨v3, n3, y3, e3, t3⟩ := hf 3 _ rfl
 obtain ⟨v4, n4, y4, e4, t4⟩ := hf 4 _ rfl
 obtain ⟨s0, i0, _, b0⟩ := DataW.trod_string Tryz.underlying9 t0
 injection i0 with i0
 subst i0
 obtain ⟨s1, i1, _, b1⟩ := DataW.trod_string Tryz.underlying9 t1
 injection i1 with i1
 subst i1
 obtain ⟨s2, i2, _, b2⟩ := DataW.trod_string Tryz.underlying9 t2
 injection i2 with i2
 subst i2
 obtain ⟨s3, i3, _⟩ := DataW.trod_bool Tryz.underlying4 t3
 injection i3 with i3
 subst i3
 obtain ⟨s4, i4, _⟩ := DataW.trod_bool Tryz.underlying4 t4
 injection i4 with i4
 subst i4
 match cs, hl with
 | [c0, c1, c2, c3, c4], _ =>
  simp only [List.getElem?_cons_zero, List.getElem?_cons_succ, Option.some.injEq] at e0 e1 e2 e3 e4
  subst e0 e1 e2 e3 e4
  exact ⟨⟨s0, s1, s2, s3, s4⟩, rfl, dA b0, dA b1, dA b2⟩
theorem bAn (fuel : Nat) (cs : List Value) (y : DataW H × List MemPlace) (h : DataW.trod enc Tryz.prog W 0 (fun _ => true) true fuel 41 cs = some y) : ∃ x : BranchD, x.cells = cs ∧ (x.name.size ≤ 9223372036854775807 ∧ x.src.size ≤ 9223372036854775807 ∧ x.dst.size ≤ 9223372036854775807) := by
 obtain ⟨hl, hf⟩ := iV Tryz.underlying41 (by kernel_rfl) (by kernel_rfl) h
 obtain ⟨v0, n0, y0, e0, t0⟩ := hf 0 _ rfl
 obtain ⟨v1, n1, y1, e1, t1⟩ := hf 1 _ rfl
 obtain ⟨v2, n2, y2, e2, t2⟩ := hf 2 _ rfl
 obtain ⟨v3, n3, y3, e3, t3⟩ := hf 3 _ rfl
 obtain ⟨v4, n4, y4, e4, t4⟩ := hf 4 _ rfl
 obtain ⟨v5, n5, y5, e5, t5⟩ := hf 5 _ rfl
 obtain ⟨v6, n6, y6, e6, t6⟩ := hf 6 _ rfl
 obtain ⟨v7, n7, y7, e7, t7⟩ := hf 7 _ rfl
 obtain ⟨v8, n8, y8, e8, t8⟩ := hf 8 _ rfl
 obtain ⟨s0, i0, _, b0⟩ := DataW.trod_string Tryz.underlying9 t0
 injection i0 with i0
 subst i0
 obtain ⟨s1, i1, _, b1⟩ := DataW.trod_string Tryz.underlying9 t1
 injection i1 with i1
 subst i1
 obtain ⟨s2, i2, _, b2⟩ := DataW.trod_string Tryz.underlying9 t2
 injection i2 with i2
 subst i2
 obtain ⟨s3, i3, _, _⟩ := DataW.trod_int Tryz.underlying3 t3
 injection i3 with i3
 subst i3
 obtain ⟨s4, i4, _, _⟩ := DataW.trod_int Tryz.underlying3 t4
 injection i4 with i4
 subst i4
 obtain ⟨s5, i5, _, _⟩ := DataW.trod_int Tryz.underlying3 t5
 injection i5 with i5
 subst i5
 obtain ⟨s6, i6, _, _⟩ := DataW.trod_int Tryz.underlying3 t6
 injection i6 with i6
 subst i6
 obtain ⟨s7, i7, _, _⟩ := DataW.trod_int Tryz.underlying3 t7
 injection i7 with i7
 subst i7
 obtain ⟨s8, i8, _, _⟩ := DataW.trod_int Tryz.underlying3 t8
 injection i8 with i8
 subst i8
 match cs, hl with
 | [c0, c1, c2, c3, c4, c5, c6, c7, c8], _ =>
  simp only [List.getElem?_cons_zero, List.getElem?_cons_succ, Option.some.injEq] at e0 e1 e2 e3 e4 e5 e6 e7 e8
  subst e0 e1 e2 e3 e4 e5 e6 e7 e8
  exact ⟨⟨s0, s1, s2, s3, s4, s5, s6, s7, s8⟩, rfl, dA b0, dA b1, dA b2⟩
theorem bAo (fuel : Nat) (cs : List Value) (y : DataW H × List MemPlace) (h : DataW.trod enc Tryz.prog W 0 (fun _ => true) true fuel 138 cs = some y) : ∃ x : GenD, x.cells = cs ∧ (x.name.size ≤ 9223372036854775807 ∧ x.node.size ≤ 9223372036854775807) := by
 obtain ⟨hl, hf⟩ := iV Tryz.underlying138 (by kernel_rfl) (by kernel_rfl) h
 obtain ⟨v0, n0, y0, e0, t0⟩ := hf 0 _ rfl
 obtain ⟨v1, n1, y1, e1, t1⟩ := hf 1 _ rfl
 obtain ⟨v2, n2, y2, e2, t2⟩ := hf 2 _ rfl
 obtain ⟨v3, n3, y3, e3, t3⟩ := hf 3 _ rfl
 obtain ⟨v4, n4, y4, e4, t4⟩ := hf 4 _ rfl
 obtain ⟨s0, i0, _, b0⟩ := DataW.trod_string Tryz.underlying9 t0
 injection i0 with i0
 subst i0
 obtain ⟨s1, i1, _, b1⟩ := DataW.trod_string Tryz.underlying9 t1
 injection i1 with i1
 subst i1
 obtain ⟨s2, i2, _, _⟩ := DataW.trod_int Tryz.underlying3 t2
 injection i2 with i2
 subst i2
 obtain ⟨s3, i3, _, _⟩ := DataW.trod_int Tryz.underlying3 t3
 injection i3 with i3
 subst i3
 obtain ⟨s4, i4, _, _⟩ := DataW.trod_int Tryz.underlying3 t4
 injection i4 with i4
 subst i4
 match cs, hl with
 | [c0, c1, c2, c3, c4], _ =>
  simp only [List.getElem?_cons_zero, List.getElem?_cons_succ, Option.some.injEq] at e0 e1 e2 e3 e4
  subst e0 e1 e2 e3 e4
  exact ⟨⟨s0, s1, s2, s3, s4⟩, rfl, dA b0, dA b1⟩
theorem bAp (fuel : Nat) (cs : List Value) (y : DataW H × List MemPlace) (h : DataW.trod enc Tryz.prog W 0 (fun _ => true) true fuel 141 cs = some y) : ∃ x : LoadD, x.cells = cs ∧ (x.name.size ≤ 9223372036854775807 ∧ x.node.size ≤ 9223372036854775807) := by
 obtain ⟨hl, hf⟩ := iV Tryz.underlying141 (by kernel_rfl) (by kernel_rfl) h
 obtain ⟨v0, n0, y0, e0, t0⟩ := hf 0 _ rfl
 obtain ⟨v1, n1, y1, e1, t1⟩ := hf 1 _ rfl
 obtain ⟨v2, n2, y2, e2, t2⟩ := hf 2 _ rfl
 obtain ⟨s0, i0, _, b0⟩ := DataW.trod_string Tryz.underlying9 t0
 injection i0 with i0
 subst i0
 obtain ⟨s1, i1, _, b1⟩ := DataW.trod_string Tryz.underlying9 t1
 injection i1 with i1
 subst i1
 obtain ⟨s2, i2, _, _⟩ := DataW.trod_int Tryz.underlying3 t2
 injection i2 with i2
 subst i2
 match cs, hl with
 | [c0, c1, c2], _ =>
  simp only [List.getElem?_cons_zero, List.getElem?_cons_succ, Option.some.injEq] at e0 e1 e2
  subst e0 e1 e2
  exact ⟨⟨s0, s1, s2⟩, rfl, dA b0, dA b1⟩
theorem bAq (fuel : Nat) (cs : List Value) (y : DataW H × List MemPlace) (h : DataW.trod enc Tryz.prog W 0 (fun _ => true) true fuel 144 cs = some y) : ∃ x : StoreD, x.cells = cs ∧ (x.name.size ≤ 9223372036854775807 ∧ x.node.size ≤ 9223372036854775807) := by
 obtain ⟨hl, hf⟩ := iV Tryz.underlying144 (by kernel_rfl) (by kernel_rfl) h
 obtain ⟨v0, n0, y0, e0, t0⟩ := hf 0 _ rfl
 obtain ⟨v1, n1, y1, e1, t1⟩ := hf 1 _ rfl
 obtain ⟨v2, n2, y2, e2, t2⟩ := hf 2 _ rfl
 obtain ⟨v3, n3, y3, e3, t3⟩ := hf 3 _ rfl
 obtain ⟨v4, n4, y4, e4, t4⟩ := hf 4 _ rfl
 obtain ⟨s0, i0, _, b0⟩ := DataW.trod_string Tryz.underlying9 t0
 injection i0 with i0
 subst i0
 obtain ⟨s1, i1, _, b1⟩ := DataW.trod_string Tryz.underlying9 t1
 injection i1 with i1
 subst i1
 obtain ⟨s2, i2, _, _⟩ := DataW.trod_int Tryz.underlying3 t2
 injection i2 with i2
 subst i2
 obtain ⟨s3, i3, _, _⟩ := DataW.trod_int Tryz.underlying3 t3
 injection i3 with i3
 subst i3
 obtain ⟨s4, i4, _, _⟩ := DataW.trod_int Tryz.underlying3 t4
 injection i4 with i4
 subst i4
 match cs, hl with
 | [c0, c1, c2, c3, c4], _ =>
  simp only [List.getElem?_cons_zero, List.getElem?_cons_succ, Option.some.injEq] at e0 e1 e2 e3 e4
  subst e0 e1 e2 e3 e4
  exact ⟨⟨s0, s1, s2, s3, s4⟩, rfl, dA b0, dA b1⟩
theorem el9 (fuel : Nat) (cs : List Value) (y : DataW H × List MemPlace) (h : DataW.trod enc Tryz.prog W 0 (fun _ => true) true fuel 9 cs = some y) : ∃ x : ByteArray, [S x] = cs ∧ x.size ≤ 9223372036854775807 := by
 obtain ⟨s, i, _, b⟩ := DataW.trod_string Tryz.underlying9 h
 exact ⟨s, i.symm, dA b⟩
theorem aLj (l : List ByteArray) : aN (fun x => [S x]) l = l.map S := by
 induction l with
 | nil => rfl
 | cons x l ih => simp only [aN, List.flatMap_cons, List.map_cons] at ih ⊢; rw [ih]; rfl
theorem aPc {r : Reach} {b0 : Nat} {u : Value} {d : DataW H} {p : List MemPlace} (hv : Value.okWide Tryz.prog W r b0 29 u) (h : DataW.Trod enc Tryz.prog W 0 (fun _ => true) true 29 u d p) : ∃ (n : NetD) (v : NetV), u = v.val n ∧ Net W n v := by
 obtain ⟨cs, rfl, hsz⟩ := okWide_struct Tryz.underlying29 hv
 obtain ⟨fuel, hf⟩ := h
 obtain ⟨hl, hfl⟩ := iV Tryz.underlying29 (by kernel_rfl) (by kernel_rfl) hf
 obtain ⟨l⟩ := cs
 have hl' : l.length = 6 := hsz.trans (by kernel_rfl)
 match l, hl' with
 | [u0, u1, u2, u3, u4, u5], _ =>
  obtain ⟨v0, n0, y0, e0, t0⟩ := hfl 0 _ rfl
  have e0' : u0 = v0 := by simpa [Value.cells] using e0
  subst e0'
  clear e0
  obtain ⟨v1, n1, y1, e1, t1⟩ := hfl 1 _ rfl
  have e1' : u1 = v1 := by simpa [Value.cells] using e1
  subst e1'
  clear e1
  obtain ⟨v2, n2, y2, e2, t2⟩ := hfl 2 _ rfl
  have e2' : u2 = v2 := by simpa [Value.cells] using e2
  subst e2'
  clear e2
  obtain ⟨v3, n3, y3, e3, t3⟩ := hfl 3 _ rfl
  have e3' : u3 = v3 := by simpa [Value.cells] using e3
  subst e3'
  clear e3
  obtain ⟨v4, n4, y4, e4, t4⟩ := hfl 4 _ rfl
  have e4' : u4 = v4 := by simpa [Value.cells] using e4
  subst e4'
  clear e4
  obtain ⟨v5, n5, y5, e5, t5⟩ := hfl 5 _ rfl
  have e5' : u5 = v5 := by simpa [Value.cells] using e5
  subst e5'
  clear e5
  obtain ⟨l0, A0, c0, hu0, r0, o0, m0, _⟩ := gQ (f := (fun x => [S x])) (sz := 1) (by omega) (fun _ => rfl) Tryz.underlying22 (by kernel_rfl) el9 t0
  subst hu0
  obtain ⟨l1, A1, c1, hu1, r1, o1, m1, _⟩ := gQ (f := SwitchD.cells) (sz := 5) (by omega) (fun _ => rfl) Tryz.underlying23 (by kernel_rfl) bBt t1
  subst hu1
  obtain ⟨l2, A2, c2, hu2, r2, o2, m2, _⟩ := gQ (f := BranchD.cells) (sz := 9) (by omega) (fun _ => rfl) Tryz.underlying24 (by kernel_rfl) bAn t2
  subst hu2
  obtain ⟨l3, A3, c3, hu3, r3, o3, m3, _⟩ := gQ (f := GenD.cells) (sz := 5) (by omega) (fun _ => rfl) Tryz.underlying25 (by kernel_rfl) bAo t3
  subst hu3
  obtain ⟨l4, A4, c4, hu4, r4, o4, m4, _⟩ := gQ (f := LoadD.cells) (sz := 3) (by omega) (fun _ => rfl) Tryz.underlying26 (by kernel_rfl) bAp t4
  subst hu4
  obtain ⟨l5, A5, c5, hu5, r5, o5, m5, _⟩ := gQ (f := StoreD.cells) (sz := 5) (by omega) (fun _ => rfl) Tryz.underlying27 (by kernel_rfl) bAq t5
  subst hu5
  rw [aLj] at r0
  exact ⟨⟨l0, l1, l2, l3, l4, l5⟩, ⟨A0, c0, A1, c1, A2, c2, A3, c3, A4, c4, A5, c5⟩, rfl, ⟨r0, r1, r2, r3, r4, r5⟩, ⟨o0, o1, o2, o3, o4, o5⟩, m0, m1, m2, m3, m4, m5⟩
end
section
variable {H : Type} {enc : TypeId × Value → H} {W : World}
end
theorem tab_of_laid {W : World} (h : laidMetH Tryz.prog [("math/bits.deBruijn32tab", Rows.laid_math_bits_deBruijn32tab), ("math/bits.deBruijn64tab", Rows.laid_math_bits_deBruijn64tab), ("internal/strconv.uint64pow10", Lib.tabData .u64 Lib.pow10Tab), ("strconv.ErrRange", Rows.laid_strconv_ErrRange), ("strconv.ErrSyntax", Rows.laid_strconv_ErrSyntax)] W) : Tab W := by
 rw [MakeChecks.laidMetH_plain _ _ _ (by kernel_rfl)] at h
 have h2 := (show laidMet Tryz.prog [("math/bits.deBruijn32tab", Rows.laid_math_bits_deBruijn32tab), ("math/bits.deBruijn64tab", Rows.laid_math_bits_deBruijn64tab), ("internal/strconv.uint64pow10", Lib.tabData .u64 Lib.pow10Tab), ("strconv.ErrRange", Rows.laid_strconv_ErrRange), ("strconv.ErrSyntax", Rows.laid_strconv_ErrSyntax)] W from h).tail.tail
 obtain ⟨g, hg⟩ := Option.isSome_iff_exists.1 bAm
 exact Lib.tabIs_of_head hg (by obtain rfl : g = (Tryz.prog.globalNamed "internal/strconv.uint64pow10").get bAm := by simp [hg]
                                kernel_rfl) Tryz.underlying312 Tryz.underlying245 (by kernel_rfl) (by kernel_rfl) h2
theorem aVd : Tryz.prog.cellsOf 3 = 1 := by kernel_rfl
section
variable {H : Type} {enc : TypeId × Value → H} {W : World}
theorem aYg (fuel : Nat) (cs : List Value) (y : DataW H × List MemPlace) (h : DataW.trod enc Tryz.prog W 0 (fun _ => true) true fuel 3 cs = some y) : ∃ z : Int, [I z] = cs ∧ True := by
 obtain ⟨z, rfl, _, _⟩ := DataW.trod_int Tryz.underlying3 h
 exact ⟨z, rfl, trivial⟩
theorem aYh (l : List Int) : aN (fun z => [I z]) l = l.map I := by
 induction l with
 | nil => rfl
 | cons x l ih => simp only [aN, List.flatMap_cons, List.map_cons] at ih ⊢; rw [ih]; rfl
theorem aLk {T : TypeId} (hT : Tryz.prog.underlying T = some (.slice 3)) {fuel : Nat} {u : Value} {y : DataW H × List MemPlace} (h : DataW.trod enc Tryz.prog W 0 (fun _ => true) true fuel T [u] = some y) :
  ∃ (l : List Int) (A : Option Addr) (c : Nat), u = .slice A l.length c ∧ Reads W W.heap.size 1 A l.length (l.map I) ∧ l.length ≤ 9223372036854775807 := by
 obtain ⟨l, A, c, h1, h2, _, h4, _⟩ := gQ (f := fun z : Int => [I z]) (ok := fun _ => True) (sz := 1) (by decide) (fun _ => rfl) hT aVd aYg h
 rw [aYh] at h2
 exact ⟨l, A, c, h1, h2, h4⟩
end
end Go.Proofs.YtenbglfkdldheaaGreatDoor
