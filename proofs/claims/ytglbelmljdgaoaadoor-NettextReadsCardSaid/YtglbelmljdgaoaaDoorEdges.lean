/- station.edges. -/
import Derived.Test.YtglbelmljdgaoaaDoorCopy
import Derived.Test.YtglbelmljdgaoaaDoorMem2
import Derived.Test.YtglbelmljdgaoaaDoorTree
import Derived.Deep.RegionHeld3
namespace Go.Proofs.YtglbelmljdgaoaaDoor
open Go.RowKit

/-- append to a row of the call's own, at a step of a region that draws its order -/
theorem step_append_rowG {P : Program} {w : World} {ops : Array Oper} {o : Oper} {a : Act} {K : Act → World → Prop} {Q : Exit → Act → World → Prop} {E : Prop} (hgd : o.guard = none) (s x : Operand) (t : TypeId)
    (ho : o.op = .call { callee := .builtin .append, args := #[s, x], argTypes := #[t, t] })
    (base : Nat) (e : TypeId) (i : TypeInfo) (z : Value) (sz bytes : Nat) (ht : P.underlying t = some (.slice e)) (hi : P.info? e = some i) (hz : i.zero = some z)
    (hsize : i.size = sz) (hby : i.bytes = bytes) (hzs : z.cells.size = sz) (hsz : 0 < sz)
    (v : Value) (n : Nat) (xs : List Value) (hsv : a.eval s = v) (hr : Row w base e sz v n xs)
    (B : Nat) (A : Option Addr) (m c : Nat) (news : List Value) (hx : a.eval x = .slice A m c) (hs : Reads w B sz A m news) (h1 : ∀ u ∈ news, u.oneCell' = true)
    (h63 : n + m ≤ maxLen) (hbytes : (n + m) * bytes ≤ 140737488355328) (hbase : base ≤ w.heap.size)
    (h : ∀ v' w', Row w' base e sz v' (n + m) (xs ++ news) → w.grownBy w' v.ownBlock → K (a.put o.dst v') w') :
    if Region.wanted o (yielded ops a.tmps) = true then Oper.wp P o a w K Q else E := by
  have hw : Region.wanted o (yielded ops a.tmps) = true := by simp [Region.wanted, hgd]
  rw [if_pos hw]
  obtain ⟨v', w', hrun, h2, h3⟩ := run_append_rowG (P := P) w base t o.type e i z sz bytes ht hi hz hsize hby hzs hsz v n xs hr B A m c news hs h1 h63 hbytes hbase
  unfold Oper.wp execOp
  simp only [ho, resolve, invoke, builtin, Sem.run_bind, Sem.run_pure, Result.andThen_ok, List.map_toArray, List.map_cons, List.map_nil, hsv, hx, hrun]
  exact h v' w' h2 h3

theorem Tryd.info105 : (Tryd.prog.info? 105).map (fun i => (i.zero, i.size, i.bytes)) = some (some (.agg #[.int .i64 0, .int .i64 0]), 2, 16) := by kernel_rfl

theorem idxS_any (l : List ByteArray) (n : Nat) (A : Option Addr) (c : Nat) (x : ByteArray) (w : World) (B : Nat) (hln : l.length = n) (hr : Reads w B 1 A n (l.map S)) (hl : n ≤ 1000000) :
    Calls Tryd.prog 40 #[.slice A n c, .string x] w fun e w' => e = .returned (I (Lib.idxOfS l x)) ∧ w = w' := by
  subst hln
  by_cases h0 : l.length = 0
  · have : l = [] := List.eq_nil_of_length_eq_zero h0
    subst this
    exact (Tryd.slices_Index_string_empty A c x w).mono fun e w' ⟨h1, h2⟩ => ⟨h1, h2.symm⟩
  · obtain ⟨b, off, rfl, _, hc⟩ := hr.2 (by omega)
    refine (Tryd.slices_Index_string b off l.length c l x w (Nat.le_refl _) (by omega) (fun j hj => hc j _ (by simp [hj]))).mono fun e w' ⟨h1, h2⟩ => ⟨by rw [h1, List.take_of_length_le (Nat.le_refl _)], h2.symm⟩

/-- the edges of the open or closed switches, each with its switch -/
def edgesFrom (nodes : List ByteArray) (o : Bool) : Nat → List SwitchD → List ((Int × Int) × Int)
  | _, [] => []
  | i, s :: r => if (s.opn == o) = true then ((Lib.idxOfS nodes s.a, Lib.idxOfS nodes s.b), (i : Int)) :: edgesFrom nodes o (i + 1) r else edgesFrom nodes o (i + 1) r
def edgesL (n : NetD) (o : Bool) : List ((Int × Int) × Int) := edgesFrom n.nodes o 0 n.switches

/-- the loop of edges -/
structure EdgesInv (wb : World) (nodes : List ByteArray) (o : Bool) (sws : List SwitchD) (res : List ((Int × Int) × Int)) (j : Nat) (lv kv : Value) (es : List ((Int × Int) × Int)) (wr : World) : Prop where
  l : Row wr wb.heap.size 105 2 lv es.length (cells2 (es.map (·.1)))
  k : Row wr wb.heap.size 3 1 kv es.length ((es.map (·.2)).map I)
  below : Below wb.heap.size wb wr
  rest : es ++ edgesFrom nodes o j (sws.drop j) = res
  few : es.length ≤ j

theorem Row.own_block {w : World} {base : Nat} {e : TypeId} {sz n : Nat} {v : Value} {xs : List Value} (h : Row w base e sz v n xs) {g : Nat} (hg : v.ownBlock = some g) : base ≤ g ∧ g < w.heap.size := by
  rcases h.2 with ⟨rfl, _⟩ | ⟨g', off, cap, cur, rfl, hb, hh, _⟩
  · simp [Value.ownBlock] at hg
  · simp [Value.ownBlock] at hg
    subst hg
    exact ⟨hb, hh.lt⟩
/-- a cell that no row holds is as it was behind an append -/
theorem Row.cell_far {w w' W : World} {base : Nat} {e : TypeId} {sz n : Nat} {v : Value} {xs : List Value} (h : Row w base e sz v n xs) (hg : W.grownBy w' v.ownBlock) {g o : Nat} {u : Value} (hc : W.cell? ⟨g, o, none⟩ = some u) (hne : g < base ∨ w.heap.size ≤ g) : w'.cell? ⟨g, o, none⟩ = some u :=
  hg.cell hc (fun e => by have := h.own_block (g := g) (by simpa using e.symm); omega)
theorem cells2_snoc (l : List (Int × Int)) (x : Int × Int) : cells2 l ++ [I x.1, I x.2] = cells2 (l ++ [x]) := by simp [cells2]

theorem Reads.drew {w : World} {B sz n : Nat} {A : Option Addr} {xs : List Value} (h : Reads w B sz A n xs) : Reads w.drew B sz A n xs := h.keep fun _ _ => rfl
theorem Row.drew {w : World} {base : Nat} {e : TypeId} {sz n : Nat} {v : Value} {xs : List Value} (h : Row w base e sz v n xs) : Row w.drew base e sz v n xs := h.keep fun _ _ _ => rfl
theorem reads_pairN (w : World) (t : TypeId) (x y : Value) : Reads (w.alloc (.cells #[x, y] t)).drew (w.heap.size + 1) 2 (some ⟨w.heap.size, 0, none⟩) 1 [x, y] := by
  refine ⟨rfl, fun _ => ⟨_, _, rfl, by omega, fun j u hu => ?_⟩⟩
  have := (Blk.new w t #[x, y]).cell (0 + j)
  refine (show (w.alloc (.cells #[x, y] t)).drew.cell? ⟨w.heap.size, 0 + j, none⟩ = _ from this).trans ?_
  simpa using hu
theorem edges_keep {w W1 w2 : World} {o : Obj} {base : Nat} {e : TypeId} {sz n : Nat} {v : Value} {xs : List Value} (h : Row w base e sz v n xs) (hg : (W1.alloc o).drew.grownBy w2 v.ownBlock) {g1 o1 g2 o2 g3 o3 : Nat} {u1 u2 u3 : Value}
    (h1 : W1.cell? ⟨g1, o1, none⟩ = some u1) (h2 : W1.cell? ⟨g2, o2, none⟩ = some u2) (h3 : W1.cell? ⟨g3, o3, none⟩ = some u3) (k1 : g1 < base ∨ w.heap.size ≤ g1) (k2 : g2 < base ∨ w.heap.size ≤ g2) (k3 : g3 < base ∨ w.heap.size ≤ g3) :
    w2.cell? ⟨g1, o1, none⟩ = some u1 ∧ w2.cell? ⟨g2, o2, none⟩ = some u2 ∧ w2.cell? ⟨g3, o3, none⟩ = some u3 := by
  have al : ∀ {g o' : Nat} {u : Value}, W1.cell? ⟨g, o', none⟩ = some u → (W1.alloc o).drew.cell? ⟨g, o', none⟩ = some u := by
    intro g o' u hc
    exact (World.cell?_alloc_lt W1 o ⟨g, o', none⟩ (World.block_lt_of_cell? W1 _ hc)).trans hc
  exact ⟨h.cell_far hg (al h1) k1, h.cell_far hg (al h2) k2, h.cell_far hg (al h3) k3⟩

def RetEdges (w : World) (es : List ((Int × Int) × Int)) (e : Ending) (w' : World) : Prop :=
  ∃ lv kv, e = .returned (.tuple #[lv, kv]) ∧ Row w' w.heap.size 105 2 lv es.length (cells2 (es.map (·.1))) ∧ Row w' w.heap.size 3 1 kv es.length ((es.map (·.2)).map I) ∧ Below w.heap.size w w'

set_option maxRecDepth 100000 in
set_option maxHeartbeats 2000000 in
theorem edges_any (n : NetD) (v : NetV) (o : Bool) (w : World) (hN : NetIn w n v) (h1 : n.nodes.length ≤ 1000) (h2 : n.switches.length ≤ 1000) : Calls Tryd.prog 59 #[v.val n, .bool o] w (RetEdges w (edgesL n o)) := by
  have HN0 := Lib.hid hN
  clear hN
  unfold NetV.val NetV.parts
  obtain ⟨na, nc, sa, sc, ba, bc, ga, gc, la, lc, ta, tc⟩ := v
  obtain ⟨nodes, sws, brs, gens, loads, stores⟩ := n
  simp only at h1 h2 ⊢
  go_enter Tryd.func59, Tryd.ntmps59
  go_wp2
  obtain ⟨nb, hnb⟩ : ∃ nb, nb = #[Value.slice na nodes.length nc, Value.slice sa sws.length sc, Value.slice ba brs.length bc, Value.slice ga gens.length gc, Value.slice la loads.length lc, Value.slice ta stores.length tc] := ⟨_, rfl⟩
  rw [← hnb]
  have hext : Below w.heap.size w (w.alloc (Obj.cells nb 29)) := (Below.refl _ w).alloc (Nat.le_refl _) _
  have HN := Lib.hid (HN0.out.below hext)
  have HB1 := Lib.hid (Blk.new w 29 nb)
  have HEX := Lib.hid hext
  generalize w.alloc (Obj.cells nb 29) = wb at *
  subst hnb
  clear hext HN0
  have HI : EdgesInv wb nodes o sws (edgesL ⟨nodes, sws, brs, gens, loads, stores⟩ o) 0 (.slice none 0 0) (.slice none 0 0) [] wb :=
    ⟨Row.nil _ _ _ _, Row.nil _ _ _ _, Below.refl _ _, rfl, by simp⟩
  obtain ⟨res, hres⟩ : ∃ res, edgesL ⟨nodes, sws, brs, gens, loads, stores⟩ o = res := ⟨_, rfl⟩
  rw [hres] at HI
  have HRES := Lib.hid hres
  clear hres
  go_loopg [6, 7, 13] (sws.length - 0) (fun r lv kv iv wr => ∃ (j : Nat) (es : List ((Int × Int) × Int)), r = sws.length - j ∧ iv = I j ∧ j ≤ sws.length ∧ EdgesInv wb nodes o sws res j lv kv es wr)
  case atStart => exact ⟨0, [], rfl, rfl, by omega, HI⟩
  case round =>
    clear HI
    obtain ⟨j, es, rfl, rfl, hj, hG⟩ := hrel
    obtain ⟨wa, rfl⟩ : ∃ wa : World, wa = wr := ⟨_, rfl⟩
    have hb0 : wa.cell? ⟨w.heap.size, 0, none⟩ = some (.slice na nodes.length nc) := by rw [(HB1.out.below hG.below HB1.out.lt).cell]; rfl
    have hlt00 : w.heap.size < wa.heap.size := Nat.lt_of_lt_of_le HB1.out.lt hG.below.size
    have hlt01 : w.heap.size < wb.heap.size := HB1.out.lt
    have hlt02 : wb.heap.size ≤ wa.heap.size := hG.below.size
    have hIN := HN.out.below hG.below
    by_cases hlt : j < sws.length
    · obtain ⟨b, off, rfl, hbl', hcs⟩ := reads_by (f := SwitchD.cells) (sz := 5) (fun _ => rfl) (by omega) hIN.switches hlt
      have hrest : sws.drop j = sws[j] :: sws.drop (j + 1) := List.drop_eq_getElem_cons hlt
      have HR := Lib.hid hG.rest
      obtain ⟨g, hg⟩ : ∃ g, sws[j] = g := ⟨_, rfl⟩
      rw [hrest, hg] at HR
      rw [hg] at hcs
      clear hg hrest
      obtain ⟨nm, xa, xb, br, op⟩ := g
      have c0 := hcs 0 _ rfl
      have c1 := hcs 1 _ rfl
      have c2 := hcs 2 _ rfl
      have c3 := hcs 3 _ rfl
      have c4 := hcs 4 _ rfl
      simp only [← Nat.add_assoc, Nat.add_zero] at c0 c1 c2 c3 c4
      have HG := Lib.hid hG
      have HNO := Lib.hid hIN.nodes
      clear hcs hIN hG
      by_cases ho : (op == o) = true
      · have HR2 := Lib.hid (show (es ++ [((Lib.idxOfS nodes xa, Lib.idxOfS nodes xb), (j : Int))]) ++ edgesFrom nodes o (j + 1) (sws.drop (j + 1)) = res by rw [← HR.out, edgesFrom, if_pos ho]; simp)
        clear HR
        go_wp2
        have hx0 : (wa.alloc (Obj.cells #[Value.string nm, Value.string xa, Value.string xb, Value.bool br, Value.bool op] 40)).cell? ⟨w.heap.size, 0, none⟩ = some (.slice na nodes.length nc) := by rw [World.cell?_alloc_lt _ _ _ hlt00]; exact hb0
        have hx1 : (wa.alloc (Obj.cells #[Value.string nm, Value.string xa, Value.string xb, Value.bool br, Value.bool op] 40)).cell? ⟨wa.heap.size, 1, none⟩ = some (.string xa) := (Blk.new wa 40 _).cell 1
        have hx2 : (wa.alloc (Obj.cells #[Value.string nm, Value.string xa, Value.string xb, Value.bool br, Value.bool op] 40)).cell? ⟨wa.heap.size, 2, none⟩ = some (.string xb) := (Blk.new wa 40 _).cell 2
        have HL := Lib.hid (HG.out.l.alloc (Obj.cells #[Value.string nm, Value.string xa, Value.string xb, Value.bool br, Value.bool op] 40))
        have HK := Lib.hid (HG.out.k.alloc (Obj.cells #[Value.string nm, Value.string xa, Value.string xb, Value.bool br, Value.bool op] 40))
        have HBE := Lib.hid (HG.out.below.alloc HG.out.below.size (Obj.cells #[Value.string nm, Value.string xa, Value.string xb, Value.bool br, Value.bool op] 40))
        have HNO2 := Lib.hid (HNO.out.below (w' := (wa.alloc (Obj.cells #[Value.string nm, Value.string xa, Value.string xb, Value.bool br, Value.bool op] 40))) ((Below.refl _ wa).alloc (Nat.le_refl _) _))
        have hsz : (wa.alloc (Obj.cells #[Value.string nm, Value.string xa, Value.string xb, Value.bool br, Value.bool op] 40)).heap.size = wa.heap.size + 1 := World.size_alloc _ _
        have HSZ := Lib.hid hsz
        have hsz1 : wa.heap.size < (wa.alloc (Obj.cells #[Value.string nm, Value.string xa, Value.string xb, Value.bool br, Value.bool op] 40)).heap.size := by omega
        have hsz2 : w.heap.size < (wa.alloc (Obj.cells #[Value.string nm, Value.string xa, Value.string xb, Value.bool br, Value.bool op] 40)).heap.size := by omega
        have HFEW := Lib.hid HG.out.few
        have HLA := Lib.hid HG.out.l
        generalize wa.alloc (Obj.cells #[Value.string nm, Value.string xa, Value.string xb, Value.bool br, Value.bool op] 40) = W1 at *
        clear hsz HG HNO hb0 c0 c1 c2 c3 c4
        obtain ⟨i0, hi0, hz0, hz1, hz2⟩ := info_parts Tryd.info105
        have HI0 := Lib.hid hi0
        have HZ0 := Lib.hid hz0
        have HZ1 := Lib.hid hz1
        have HZ2 := Lib.hid hz2
        clear hi0 hz0 hz1 hz2
        have hfew : es.length ≤ 1000 := by have := HFEW.out; omega
        go_region_held3 (fun w' => w'.cell? ⟨w.heap.size, 0, none⟩ = some (.slice na nodes.length nc) ∧ w'.cell? ⟨wa.heap.size, 1, none⟩ = some (.string xa) ∧ w'.cell? ⟨wa.heap.size, 2, none⟩ = some (.string xb))
          (first | (with_reducible exact ⟨hx0, hx1, hx2⟩) | (with_reducible exact ⟨HX.out.1, HX.out.2.1, HX.out.2.2⟩) | go_keep)
          (first | (go_at_call 40; refine (idxS_any nodes _ na nc _ _ _ rfl HNO2.out.drew (by omega)).mono ?_; rintro e w' ⟨rfl, rfl⟩) | (refine step_append_rowG (by rfl) _ _ 104 (by rfl) wb.heap.size 105 i0 _ 2 16 Tryd.underlying104 HI0.out HZ0.out HZ1.out HZ2.out rfl (by decide) u6 es.length (cells2 (es.map (·.1))) (by rfl) (HL.out.alloc _).drew (W1.heap.size + 1) (some ⟨W1.heap.size, 0, none⟩) 1 1 [I (Lib.idxOfS nodes xa), I (Lib.idxOfS nodes xb)] (by rfl) (reads_pairN W1 105 _ _) (by simp [Value.oneCell']) (by unfold maxLen; omega) (by omega) (by simp; omega) ?_; intro v' w2 hr2 hg2; have HX := Lib.hid (edges_keep HLA.out hg2 hx0 hx1 hx2 (by omega) (by omega) (by omega))))
        have hR1 := (HL.out.alloc (Obj.cells #[I (Lib.idxOfS nodes xa), I (Lib.idxOfS nodes xb)] 105)).drew
        have HK2 := Lib.hid (((HK.out.alloc (Obj.cells #[I (Lib.idxOfS nodes xa), I (Lib.idxOfS nodes xb)] 105)).drew).apart hR1 (by decide) hg2)
        have HBE2 := Lib.hid (((HBE.out.alloc (by omega) (Obj.cells #[I (Lib.idxOfS nodes xa), I (Lib.idxOfS nodes xb)] 105)).drew).trans (hR1.belowG hg2 (by simp; omega)))
        have HL2 := Lib.hid hr2
        have hz2 : wb.heap.size ≤ w2.heap.size := HBE2.out.size
        clear hR1 hg2 hr2 HK HBE HL HLA HX hx0 hx1 hx2
        obtain ⟨j0, hj0, hy0, hy1, hy2⟩ := info_parts Tryd.info3
        have HJ0 := Lib.hid hj0
        have HY0 := Lib.hid hy0
        have HY1 := Lib.hid hy1
        have HY2 := Lib.hid hy2
        clear hj0 hy0 hy1 hy2
        go_wp2_with (at_builtin; refine wpList_append_rowG rfl _ _ 30 rfl wb.heap.size 3 j0 _ 1 8 Tryd.underlying30 HJ0.out HY0.out HY1.out HY2.out rfl (by decide) u7 es.length ((es.map (·.2)).map I) rfl (HK2.out.alloc _) (w2.heap.size + 1) (some ⟨w2.heap.size, 0, none⟩) 1 1 [I j] rfl (reads_one w2 3 (I j)) (by simp [Value.oneCell']) ?c1 ?c2 ?c3 ?_)
        case c1 => unfold maxLen; omega
        case c2 => omega
        case c3 => simp; omega
        intro v3 w3 hr3 hg3
        have HL3 := Lib.hid ((HL2.out.alloc (.cells #[I j] 3)).apart (HK2.out.alloc (.cells #[I j] 3)) (by decide) hg3)
        have HBE3 := Lib.hid ((HBE2.out.alloc hz2 (.cells #[I j] 3)).trans ((HK2.out.alloc (.cells #[I j] 3)).belowG hg3 (by simp; omega)))
        have HK3 := Lib.hid hr3
        clear hr3 hg3 HL2 HK2 HBE2
        go_wp2
        go_roundg (sws.length - (j + 1))
        case measure => omega
        case rel =>
          refine ⟨j + 1, es ++ [((Lib.idxOfS nodes xa, Lib.idxOfS nodes xb), (j : Int))], rfl, by go_num, by omega, ?_, ?_, HBE3.out, HR2.out, by have := HFEW.out; simp; omega⟩
          · have := HL3.out
            rw [cells2_snoc (es.map (·.1)) (Lib.idxOfS nodes xa, Lib.idxOfS nodes xb)] at this
            simpa using this
          · have := HK3.out
            simpa using this
      · have HR2 := Lib.hid (show es ++ edgesFrom nodes o (j + 1) (sws.drop (j + 1)) = res by rw [← HR.out, edgesFrom, if_neg ho])
        have ho' : (op == o) = false := by simpa using ho
        clear ho HR
        go_wp2
        go_roundg (sws.length - (j + 1))
        case measure => omega
        case rel => exact ⟨j + 1, es, rfl, by go_num, by omega, HG.out.l.alloc _, HG.out.k.alloc _, HG.out.below.alloc HG.out.below.size _, HR2.out, by have := HG.out.few; omega⟩
    · have HX := Lib.hid (show es = res by have := hG.rest; rwa [List.drop_of_length_le (by omega), edgesFrom, List.append_nil] at this)
      have HG := Lib.hid hG
      clear hG hIN
      go_wp2
      go_ret2
      rw [HRES.out, ← HX.out]
      exact ⟨u6, u7, rfl, HG.out.l.less (base' := w.heap.size) (by omega), HG.out.k.less (base' := w.heap.size) (by omega), HEX.out.trans (HG.out.below.mono (by omega))⟩
end Go.Proofs.YtglbelmljdgaoaaDoor
