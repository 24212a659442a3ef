/- station.edges. -/
import Derived.Test.YtglbelmljdgaoaaGreatDoorCopy
import Derived.Test.YtglbelmljdgaoaaGreatDoorMem2
import Derived.Test.YtglbelmljdgaoaaGreatDoorTree
import Derived.Deep.RegionHeld3
namespace Go.Proofs.YtglbelmljdgaoaaGreatDoor
open Go.RowKit

/-- append to a row of the call's own, at a step of a region that draws its order -/
theorem step_append_rowG {P : Program} {w : World} {ops : Array Oper} {o : Oper} {a : Act} {K : Act → World → Prop} {Q : Exit → Act → World → Prop} {E : Prop} (hgd : o.guard = none) (s x : Operand) (t : TypeId)
    (ho : o.op = .call { callee := .builtin .append, args := #[s, x], argTypes := #[t, t] })
    (base : Nat) (e : TypeId) (i : TypeInfo) (z : Value) (sz bytes : Nat) (ht : P.underlying t = some (.slice e)) (hi : P.info? e = some i) (hz : i.zero = some z)
    (hsize : i.size = sz) (hby : i.bytes = bytes) (hzs : z.cells.size = sz) (hsz : 0 < sz)
    (v : Value) (n : Nat) (xs : List Value) (hsv : a.eval s = v) (hr : Row w base e sz v n xs)
    (B : Nat) (A : Option Addr) (m c : Nat) (news : List Value) (hx : a.eval x = .slice A m c) (hs : Reads w B sz A m news) (h1 : ∀ u ∈ news, u.oneCell' = true)
    (h63 : n + m ≤ maxLen) (hbytes : (n + m) * bytes ≤ 140737488355328) (hbase : base ≤ w.heap.size)
    (h : ∀ v' w', Row w' base e sz v' (n + m) (xs ++ news) → w.grownBy w' v.ownBlock → K (a.put o.dst v') w') :
    if Region.wanted o (yielded ops a.tmps) = true then Oper.wp P o a w K Q else E := by
  have hw : Region.wanted o (yielded ops a.tmps) = true := by simp [Region.wanted, hgd]
  rw [if_pos hw]
  obtain ⟨v', w', hrun, h2, h3⟩ := run_append_rowG (P := P) w base t o.type e i z sz bytes ht hi hz hsize hby hzs hsz v n xs hr B A m c news hs h1 h63 hbytes hbase
  unfold Oper.wp execOp
  simp only [ho, resolve, invoke, builtin, Sem.run_bind, Sem.run_pure, Result.andThen_ok, List.map_toArray, List.map_cons, List.map_nil, hsv, hx, hrun]
  exact h v' w' h2 h3

theorem idxS_any (l : List ByteArray) (n : Nat) (A : Option Addr) (c : Nat) (x : ByteArray) (w : World) (B : Nat) (hln : l.length = n) (hr : Reads w B 1 A n (l.map S)) (hl : n ≤ 1000000) :
    Calls Tryz.prog 39 #[.slice A n c, .string x] w fun e w' => e = .returned (I (Lib.idxOfS l x)) ∧ w = w' := by
  subst hln
  by_cases h0 : l.length = 0
  · have : l = [] := List.eq_nil_of_length_eq_zero h0
    subst this
    exact (Tryz.slices_Index_string_empty A c x w).mono fun e w' ⟨h1, h2⟩ => ⟨h1, h2.symm⟩
  · obtain ⟨b, off, rfl, _, hc⟩ := hr.2 (by omega)
    refine (Tryz.slices_Index_string b off l.length c l x w (Nat.le_refl _) (by omega) (fun j hj => hc j _ (by simp [hj]))).mono fun e w' ⟨h1, h2⟩ => ⟨by rw [h1, List.take_of_length_le (Nat.le_refl _)], h2.symm⟩

/-- the edges of the open or closed switches, each with its switch -/
def edgesFrom (nodes : List ByteArray) (o : Bool) : Nat → List SwitchD → List ((Int × Int) × Int)
  | _, [] => []
  | i, s :: r => if (s.opn == o) = true then ((Lib.idxOfS nodes s.a, Lib.idxOfS nodes s.b), (i : Int)) :: edgesFrom nodes o (i + 1) r else edgesFrom nodes o (i + 1) r
def edgesL (n : NetD) (o : Bool) : List ((Int × Int) × Int) := edgesFrom n.nodes o 0 n.switches

theorem Row.own_block {w : World} {base : Nat} {e : TypeId} {sz n : Nat} {v : Value} {xs : List Value} (h : Row w base e sz v n xs) {g : Nat} (hg : v.ownBlock = some g) : base ≤ g ∧ g < w.heap.size := by
  rcases h.2 with ⟨rfl, _⟩ | ⟨g', off, cap, cur, rfl, hb, hh, _⟩
  · simp [Value.ownBlock] at hg
  · simp [Value.ownBlock] at hg
    subst hg
    exact ⟨hb, hh.lt⟩
/-- a cell that no row holds is as it was behind an append -/
theorem Row.cell_far {w w' W : World} {base : Nat} {e : TypeId} {sz n : Nat} {v : Value} {xs : List Value} (h : Row w base e sz v n xs) (hg : W.grownBy w' v.ownBlock) {g o : Nat} {u : Value} (hc : W.cell? ⟨g, o, none⟩ = some u) (hne : g < base ∨ w.heap.size ≤ g) : w'.cell? ⟨g, o, none⟩ = some u :=
  hg.cell hc (fun e => by have := h.own_block (g := g) (by simpa using e.symm); omega)
theorem cells2_snoc (l : List (Int × Int)) (x : Int × Int) : cells2 l ++ [I x.1, I x.2] = cells2 (l ++ [x]) := by simp [cells2]

theorem Reads.drew {w : World} {B sz n : Nat} {A : Option Addr} {xs : List Value} (h : Reads w B sz A n xs) : Reads w.drew B sz A n xs := h.keep fun _ _ => rfl
theorem Row.drew {w : World} {base : Nat} {e : TypeId} {sz n : Nat} {v : Value} {xs : List Value} (h : Row w base e sz v n xs) : Row w.drew base e sz v n xs := h.keep fun _ _ _ => rfl
theorem reads_pairN (w : World) (t : TypeId) (x y : Value) : Reads (w.alloc (.cells #[x, y] t)).drew (w.heap.size + 1) 2 (some ⟨w.heap.size, 0, none⟩) 1 [x, y] := by
  refine ⟨rfl, fun _ => ⟨_, _, rfl, by omega, fun j u hu => ?_⟩⟩
  have := (Blk.new w t #[x, y]).cell (0 + j)
  refine (show (w.alloc (.cells #[x, y] t)).drew.cell? ⟨w.heap.size, 0 + j, none⟩ = _ from this).trans ?_
  simpa using hu
theorem edges_keep {w W1 w2 : World} {o : Obj} {base : Nat} {e : TypeId} {sz n : Nat} {v : Value} {xs : List Value} (h : Row w base e sz v n xs) (hg : (W1.alloc o).drew.grownBy w2 v.ownBlock) {g1 o1 g2 o2 g3 o3 : Nat} {u1 u2 u3 : Value}
    (h1 : W1.cell? ⟨g1, o1, none⟩ = some u1) (h2 : W1.cell? ⟨g2, o2, none⟩ = some u2) (h3 : W1.cell? ⟨g3, o3, none⟩ = some u3) (k1 : g1 < base ∨ w.heap.size ≤ g1) (k2 : g2 < base ∨ w.heap.size ≤ g2) (k3 : g3 < base ∨ w.heap.size ≤ g3) :
    w2.cell? ⟨g1, o1, none⟩ = some u1 ∧ w2.cell? ⟨g2, o2, none⟩ = some u2 ∧ w2.cell? ⟨g3, o3, none⟩ = some u3 := by
  have al : ∀ {g o' : Nat} {u : Value}, W1.cell? ⟨g, o', none⟩ = some u → (W1.alloc o).drew.cell? ⟨g, o', none⟩ = some u := by
    intro g o' u hc
    exact (World.cell?_alloc_lt W1 o ⟨g, o', none⟩ (World.block_lt_of_cell? W1 _ hc)).trans hc
  exact ⟨h.cell_far hg (al h1) k1, h.cell_far hg (al h2) k2, h.cell_far hg (al h3) k3⟩

end Go.Proofs.YtglbelmljdgaoaaGreatDoor
