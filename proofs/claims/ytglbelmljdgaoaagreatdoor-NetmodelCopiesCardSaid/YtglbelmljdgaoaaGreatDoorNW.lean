/- netmodel.Without: the plain function; the plain laws of NetmodelKeeps. No program here. slices.Delete of one element, at the struct types. netmodel.Without. netmodel.Node; the facts of package netmodel. -/
import Derived.Test.YtglbelmljdgaoaaGreatDoorNxLaw
import Derived.Test.YtglbelmljdgaoaaGreatDoorFSet
import Derived.Test.YtglbelmljdgaoaaGreatDoorMem2
import Derived.Test.YtglbelmljdgaoaaGreatDoorNetMem
import Derived.Deep.RegionLaw
import Derived.Lib.SliceRun
import Derived.Test.YtglbelmljdgaoaaGreatDoorDJ
import Derived.Test.YtglbelmljdgaoaaGreatDoorSetSw
import Derived.Test.YtglbelmljdgaoaaGreatDoorNK
import Derived.Test.YtglbelmljdgaoaaGreatDoorPair
import Derived.Test.YtglbelmljdgaoaaGreatDoorTFact
namespace Go.Proofs.YtglbelmljdgaoaaGreatDoor

theorem device_of {nodes seen : List ByteArray} {name : ByteArray} {ends : List ByteArray} (h1 : nameOk name = true) (h2 : name ∉ seen) (h3 : ∀ e ∈ ends, e ∈ nodes) (h4 : sameTwo ends = false) : deviceL nodes seen name ends = (0, name :: seen) := by
  have h3' : (ends.all fun e => Lib.containsS nodes e) = true := List.all_eq_true.2 fun e he => (Lib.containsS_iff _ _).2 (h3 e he)
  rw [deviceL, if_neg (by simp [h1]), if_neg (fun k => h2 ((Lib.containsS_iff _ _).1 k)), if_neg (by rw [h3']; decide), if_neg (by rw [h4]; decide)]
theorem devs_of {nodes : List ByteArray} : ∀ {items : List Item} {seen : List ByteArray}, (∀ it ∈ items, nameOk it.1 = true ∧ it.1 ∉ seen ∧ (∀ e ∈ it.2.1, e ∈ nodes) ∧ sameTwo it.2.1 = false ∧ it.2.2 = true) → (items.map (·.1)).Nodup → devs nodes items seen = 0
  | [], _, _, _ => rfl
  | (name, ends, ok) :: rest, seen, h, hn => by
    obtain ⟨k1, k2, k3, k4, k5⟩ := h _ List.mem_cons_self
    simp only at k1 k2 k3 k4 k5
    rw [devs, device_of k1 k2 k3 k4, if_pos rfl, if_pos k5]
    rw [List.map_cons, List.nodup_cons] at hn
    refine devs_of (fun it hit => ?_) hn.2
    obtain ⟨j1, j2, j3⟩ := h it (List.mem_cons_of_mem _ hit)
    refine ⟨j1, fun hm => ?_, j3⟩
    rcases List.mem_cons.1 hm with e | e
    · exact hn.1 (List.mem_map.2 ⟨it, hit, e⟩)
    · exact j2 e
/-- a network with some of the devices of a valid one is valid -/
theorem check_sub {n m : NetD} (h : checkN n = 0) (h0 : m.nodes = n.nodes) (h1 : m.switches.Sublist n.switches) (h2 : m.branches.Sublist n.branches) (h3 : m.gens.Sublist n.gens) (h4 : m.loads.Sublist n.loads) (h5 : m.stores.Sublist n.stores) : checkN m = 0 := by
  obtain ⟨a, b⟩ := checkN_devs h
  obtain ⟨i1, i2⟩ := devs_ok b
  have hs : m.items.Sublist n.items := by
    rw [NetD.items, NetD.items, h0]
    exact (List.Sublist.refl _).append ((h1.map _).append ((h2.map _).append ((h3.map _).append ((h4.map _).append (h5.map _)))))
  have l1 := h1.length_le
  have l2 := h2.length_le
  have l3 := h3.length_le
  have l4 := h4.length_le
  have l5 := h5.length_le
  rw [checkN, if_neg (by rw [h0]; omega), h0]
  exact devs_of (fun it hit => i1 it (hs.subset hit)) (List.Pairwise.sublist (hs.map _) i2)
def nodeB : ByteArray := ⟨#[110, 111, 100, 101]⟩
def branchB : ByteArray := ⟨#[98, 114, 97, 110, 99, 104]⟩
def genB : ByteArray := ⟨#[103, 101, 110]⟩
def loadB : ByteArray := ⟨#[108, 111, 97, 100]⟩
/-- a network without a device -/
def dropN (n : NetD) (k : ByteArray) (i : Nat) : NetD :=
  if k = swB then { n with switches := n.switches.eraseIdx i }
  else if k = branchB then { n with branches := n.branches.eraseIdx i }
  else if k = genB then { n with gens := n.gens.eraseIdx i }
  else if k = loadB then { n with loads := n.loads.eraseIdx i }
  else { n with stores := n.stores.eraseIdx i }
/-- netmodel.Without -/
def withoutL (n : NetD) (x : ByteArray) : NetD × Int :=
  if (FindL n x).2.2 = 0 then (if (FindL n x).1 = nodeB then (noNet, 1) else (dropN n (FindL n x).1 (FindL n x).2.1.toNat, 0)) else (noNet, (FindL n x).2.2)
theorem drop_check {n : NetD} (h : checkN n = 0) (k : ByteArray) (i : Nat) : checkN (dropN n k i) = 0 := by
  have r : ∀ {α : Type} (l : List α), l.Sublist l := fun l => List.Sublist.refl l
  rw [dropN]
  split
  · exact check_sub h rfl (List.eraseIdx_sublist ..) (r _) (r _) (r _) (r _)
  · split
    · exact check_sub h rfl (r _) (List.eraseIdx_sublist ..) (r _) (r _) (r _)
    · split
      · exact check_sub h rfl (r _) (r _) (List.eraseIdx_sublist ..) (r _) (r _)
      · split
        · exact check_sub h rfl (r _) (r _) (r _) (List.eraseIdx_sublist ..) (r _)
        · exact check_sub h rfl (r _) (r _) (r _) (r _) (List.eraseIdx_sublist ..)
theorem without_check {n : NetD} {x : ByteArray} (h : (withoutL n x).2 = 0) : checkN (withoutL n x).1 = 0 := by
  rw [withoutL] at h ⊢
  by_cases h0 : (FindL n x).2.2 = 0
  · rw [if_pos h0] at h ⊢
    by_cases h1 : (FindL n x).1 = nodeB
    · rw [if_pos h1] at h; cases h
    · rw [if_neg h1]; exact drop_check (FindL_ok h0).1 _ _
  · rw [if_neg h0] at h; exact absurd h h0
/-- what find has found is there -/
theorem findL_range {n : NetD} {x : ByteArray} (h : 0 ≤ (findL n x).2) :
    ((findL n x).1 = nodeB ∧ (findL n x).2 < n.nodes.length) ∨ ((findL n x).1 = swB ∧ (findL n x).2 < n.switches.length) ∨ ((findL n x).1 = branchB ∧ (findL n x).2 < n.branches.length) ∨ ((findL n x).1 = genB ∧ (findL n x).2 < n.gens.length) ∨ ((findL n x).1 = loadB ∧ (findL n x).2 < n.loads.length) ∨ ((findL n x).1 = ⟨#[115, 116, 111, 114, 101]⟩ ∧ (findL n x).2 < n.stores.length) := by
  rw [findL, findE] at h ⊢
  have g0 := idx_range n.nodes x
  have g1 := nmIdx_range SwitchD.name x n.switches 0
  have g2 := nmIdx_range BranchD.name x n.branches 0
  have g3 := nmIdx_range GenD.name x n.gens 0
  have g4 := nmIdx_range LoadD.name x n.loads 0
  have g5 := nmIdx_range StoreD.name x n.stores 0
  generalize nmIdx BranchD.name x n.branches 0 = r2 at *
  generalize nmIdx GenD.name x n.gens 0 = r3 at *
  generalize nmIdx LoadD.name x n.loads 0 = r4 at *
  generalize nmIdx StoreD.name x n.stores 0 = r5 at *
  generalize nmIdx SwitchD.name x n.switches 0 = r1 at *
  generalize Lib.idxOfS n.nodes x = r0 at *
  by_cases h0 : 0 ≤ r0
  · rw [if_pos h0]; exact .inl ⟨rfl, by simp only; omega⟩
  rw [if_neg h0] at h ⊢
  by_cases h1 : 0 ≤ r1
  · rw [if_pos h1]; exact .inr (.inl ⟨rfl, by simp only; omega⟩)
  rw [if_neg h1] at h ⊢
  by_cases h2 : 0 ≤ r2
  · rw [if_pos h2]; exact .inr (.inr (.inl ⟨rfl, by simp only; omega⟩))
  rw [if_neg h2] at h ⊢
  by_cases h3 : 0 ≤ r3
  · rw [if_pos h3]; exact .inr (.inr (.inr (.inl ⟨rfl, by simp only; omega⟩)))
  rw [if_neg h3] at h ⊢
  by_cases h4 : 0 ≤ r4
  · rw [if_pos h4]; exact .inr (.inr (.inr (.inr (.inl ⟨rfl, by simp only; omega⟩))))
  rw [if_neg h4] at h ⊢
  by_cases h5 : 0 ≤ r5
  · rw [if_pos h5]; exact .inr (.inr (.inr (.inr (.inr ⟨rfl, by simp only; omega⟩))))
  rw [if_neg h5] at h
  simp only at h
  omega
theorem nmIdx_map {α : Type} (f : α → ByteArray) (x : ByteArray) : ∀ {l m : List α} (i : Nat), l.map f = m.map f → nmIdx f x l i = nmIdx f x m i
  | [], [], _, _ => rfl
  | a :: l, b :: m, i, h => by
    rw [List.map_cons, List.map_cons] at h
    injection h with h1 h2
    rw [nmIdx, nmIdx, h1, nmIdx_map f x (i + 1) h2]
  | [], b :: m, _, h => by simp at h
  | a :: l, [], _, h => by simp at h
theorem findL_set (n : NetD) (x : ByteArray) (i : Nat) (o : Bool) : findL (setSw n i o) x = findL n x := by
  have e : nmIdx SwitchD.name x (setSw n i o).switches 0 = nmIdx SwitchD.name x n.switches 0 := nmIdx_map _ _ 0 (modify_map SwitchD.name o (fun _ => rfl) n.switches i)
  rw [findL, findL, e]
  rfl
theorem FindL_set (n : NetD) (x : ByteArray) (i : Nat) (o : Bool) : FindL (setSw n i o) x = FindL n x := by
  rw [FindL, FindL, findL_set, checkN_set]
theorem modify_back : ∀ (l : List SwitchD) (i : Nat) (o : Bool) (h : i < l.length), (l.modify i (setOpn o)).modify i (setOpn l[i].opn) = l
  | [], i, _, h => by simp at h
  | x :: l, 0, o, _ => by simp [setOpn]
  | x :: l, i + 1, o, h => by
    have ih := modify_back l i o (by simpa using h)
    rw [List.modify_succ_cons, List.modify_succ_cons]
    simp only [List.getElem_cons_succ]
    rw [ih]
/-- a switch that is set back restores the network -/
theorem set_back {n : NetD} {x : ByteArray} (o : Bool) (h : (FindL n x).2.2 = 0) (hs : (FindL n x).1 = swB) (hi : (FindL n x).2.1.toNat < n.switches.length) :
    SetL n x o = (setSw n (FindL n x).2.1.toNat o, 0) ∧ SetL (setSw n (FindL n x).2.1.toNat o) x n.switches[(FindL n x).2.1.toNat].opn = (n, 0) := by
  refine ⟨by rw [SetL, if_pos h, if_pos hs], ?_⟩
  rw [SetL, FindL_set, if_pos h, if_pos hs]
  refine Prod.ext ?_ rfl
  show setSw (setSw n _ o) _ _ = n
  rw [setSw, setSw]
  simp only
  rw [modify_back _ _ _ hi]
theorem set_no {n : NetD} {x : ByteArray} (o : Bool) (h : ¬ ((FindL n x).2.2 = 0 ∧ (FindL n x).1 = swB)) : (SetL n x o).2 ≠ 0 := by
  rw [SetL]
  by_cases h0 : (FindL n x).2.2 = 0
  · rw [if_pos h0, if_neg fun k => h ⟨h0, k⟩]; decide
  · rw [if_neg h0]; exact h0
end Go.Proofs.YtglbelmljdgaoaaGreatDoor
namespace Go.Proofs.YtglbelmljdgaoaaGreatDoor
open Go.RowKit

def arrSets (cs : Array Value) : Nat → List Value → Array Value
  | _, [] => cs
  | o, v :: vs => arrSets (cs.setIfInBounds o v) (o + 1) vs
theorem arrSets_size : ∀ (vs : List Value) (cs : Array Value) (o : Nat), (arrSets cs o vs).size = cs.size
  | [], _, _ => rfl
  | v :: vs, cs, o => by rw [arrSets, arrSets_size vs, Array.size_setIfInBounds]
theorem arrSets_at : ∀ (vs : List Value) (cs : Array Value) (o j : Nat), o + vs.length ≤ cs.size → (arrSets cs o vs)[j]? = if o ≤ j ∧ j < o + vs.length then vs[j - o]? else cs[j]?
  | [], cs, o, j, _ => by rw [arrSets, if_neg (by rw [List.length_nil]; omega)]
  | v :: vs, cs, o, j, h => by
    rw [List.length_cons] at h
    rw [arrSets, arrSets_at vs _ _ j (by rw [Array.size_setIfInBounds]; omega), List.length_cons]
    by_cases h1 : o + 1 ≤ j ∧ j < o + 1 + vs.length
    · rw [if_pos h1, if_pos ⟨by omega, by omega⟩, show j - o = (j - (o + 1)) + 1 by omega, List.getElem?_cons_succ]
    · rw [if_neg h1, Array.getElem?_setIfInBounds]
      by_cases h2 : o = j
      · subst h2
        rw [if_pos rfl, if_pos (by omega), if_pos ⟨Nat.le_refl _, by omega⟩, Nat.sub_self]; rfl
      · rw [if_neg h2, if_neg (by omega)]
theorem blk_sets {g : Nat} {e : TypeId} : ∀ (vs : List Value) (w : World) (cs : Array Value) (o : Nat), Blk w g e cs → Blk (w.setCells g o vs) g e (arrSets cs o vs)
  | [], _, _, _, h => h
  | v :: vs, _, _, o, h => blk_sets vs _ _ _ (h.set_ o v)
theorem below_sets {B g : Nat} (hB : B ≤ g) : ∀ (vs : List Value) (w w0 : World) (o : Nat), Below B w0 w → Below B w0 (w.setCells g o vs)
  | [], _, _, _, h => h
  | v :: vs, _, _, _, h => below_sets hB vs _ _ _ (h.setCell (by exact hB) v)
theorem sets_heap {b g : Nat} (hne : b ≠ g) : ∀ (vs : List Value) (w : World) (o : Nat), (w.setCells g o vs).heap[b]? = w.heap[b]?
  | [], _, _ => rfl
  | v :: vs, w, o => (sets_heap hne vs _ _).trans (Below.heap_setCell w ⟨g, o, none⟩ v b hne)
theorem sets_size (g : Nat) : ∀ (vs : List Value) (w : World) (o : Nat), (w.setCells g o vs).heap.size = w.heap.size
  | [], _, _ => rfl
  | v :: vs, w, o => (sets_size g vs _ _).trans (by simp [World.setCell])
theorem run_clear_E {P : Program} (w : World) (t e ty : TypeId) (z : Value) (ht : P.underlying t = some (.slice e)) (hv : ∀ w, (zeroValue e).run P w = .ok z w) (zs : List Value) (b o n c : Nat) (hn : 0 < n) (hz : (Builtin.zeroCells z.cells n).toList = zs) (h1 : ∀ u ∈ zs, u.oneCell' = true)
    (hc : ∀ j, j < zs.length → (w.cell? ⟨b, o + j, none⟩).isSome = true) (hf : ∀ j, j < zs.length → w.frozen? ⟨b, o + j, none⟩ = false) :
    (Builtin.clear_ #[t] ty #[.slice (some ⟨b, o, none⟩) n c]).run P w = .ok (.tuple #[]) (w.setCells b o zs) := by
  have hst := run_storeCells_cells (P := P) b o zs 0 w (by simpa using hc) (by simpa using hf) h1
  simp only [Nat.add_zero] at hst
  obtain ⟨m, rfl⟩ : ∃ m, n = m + 1 := ⟨n - 1, by omega⟩
  simp [Builtin.clear_, run_underlying ht, hv, hz, hst]
/-- what the two writes of Delete leave is a row -/
theorem row_del {w : World} {base g off c n k sz : Nat} {e : TypeId} {cur : Array Value} {xs zs : List Value} (hxl : xs.length = n * sz) (hb : base ≤ g) (hB : Blk w g e cur) (hn : n ≤ c) (hm : c ≤ maxLen) (hs : off + c * sz ≤ cur.size) (ht : (cur.toList.drop off).take (n * sz) = xs) (hk : k < n) (hz : zs.length = sz) :
    Row ((w.setCells g (off + k * sz) (xs.drop ((k + 1) * sz))).setCells g (off + (n - 1) * sz) zs) base e sz (.slice (some ⟨g, off, none⟩) (n - 1) c) (n - 1) (xs.take (k * sz) ++ xs.drop ((k + 1) * sz)) := by
  have hkn : (k + 1) * sz ≤ n * sz := Nat.mul_le_mul_right _ hk
  have hk1 : (k + 1) * sz = k * sz + sz := Nat.succ_mul k sz
  have hn1 : (n - 1) * sz + sz = n * sz := by rw [← Nat.succ_mul, show (n - 1).succ = n by omega]
  have hcn : n * sz ≤ c * sz := Nat.mul_le_mul_right _ hn
  have hdl : (xs.drop ((k + 1) * sz)).length = n * sz - (k + 1) * sz := by rw [List.length_drop, hxl]
  have h2 := blk_sets zs _ _ (off + (n - 1) * sz) (blk_sets (xs.drop ((k + 1) * sz)) _ _ (off + k * sz) hB)
  refine ⟨by rw [List.length_append, List.length_take, hdl, hxl]; omega, .inr ⟨g, off, c, _, rfl, hb, h2, by omega, hm, by rw [arrSets_size, arrSets_size]; exact hs, ?_⟩⟩
  apply List.ext_getElem?
  intro j
  rw [List.getElem?_take]
  by_cases hj : j < (n - 1) * sz
  · rw [if_pos hj, List.getElem?_drop, Array.getElem?_toList, arrSets_at _ _ _ _ (by rw [arrSets_size, hz]; omega), if_neg (by omega), arrSets_at _ _ _ _ (by rw [hdl]; omega), hdl]
    by_cases hjk : j < k * sz
    · rw [if_neg (by omega), List.getElem?_append_left (by rw [List.length_take, hxl]; omega), List.getElem?_take, if_pos hjk, ← ht, List.getElem?_take, if_pos (by omega), List.getElem?_drop, Array.getElem?_toList]
    · rw [if_pos ⟨by omega, by omega⟩, List.getElem?_append_right (by rw [List.length_take, hxl]; omega), List.length_take, hxl]
      congr 1
      omega
  · rw [if_neg hj, List.getElem?_eq_none (by rw [List.length_append, List.length_take, hdl, hxl]; omega)]
theorem cellsBy_take {α : Type} {f : α → List Value} {sz : Nat} (hf : ∀ x, (f x).length = sz) : ∀ (l : List α) (k : Nat), (cellsBy f l).take (k * sz) = cellsBy f (l.take k)
  | [], k => by simp [cellsBy]
  | x :: l, 0 => by simp [cellsBy]
  | x :: l, k + 1 => by
    have ih := cellsBy_take hf l k
    rw [cellsBy] at ih
    rw [cellsBy, List.flatMap_cons, List.take_succ_cons, cellsBy, List.flatMap_cons, List.take_append, hf, List.take_of_length_le (by rw [hf, Nat.succ_mul]; omega), show (k + 1) * sz - sz = k * sz by rw [Nat.succ_mul]; omega, ih, cellsBy]
theorem cellsBy_drop {α : Type} {f : α → List Value} {sz : Nat} (hf : ∀ x, (f x).length = sz) : ∀ (l : List α) (k : Nat), (cellsBy f l).drop (k * sz) = cellsBy f (l.drop k)
  | [], k => by simp [cellsBy]
  | x :: l, 0 => by simp [cellsBy]
  | x :: l, k + 1 => by
    have ih := cellsBy_drop hf l k
    rw [cellsBy] at ih
    rw [cellsBy, List.flatMap_cons, List.drop_succ_cons, List.drop_append, hf, List.drop_of_length_le (by rw [hf, Nat.succ_mul]; omega), show (k + 1) * sz - sz = k * sz by rw [Nat.succ_mul]; omega, ih, List.nil_append]
theorem cellsBy_erase {α : Type} {f : α → List Value} {sz : Nat} (hf : ∀ x, (f x).length = sz) (l : List α) (k : Nat) : (cellsBy f l).take (k * sz) ++ (cellsBy f l).drop ((k + 1) * sz) = cellsBy f (l.eraseIdx k) := by
  rw [cellsBy_take hf, cellsBy_drop hf, List.eraseIdx_eq_take_drop_succ, cellsBy, cellsBy, cellsBy, List.flatMap_append]

theorem infoDSwitch : (Tryz.prog.info? 39).map (fun i => (i.zero, i.size, i.bytes)) = some (some (.agg #[.string ⟨#[]⟩, .string ⟨#[]⟩, .string ⟨#[]⟩, .bool false, .bool false]), 5, 56) := by kernel_rfl
set_option maxRecDepth 100000 in
set_option maxHeartbeats 4000000 in
theorem delSwitch_any (A : Option Addr) (n c k : Nat) (xs : List Value) (w : World) (base : Nat) (hr : Row w base 39 5 (.slice A n c) n xs) (h1 : ∀ u ∈ xs, u.oneCell' = true) (hk : k < n) (hn : n ≤ 1000000) (_hb : base ≤ w.heap.size) :
    Calls Tryz.prog 21 #[.slice A n c, I k, I ((k + 1 : Nat) : Int)] w fun e w' => e = .returned (.slice A (n - 1) c) ∧ Row w' base 39 5 (.slice A (n - 1) c) (n - 1) (xs.take (k * 5) ++ xs.drop ((k + 1) * 5)) ∧ Below base w w' ∧ (∀ b, (∀ o, A ≠ some ⟨b, o, none⟩) → w'.heap[b]? = w.heap[b]?) ∧ w'.heap.size = w.heap.size := by
  obtain ⟨hxl, hr2⟩ := hr
  obtain ⟨g, off, cap, cur, hv, hbg, hB, hnc, hm, hs, ht⟩ := hr2.resolve_left (fun q => by omega)
  injection hv with hA _ hc
  subst hA hc
  obtain ⟨i0, hi0, hz0, hz1, hz2⟩ := info_parts infoDSwitch
  have hdr : Blk w.drew g 39 cur := hB
  have HRD := Lib.hid (row_del (zs := [.string ⟨#[]⟩, .string ⟨#[]⟩, .string ⟨#[]⟩, .bool false, .bool false]) hxl hbg hdr hnc hm hs ht hk rfl)
  have hm2 : c ≤ 9223372036854775807 := by unfold maxLen at hm; omega
  have hd := (Below.refl base w).drew
  have HBL := Lib.hid (below_sets hbg [.string ⟨#[]⟩, .string ⟨#[]⟩, .string ⟨#[]⟩, .bool false, .bool false] _ _ (off + (n - 1) * 5) (below_sets hbg (xs.drop ((k + 1) * 5)) _ _ (off + k * 5) hd))
  have HSH := Lib.hid (show (∀ b, ¬ g = b → ((w.drew.setCells g (off + k * 5) (xs.drop ((k + 1) * 5))).setCells g (off + (n - 1) * 5) [.string ⟨#[]⟩, .string ⟨#[]⟩, .string ⟨#[]⟩, .bool false, .bool false]).heap[b]? = w.heap[b]?) ∧ ((w.drew.setCells g (off + k * 5) (xs.drop ((k + 1) * 5))).setCells g (off + (n - 1) * 5) [.string ⟨#[]⟩, .string ⟨#[]⟩, .string ⟨#[]⟩, .bool false, .bool false]).heap.size = w.heap.size from ⟨fun b hb => by
    have hbg : b ≠ g := fun e => hb e.symm
    rw [sets_heap hbg, sets_heap hbg]; rfl, by rw [sets_size, sets_size]; rfl⟩)
  obtain ⟨news, hnews⟩ : ∃ news, xs.drop ((k + 1) * 5) = news := ⟨_, rfl⟩
  have hnl : news.length = (n - (k + 1)) * 5 := by rw [← hnews, List.length_drop, hxl]; omega
  have hat : ∀ t u, news[t]? = some u → w.drew.cell? ⟨g, off + (k + 1) * 5 + t, none⟩ = some u := by
    intro t u hu
    rw [← hnews, List.getElem?_drop, ← ht, List.getElem?_take] at hu
    split at hu
    · rw [List.getElem?_drop, Array.getElem?_toList] at hu
      rw [show w.drew.cell? ⟨g, off + (k + 1) * 5 + t, none⟩ = w.cell? ⟨g, off + (k + 1) * 5 + t, none⟩ from rfl, hB.cell, show off + (k + 1) * 5 + t = off + ((k + 1) * 5 + t) by omega]
      exact hu
    · cases hu
  have hspare : ∀ j, j < news.length → (w.drew.cell? ⟨g, off + k * 5 + j, none⟩).isSome = true ∧ w.drew.frozen? ⟨g, off + k * 5 + j, none⟩ = false := by
    intro j hj
    refine ⟨?_, hdr.frozen _⟩
    rw [hdr.cell, Array.getElem?_eq_getElem (by omega)]
    rfl
  have h1n : ∀ u ∈ news, u.oneCell' = true := fun u hu => h1 u (List.mem_of_mem_drop (hnews ▸ hu))
  obtain ⟨Ad, hAd, hsrc⟩ : ∃ Ad : Addr, (if c = k + 1 then (some ⟨g, off, none⟩ : Option Addr) else some ⟨g, off + (k + 1) * 5, none⟩) = some Ad ∧ ∀ t u, news[t]? = some u → w.drew.cell? (Ad.add t) = some u := by
    by_cases h : c = k + 1
    · refine ⟨⟨g, off, none⟩, if_pos h, fun t u hu => ?_⟩
      have h0 : news.length = 0 := by rw [hnl, show n - (k + 1) = 0 by omega]
      rw [List.length_eq_zero_iff.1 h0] at hu
      simp at hu
    · exact ⟨⟨g, off + (k + 1) * 5, none⟩, if_neg h, fun t u hu => by rw [Addr.add_lit]; exact hat t u hu⟩
  have HB1 := Lib.hid (blk_sets news _ _ (off + k * 5) hdr)
  have hcs : off + (n - 1) * 5 + 5 ≤ cur.size := by omega
  have HCL := Lib.hid (fun ty => run_clear_E (P := Tryz.prog) (w.drew.setCells g (off + k * 5) news) 23 39 ty (.agg #[.string ⟨#[]⟩, .string ⟨#[]⟩, .string ⟨#[]⟩, .bool false, .bool false]) Tryz.underlying23 Tryz.zeroValue39 [.string ⟨#[]⟩, .string ⟨#[]⟩, .string ⟨#[]⟩, .bool false, .bool false] g (off + (n - 1) * 5) 1 (c - (n - 1)) (by decide) (by kernel_rfl) (by simp [Value.oneCell']) (fun j hj => by
    have hj2 : j < 5 := hj
    rw [HB1.out.cell, Array.getElem?_eq_getElem (by rw [arrSets_size]; omega)]; rfl) (fun j _ => HB1.out.frozen _))
  rw [hnews] at HRD HBL HSH ⊢
  have S1 := Lib.hid hnl
  have S2 := Lib.hid hsrc
  have S3 := Lib.hid h1n
  have S4 := Lib.hid hspare
  obtain ⟨j, hj⟩ : ∃ j, k + 1 = j := ⟨_, rfl⟩
  have HJ := Lib.hid hj
  rw [hj] at hAd S1 ⊢
  have hkc : k ≤ c := by omega
  have hjc : j ≤ c := by omega
  have hjn : j ≤ n := by omega
  have hkj : k ≤ j := by omega
  have hne : ((k : Int) == (j : Int)) = false := by rw [beq_eq_false_iff_ne]; omega
  have hnj : k + (n - j) = n - 1 := by omega
  have HNJ := Lib.hid hnj
  have hn1 : n - 1 ≤ n := by omega
  have hn2 : n - (n - 1) = 1 := by omega
  have hcn1 : ¬ c = n - 1 := by omega
  have HN2 := Lib.hid hn2
  clear hxl hr2 hB hdr hs ht hnl hat hspare h1n hd hnews hsrc HB1 h1 hj hnj hn2
  by_cases hce : c = j
  · rw [if_pos hce] at hAd
    obtain rfl : j = c := hce.symm
    have hnk : n - 1 = k := by have := HJ.out; omega
    rw [hnk] at HRD HBL HSH HCL HN2 ⊢
    have hnj0 : n - j = 0 := by omega
    have S1b := Lib.hid (show news.length = 0 * 5 by rw [S1.out, hnj0])
    clear hnk hnj0 hn1 hcn1
    injection hAd with hAd
    subst hAd
    go_enter Tryz.func21, Tryz.ntmps21
    go_upto_region 5 with (fail)
    go_region_law ((refine step_append_room (by rfl) (.tmp 22) (.tmp 25) 23 (by rfl) 39 i0 5 Tryz.underlying23 hi0 hz1 g off k j (by kernel_rfl) _ 0 0 news (by kernel_rfl) S1b.out S2.out S3.out (by omega) S4.out ?_))
    simp only [Act.put, List.getElem_toArray, List.getElem_cons_succ, List.getElem_cons_zero, List.setIfInBounds_toArray, List.set_cons_zero]
    have hcl := HCL.out
    have hcl := HCL.out
    rw [← HN2.out] at hcl
    generalize w.drew.setCells g (off + k * 5) news = W1 at *
    go_wp2
    go_ret
    exact ⟨rfl, HRD.out, HBL.out, HSH.out⟩
  · rw [if_neg hce] at hAd
    injection hAd with hAd
    subst hAd
    go_enter Tryz.func21, Tryz.ntmps21
    go_upto_region 5 with (fail)
    go_region_law ((refine step_append_room (by rfl) (.tmp 22) (.tmp 25) 23 (by rfl) 39 i0 5 Tryz.underlying23 hi0 hz1 g off k c (by kernel_rfl) _ (n - j) (c - j) news (by kernel_rfl) S1.out S2.out S3.out (by omega) S4.out ?_))
    rw [HNJ.out]
    simp only [Act.put, List.getElem_toArray, List.getElem_cons_succ, List.getElem_cons_zero, List.setIfInBounds_toArray, List.set_cons_zero]
    have hcl : ∀ ty, (Builtin.clear_ #[23] ty #[.slice (some ⟨g, off + (n - 1) * 5, none⟩) (n - (n - 1)) (c - (n - 1))]).run Tryz.prog (w.drew.setCells g (off + k * 5) news) = .ok (.tuple #[]) ((w.drew.setCells g (off + k * 5) news).setCells g (off + (n - 1) * 5) [.string ⟨#[]⟩, .string ⟨#[]⟩, .string ⟨#[]⟩, .bool false, .bool false]) := by
      intro ty
      rw [HN2.out]
      exact HCL.out ty
    generalize w.drew.setCells g (off + k * 5) news = W1 at *
    go_wp2
    go_ret
    exact ⟨rfl, HRD.out, HBL.out, HSH.out⟩

theorem infoDBranch : (Tryz.prog.info? 48).map (fun i => (i.zero, i.size, i.bytes)) = some (some (.agg #[.string ⟨#[]⟩, .string ⟨#[]⟩, .string ⟨#[]⟩, .int .i64 0, .int .i64 0, .int .i64 0, .int .i64 0, .int .i64 0, .int .i64 0]), 9, 96) := by kernel_rfl
set_option maxRecDepth 100000 in
set_option maxHeartbeats 4000000 in
theorem delBranch_any (A : Option Addr) (n c k : Nat) (xs : List Value) (w : World) (base : Nat) (hr : Row w base 48 9 (.slice A n c) n xs) (h1 : ∀ u ∈ xs, u.oneCell' = true) (hk : k < n) (hn : n ≤ 1000000) (_hb : base ≤ w.heap.size) :
    Calls Tryz.prog 22 #[.slice A n c, I k, I ((k + 1 : Nat) : Int)] w fun e w' => e = .returned (.slice A (n - 1) c) ∧ Row w' base 48 9 (.slice A (n - 1) c) (n - 1) (xs.take (k * 9) ++ xs.drop ((k + 1) * 9)) ∧ Below base w w' ∧ (∀ b, (∀ o, A ≠ some ⟨b, o, none⟩) → w'.heap[b]? = w.heap[b]?) ∧ w'.heap.size = w.heap.size := by
  obtain ⟨hxl, hr2⟩ := hr
  obtain ⟨g, off, cap, cur, hv, hbg, hB, hnc, hm, hs, ht⟩ := hr2.resolve_left (fun q => by omega)
  injection hv with hA _ hc
  subst hA hc
  obtain ⟨i0, hi0, hz0, hz1, hz2⟩ := info_parts infoDBranch
  have hdr : Blk w.drew g 48 cur := hB
  have HRD := Lib.hid (row_del (zs := [.string ⟨#[]⟩, .string ⟨#[]⟩, .string ⟨#[]⟩, .int .i64 0, .int .i64 0, .int .i64 0, .int .i64 0, .int .i64 0, .int .i64 0]) hxl hbg hdr hnc hm hs ht hk rfl)
  have hm2 : c ≤ 9223372036854775807 := by unfold maxLen at hm; omega
  have hd := (Below.refl base w).drew
  have HBL := Lib.hid (below_sets hbg [.string ⟨#[]⟩, .string ⟨#[]⟩, .string ⟨#[]⟩, .int .i64 0, .int .i64 0, .int .i64 0, .int .i64 0, .int .i64 0, .int .i64 0] _ _ (off + (n - 1) * 9) (below_sets hbg (xs.drop ((k + 1) * 9)) _ _ (off + k * 9) hd))
  have HSH := Lib.hid (show (∀ b, ¬ g = b → ((w.drew.setCells g (off + k * 9) (xs.drop ((k + 1) * 9))).setCells g (off + (n - 1) * 9) [.string ⟨#[]⟩, .string ⟨#[]⟩, .string ⟨#[]⟩, .int .i64 0, .int .i64 0, .int .i64 0, .int .i64 0, .int .i64 0, .int .i64 0]).heap[b]? = w.heap[b]?) ∧ ((w.drew.setCells g (off + k * 9) (xs.drop ((k + 1) * 9))).setCells g (off + (n - 1) * 9) [.string ⟨#[]⟩, .string ⟨#[]⟩, .string ⟨#[]⟩, .int .i64 0, .int .i64 0, .int .i64 0, .int .i64 0, .int .i64 0, .int .i64 0]).heap.size = w.heap.size from ⟨fun b hb => by
    have hbg : b ≠ g := fun e => hb e.symm
    rw [sets_heap hbg, sets_heap hbg]; rfl, by rw [sets_size, sets_size]; rfl⟩)
  obtain ⟨news, hnews⟩ : ∃ news, xs.drop ((k + 1) * 9) = news := ⟨_, rfl⟩
  have hnl : news.length = (n - (k + 1)) * 9 := by rw [← hnews, List.length_drop, hxl]; omega
  have hat : ∀ t u, news[t]? = some u → w.drew.cell? ⟨g, off + (k + 1) * 9 + t, none⟩ = some u := by
    intro t u hu
    rw [← hnews, List.getElem?_drop, ← ht, List.getElem?_take] at hu
    split at hu
    · rw [List.getElem?_drop, Array.getElem?_toList] at hu
      rw [show w.drew.cell? ⟨g, off + (k + 1) * 9 + t, none⟩ = w.cell? ⟨g, off + (k + 1) * 9 + t, none⟩ from rfl, hB.cell, show off + (k + 1) * 9 + t = off + ((k + 1) * 9 + t) by omega]
      exact hu
    · cases hu
  have hspare : ∀ j, j < news.length → (w.drew.cell? ⟨g, off + k * 9 + j, none⟩).isSome = true ∧ w.drew.frozen? ⟨g, off + k * 9 + j, none⟩ = false := by
    intro j hj
    refine ⟨?_, hdr.frozen _⟩
    rw [hdr.cell, Array.getElem?_eq_getElem (by omega)]
    rfl
  have h1n : ∀ u ∈ news, u.oneCell' = true := fun u hu => h1 u (List.mem_of_mem_drop (hnews ▸ hu))
  obtain ⟨Ad, hAd, hsrc⟩ : ∃ Ad : Addr, (if c = k + 1 then (some ⟨g, off, none⟩ : Option Addr) else some ⟨g, off + (k + 1) * 9, none⟩) = some Ad ∧ ∀ t u, news[t]? = some u → w.drew.cell? (Ad.add t) = some u := by
    by_cases h : c = k + 1
    · refine ⟨⟨g, off, none⟩, if_pos h, fun t u hu => ?_⟩
      have h0 : news.length = 0 := by rw [hnl, show n - (k + 1) = 0 by omega]
      rw [List.length_eq_zero_iff.1 h0] at hu
      simp at hu
    · exact ⟨⟨g, off + (k + 1) * 9, none⟩, if_neg h, fun t u hu => by rw [Addr.add_lit]; exact hat t u hu⟩
  have HB1 := Lib.hid (blk_sets news _ _ (off + k * 9) hdr)
  have hcs : off + (n - 1) * 9 + 9 ≤ cur.size := by omega
  have HCL := Lib.hid (fun ty => run_clear_E (P := Tryz.prog) (w.drew.setCells g (off + k * 9) news) 24 48 ty (.agg #[.string ⟨#[]⟩, .string ⟨#[]⟩, .string ⟨#[]⟩, .int .i64 0, .int .i64 0, .int .i64 0, .int .i64 0, .int .i64 0, .int .i64 0]) Tryz.underlying24 Tryz.zeroValue48 [.string ⟨#[]⟩, .string ⟨#[]⟩, .string ⟨#[]⟩, .int .i64 0, .int .i64 0, .int .i64 0, .int .i64 0, .int .i64 0, .int .i64 0] g (off + (n - 1) * 9) 1 (c - (n - 1)) (by decide) (by kernel_rfl) (by simp [Value.oneCell']) (fun j hj => by
    have hj2 : j < 9 := hj
    rw [HB1.out.cell, Array.getElem?_eq_getElem (by rw [arrSets_size]; omega)]; rfl) (fun j _ => HB1.out.frozen _))
  rw [hnews] at HRD HBL HSH ⊢
  have S1 := Lib.hid hnl
  have S2 := Lib.hid hsrc
  have S3 := Lib.hid h1n
  have S4 := Lib.hid hspare
  obtain ⟨j, hj⟩ : ∃ j, k + 1 = j := ⟨_, rfl⟩
  have HJ := Lib.hid hj
  rw [hj] at hAd S1 ⊢
  have hkc : k ≤ c := by omega
  have hjc : j ≤ c := by omega
  have hjn : j ≤ n := by omega
  have hkj : k ≤ j := by omega
  have hne : ((k : Int) == (j : Int)) = false := by rw [beq_eq_false_iff_ne]; omega
  have hnj : k + (n - j) = n - 1 := by omega
  have HNJ := Lib.hid hnj
  have hn1 : n - 1 ≤ n := by omega
  have hn2 : n - (n - 1) = 1 := by omega
  have hcn1 : ¬ c = n - 1 := by omega
  have HN2 := Lib.hid hn2
  clear hxl hr2 hB hdr hs ht hnl hat hspare h1n hd hnews hsrc HB1 h1 hj hnj hn2
  by_cases hce : c = j
  · rw [if_pos hce] at hAd
    obtain rfl : j = c := hce.symm
    have hnk : n - 1 = k := by have := HJ.out; omega
    rw [hnk] at HRD HBL HSH HCL HN2 ⊢
    have hnj0 : n - j = 0 := by omega
    have S1b := Lib.hid (show news.length = 0 * 9 by rw [S1.out, hnj0])
    clear hnk hnj0 hn1 hcn1
    injection hAd with hAd
    subst hAd
    go_enter Tryz.func22, Tryz.ntmps22
    go_upto_region 5 with (fail)
    go_region_law ((refine step_append_room (by rfl) (.tmp 22) (.tmp 25) 24 (by rfl) 48 i0 9 Tryz.underlying24 hi0 hz1 g off k j (by kernel_rfl) _ 0 0 news (by kernel_rfl) S1b.out S2.out S3.out (by omega) S4.out ?_))
    simp only [Act.put, List.getElem_toArray, List.getElem_cons_succ, List.getElem_cons_zero, List.setIfInBounds_toArray, List.set_cons_zero]
    have hcl := HCL.out
    have hcl := HCL.out
    rw [← HN2.out] at hcl
    generalize w.drew.setCells g (off + k * 9) news = W1 at *
    go_wp2
    go_ret
    exact ⟨rfl, HRD.out, HBL.out, HSH.out⟩
  · rw [if_neg hce] at hAd
    injection hAd with hAd
    subst hAd
    go_enter Tryz.func22, Tryz.ntmps22
    go_upto_region 5 with (fail)
    go_region_law ((refine step_append_room (by rfl) (.tmp 22) (.tmp 25) 24 (by rfl) 48 i0 9 Tryz.underlying24 hi0 hz1 g off k c (by kernel_rfl) _ (n - j) (c - j) news (by kernel_rfl) S1.out S2.out S3.out (by omega) S4.out ?_))
    rw [HNJ.out]
    simp only [Act.put, List.getElem_toArray, List.getElem_cons_succ, List.getElem_cons_zero, List.setIfInBounds_toArray, List.set_cons_zero]
    have hcl : ∀ ty, (Builtin.clear_ #[24] ty #[.slice (some ⟨g, off + (n - 1) * 9, none⟩) (n - (n - 1)) (c - (n - 1))]).run Tryz.prog (w.drew.setCells g (off + k * 9) news) = .ok (.tuple #[]) ((w.drew.setCells g (off + k * 9) news).setCells g (off + (n - 1) * 9) [.string ⟨#[]⟩, .string ⟨#[]⟩, .string ⟨#[]⟩, .int .i64 0, .int .i64 0, .int .i64 0, .int .i64 0, .int .i64 0, .int .i64 0]) := by
      intro ty
      rw [HN2.out]
      exact HCL.out ty
    generalize w.drew.setCells g (off + k * 9) news = W1 at *
    go_wp2
    go_ret
    exact ⟨rfl, HRD.out, HBL.out, HSH.out⟩

theorem infoDGen : (Tryz.prog.info? 64).map (fun i => (i.zero, i.size, i.bytes)) = some (some (.agg #[.string ⟨#[]⟩, .string ⟨#[]⟩, .int .i64 0, .int .i64 0, .int .i64 0]), 5, 56) := by kernel_rfl
set_option maxRecDepth 100000 in
set_option maxHeartbeats 4000000 in
theorem delGen_any (A : Option Addr) (n c k : Nat) (xs : List Value) (w : World) (base : Nat) (hr : Row w base 64 5 (.slice A n c) n xs) (h1 : ∀ u ∈ xs, u.oneCell' = true) (hk : k < n) (hn : n ≤ 1000000) (_hb : base ≤ w.heap.size) :
    Calls Tryz.prog 23 #[.slice A n c, I k, I ((k + 1 : Nat) : Int)] w fun e w' => e = .returned (.slice A (n - 1) c) ∧ Row w' base 64 5 (.slice A (n - 1) c) (n - 1) (xs.take (k * 5) ++ xs.drop ((k + 1) * 5)) ∧ Below base w w' ∧ (∀ b, (∀ o, A ≠ some ⟨b, o, none⟩) → w'.heap[b]? = w.heap[b]?) ∧ w'.heap.size = w.heap.size := by
  obtain ⟨hxl, hr2⟩ := hr
  obtain ⟨g, off, cap, cur, hv, hbg, hB, hnc, hm, hs, ht⟩ := hr2.resolve_left (fun q => by omega)
  injection hv with hA _ hc
  subst hA hc
  obtain ⟨i0, hi0, hz0, hz1, hz2⟩ := info_parts infoDGen
  have hdr : Blk w.drew g 64 cur := hB
  have HRD := Lib.hid (row_del (zs := [.string ⟨#[]⟩, .string ⟨#[]⟩, .int .i64 0, .int .i64 0, .int .i64 0]) hxl hbg hdr hnc hm hs ht hk rfl)
  have hm2 : c ≤ 9223372036854775807 := by unfold maxLen at hm; omega
  have hd := (Below.refl base w).drew
  have HBL := Lib.hid (below_sets hbg [.string ⟨#[]⟩, .string ⟨#[]⟩, .int .i64 0, .int .i64 0, .int .i64 0] _ _ (off + (n - 1) * 5) (below_sets hbg (xs.drop ((k + 1) * 5)) _ _ (off + k * 5) hd))
  have HSH := Lib.hid (show (∀ b, ¬ g = b → ((w.drew.setCells g (off + k * 5) (xs.drop ((k + 1) * 5))).setCells g (off + (n - 1) * 5) [.string ⟨#[]⟩, .string ⟨#[]⟩, .int .i64 0, .int .i64 0, .int .i64 0]).heap[b]? = w.heap[b]?) ∧ ((w.drew.setCells g (off + k * 5) (xs.drop ((k + 1) * 5))).setCells g (off + (n - 1) * 5) [.string ⟨#[]⟩, .string ⟨#[]⟩, .int .i64 0, .int .i64 0, .int .i64 0]).heap.size = w.heap.size from ⟨fun b hb => by
    have hbg : b ≠ g := fun e => hb e.symm
    rw [sets_heap hbg, sets_heap hbg]; rfl, by rw [sets_size, sets_size]; rfl⟩)
  obtain ⟨news, hnews⟩ : ∃ news, xs.drop ((k + 1) * 5) = news := ⟨_, rfl⟩
  have hnl : news.length = (n - (k + 1)) * 5 := by rw [← hnews, List.length_drop, hxl]; omega
  have hat : ∀ t u, news[t]? = some u → w.drew.cell? ⟨g, off + (k + 1) * 5 + t, none⟩ = some u := by
    intro t u hu
    rw [← hnews, List.getElem?_drop, ← ht, List.getElem?_take] at hu
    split at hu
    · rw [List.getElem?_drop, Array.getElem?_toList] at hu
      rw [show w.drew.cell? ⟨g, off + (k + 1) * 5 + t, none⟩ = w.cell? ⟨g, off + (k + 1) * 5 + t, none⟩ from rfl, hB.cell, show off + (k + 1) * 5 + t = off + ((k + 1) * 5 + t) by omega]
      exact hu
    · cases hu
  have hspare : ∀ j, j < news.length → (w.drew.cell? ⟨g, off + k * 5 + j, none⟩).isSome = true ∧ w.drew.frozen? ⟨g, off + k * 5 + j, none⟩ = false := by
    intro j hj
    refine ⟨?_, hdr.frozen _⟩
    rw [hdr.cell, Array.getElem?_eq_getElem (by omega)]
    rfl
  have h1n : ∀ u ∈ news, u.oneCell' = true := fun u hu => h1 u (List.mem_of_mem_drop (hnews ▸ hu))
  obtain ⟨Ad, hAd, hsrc⟩ : ∃ Ad : Addr, (if c = k + 1 then (some ⟨g, off, none⟩ : Option Addr) else some ⟨g, off + (k + 1) * 5, none⟩) = some Ad ∧ ∀ t u, news[t]? = some u → w.drew.cell? (Ad.add t) = some u := by
    by_cases h : c = k + 1
    · refine ⟨⟨g, off, none⟩, if_pos h, fun t u hu => ?_⟩
      have h0 : news.length = 0 := by rw [hnl, show n - (k + 1) = 0 by omega]
      rw [List.length_eq_zero_iff.1 h0] at hu
      simp at hu
    · exact ⟨⟨g, off + (k + 1) * 5, none⟩, if_neg h, fun t u hu => by rw [Addr.add_lit]; exact hat t u hu⟩
  have HB1 := Lib.hid (blk_sets news _ _ (off + k * 5) hdr)
  have hcs : off + (n - 1) * 5 + 5 ≤ cur.size := by omega
  have HCL := Lib.hid (fun ty => run_clear_E (P := Tryz.prog) (w.drew.setCells g (off + k * 5) news) 25 64 ty (.agg #[.string ⟨#[]⟩, .string ⟨#[]⟩, .int .i64 0, .int .i64 0, .int .i64 0]) Tryz.underlying25 Tryz.zeroValue64 [.string ⟨#[]⟩, .string ⟨#[]⟩, .int .i64 0, .int .i64 0, .int .i64 0] g (off + (n - 1) * 5) 1 (c - (n - 1)) (by decide) (by kernel_rfl) (by simp [Value.oneCell']) (fun j hj => by
    have hj2 : j < 5 := hj
    rw [HB1.out.cell, Array.getElem?_eq_getElem (by rw [arrSets_size]; omega)]; rfl) (fun j _ => HB1.out.frozen _))
  rw [hnews] at HRD HBL HSH ⊢
  have S1 := Lib.hid hnl
  have S2 := Lib.hid hsrc
  have S3 := Lib.hid h1n
  have S4 := Lib.hid hspare
  obtain ⟨j, hj⟩ : ∃ j, k + 1 = j := ⟨_, rfl⟩
  have HJ := Lib.hid hj
  rw [hj] at hAd S1 ⊢
  have hkc : k ≤ c := by omega
  have hjc : j ≤ c := by omega
  have hjn : j ≤ n := by omega
  have hkj : k ≤ j := by omega
  have hne : ((k : Int) == (j : Int)) = false := by rw [beq_eq_false_iff_ne]; omega
  have hnj : k + (n - j) = n - 1 := by omega
  have HNJ := Lib.hid hnj
  have hn1 : n - 1 ≤ n := by omega
  have hn2 : n - (n - 1) = 1 := by omega
  have hcn1 : ¬ c = n - 1 := by omega
  have HN2 := Lib.hid hn2
  clear hxl hr2 hB hdr hs ht hnl hat hspare h1n hd hnews hsrc HB1 h1 hj hnj hn2
  by_cases hce : c = j
  · rw [if_pos hce] at hAd
    obtain rfl : j = c := hce.symm
    have hnk : n - 1 = k := by have := HJ.out; omega
    rw [hnk] at HRD HBL HSH HCL HN2 ⊢
    have hnj0 : n - j = 0 := by omega
    have S1b := Lib.hid (show news.length = 0 * 5 by rw [S1.out, hnj0])
    clear hnk hnj0 hn1 hcn1
    injection hAd with hAd
    subst hAd
    go_enter Tryz.func23, Tryz.ntmps23
    go_upto_region 5 with (fail)
    go_region_law ((refine step_append_room (by rfl) (.tmp 22) (.tmp 25) 25 (by rfl) 64 i0 5 Tryz.underlying25 hi0 hz1 g off k j (by kernel_rfl) _ 0 0 news (by kernel_rfl) S1b.out S2.out S3.out (by omega) S4.out ?_))
    simp only [Act.put, List.getElem_toArray, List.getElem_cons_succ, List.getElem_cons_zero, List.setIfInBounds_toArray, List.set_cons_zero]
    have hcl := HCL.out
    have hcl := HCL.out
    rw [← HN2.out] at hcl
    generalize w.drew.setCells g (off + k * 5) news = W1 at *
    go_wp2
    go_ret
    exact ⟨rfl, HRD.out, HBL.out, HSH.out⟩
  · rw [if_neg hce] at hAd
    injection hAd with hAd
    subst hAd
    go_enter Tryz.func23, Tryz.ntmps23
    go_upto_region 5 with (fail)
    go_region_law ((refine step_append_room (by rfl) (.tmp 22) (.tmp 25) 25 (by rfl) 64 i0 5 Tryz.underlying25 hi0 hz1 g off k c (by kernel_rfl) _ (n - j) (c - j) news (by kernel_rfl) S1.out S2.out S3.out (by omega) S4.out ?_))
    rw [HNJ.out]
    simp only [Act.put, List.getElem_toArray, List.getElem_cons_succ, List.getElem_cons_zero, List.setIfInBounds_toArray, List.set_cons_zero]
    have hcl : ∀ ty, (Builtin.clear_ #[25] ty #[.slice (some ⟨g, off + (n - 1) * 5, none⟩) (n - (n - 1)) (c - (n - 1))]).run Tryz.prog (w.drew.setCells g (off + k * 5) news) = .ok (.tuple #[]) ((w.drew.setCells g (off + k * 5) news).setCells g (off + (n - 1) * 5) [.string ⟨#[]⟩, .string ⟨#[]⟩, .int .i64 0, .int .i64 0, .int .i64 0]) := by
      intro ty
      rw [HN2.out]
      exact HCL.out ty
    generalize w.drew.setCells g (off + k * 5) news = W1 at *
    go_wp2
    go_ret
    exact ⟨rfl, HRD.out, HBL.out, HSH.out⟩

theorem infoDLoad : (Tryz.prog.info? 59).map (fun i => (i.zero, i.size, i.bytes)) = some (some (.agg #[.string ⟨#[]⟩, .string ⟨#[]⟩, .int .i64 0]), 3, 40) := by kernel_rfl
set_option maxRecDepth 100000 in
set_option maxHeartbeats 4000000 in
theorem delLoad_any (A : Option Addr) (n c k : Nat) (xs : List Value) (w : World) (base : Nat) (hr : Row w base 59 3 (.slice A n c) n xs) (h1 : ∀ u ∈ xs, u.oneCell' = true) (hk : k < n) (hn : n ≤ 1000000) (_hb : base ≤ w.heap.size) :
    Calls Tryz.prog 24 #[.slice A n c, I k, I ((k + 1 : Nat) : Int)] w fun e w' => e = .returned (.slice A (n - 1) c) ∧ Row w' base 59 3 (.slice A (n - 1) c) (n - 1) (xs.take (k * 3) ++ xs.drop ((k + 1) * 3)) ∧ Below base w w' ∧ (∀ b, (∀ o, A ≠ some ⟨b, o, none⟩) → w'.heap[b]? = w.heap[b]?) ∧ w'.heap.size = w.heap.size := by
  obtain ⟨hxl, hr2⟩ := hr
  obtain ⟨g, off, cap, cur, hv, hbg, hB, hnc, hm, hs, ht⟩ := hr2.resolve_left (fun q => by omega)
  injection hv with hA _ hc
  subst hA hc
  obtain ⟨i0, hi0, hz0, hz1, hz2⟩ := info_parts infoDLoad
  have hdr : Blk w.drew g 59 cur := hB
  have HRD := Lib.hid (row_del (zs := [.string ⟨#[]⟩, .string ⟨#[]⟩, .int .i64 0]) hxl hbg hdr hnc hm hs ht hk rfl)
  have hm2 : c ≤ 9223372036854775807 := by unfold maxLen at hm; omega
  have hd := (Below.refl base w).drew
  have HBL := Lib.hid (below_sets hbg [.string ⟨#[]⟩, .string ⟨#[]⟩, .int .i64 0] _ _ (off + (n - 1) * 3) (below_sets hbg (xs.drop ((k + 1) * 3)) _ _ (off + k * 3) hd))
  have HSH := Lib.hid (show (∀ b, ¬ g = b → ((w.drew.setCells g (off + k * 3) (xs.drop ((k + 1) * 3))).setCells g (off + (n - 1) * 3) [.string ⟨#[]⟩, .string ⟨#[]⟩, .int .i64 0]).heap[b]? = w.heap[b]?) ∧ ((w.drew.setCells g (off + k * 3) (xs.drop ((k + 1) * 3))).setCells g (off + (n - 1) * 3) [.string ⟨#[]⟩, .string ⟨#[]⟩, .int .i64 0]).heap.size = w.heap.size from ⟨fun b hb => by
    have hbg : b ≠ g := fun e => hb e.symm
    rw [sets_heap hbg, sets_heap hbg]; rfl, by rw [sets_size, sets_size]; rfl⟩)
  obtain ⟨news, hnews⟩ : ∃ news, xs.drop ((k + 1) * 3) = news := ⟨_, rfl⟩
  have hnl : news.length = (n - (k + 1)) * 3 := by rw [← hnews, List.length_drop, hxl]; omega
  have hat : ∀ t u, news[t]? = some u → w.drew.cell? ⟨g, off + (k + 1) * 3 + t, none⟩ = some u := by
    intro t u hu
    rw [← hnews, List.getElem?_drop, ← ht, List.getElem?_take] at hu
    split at hu
    · rw [List.getElem?_drop, Array.getElem?_toList] at hu
      rw [show w.drew.cell? ⟨g, off + (k + 1) * 3 + t, none⟩ = w.cell? ⟨g, off + (k + 1) * 3 + t, none⟩ from rfl, hB.cell, show off + (k + 1) * 3 + t = off + ((k + 1) * 3 + t) by omega]
      exact hu
    · cases hu
  have hspare : ∀ j, j < news.length → (w.drew.cell? ⟨g, off + k * 3 + j, none⟩).isSome = true ∧ w.drew.frozen? ⟨g, off + k * 3 + j, none⟩ = false := by
    intro j hj
    refine ⟨?_, hdr.frozen _⟩
    rw [hdr.cell, Array.getElem?_eq_getElem (by omega)]
    rfl
  have h1n : ∀ u ∈ news, u.oneCell' = true := fun u hu => h1 u (List.mem_of_mem_drop (hnews ▸ hu))
  obtain ⟨Ad, hAd, hsrc⟩ : ∃ Ad : Addr, (if c = k + 1 then (some ⟨g, off, none⟩ : Option Addr) else some ⟨g, off + (k + 1) * 3, none⟩) = some Ad ∧ ∀ t u, news[t]? = some u → w.drew.cell? (Ad.add t) = some u := by
    by_cases h : c = k + 1
    · refine ⟨⟨g, off, none⟩, if_pos h, fun t u hu => ?_⟩
      have h0 : news.length = 0 := by rw [hnl, show n - (k + 1) = 0 by omega]
      rw [List.length_eq_zero_iff.1 h0] at hu
      simp at hu
    · exact ⟨⟨g, off + (k + 1) * 3, none⟩, if_neg h, fun t u hu => by rw [Addr.add_lit]; exact hat t u hu⟩
  have HB1 := Lib.hid (blk_sets news _ _ (off + k * 3) hdr)
  have hcs : off + (n - 1) * 3 + 3 ≤ cur.size := by omega
  have HCL := Lib.hid (fun ty => run_clear_E (P := Tryz.prog) (w.drew.setCells g (off + k * 3) news) 26 59 ty (.agg #[.string ⟨#[]⟩, .string ⟨#[]⟩, .int .i64 0]) Tryz.underlying26 Tryz.zeroValue59 [.string ⟨#[]⟩, .string ⟨#[]⟩, .int .i64 0] g (off + (n - 1) * 3) 1 (c - (n - 1)) (by decide) (by kernel_rfl) (by simp [Value.oneCell']) (fun j hj => by
    have hj2 : j < 3 := hj
    rw [HB1.out.cell, Array.getElem?_eq_getElem (by rw [arrSets_size]; omega)]; rfl) (fun j _ => HB1.out.frozen _))
  rw [hnews] at HRD HBL HSH ⊢
  have S1 := Lib.hid hnl
  have S2 := Lib.hid hsrc
  have S3 := Lib.hid h1n
  have S4 := Lib.hid hspare
  obtain ⟨j, hj⟩ : ∃ j, k + 1 = j := ⟨_, rfl⟩
  have HJ := Lib.hid hj
  rw [hj] at hAd S1 ⊢
  have hkc : k ≤ c := by omega
  have hjc : j ≤ c := by omega
  have hjn : j ≤ n := by omega
  have hkj : k ≤ j := by omega
  have hne : ((k : Int) == (j : Int)) = false := by rw [beq_eq_false_iff_ne]; omega
  have hnj : k + (n - j) = n - 1 := by omega
  have HNJ := Lib.hid hnj
  have hn1 : n - 1 ≤ n := by omega
  have hn2 : n - (n - 1) = 1 := by omega
  have hcn1 : ¬ c = n - 1 := by omega
  have HN2 := Lib.hid hn2
  clear hxl hr2 hB hdr hs ht hnl hat hspare h1n hd hnews hsrc HB1 h1 hj hnj hn2
  by_cases hce : c = j
  · rw [if_pos hce] at hAd
    obtain rfl : j = c := hce.symm
    have hnk : n - 1 = k := by have := HJ.out; omega
    rw [hnk] at HRD HBL HSH HCL HN2 ⊢
    have hnj0 : n - j = 0 := by omega
    have S1b := Lib.hid (show news.length = 0 * 3 by rw [S1.out, hnj0])
    clear hnk hnj0 hn1 hcn1
    injection hAd with hAd
    subst hAd
    go_enter Tryz.func24, Tryz.ntmps24
    go_upto_region 5 with (fail)
    go_region_law ((refine step_append_room (by rfl) (.tmp 22) (.tmp 25) 26 (by rfl) 59 i0 3 Tryz.underlying26 hi0 hz1 g off k j (by kernel_rfl) _ 0 0 news (by kernel_rfl) S1b.out S2.out S3.out (by omega) S4.out ?_))
    simp only [Act.put, List.getElem_toArray, List.getElem_cons_succ, List.getElem_cons_zero, List.setIfInBounds_toArray, List.set_cons_zero]
    have hcl := HCL.out
    have hcl := HCL.out
    rw [← HN2.out] at hcl
    generalize w.drew.setCells g (off + k * 3) news = W1 at *
    go_wp2
    go_ret
    exact ⟨rfl, HRD.out, HBL.out, HSH.out⟩
  · rw [if_neg hce] at hAd
    injection hAd with hAd
    subst hAd
    go_enter Tryz.func24, Tryz.ntmps24
    go_upto_region 5 with (fail)
    go_region_law ((refine step_append_room (by rfl) (.tmp 22) (.tmp 25) 26 (by rfl) 59 i0 3 Tryz.underlying26 hi0 hz1 g off k c (by kernel_rfl) _ (n - j) (c - j) news (by kernel_rfl) S1.out S2.out S3.out (by omega) S4.out ?_))
    rw [HNJ.out]
    simp only [Act.put, List.getElem_toArray, List.getElem_cons_succ, List.getElem_cons_zero, List.setIfInBounds_toArray, List.set_cons_zero]
    have hcl : ∀ ty, (Builtin.clear_ #[26] ty #[.slice (some ⟨g, off + (n - 1) * 3, none⟩) (n - (n - 1)) (c - (n - 1))]).run Tryz.prog (w.drew.setCells g (off + k * 3) news) = .ok (.tuple #[]) ((w.drew.setCells g (off + k * 3) news).setCells g (off + (n - 1) * 3) [.string ⟨#[]⟩, .string ⟨#[]⟩, .int .i64 0]) := by
      intro ty
      rw [HN2.out]
      exact HCL.out ty
    generalize w.drew.setCells g (off + k * 3) news = W1 at *
    go_wp2
    go_ret
    exact ⟨rfl, HRD.out, HBL.out, HSH.out⟩

theorem infoDStore : (Tryz.prog.info? 68).map (fun i => (i.zero, i.size, i.bytes)) = some (some (.agg #[.string ⟨#[]⟩, .string ⟨#[]⟩, .int .i64 0, .int .i64 0, .int .i64 0]), 5, 56) := by kernel_rfl
set_option maxRecDepth 100000 in
set_option maxHeartbeats 4000000 in
theorem delStore_any (A : Option Addr) (n c k : Nat) (xs : List Value) (w : World) (base : Nat) (hr : Row w base 68 5 (.slice A n c) n xs) (h1 : ∀ u ∈ xs, u.oneCell' = true) (hk : k < n) (hn : n ≤ 1000000) (_hb : base ≤ w.heap.size) :
    Calls Tryz.prog 25 #[.slice A n c, I k, I ((k + 1 : Nat) : Int)] w fun e w' => e = .returned (.slice A (n - 1) c) ∧ Row w' base 68 5 (.slice A (n - 1) c) (n - 1) (xs.take (k * 5) ++ xs.drop ((k + 1) * 5)) ∧ Below base w w' ∧ (∀ b, (∀ o, A ≠ some ⟨b, o, none⟩) → w'.heap[b]? = w.heap[b]?) ∧ w'.heap.size = w.heap.size := by
  obtain ⟨hxl, hr2⟩ := hr
  obtain ⟨g, off, cap, cur, hv, hbg, hB, hnc, hm, hs, ht⟩ := hr2.resolve_left (fun q => by omega)
  injection hv with hA _ hc
  subst hA hc
  obtain ⟨i0, hi0, hz0, hz1, hz2⟩ := info_parts infoDStore
  have hdr : Blk w.drew g 68 cur := hB
  have HRD := Lib.hid (row_del (zs := [.string ⟨#[]⟩, .string ⟨#[]⟩, .int .i64 0, .int .i64 0, .int .i64 0]) hxl hbg hdr hnc hm hs ht hk rfl)
  have hm2 : c ≤ 9223372036854775807 := by unfold maxLen at hm; omega
  have hd := (Below.refl base w).drew
  have HBL := Lib.hid (below_sets hbg [.string ⟨#[]⟩, .string ⟨#[]⟩, .int .i64 0, .int .i64 0, .int .i64 0] _ _ (off + (n - 1) * 5) (below_sets hbg (xs.drop ((k + 1) * 5)) _ _ (off + k * 5) hd))
  have HSH := Lib.hid (show (∀ b, ¬ g = b → ((w.drew.setCells g (off + k * 5) (xs.drop ((k + 1) * 5))).setCells g (off + (n - 1) * 5) [.string ⟨#[]⟩, .string ⟨#[]⟩, .int .i64 0, .int .i64 0, .int .i64 0]).heap[b]? = w.heap[b]?) ∧ ((w.drew.setCells g (off + k * 5) (xs.drop ((k + 1) * 5))).setCells g (off + (n - 1) * 5) [.string ⟨#[]⟩, .string ⟨#[]⟩, .int .i64 0, .int .i64 0, .int .i64 0]).heap.size = w.heap.size from ⟨fun b hb => by
    have hbg : b ≠ g := fun e => hb e.symm
    rw [sets_heap hbg, sets_heap hbg]; rfl, by rw [sets_size, sets_size]; rfl⟩)
  obtain ⟨news, hnews⟩ : ∃ news, xs.drop ((k + 1) * 5) = news := ⟨_, rfl⟩
  have hnl : news.length = (n - (k + 1)) * 5 := by rw [← hnews, List.length_drop, hxl]; omega
  have hat : ∀ t u, news[t]? = some u → w.drew.cell? ⟨g, off + (k + 1) * 5 + t, none⟩ = some u := by
    intro t u hu
    rw [← hnews, List.getElem?_drop, ← ht, List.getElem?_take] at hu
    split at hu
    · rw [List.getElem?_drop, Array.getElem?_toList] at hu
      rw [show w.drew.cell? ⟨g, off + (k + 1) * 5 + t, none⟩ = w.cell? ⟨g, off + (k + 1) * 5 + t, none⟩ from rfl, hB.cell, show off + (k + 1) * 5 + t = off + ((k + 1) * 5 + t) by omega]
      exact hu
    · cases hu
  have hspare : ∀ j, j < news.length → (w.drew.cell? ⟨g, off + k * 5 + j, none⟩).isSome = true ∧ w.drew.frozen? ⟨g, off + k * 5 + j, none⟩ = false := by
    intro j hj
    refine ⟨?_, hdr.frozen _⟩
    rw [hdr.cell, Array.getElem?_eq_getElem (by omega)]
    rfl
  have h1n : ∀ u ∈ news, u.oneCell' = true := fun u hu => h1 u (List.mem_of_mem_drop (hnews ▸ hu))
  obtain ⟨Ad, hAd, hsrc⟩ : ∃ Ad : Addr, (if c = k + 1 then (some ⟨g, off, none⟩ : Option Addr) else some ⟨g, off + (k + 1) * 5, none⟩) = some Ad ∧ ∀ t u, news[t]? = some u → w.drew.cell? (Ad.add t) = some u := by
    by_cases h : c = k + 1
    · refine ⟨⟨g, off, none⟩, if_pos h, fun t u hu => ?_⟩
      have h0 : news.length = 0 := by rw [hnl, show n - (k + 1) = 0 by omega]
      rw [List.length_eq_zero_iff.1 h0] at hu
      simp at hu
    · exact ⟨⟨g, off + (k + 1) * 5, none⟩, if_neg h, fun t u hu => by rw [Addr.add_lit]; exact hat t u hu⟩
  have HB1 := Lib.hid (blk_sets news _ _ (off + k * 5) hdr)
  have hcs : off + (n - 1) * 5 + 5 ≤ cur.size := by omega
  have HCL := Lib.hid (fun ty => run_clear_E (P := Tryz.prog) (w.drew.setCells g (off + k * 5) news) 27 68 ty (.agg #[.string ⟨#[]⟩, .string ⟨#[]⟩, .int .i64 0, .int .i64 0, .int .i64 0]) Tryz.underlying27 Tryz.zeroValue68 [.string ⟨#[]⟩, .string ⟨#[]⟩, .int .i64 0, .int .i64 0, .int .i64 0] g (off + (n - 1) * 5) 1 (c - (n - 1)) (by decide) (by kernel_rfl) (by simp [Value.oneCell']) (fun j hj => by
    have hj2 : j < 5 := hj
    rw [HB1.out.cell, Array.getElem?_eq_getElem (by rw [arrSets_size]; omega)]; rfl) (fun j _ => HB1.out.frozen _))
  rw [hnews] at HRD HBL HSH ⊢
  have S1 := Lib.hid hnl
  have S2 := Lib.hid hsrc
  have S3 := Lib.hid h1n
  have S4 := Lib.hid hspare
  obtain ⟨j, hj⟩ : ∃ j, k + 1 = j := ⟨_, rfl⟩
  have HJ := Lib.hid hj
  rw [hj] at hAd S1 ⊢
  have hkc : k ≤ c := by omega
  have hjc : j ≤ c := by omega
  have hjn : j ≤ n := by omega
  have hkj : k ≤ j := by omega
  have hne : ((k : Int) == (j : Int)) = false := by rw [beq_eq_false_iff_ne]; omega
  have hnj : k + (n - j) = n - 1 := by omega
  have HNJ := Lib.hid hnj
  have hn1 : n - 1 ≤ n := by omega
  have hn2 : n - (n - 1) = 1 := by omega
  have hcn1 : ¬ c = n - 1 := by omega
  have HN2 := Lib.hid hn2
  clear hxl hr2 hB hdr hs ht hnl hat hspare h1n hd hnews hsrc HB1 h1 hj hnj hn2
  by_cases hce : c = j
  · rw [if_pos hce] at hAd
    obtain rfl : j = c := hce.symm
    have hnk : n - 1 = k := by have := HJ.out; omega
    rw [hnk] at HRD HBL HSH HCL HN2 ⊢
    have hnj0 : n - j = 0 := by omega
    have S1b := Lib.hid (show news.length = 0 * 5 by rw [S1.out, hnj0])
    clear hnk hnj0 hn1 hcn1
    injection hAd with hAd
    subst hAd
    go_enter Tryz.func25, Tryz.ntmps25
    go_upto_region 5 with (fail)
    go_region_law ((refine step_append_room (by rfl) (.tmp 22) (.tmp 25) 27 (by rfl) 68 i0 5 Tryz.underlying27 hi0 hz1 g off k j (by kernel_rfl) _ 0 0 news (by kernel_rfl) S1b.out S2.out S3.out (by omega) S4.out ?_))
    simp only [Act.put, List.getElem_toArray, List.getElem_cons_succ, List.getElem_cons_zero, List.setIfInBounds_toArray, List.set_cons_zero]
    have hcl := HCL.out
    have hcl := HCL.out
    rw [← HN2.out] at hcl
    generalize w.drew.setCells g (off + k * 5) news = W1 at *
    go_wp2
    go_ret
    exact ⟨rfl, HRD.out, HBL.out, HSH.out⟩
  · rw [if_neg hce] at hAd
    injection hAd with hAd
    subst hAd
    go_enter Tryz.func25, Tryz.ntmps25
    go_upto_region 5 with (fail)
    go_region_law ((refine step_append_room (by rfl) (.tmp 22) (.tmp 25) 27 (by rfl) 68 i0 5 Tryz.underlying27 hi0 hz1 g off k c (by kernel_rfl) _ (n - j) (c - j) news (by kernel_rfl) S1.out S2.out S3.out (by omega) S4.out ?_))
    rw [HNJ.out]
    simp only [Act.put, List.getElem_toArray, List.getElem_cons_succ, List.getElem_cons_zero, List.setIfInBounds_toArray, List.set_cons_zero]
    have hcl : ∀ ty, (Builtin.clear_ #[27] ty #[.slice (some ⟨g, off + (n - 1) * 5, none⟩) (n - (n - 1)) (c - (n - 1))]).run Tryz.prog (w.drew.setCells g (off + k * 5) news) = .ok (.tuple #[]) ((w.drew.setCells g (off + k * 5) news).setCells g (off + (n - 1) * 5) [.string ⟨#[]⟩, .string ⟨#[]⟩, .int .i64 0, .int .i64 0, .int .i64 0]) := by
      intro ty
      rw [HN2.out]
      exact HCL.out ty
    generalize w.drew.setCells g (off + k * 5) news = W1 at *
    go_wp2
    go_ret
    exact ⟨rfl, HRD.out, HBL.out, HSH.out⟩
end Go.Proofs.YtglbelmljdgaoaaGreatDoor
namespace Go.Proofs.YtglbelmljdgaoaaGreatDoor
open Go.RowKit

def RetWo (w : World) (r : NetD × Int) (e : Ending) (w' : World) : Prop := ∃ v : NetV, e = .returned (.tuple #[v.val r.1, I r.2]) ∧ NetIn w' r.1 v ∧ Below w.heap.size w w'
theorem reads_of_row {w : World} {base : Nat} {e : TypeId} {sz n c : Nat} {A : Option Addr} {xs : List Value} (hl : xs.length = n * sz) (h : 0 < n → Row w base e sz (.slice A n c) n xs) : Reads w w.heap.size sz A n xs :=
  ⟨hl, fun hn => (h hn).reads.2 hn⟩
theorem NetRows.netIn {w : World} {base : Nat} {n : NetD} {v : NetV} (h : NetRows w base n v) : NetIn w n v :=
  ⟨reads_of_row (by simp) h.r0, reads_of_row (cellsBy_len (f := SwitchD.cells) (sz := 5) (fun _ => rfl) _) h.r1, reads_of_row (cellsBy_len (f := BranchD.cells) (sz := 9) (fun _ => rfl) _) h.r2, reads_of_row (cellsBy_len (f := GenD.cells) (sz := 5) (fun _ => rfl) _) h.r3, reads_of_row (cellsBy_len (f := LoadD.cells) (sz := 3) (fun _ => rfl) _) h.r4, reads_of_row (cellsBy_len (f := StoreD.cells) (sz := 5) (fun _ => rfl) _) h.r5⟩
theorem NetRows.keep {w w' : World} {base : Nat} {n : NetD} {v : NetV} (h : NetRows w base n v) (hk : ∀ g, base ≤ g → g < w.heap.size → w'.heap[g]? = w.heap[g]?) : NetRows w' base n v :=
  ⟨fun q => (h.r0 q).keep hk, fun q => (h.r1 q).keep hk, fun q => (h.r2 q).keep hk, fun q => (h.r3 q).keep hk, fun q => (h.r4 q).keep hk, fun q => (h.r5 q).keep hk⟩
theorem Row.setNet {w : World} {base b : Nat} {e t : TypeId} {sz n : Nat} {v : Value} {xs : List Value} {cs : Array Value} (h : Row w base e sz v n xs) (hB : Blk w b t cs) (hne : e ≠ t) (i : Nat) (u : Value) : Row (w.setCell ⟨b, i, none⟩ u) base e sz v n xs :=
  h.set_away (h.ne_blk hB hne) u
theorem NetRows.setNet {w : World} {base b : Nat} {n : NetD} {v : NetV} {cs : Array Value} (h : NetRows w base n v) (hB : Blk w b 29 cs) (i : Nat) (u : Value) : NetRows (w.setCell ⟨b, i, none⟩ u) base n v :=
  ⟨fun q => (h.r0 q).setNet hB (by decide) i u, fun q => (h.r1 q).setNet hB (by decide) i u, fun q => (h.r2 q).setNet hB (by decide) i u, fun q => (h.r3 q).setNet hB (by decide) i u, fun q => (h.r4 q).setNet hB (by decide) i u, fun q => (h.r5 q).setNet hB (by decide) i u⟩
/-- a row in another block than the row that is written -/
theorem Row.other {w w' : World} {base base' : Nat} {e e' : TypeId} {sz sz' n n' c' : Nat} {A : Option Addr} {v : Value} {xs xs' : List Value} (h : Row w base e sz v n xs) (h' : Row w base' e' sz' (.slice A n' c') n' xs') (hn' : 0 < n') (hne : e ≠ e') (hk : ∀ b, (∀ o, A ≠ some ⟨b, o, none⟩) → w'.heap[b]? = w.heap[b]?) : Row w' base e sz v n xs := by
  obtain ⟨g', off', cap', cur', hv', _, hh', _⟩ := h'.form hn'
  injection hv' with hA
  obtain ⟨h1, h2⟩ := h
  refine ⟨h1, h2.imp id ?_⟩
  rintro ⟨g, off, cap, cur, rfl, hb, hh, r⟩
  refine ⟨g, off, cap, cur, rfl, hb, ?_, r⟩
  unfold Blk at hh hh' ⊢
  rw [hk g ?_]
  · exact hh
  · intro o ho
    rw [hA] at ho
    injection ho with ho
    injection ho with ho
    subst ho
    rw [hh] at hh'
    injection hh' with hh'
    injection hh' with _ hh'
    exact hne hh'
theorem Row.blk_lt {w : World} {base : Nat} {e : TypeId} {sz n c : Nat} {A : Option Addr} {xs : List Value} (h : Row w base e sz (.slice A n c) n xs) (hn : 0 < n) {b : Nat} (hb : w.heap.size ≤ b) : ∀ o, A ≠ some ⟨b, o, none⟩ := by
  obtain ⟨g, off, cap, cur, hv, _, hh, _⟩ := h.form hn
  injection hv with hA
  intro o ho
  rw [hA] at ho
  injection ho with ho
  injection ho with ho
  have := hh.lt
  omega
def storeB : ByteArray := ⟨#[115, 116, 111, 114, 101]⟩
theorem withoutL_drop (n : NetD) (x s : ByteArray) (k : Nat) (h : FindL n x = (s, (k : Int), 0)) (hs : s ≠ nodeB) : withoutL n x = (dropN n s k, 0) := by
  rw [withoutL, h]
  simp only [if_true, if_neg hs, Int.toNat_natCast]

theorem drop_sw {w w' : World} {base : Nat} {n : NetD} {v : NetV} (h : NetRows w base n v) {k : Nat} (hk1 : k < n.switches.length)
    (hd : Row w' base 39 5 (.slice v.sa (n.switches.length - 1) v.sc) (n.switches.length - 1) ((cellsBy SwitchD.cells n.switches).take (k * 5) ++ (cellsBy SwitchD.cells n.switches).drop ((k + 1) * 5)))
    (hk : ∀ b, (∀ o, v.sa ≠ some ⟨b, o, none⟩) → w'.heap[b]? = w.heap[b]?) : NetRows w' base (dropN n swB k) v := by
  have hp : 0 < n.switches.length := by omega
  rw [cellsBy_erase (f := SwitchD.cells) (sz := 5) (fun _ => rfl), ← List.length_eraseIdx_of_lt hk1] at hd
  rw [show dropN n swB k = { n with switches := n.switches.eraseIdx k } from rfl]
  exact ⟨fun q => (h.r0 q).other (h.r1 hp) hp (by decide) hk, fun _ => hd, fun q => (h.r2 q).other (h.r1 hp) hp (by decide) hk, fun q => (h.r3 q).other (h.r1 hp) hp (by decide) hk, fun q => (h.r4 q).other (h.r1 hp) hp (by decide) hk, fun q => (h.r5 q).other (h.r1 hp) hp (by decide) hk⟩

theorem drop_br {w w' : World} {base : Nat} {n : NetD} {v : NetV} (h : NetRows w base n v) {k : Nat} (hk1 : k < n.branches.length)
    (hd : Row w' base 48 9 (.slice v.ba (n.branches.length - 1) v.bc) (n.branches.length - 1) ((cellsBy BranchD.cells n.branches).take (k * 9) ++ (cellsBy BranchD.cells n.branches).drop ((k + 1) * 9)))
    (hk : ∀ b, (∀ o, v.ba ≠ some ⟨b, o, none⟩) → w'.heap[b]? = w.heap[b]?) : NetRows w' base (dropN n branchB k) v := by
  have hp : 0 < n.branches.length := by omega
  rw [cellsBy_erase (f := BranchD.cells) (sz := 9) (fun _ => rfl), ← List.length_eraseIdx_of_lt hk1] at hd
  rw [show dropN n branchB k = { n with branches := n.branches.eraseIdx k } from rfl]
  exact ⟨fun q => (h.r0 q).other (h.r2 hp) hp (by decide) hk, fun q => (h.r1 q).other (h.r2 hp) hp (by decide) hk, fun _ => hd, fun q => (h.r3 q).other (h.r2 hp) hp (by decide) hk, fun q => (h.r4 q).other (h.r2 hp) hp (by decide) hk, fun q => (h.r5 q).other (h.r2 hp) hp (by decide) hk⟩

theorem drop_ge {w w' : World} {base : Nat} {n : NetD} {v : NetV} (h : NetRows w base n v) {k : Nat} (hk1 : k < n.gens.length)
    (hd : Row w' base 64 5 (.slice v.ga (n.gens.length - 1) v.gc) (n.gens.length - 1) ((cellsBy GenD.cells n.gens).take (k * 5) ++ (cellsBy GenD.cells n.gens).drop ((k + 1) * 5)))
    (hk : ∀ b, (∀ o, v.ga ≠ some ⟨b, o, none⟩) → w'.heap[b]? = w.heap[b]?) : NetRows w' base (dropN n genB k) v := by
  have hp : 0 < n.gens.length := by omega
  rw [cellsBy_erase (f := GenD.cells) (sz := 5) (fun _ => rfl), ← List.length_eraseIdx_of_lt hk1] at hd
  rw [show dropN n genB k = { n with gens := n.gens.eraseIdx k } from rfl]
  exact ⟨fun q => (h.r0 q).other (h.r3 hp) hp (by decide) hk, fun q => (h.r1 q).other (h.r3 hp) hp (by decide) hk, fun q => (h.r2 q).other (h.r3 hp) hp (by decide) hk, fun _ => hd, fun q => (h.r4 q).other (h.r3 hp) hp (by decide) hk, fun q => (h.r5 q).other (h.r3 hp) hp (by decide) hk⟩

theorem drop_lo {w w' : World} {base : Nat} {n : NetD} {v : NetV} (h : NetRows w base n v) {k : Nat} (hk1 : k < n.loads.length)
    (hd : Row w' base 59 3 (.slice v.la (n.loads.length - 1) v.lc) (n.loads.length - 1) ((cellsBy LoadD.cells n.loads).take (k * 3) ++ (cellsBy LoadD.cells n.loads).drop ((k + 1) * 3)))
    (hk : ∀ b, (∀ o, v.la ≠ some ⟨b, o, none⟩) → w'.heap[b]? = w.heap[b]?) : NetRows w' base (dropN n loadB k) v := by
  have hp : 0 < n.loads.length := by omega
  rw [cellsBy_erase (f := LoadD.cells) (sz := 3) (fun _ => rfl), ← List.length_eraseIdx_of_lt hk1] at hd
  rw [show dropN n loadB k = { n with loads := n.loads.eraseIdx k } from rfl]
  exact ⟨fun q => (h.r0 q).other (h.r4 hp) hp (by decide) hk, fun q => (h.r1 q).other (h.r4 hp) hp (by decide) hk, fun q => (h.r2 q).other (h.r4 hp) hp (by decide) hk, fun q => (h.r3 q).other (h.r4 hp) hp (by decide) hk, fun _ => hd, fun q => (h.r5 q).other (h.r4 hp) hp (by decide) hk⟩

theorem drop_st {w w' : World} {base : Nat} {n : NetD} {v : NetV} (h : NetRows w base n v) {k : Nat} (hk1 : k < n.stores.length)
    (hd : Row w' base 68 5 (.slice v.ta (n.stores.length - 1) v.tc) (n.stores.length - 1) ((cellsBy StoreD.cells n.stores).take (k * 5) ++ (cellsBy StoreD.cells n.stores).drop ((k + 1) * 5)))
    (hk : ∀ b, (∀ o, v.ta ≠ some ⟨b, o, none⟩) → w'.heap[b]? = w.heap[b]?) : NetRows w' base (dropN n storeB k) v := by
  have hp : 0 < n.stores.length := by omega
  rw [cellsBy_erase (f := StoreD.cells) (sz := 5) (fun _ => rfl), ← List.length_eraseIdx_of_lt hk1] at hd
  rw [show dropN n storeB k = { n with stores := n.stores.eraseIdx k } from rfl]
  exact ⟨fun q => (h.r0 q).other (h.r5 hp) hp (by decide) hk, fun q => (h.r1 q).other (h.r5 hp) hp (by decide) hk, fun q => (h.r2 q).other (h.r5 hp) hp (by decide) hk, fun q => (h.r3 q).other (h.r5 hp) hp (by decide) hk, fun q => (h.r4 q).other (h.r5 hp) hp (by decide) hk, fun _ => hd⟩

set_option maxRecDepth 100000 in
set_option maxHeartbeats 4000000 in
theorem Without_any (n : NetD) (v : NetV) (x : ByteArray) (w : World) (hN : Net w n v) : Calls Tryz.prog 7 #[v.val n, .string x] w (RetWo w (withoutL n x)) := by
  have hb0 := below2 w (Obj.cells (v.parts n) 29) (Obj.cells nils 29)
  have HFI := Lib.hid (Find_any n v x _ (hN.below hb0))
  have HB0 := Lib.hid hb0
  have HN := Lib.hid hN
  have HBX := Lib.hid ((Blk.new w 29 (v.parts n)).alloc (Obj.cells nils 29))
  have HRX : Hid (Blk ((w.alloc (Obj.cells (v.parts n) 29)).alloc (Obj.cells nils 29)) (w.heap.size + 1) 29 nils) := by
    have := Blk.new (w.alloc (Obj.cells (v.parts n) 29)) 29 nils
    rw [World.size_alloc w] at this
    exact this
  have HD := Lib.hid (show withoutL n x = if (FindL n x).2.2 = 0 then (if (FindL n x).1 = nodeB then (noNet, 1) else (dropN n (FindL n x).1 (FindL n x).2.1.toNat, 0)) else (noNet, (FindL n x).2.2) from rfl)
  have HOK := Lib.hid (@FindL_ok n x)
  have HRG := Lib.hid (@findL_range n x)
  have HDR := Lib.hid (withoutL_drop n x)
  clear hb0 hN
  unfold NetV.val NetV.parts at *
  obtain ⟨r, hr⟩ : ∃ r, FindL n x = r := ⟨_, rfl⟩
  rw [hr] at HFI HD HOK HDR
  clear hr
  obtain ⟨s, i, er⟩ := r
  simp only at HFI HD HOK
  go_enter Tryz.func7, Tryz.ntmps7
  go_wp2_with fail
  refine HFI.out.mono ?_
  rintro e w1 ⟨rfl, hb1⟩
  have hz1 : w.heap.size + 1 + 1 ≤ w1.heap.size := by have := hb1.size; simpa using this
  have HBX1 := Lib.hid (HBX.out.below hb1 (by simp; omega))
  have HRX1 := Lib.hid (HRX.out.below hb1 (by simp))
  have HB1 := Lib.hid (HB0.out.trans (hb1.mono HB0.out.size))
  clear hb1 HFI HBX HRX HB0
  have f0 := HRX1.out.frozen 0
  have f1 := HRX1.out.frozen 1
  have f2 := HRX1.out.frozen 2
  have f3 := HRX1.out.frozen 3
  have f4 := HRX1.out.frozen 4
  have f5 := HRX1.out.frozen 5
  have y0 := HRX1.out.cell 0
  have y1 := HRX1.out.cell 1
  have y2 := HRX1.out.cell 2
  have y3 := HRX1.out.cell 3
  have y4 := HRX1.out.cell 4
  have y5 := HRX1.out.cell 5
  by_cases h0 : er = 0
  · subst h0
    obtain ⟨hck, hi0, hfe⟩ := HOK.out rfl
    have hrg := HRG.out hi0
    injection hfe with hs1 hs2
    injection hs2 with hs2
    rw [← hs1, ← hs2] at hrg
    rw [← hs2] at hi0
    clear hs1 hs2 HRG HOK
    obtain ⟨k, rfl⟩ := Int.eq_ofNat_of_zero_le hi0
    rcases hrg with ⟨rfl, _⟩ | hrg
    · have HX := Lib.hid (show withoutL n x = (noNet, 1) by rw [HD.out]; simp)
      clear HD HDR hi0 hck
      unfold nodeB
      go_wp2
      have hB := set6_blk HRX1.out rfl (.slice none 0 0) (.slice none 0 0) (.slice none 0 0) (.slice none 0 0) (.slice none 0 0) (.slice none 0 0)
      rw [← set6_def]
      have HBE := Lib.hid (HB1.out.trans (set6_below w1 (w.heap.size + 1) w.heap.size (.slice none 0 0) (.slice none 0 0) (.slice none 0 0) (.slice none 0 0) (.slice none 0 0) (.slice none 0 0) (by omega)))
      generalize set6 w1 (w.heap.size + 1) (.slice none 0 0) (.slice none 0 0) (.slice none 0 0) (.slice none 0 0) (.slice none 0 0) (.slice none 0 0) = W at *
      have z0 := hB.cell 0
      have z1 := hB.cell 1
      have z2 := hB.cell 2
      have z3 := hB.cell 3
      have z4 := hB.cell 4
      have z5 := hB.cell 5
      refine bodyPost_ret (v := .tuple #[.agg nils, I 1]) (by simp [results, go_sem, z0, z1, z2, z3, z4, z5]) rfl ?_
      rw [HX.out]
      exact ⟨⟨none, 0, none, 0, none, 0, none, 0, none, 0, none, 0⟩, rfl, ⟨Reads.nil, Reads.nil, Reads.nil, Reads.nil, Reads.nil, Reads.nil⟩, HBE.out⟩
    have HCP := Lib.hid (copy_all n v w1 (HN.out.below HB1.out).net (small_le hck).byt)
    have HLE := Lib.hid (small_le hck)
    have x0 := HBX1.out.cell 0
    have x1 := HBX1.out.cell 1
    have x2 := HBX1.out.cell 2
    have x3 := HBX1.out.cell 3
    have x4 := HBX1.out.cell 4
    have x5 := HBX1.out.cell 5
    clear HD hck hi0
    unfold NetV.val NetV.parts at *
    rcases hrg with ⟨rfl, hkn⟩ | hrg
    · have hk : k < n.switches.length := by omega
      have HX := Lib.hid (show withoutL n x = (dropN n swB k, 0) from HDR.out _ _ rfl (by decide))
      clear HDR
      unfold swB
      go_wp2_with fail
      refine HCP.out.mono ?_
      rintro e w2 ⟨v2, rfl, hin, hrows, hb2⟩
      have hz2 := hb2.size
      have HRX2 := Lib.hid (HRX1.out.below hb2 HRX1.out.lt)
      have HB2 := Lib.hid (HB1.out.trans (hb2.mono HB1.out.size))
      unfold NetV.val NetV.parts
      clear hin hb2 HCP x0 x1 x2 x3 x4 x5 y0 y1 y2 y3 y4 y5 f0 f1 f2 f3 f4 f5
      have ha : Below w2.heap.size w2 (w2.alloc (Obj.cells #[Value.slice v2.na n.nodes.length v2.nc, Value.slice v2.sa n.switches.length v2.sc, Value.slice v2.ba n.branches.length v2.bc, Value.slice v2.ga n.gens.length v2.gc, Value.slice v2.la n.loads.length v2.lc, Value.slice v2.ta n.stores.length v2.tc] 29)) := (Below.refl _ w2).alloc (Nat.le_refl _) _
      have hrows2 := hrows.keep (w' := w2.alloc (Obj.cells #[Value.slice v2.na n.nodes.length v2.nc, Value.slice v2.sa n.switches.length v2.sc, Value.slice v2.ba n.branches.length v2.bc, Value.slice v2.ga n.gens.length v2.gc, Value.slice v2.la n.loads.length v2.lc, Value.slice v2.ta n.stores.length v2.tc] 29)) (fun g _ hg => ha.block g hg)
      have HP0 := Lib.hid (hrows.r1 (by omega))
      have HDE := Lib.hid (delSwitch_any v2.sa n.switches.length v2.sc k _ _ w1.heap.size (hrows2.r1 (by omega)) (oneSwitch _) hk HLE.out.l2 (by simp; omega))
      have HROWS := Lib.hid hrows2
      have HBOX := Lib.hid (Blk.new w2 29 #[Value.slice v2.na n.nodes.length v2.nc, Value.slice v2.sa n.switches.length v2.sc, Value.slice v2.ba n.branches.length v2.bc, Value.slice v2.ga n.gens.length v2.gc, Value.slice v2.la n.loads.length v2.lc, Value.slice v2.ta n.stores.length v2.tc])
      have HRX2a := Lib.hid (HRX2.out.below ha (by have := HRX2.out.lt; omega))
      have HB2a := Lib.hid (HB2.out.trans (ha.mono (by have := HB2.out.size; omega)))
      have hk9 : (k : Int) + 1 ≤ 1000000 := by have := HLE.out.l2; omega
      clear hrows hrows2 ha
      go_wp2_with fail
      refine HDE.out.mono ?_
      rintro e w3 ⟨rfl, hd, hb3, hk3, hz3⟩
      have HBOX3 : Hid (Blk w3 w2.heap.size 29 #[Value.slice v2.na n.nodes.length v2.nc, Value.slice v2.sa n.switches.length v2.sc, Value.slice v2.ba n.branches.length v2.bc, Value.slice v2.ga n.gens.length v2.gc, Value.slice v2.la n.loads.length v2.lc, Value.slice v2.ta n.stores.length v2.tc]) := Lib.hid ((hk3 _ (HP0.out.blk_lt (by omega) (Nat.le_refl _))).trans HBOX.out)
      have HRX3 := Lib.hid (HRX2a.out.below (hb3.mono (by omega)) (by omega))
      have HB3 := Lib.hid (HB2a.out.trans (hb3.mono (by omega)))
      have HROWS3 := Lib.hid (drop_sw HROWS.out hk hd hk3)
      have hs3 : w2.heap.size + 1 = w3.heap.size := by rw [hz3]; simp
      clear hd hb3 hk3 hz3 HBOX HRX2 HRX2a HB2 HB2a HROWS HDE
      have g1 : w2.heap.size < w3.heap.size := by omega
      have g3 : ¬ w2.heap.size = w.heap.size + 1 := by omega
      have g4 : w.heap.size + 1 < w3.heap.size := by omega
      have g6 : ¬ w.heap.size + 1 = w2.heap.size := by omega
      have b0 := HBOX3.out.cell 0
      have b1 := HBOX3.out.cell 1
      have b2 := HBOX3.out.cell 2
      have b3 := HBOX3.out.cell 3
      have b4 := HBOX3.out.cell 4
      have b5 := HBOX3.out.cell 5
      have fb := HBOX3.out.frozen 1
      have f0 := HRX3.out.frozen 0
      have f1 := HRX3.out.frozen 1
      have f2 := HRX3.out.frozen 2
      have f3 := HRX3.out.frozen 3
      have f4 := HRX3.out.frozen 4
      have f5 := HRX3.out.frozen 5
      have y0 := HRX3.out.cell 0
      have y1 := HRX3.out.cell 1
      have y2 := HRX3.out.cell 2
      have y3 := HRX3.out.cell 3
      have y4 := HRX3.out.cell 4
      have y5 := HRX3.out.cell 5
      go_wp2
      rw [← set6_def]
      have hR4 := HRX3.out.far (p := ⟨w2.heap.size, 1, none⟩) g6 (Value.slice v2.sa (n.switches.length - 1) v2.sc)
      have hB4 := set6_blk hR4 rfl (Value.slice v2.na n.nodes.length v2.nc) (Value.slice v2.sa (n.switches.length - 1) v2.sc) (Value.slice v2.ba n.branches.length v2.bc) (Value.slice v2.ga n.gens.length v2.gc) (Value.slice v2.la n.loads.length v2.lc) (Value.slice v2.ta n.stores.length v2.tc)
      have hrw := (HROWS3.out.setNet HBOX3.out 1 (Value.slice v2.sa (n.switches.length - 1) v2.sc)).keep (w' := set6 (w3.setCell ⟨w2.heap.size, 1, none⟩ (Value.slice v2.sa (n.switches.length - 1) v2.sc)) (w.heap.size + 1) (Value.slice v2.na n.nodes.length v2.nc) (Value.slice v2.sa (n.switches.length - 1) v2.sc) (Value.slice v2.ba n.branches.length v2.bc) (Value.slice v2.ga n.gens.length v2.gc) (Value.slice v2.la n.loads.length v2.lc) (Value.slice v2.ta n.stores.length v2.tc)) (fun g hg _ => set6_heap _ _ _ _ _ _ _ _ g (by omega))
      have hbe := (HB3.out.setCell (p := ⟨w2.heap.size, 1, none⟩) (by simp; omega) (Value.slice v2.sa (n.switches.length - 1) v2.sc)).trans (set6_below _ (w.heap.size + 1) w.heap.size (Value.slice v2.na n.nodes.length v2.nc) (Value.slice v2.sa (n.switches.length - 1) v2.sc) (Value.slice v2.ba n.branches.length v2.bc) (Value.slice v2.ga n.gens.length v2.gc) (Value.slice v2.la n.loads.length v2.lc) (Value.slice v2.ta n.stores.length v2.tc) (by omega))
      generalize set6 (w3.setCell ⟨w2.heap.size, 1, none⟩ (Value.slice v2.sa (n.switches.length - 1) v2.sc)) (w.heap.size + 1) (Value.slice v2.na n.nodes.length v2.nc) (Value.slice v2.sa (n.switches.length - 1) v2.sc) (Value.slice v2.ba n.branches.length v2.bc) (Value.slice v2.ga n.gens.length v2.gc) (Value.slice v2.la n.loads.length v2.lc) (Value.slice v2.ta n.stores.length v2.tc) = W at *
      have z0 := hB4.cell 0
      have z1 := hB4.cell 1
      have z2 := hB4.cell 2
      have z3 := hB4.cell 3
      have z4 := hB4.cell 4
      have z5 := hB4.cell 5
      refine bodyPost_ret (v := .tuple #[.agg #[Value.slice v2.na n.nodes.length v2.nc, Value.slice v2.sa (n.switches.length - 1) v2.sc, Value.slice v2.ba n.branches.length v2.bc, Value.slice v2.ga n.gens.length v2.gc, Value.slice v2.la n.loads.length v2.lc, Value.slice v2.ta n.stores.length v2.tc], I 0]) (by simp [results, go_sem, z0, z1, z2, z3, z4, z5]) rfl ?_
      rw [HX.out]
      refine ⟨v2, ?_, hrw.netIn, hbe⟩
      rw [show dropN n swB k = { n with switches := n.switches.eraseIdx k } from rfl]
      unfold NetV.val NetV.parts
      simp only [List.length_eraseIdx_of_lt hk]
    rcases hrg with ⟨rfl, hkn⟩ | hrg
    · have hk : k < n.branches.length := by omega
      have HX := Lib.hid (show withoutL n x = (dropN n branchB k, 0) from HDR.out _ _ rfl (by decide))
      clear HDR
      unfold branchB
      go_wp2_with fail
      refine HCP.out.mono ?_
      rintro e w2 ⟨v2, rfl, hin, hrows, hb2⟩
      have hz2 := hb2.size
      have HRX2 := Lib.hid (HRX1.out.below hb2 HRX1.out.lt)
      have HB2 := Lib.hid (HB1.out.trans (hb2.mono HB1.out.size))
      unfold NetV.val NetV.parts
      clear hin hb2 HCP x0 x1 x2 x3 x4 x5 y0 y1 y2 y3 y4 y5 f0 f1 f2 f3 f4 f5
      have ha : Below w2.heap.size w2 (w2.alloc (Obj.cells #[Value.slice v2.na n.nodes.length v2.nc, Value.slice v2.sa n.switches.length v2.sc, Value.slice v2.ba n.branches.length v2.bc, Value.slice v2.ga n.gens.length v2.gc, Value.slice v2.la n.loads.length v2.lc, Value.slice v2.ta n.stores.length v2.tc] 29)) := (Below.refl _ w2).alloc (Nat.le_refl _) _
      have hrows2 := hrows.keep (w' := w2.alloc (Obj.cells #[Value.slice v2.na n.nodes.length v2.nc, Value.slice v2.sa n.switches.length v2.sc, Value.slice v2.ba n.branches.length v2.bc, Value.slice v2.ga n.gens.length v2.gc, Value.slice v2.la n.loads.length v2.lc, Value.slice v2.ta n.stores.length v2.tc] 29)) (fun g _ hg => ha.block g hg)
      have HP0 := Lib.hid (hrows.r2 (by omega))
      have HDE := Lib.hid (delBranch_any v2.ba n.branches.length v2.bc k _ _ w1.heap.size (hrows2.r2 (by omega)) (oneBranch _) hk HLE.out.l3 (by simp; omega))
      have HROWS := Lib.hid hrows2
      have HBOX := Lib.hid (Blk.new w2 29 #[Value.slice v2.na n.nodes.length v2.nc, Value.slice v2.sa n.switches.length v2.sc, Value.slice v2.ba n.branches.length v2.bc, Value.slice v2.ga n.gens.length v2.gc, Value.slice v2.la n.loads.length v2.lc, Value.slice v2.ta n.stores.length v2.tc])
      have HRX2a := Lib.hid (HRX2.out.below ha (by have := HRX2.out.lt; omega))
      have HB2a := Lib.hid (HB2.out.trans (ha.mono (by have := HB2.out.size; omega)))
      have hk9 : (k : Int) + 1 ≤ 1000000 := by have := HLE.out.l3; omega
      clear hrows hrows2 ha
      go_wp2_with fail
      refine HDE.out.mono ?_
      rintro e w3 ⟨rfl, hd, hb3, hk3, hz3⟩
      have HBOX3 : Hid (Blk w3 w2.heap.size 29 #[Value.slice v2.na n.nodes.length v2.nc, Value.slice v2.sa n.switches.length v2.sc, Value.slice v2.ba n.branches.length v2.bc, Value.slice v2.ga n.gens.length v2.gc, Value.slice v2.la n.loads.length v2.lc, Value.slice v2.ta n.stores.length v2.tc]) := Lib.hid ((hk3 _ (HP0.out.blk_lt (by omega) (Nat.le_refl _))).trans HBOX.out)
      have HRX3 := Lib.hid (HRX2a.out.below (hb3.mono (by omega)) (by omega))
      have HB3 := Lib.hid (HB2a.out.trans (hb3.mono (by omega)))
      have HROWS3 := Lib.hid (drop_br HROWS.out hk hd hk3)
      have hs3 : w2.heap.size + 1 = w3.heap.size := by rw [hz3]; simp
      clear hd hb3 hk3 hz3 HBOX HRX2 HRX2a HB2 HB2a HROWS HDE
      have g1 : w2.heap.size < w3.heap.size := by omega
      have g3 : ¬ w2.heap.size = w.heap.size + 1 := by omega
      have g4 : w.heap.size + 1 < w3.heap.size := by omega
      have g6 : ¬ w.heap.size + 1 = w2.heap.size := by omega
      have b0 := HBOX3.out.cell 0
      have b1 := HBOX3.out.cell 1
      have b2 := HBOX3.out.cell 2
      have b3 := HBOX3.out.cell 3
      have b4 := HBOX3.out.cell 4
      have b5 := HBOX3.out.cell 5
      have fb := HBOX3.out.frozen 2
      have f0 := HRX3.out.frozen 0
      have f1 := HRX3.out.frozen 1
      have f2 := HRX3.out.frozen 2
      have f3 := HRX3.out.frozen 3
      have f4 := HRX3.out.frozen 4
      have f5 := HRX3.out.frozen 5
      have y0 := HRX3.out.cell 0
      have y1 := HRX3.out.cell 1
      have y2 := HRX3.out.cell 2
      have y3 := HRX3.out.cell 3
      have y4 := HRX3.out.cell 4
      have y5 := HRX3.out.cell 5
      go_wp2
      rw [← set6_def]
      have hR4 := HRX3.out.far (p := ⟨w2.heap.size, 2, none⟩) g6 (Value.slice v2.ba (n.branches.length - 1) v2.bc)
      have hB4 := set6_blk hR4 rfl (Value.slice v2.na n.nodes.length v2.nc) (Value.slice v2.sa n.switches.length v2.sc) (Value.slice v2.ba (n.branches.length - 1) v2.bc) (Value.slice v2.ga n.gens.length v2.gc) (Value.slice v2.la n.loads.length v2.lc) (Value.slice v2.ta n.stores.length v2.tc)
      have hrw := (HROWS3.out.setNet HBOX3.out 2 (Value.slice v2.ba (n.branches.length - 1) v2.bc)).keep (w' := set6 (w3.setCell ⟨w2.heap.size, 2, none⟩ (Value.slice v2.ba (n.branches.length - 1) v2.bc)) (w.heap.size + 1) (Value.slice v2.na n.nodes.length v2.nc) (Value.slice v2.sa n.switches.length v2.sc) (Value.slice v2.ba (n.branches.length - 1) v2.bc) (Value.slice v2.ga n.gens.length v2.gc) (Value.slice v2.la n.loads.length v2.lc) (Value.slice v2.ta n.stores.length v2.tc)) (fun g hg _ => set6_heap _ _ _ _ _ _ _ _ g (by omega))
      have hbe := (HB3.out.setCell (p := ⟨w2.heap.size, 2, none⟩) (by simp; omega) (Value.slice v2.ba (n.branches.length - 1) v2.bc)).trans (set6_below _ (w.heap.size + 1) w.heap.size (Value.slice v2.na n.nodes.length v2.nc) (Value.slice v2.sa n.switches.length v2.sc) (Value.slice v2.ba (n.branches.length - 1) v2.bc) (Value.slice v2.ga n.gens.length v2.gc) (Value.slice v2.la n.loads.length v2.lc) (Value.slice v2.ta n.stores.length v2.tc) (by omega))
      generalize set6 (w3.setCell ⟨w2.heap.size, 2, none⟩ (Value.slice v2.ba (n.branches.length - 1) v2.bc)) (w.heap.size + 1) (Value.slice v2.na n.nodes.length v2.nc) (Value.slice v2.sa n.switches.length v2.sc) (Value.slice v2.ba (n.branches.length - 1) v2.bc) (Value.slice v2.ga n.gens.length v2.gc) (Value.slice v2.la n.loads.length v2.lc) (Value.slice v2.ta n.stores.length v2.tc) = W at *
      have z0 := hB4.cell 0
      have z1 := hB4.cell 1
      have z2 := hB4.cell 2
      have z3 := hB4.cell 3
      have z4 := hB4.cell 4
      have z5 := hB4.cell 5
      refine bodyPost_ret (v := .tuple #[.agg #[Value.slice v2.na n.nodes.length v2.nc, Value.slice v2.sa n.switches.length v2.sc, Value.slice v2.ba (n.branches.length - 1) v2.bc, Value.slice v2.ga n.gens.length v2.gc, Value.slice v2.la n.loads.length v2.lc, Value.slice v2.ta n.stores.length v2.tc], I 0]) (by simp [results, go_sem, z0, z1, z2, z3, z4, z5]) rfl ?_
      rw [HX.out]
      refine ⟨v2, ?_, hrw.netIn, hbe⟩
      rw [show dropN n branchB k = { n with branches := n.branches.eraseIdx k } from rfl]
      unfold NetV.val NetV.parts
      simp only [List.length_eraseIdx_of_lt hk]
    rcases hrg with ⟨rfl, hkn⟩ | hrg
    · have hk : k < n.gens.length := by omega
      have HX := Lib.hid (show withoutL n x = (dropN n genB k, 0) from HDR.out _ _ rfl (by decide))
      clear HDR
      unfold genB
      go_wp2_with fail
      refine HCP.out.mono ?_
      rintro e w2 ⟨v2, rfl, hin, hrows, hb2⟩
      have hz2 := hb2.size
      have HRX2 := Lib.hid (HRX1.out.below hb2 HRX1.out.lt)
      have HB2 := Lib.hid (HB1.out.trans (hb2.mono HB1.out.size))
      unfold NetV.val NetV.parts
      clear hin hb2 HCP x0 x1 x2 x3 x4 x5 y0 y1 y2 y3 y4 y5 f0 f1 f2 f3 f4 f5
      have ha : Below w2.heap.size w2 (w2.alloc (Obj.cells #[Value.slice v2.na n.nodes.length v2.nc, Value.slice v2.sa n.switches.length v2.sc, Value.slice v2.ba n.branches.length v2.bc, Value.slice v2.ga n.gens.length v2.gc, Value.slice v2.la n.loads.length v2.lc, Value.slice v2.ta n.stores.length v2.tc] 29)) := (Below.refl _ w2).alloc (Nat.le_refl _) _
      have hrows2 := hrows.keep (w' := w2.alloc (Obj.cells #[Value.slice v2.na n.nodes.length v2.nc, Value.slice v2.sa n.switches.length v2.sc, Value.slice v2.ba n.branches.length v2.bc, Value.slice v2.ga n.gens.length v2.gc, Value.slice v2.la n.loads.length v2.lc, Value.slice v2.ta n.stores.length v2.tc] 29)) (fun g _ hg => ha.block g hg)
      have HP0 := Lib.hid (hrows.r3 (by omega))
      have HDE := Lib.hid (delGen_any v2.ga n.gens.length v2.gc k _ _ w1.heap.size (hrows2.r3 (by omega)) (oneGen _) hk HLE.out.l4 (by simp; omega))
      have HROWS := Lib.hid hrows2
      have HBOX := Lib.hid (Blk.new w2 29 #[Value.slice v2.na n.nodes.length v2.nc, Value.slice v2.sa n.switches.length v2.sc, Value.slice v2.ba n.branches.length v2.bc, Value.slice v2.ga n.gens.length v2.gc, Value.slice v2.la n.loads.length v2.lc, Value.slice v2.ta n.stores.length v2.tc])
      have HRX2a := Lib.hid (HRX2.out.below ha (by have := HRX2.out.lt; omega))
      have HB2a := Lib.hid (HB2.out.trans (ha.mono (by have := HB2.out.size; omega)))
      have hk9 : (k : Int) + 1 ≤ 1000000 := by have := HLE.out.l4; omega
      clear hrows hrows2 ha
      go_wp2_with fail
      refine HDE.out.mono ?_
      rintro e w3 ⟨rfl, hd, hb3, hk3, hz3⟩
      have HBOX3 : Hid (Blk w3 w2.heap.size 29 #[Value.slice v2.na n.nodes.length v2.nc, Value.slice v2.sa n.switches.length v2.sc, Value.slice v2.ba n.branches.length v2.bc, Value.slice v2.ga n.gens.length v2.gc, Value.slice v2.la n.loads.length v2.lc, Value.slice v2.ta n.stores.length v2.tc]) := Lib.hid ((hk3 _ (HP0.out.blk_lt (by omega) (Nat.le_refl _))).trans HBOX.out)
      have HRX3 := Lib.hid (HRX2a.out.below (hb3.mono (by omega)) (by omega))
      have HB3 := Lib.hid (HB2a.out.trans (hb3.mono (by omega)))
      have HROWS3 := Lib.hid (drop_ge HROWS.out hk hd hk3)
      have hs3 : w2.heap.size + 1 = w3.heap.size := by rw [hz3]; simp
      clear hd hb3 hk3 hz3 HBOX HRX2 HRX2a HB2 HB2a HROWS HDE
      have g1 : w2.heap.size < w3.heap.size := by omega
      have g3 : ¬ w2.heap.size = w.heap.size + 1 := by omega
      have g4 : w.heap.size + 1 < w3.heap.size := by omega
      have g6 : ¬ w.heap.size + 1 = w2.heap.size := by omega
      have b0 := HBOX3.out.cell 0
      have b1 := HBOX3.out.cell 1
      have b2 := HBOX3.out.cell 2
      have b3 := HBOX3.out.cell 3
      have b4 := HBOX3.out.cell 4
      have b5 := HBOX3.out.cell 5
      have fb := HBOX3.out.frozen 3
      have f0 := HRX3.out.frozen 0
      have f1 := HRX3.out.frozen 1
      have f2 := HRX3.out.frozen 2
      have f3 := HRX3.out.frozen 3
      have f4 := HRX3.out.frozen 4
      have f5 := HRX3.out.frozen 5
      have y0 := HRX3.out.cell 0
      have y1 := HRX3.out.cell 1
      have y2 := HRX3.out.cell 2
      have y3 := HRX3.out.cell 3
      have y4 := HRX3.out.cell 4
      have y5 := HRX3.out.cell 5
      go_wp2
      rw [← set6_def]
      have hR4 := HRX3.out.far (p := ⟨w2.heap.size, 3, none⟩) g6 (Value.slice v2.ga (n.gens.length - 1) v2.gc)
      have hB4 := set6_blk hR4 rfl (Value.slice v2.na n.nodes.length v2.nc) (Value.slice v2.sa n.switches.length v2.sc) (Value.slice v2.ba n.branches.length v2.bc) (Value.slice v2.ga (n.gens.length - 1) v2.gc) (Value.slice v2.la n.loads.length v2.lc) (Value.slice v2.ta n.stores.length v2.tc)
      have hrw := (HROWS3.out.setNet HBOX3.out 3 (Value.slice v2.ga (n.gens.length - 1) v2.gc)).keep (w' := set6 (w3.setCell ⟨w2.heap.size, 3, none⟩ (Value.slice v2.ga (n.gens.length - 1) v2.gc)) (w.heap.size + 1) (Value.slice v2.na n.nodes.length v2.nc) (Value.slice v2.sa n.switches.length v2.sc) (Value.slice v2.ba n.branches.length v2.bc) (Value.slice v2.ga (n.gens.length - 1) v2.gc) (Value.slice v2.la n.loads.length v2.lc) (Value.slice v2.ta n.stores.length v2.tc)) (fun g hg _ => set6_heap _ _ _ _ _ _ _ _ g (by omega))
      have hbe := (HB3.out.setCell (p := ⟨w2.heap.size, 3, none⟩) (by simp; omega) (Value.slice v2.ga (n.gens.length - 1) v2.gc)).trans (set6_below _ (w.heap.size + 1) w.heap.size (Value.slice v2.na n.nodes.length v2.nc) (Value.slice v2.sa n.switches.length v2.sc) (Value.slice v2.ba n.branches.length v2.bc) (Value.slice v2.ga (n.gens.length - 1) v2.gc) (Value.slice v2.la n.loads.length v2.lc) (Value.slice v2.ta n.stores.length v2.tc) (by omega))
      generalize set6 (w3.setCell ⟨w2.heap.size, 3, none⟩ (Value.slice v2.ga (n.gens.length - 1) v2.gc)) (w.heap.size + 1) (Value.slice v2.na n.nodes.length v2.nc) (Value.slice v2.sa n.switches.length v2.sc) (Value.slice v2.ba n.branches.length v2.bc) (Value.slice v2.ga (n.gens.length - 1) v2.gc) (Value.slice v2.la n.loads.length v2.lc) (Value.slice v2.ta n.stores.length v2.tc) = W at *
      have z0 := hB4.cell 0
      have z1 := hB4.cell 1
      have z2 := hB4.cell 2
      have z3 := hB4.cell 3
      have z4 := hB4.cell 4
      have z5 := hB4.cell 5
      refine bodyPost_ret (v := .tuple #[.agg #[Value.slice v2.na n.nodes.length v2.nc, Value.slice v2.sa n.switches.length v2.sc, Value.slice v2.ba n.branches.length v2.bc, Value.slice v2.ga (n.gens.length - 1) v2.gc, Value.slice v2.la n.loads.length v2.lc, Value.slice v2.ta n.stores.length v2.tc], I 0]) (by simp [results, go_sem, z0, z1, z2, z3, z4, z5]) rfl ?_
      rw [HX.out]
      refine ⟨v2, ?_, hrw.netIn, hbe⟩
      rw [show dropN n genB k = { n with gens := n.gens.eraseIdx k } from rfl]
      unfold NetV.val NetV.parts
      simp only [List.length_eraseIdx_of_lt hk]
    rcases hrg with ⟨rfl, hkn⟩ | hrg
    · have hk : k < n.loads.length := by omega
      have HX := Lib.hid (show withoutL n x = (dropN n loadB k, 0) from HDR.out _ _ rfl (by decide))
      clear HDR
      unfold loadB
      go_wp2_with fail
      refine HCP.out.mono ?_
      rintro e w2 ⟨v2, rfl, hin, hrows, hb2⟩
      have hz2 := hb2.size
      have HRX2 := Lib.hid (HRX1.out.below hb2 HRX1.out.lt)
      have HB2 := Lib.hid (HB1.out.trans (hb2.mono HB1.out.size))
      unfold NetV.val NetV.parts
      clear hin hb2 HCP x0 x1 x2 x3 x4 x5 y0 y1 y2 y3 y4 y5 f0 f1 f2 f3 f4 f5
      have ha : Below w2.heap.size w2 (w2.alloc (Obj.cells #[Value.slice v2.na n.nodes.length v2.nc, Value.slice v2.sa n.switches.length v2.sc, Value.slice v2.ba n.branches.length v2.bc, Value.slice v2.ga n.gens.length v2.gc, Value.slice v2.la n.loads.length v2.lc, Value.slice v2.ta n.stores.length v2.tc] 29)) := (Below.refl _ w2).alloc (Nat.le_refl _) _
      have hrows2 := hrows.keep (w' := w2.alloc (Obj.cells #[Value.slice v2.na n.nodes.length v2.nc, Value.slice v2.sa n.switches.length v2.sc, Value.slice v2.ba n.branches.length v2.bc, Value.slice v2.ga n.gens.length v2.gc, Value.slice v2.la n.loads.length v2.lc, Value.slice v2.ta n.stores.length v2.tc] 29)) (fun g _ hg => ha.block g hg)
      have HP0 := Lib.hid (hrows.r4 (by omega))
      have HDE := Lib.hid (delLoad_any v2.la n.loads.length v2.lc k _ _ w1.heap.size (hrows2.r4 (by omega)) (oneLoad _) hk HLE.out.l5 (by simp; omega))
      have HROWS := Lib.hid hrows2
      have HBOX := Lib.hid (Blk.new w2 29 #[Value.slice v2.na n.nodes.length v2.nc, Value.slice v2.sa n.switches.length v2.sc, Value.slice v2.ba n.branches.length v2.bc, Value.slice v2.ga n.gens.length v2.gc, Value.slice v2.la n.loads.length v2.lc, Value.slice v2.ta n.stores.length v2.tc])
      have HRX2a := Lib.hid (HRX2.out.below ha (by have := HRX2.out.lt; omega))
      have HB2a := Lib.hid (HB2.out.trans (ha.mono (by have := HB2.out.size; omega)))
      have hk9 : (k : Int) + 1 ≤ 1000000 := by have := HLE.out.l5; omega
      clear hrows hrows2 ha
      go_wp2_with fail
      refine HDE.out.mono ?_
      rintro e w3 ⟨rfl, hd, hb3, hk3, hz3⟩
      have HBOX3 : Hid (Blk w3 w2.heap.size 29 #[Value.slice v2.na n.nodes.length v2.nc, Value.slice v2.sa n.switches.length v2.sc, Value.slice v2.ba n.branches.length v2.bc, Value.slice v2.ga n.gens.length v2.gc, Value.slice v2.la n.loads.length v2.lc, Value.slice v2.ta n.stores.length v2.tc]) := Lib.hid ((hk3 _ (HP0.out.blk_lt (by omega) (Nat.le_refl _))).trans HBOX.out)
      have HRX3 := Lib.hid (HRX2a.out.below (hb3.mono (by omega)) (by omega))
      have HB3 := Lib.hid (HB2a.out.trans (hb3.mono (by omega)))
      have HROWS3 := Lib.hid (drop_lo HROWS.out hk hd hk3)
      have hs3 : w2.heap.size + 1 = w3.heap.size := by rw [hz3]; simp
      clear hd hb3 hk3 hz3 HBOX HRX2 HRX2a HB2 HB2a HROWS HDE
      have g1 : w2.heap.size < w3.heap.size := by omega
      have g3 : ¬ w2.heap.size = w.heap.size + 1 := by omega
      have g4 : w.heap.size + 1 < w3.heap.size := by omega
      have g6 : ¬ w.heap.size + 1 = w2.heap.size := by omega
      have b0 := HBOX3.out.cell 0
      have b1 := HBOX3.out.cell 1
      have b2 := HBOX3.out.cell 2
      have b3 := HBOX3.out.cell 3
      have b4 := HBOX3.out.cell 4
      have b5 := HBOX3.out.cell 5
      have fb := HBOX3.out.frozen 4
      have f0 := HRX3.out.frozen 0
      have f1 := HRX3.out.frozen 1
      have f2 := HRX3.out.frozen 2
      have f3 := HRX3.out.frozen 3
      have f4 := HRX3.out.frozen 4
      have f5 := HRX3.out.frozen 5
      have y0 := HRX3.out.cell 0
      have y1 := HRX3.out.cell 1
      have y2 := HRX3.out.cell 2
      have y3 := HRX3.out.cell 3
      have y4 := HRX3.out.cell 4
      have y5 := HRX3.out.cell 5
      go_wp2
      rw [← set6_def]
      have hR4 := HRX3.out.far (p := ⟨w2.heap.size, 4, none⟩) g6 (Value.slice v2.la (n.loads.length - 1) v2.lc)
      have hB4 := set6_blk hR4 rfl (Value.slice v2.na n.nodes.length v2.nc) (Value.slice v2.sa n.switches.length v2.sc) (Value.slice v2.ba n.branches.length v2.bc) (Value.slice v2.ga n.gens.length v2.gc) (Value.slice v2.la (n.loads.length - 1) v2.lc) (Value.slice v2.ta n.stores.length v2.tc)
      have hrw := (HROWS3.out.setNet HBOX3.out 4 (Value.slice v2.la (n.loads.length - 1) v2.lc)).keep (w' := set6 (w3.setCell ⟨w2.heap.size, 4, none⟩ (Value.slice v2.la (n.loads.length - 1) v2.lc)) (w.heap.size + 1) (Value.slice v2.na n.nodes.length v2.nc) (Value.slice v2.sa n.switches.length v2.sc) (Value.slice v2.ba n.branches.length v2.bc) (Value.slice v2.ga n.gens.length v2.gc) (Value.slice v2.la (n.loads.length - 1) v2.lc) (Value.slice v2.ta n.stores.length v2.tc)) (fun g hg _ => set6_heap _ _ _ _ _ _ _ _ g (by omega))
      have hbe := (HB3.out.setCell (p := ⟨w2.heap.size, 4, none⟩) (by simp; omega) (Value.slice v2.la (n.loads.length - 1) v2.lc)).trans (set6_below _ (w.heap.size + 1) w.heap.size (Value.slice v2.na n.nodes.length v2.nc) (Value.slice v2.sa n.switches.length v2.sc) (Value.slice v2.ba n.branches.length v2.bc) (Value.slice v2.ga n.gens.length v2.gc) (Value.slice v2.la (n.loads.length - 1) v2.lc) (Value.slice v2.ta n.stores.length v2.tc) (by omega))
      generalize set6 (w3.setCell ⟨w2.heap.size, 4, none⟩ (Value.slice v2.la (n.loads.length - 1) v2.lc)) (w.heap.size + 1) (Value.slice v2.na n.nodes.length v2.nc) (Value.slice v2.sa n.switches.length v2.sc) (Value.slice v2.ba n.branches.length v2.bc) (Value.slice v2.ga n.gens.length v2.gc) (Value.slice v2.la (n.loads.length - 1) v2.lc) (Value.slice v2.ta n.stores.length v2.tc) = W at *
      have z0 := hB4.cell 0
      have z1 := hB4.cell 1
      have z2 := hB4.cell 2
      have z3 := hB4.cell 3
      have z4 := hB4.cell 4
      have z5 := hB4.cell 5
      refine bodyPost_ret (v := .tuple #[.agg #[Value.slice v2.na n.nodes.length v2.nc, Value.slice v2.sa n.switches.length v2.sc, Value.slice v2.ba n.branches.length v2.bc, Value.slice v2.ga n.gens.length v2.gc, Value.slice v2.la (n.loads.length - 1) v2.lc, Value.slice v2.ta n.stores.length v2.tc], I 0]) (by simp [results, go_sem, z0, z1, z2, z3, z4, z5]) rfl ?_
      rw [HX.out]
      refine ⟨v2, ?_, hrw.netIn, hbe⟩
      rw [show dropN n loadB k = { n with loads := n.loads.eraseIdx k } from rfl]
      unfold NetV.val NetV.parts
      simp only [List.length_eraseIdx_of_lt hk]
    obtain ⟨rfl, hkn⟩ := hrg
    have hk : k < n.stores.length := by omega
    have HX := Lib.hid (show withoutL n x = (dropN n storeB k, 0) from HDR.out _ _ rfl (by decide))
    clear HDR
    skip
    go_wp2_with fail
    refine HCP.out.mono ?_
    rintro e w2 ⟨v2, rfl, hin, hrows, hb2⟩
    have hz2 := hb2.size
    have HRX2 := Lib.hid (HRX1.out.below hb2 HRX1.out.lt)
    have HB2 := Lib.hid (HB1.out.trans (hb2.mono HB1.out.size))
    unfold NetV.val NetV.parts
    clear hin hb2 HCP x0 x1 x2 x3 x4 x5 y0 y1 y2 y3 y4 y5 f0 f1 f2 f3 f4 f5
    have ha : Below w2.heap.size w2 (w2.alloc (Obj.cells #[Value.slice v2.na n.nodes.length v2.nc, Value.slice v2.sa n.switches.length v2.sc, Value.slice v2.ba n.branches.length v2.bc, Value.slice v2.ga n.gens.length v2.gc, Value.slice v2.la n.loads.length v2.lc, Value.slice v2.ta n.stores.length v2.tc] 29)) := (Below.refl _ w2).alloc (Nat.le_refl _) _
    have hrows2 := hrows.keep (w' := w2.alloc (Obj.cells #[Value.slice v2.na n.nodes.length v2.nc, Value.slice v2.sa n.switches.length v2.sc, Value.slice v2.ba n.branches.length v2.bc, Value.slice v2.ga n.gens.length v2.gc, Value.slice v2.la n.loads.length v2.lc, Value.slice v2.ta n.stores.length v2.tc] 29)) (fun g _ hg => ha.block g hg)
    have HP0 := Lib.hid (hrows.r5 (by omega))
    have HDE := Lib.hid (delStore_any v2.ta n.stores.length v2.tc k _ _ w1.heap.size (hrows2.r5 (by omega)) (oneStore _) hk HLE.out.l6 (by simp; omega))
    have HROWS := Lib.hid hrows2
    have HBOX := Lib.hid (Blk.new w2 29 #[Value.slice v2.na n.nodes.length v2.nc, Value.slice v2.sa n.switches.length v2.sc, Value.slice v2.ba n.branches.length v2.bc, Value.slice v2.ga n.gens.length v2.gc, Value.slice v2.la n.loads.length v2.lc, Value.slice v2.ta n.stores.length v2.tc])
    have HRX2a := Lib.hid (HRX2.out.below ha (by have := HRX2.out.lt; omega))
    have HB2a := Lib.hid (HB2.out.trans (ha.mono (by have := HB2.out.size; omega)))
    have hk9 : (k : Int) + 1 ≤ 1000000 := by have := HLE.out.l6; omega
    clear hrows hrows2 ha
    go_wp2_with fail
    refine HDE.out.mono ?_
    rintro e w3 ⟨rfl, hd, hb3, hk3, hz3⟩
    have HBOX3 : Hid (Blk w3 w2.heap.size 29 #[Value.slice v2.na n.nodes.length v2.nc, Value.slice v2.sa n.switches.length v2.sc, Value.slice v2.ba n.branches.length v2.bc, Value.slice v2.ga n.gens.length v2.gc, Value.slice v2.la n.loads.length v2.lc, Value.slice v2.ta n.stores.length v2.tc]) := Lib.hid ((hk3 _ (HP0.out.blk_lt (by omega) (Nat.le_refl _))).trans HBOX.out)
    have HRX3 := Lib.hid (HRX2a.out.below (hb3.mono (by omega)) (by omega))
    have HB3 := Lib.hid (HB2a.out.trans (hb3.mono (by omega)))
    have HROWS3 := Lib.hid (drop_st HROWS.out hk hd hk3)
    have hs3 : w2.heap.size + 1 = w3.heap.size := by rw [hz3]; simp
    clear hd hb3 hk3 hz3 HBOX HRX2 HRX2a HB2 HB2a HROWS HDE
    have g1 : w2.heap.size < w3.heap.size := by omega
    have g3 : ¬ w2.heap.size = w.heap.size + 1 := by omega
    have g4 : w.heap.size + 1 < w3.heap.size := by omega
    have g6 : ¬ w.heap.size + 1 = w2.heap.size := by omega
    have b0 := HBOX3.out.cell 0
    have b1 := HBOX3.out.cell 1
    have b2 := HBOX3.out.cell 2
    have b3 := HBOX3.out.cell 3
    have b4 := HBOX3.out.cell 4
    have b5 := HBOX3.out.cell 5
    have fb := HBOX3.out.frozen 5
    have f0 := HRX3.out.frozen 0
    have f1 := HRX3.out.frozen 1
    have f2 := HRX3.out.frozen 2
    have f3 := HRX3.out.frozen 3
    have f4 := HRX3.out.frozen 4
    have f5 := HRX3.out.frozen 5
    have y0 := HRX3.out.cell 0
    have y1 := HRX3.out.cell 1
    have y2 := HRX3.out.cell 2
    have y3 := HRX3.out.cell 3
    have y4 := HRX3.out.cell 4
    have y5 := HRX3.out.cell 5
    go_wp2
    rw [← set6_def]
    have hR4 := HRX3.out.far (p := ⟨w2.heap.size, 5, none⟩) g6 (Value.slice v2.ta (n.stores.length - 1) v2.tc)
    have hB4 := set6_blk hR4 rfl (Value.slice v2.na n.nodes.length v2.nc) (Value.slice v2.sa n.switches.length v2.sc) (Value.slice v2.ba n.branches.length v2.bc) (Value.slice v2.ga n.gens.length v2.gc) (Value.slice v2.la n.loads.length v2.lc) (Value.slice v2.ta (n.stores.length - 1) v2.tc)
    have hrw := (HROWS3.out.setNet HBOX3.out 5 (Value.slice v2.ta (n.stores.length - 1) v2.tc)).keep (w' := set6 (w3.setCell ⟨w2.heap.size, 5, none⟩ (Value.slice v2.ta (n.stores.length - 1) v2.tc)) (w.heap.size + 1) (Value.slice v2.na n.nodes.length v2.nc) (Value.slice v2.sa n.switches.length v2.sc) (Value.slice v2.ba n.branches.length v2.bc) (Value.slice v2.ga n.gens.length v2.gc) (Value.slice v2.la n.loads.length v2.lc) (Value.slice v2.ta (n.stores.length - 1) v2.tc)) (fun g hg _ => set6_heap _ _ _ _ _ _ _ _ g (by omega))
    have hbe := (HB3.out.setCell (p := ⟨w2.heap.size, 5, none⟩) (by simp; omega) (Value.slice v2.ta (n.stores.length - 1) v2.tc)).trans (set6_below _ (w.heap.size + 1) w.heap.size (Value.slice v2.na n.nodes.length v2.nc) (Value.slice v2.sa n.switches.length v2.sc) (Value.slice v2.ba n.branches.length v2.bc) (Value.slice v2.ga n.gens.length v2.gc) (Value.slice v2.la n.loads.length v2.lc) (Value.slice v2.ta (n.stores.length - 1) v2.tc) (by omega))
    generalize set6 (w3.setCell ⟨w2.heap.size, 5, none⟩ (Value.slice v2.ta (n.stores.length - 1) v2.tc)) (w.heap.size + 1) (Value.slice v2.na n.nodes.length v2.nc) (Value.slice v2.sa n.switches.length v2.sc) (Value.slice v2.ba n.branches.length v2.bc) (Value.slice v2.ga n.gens.length v2.gc) (Value.slice v2.la n.loads.length v2.lc) (Value.slice v2.ta (n.stores.length - 1) v2.tc) = W at *
    have z0 := hB4.cell 0
    have z1 := hB4.cell 1
    have z2 := hB4.cell 2
    have z3 := hB4.cell 3
    have z4 := hB4.cell 4
    have z5 := hB4.cell 5
    refine bodyPost_ret (v := .tuple #[.agg #[Value.slice v2.na n.nodes.length v2.nc, Value.slice v2.sa n.switches.length v2.sc, Value.slice v2.ba n.branches.length v2.bc, Value.slice v2.ga n.gens.length v2.gc, Value.slice v2.la n.loads.length v2.lc, Value.slice v2.ta (n.stores.length - 1) v2.tc], I 0]) (by simp [results, go_sem, z0, z1, z2, z3, z4, z5]) rfl ?_
    rw [HX.out]
    refine ⟨v2, ?_, hrw.netIn, hbe⟩
    rw [show dropN n storeB k = { n with stores := n.stores.eraseIdx k } from rfl]
    unfold NetV.val NetV.parts
    simp only [List.length_eraseIdx_of_lt hk]
  · have t1 : (er == 0) = false := beq_eq_false_iff_ne.2 h0
    have t2 : (er != 0) = true := by rw [bne_iff_ne]; exact h0
    have HX := Lib.hid (show withoutL n x = (noNet, er) by rw [HD.out, if_neg h0])
    clear h0 HDR
    go_wp2
    have hB := set6_blk HRX1.out rfl (.slice none 0 0) (.slice none 0 0) (.slice none 0 0) (.slice none 0 0) (.slice none 0 0) (.slice none 0 0)
    rw [← set6_def]
    have HBE := Lib.hid (HB1.out.trans (set6_below w1 (w.heap.size + 1) w.heap.size (.slice none 0 0) (.slice none 0 0) (.slice none 0 0) (.slice none 0 0) (.slice none 0 0) (.slice none 0 0) (by omega)))
    generalize set6 w1 (w.heap.size + 1) (.slice none 0 0) (.slice none 0 0) (.slice none 0 0) (.slice none 0 0) (.slice none 0 0) (.slice none 0 0) = W at *
    have z0 := hB.cell 0
    have z1 := hB.cell 1
    have z2 := hB.cell 2
    have z3 := hB.cell 3
    have z4 := hB.cell 4
    have z5 := hB.cell 5
    refine bodyPost_ret (v := .tuple #[.agg nils, I er]) (by simp [results, go_sem, z0, z1, z2, z3, z4, z5]) rfl ?_
    rw [HX.out]
    exact ⟨⟨none, 0, none, 0, none, 0, none, 0, none, 0, none, 0⟩, rfl, ⟨Reads.nil, Reads.nil, Reads.nil, Reads.nil, Reads.nil, Reads.nil⟩, HBE.out⟩
end Go.Proofs.YtglbelmljdgaoaaGreatDoor
namespace Go.Proofs.YtglbelmljdgaoaaGreatDoor
open Go.RowKit

def nodeL (n : NetD) (x : ByteArray) : Int × Int := if checkN n = 0 then (if Lib.idxOfS n.nodes x < 0 then (0, 6) else (Lib.idxOfS n.nodes x, 0)) else (0, checkN n)
set_option maxRecDepth 100000 in
set_option maxHeartbeats 1000000 in
theorem Node_any (n : NetD) (v : NetV) (x : ByteArray) (w : World) (hN : Net w n v) : Calls Tryz.prog 16 #[v.val n, .string x] w fun e w' => e = .returned (.tuple #[I (nodeL n x).1, I (nodeL n x).2]) ∧ Below w.heap.size w w' := by
  have hb0 : Below w.heap.size w (w.alloc (Obj.cells (v.parts n) 29)) := (Below.refl _ w).alloc (Nat.le_refl _) _
  have HC := Lib.hid (netCheck_any n v _ (hN.below hb0))
  have HN := Lib.hid hN
  have HBX := Lib.hid (Blk.new w 29 (v.parts n))
  have HD := Lib.hid (show nodeL n x = if checkN n = 0 then (if Lib.idxOfS n.nodes x < 0 then (0, 6) else (Lib.idxOfS n.nodes x, 0)) else (0, checkN n) from rfl)
  have HLE := Lib.hid (@small_le n)
  clear hb0 hN
  unfold NetV.val NetV.parts at *
  obtain ⟨er, her⟩ : ∃ er, checkN n = er := ⟨_, rfl⟩
  rw [her] at HC HD HLE
  clear her
  go_enter Tryz.func16, Tryz.ntmps16
  go_wp2_with fail
  refine HC.out.mono ?_
  rintro e w1 ⟨rfl, hb1⟩
  have HB1 := Lib.hid (box_below hb1)
  have HBX1 := Lib.hid (HBX.out.below hb1 (by simp))
  clear hb1 HC HBX
  by_cases h0 : er = 0
  · subst h0
    have HR := Lib.hid (HN.out.below HB1.out).net.nodes
    have hlt : w.heap.size < w1.heap.size := HBX1.out.lt
    have x0 := HBX1.out.cell 0
    have HL := Lib.hid (HLE.out rfl)
    go_wp2_with fail
    refine (idxS_any n.nodes _ v.na v.nc x _ _ rfl HR.out HL.out.l1).mono ?_
    rintro e w2 ⟨rfl, rfl⟩
    obtain ⟨i, hi⟩ : ∃ i, Lib.idxOfS n.nodes x = i := ⟨_, rfl⟩
    rw [hi] at HD ⊢
    clear hi
    by_cases hi : i < 0
    · have HX := Lib.hid (show nodeL n x = (0, 6) by rw [HD.out]; simp [hi])
      go_wp2
      go_ret2
      rw [HX.out]
      exact ⟨rfl, HB1.out⟩
    · have HX := Lib.hid (show nodeL n x = (i, 0) by rw [HD.out]; simp [hi])
      go_wp2
      go_ret2
      rw [HX.out]
      exact ⟨rfl, HB1.out⟩
  · have t1 : (er == 0) = false := beq_eq_false_iff_ne.2 h0
    have t2 : (er != 0) = true := by rw [bne_iff_ne]; exact h0
    have HX := Lib.hid (show nodeL n x = (0, er) by rw [HD.out, if_neg h0])
    clear h0
    go_wp2
    go_ret2
    rw [HX.out]
    exact ⟨rfl, HB1.out⟩

def netAA : NetD := ⟨[byA, byA], [], [], [], [], []⟩
theorem netAA_in (w : World) (b : Nat) (h : Reads w w.heap.size 1 (some ⟨b, 0, none⟩) 2 [S byA, S byA]) : Net w netAA ⟨some ⟨b, 0, none⟩, 2, none, 0, none, 0, none, 0, none, 0, none, 0⟩ :=
  ⟨⟨h, Reads.nil, Reads.nil, Reads.nil, Reads.nil, Reads.nil⟩, ⟨by decide, by decide, by decide, by decide, by decide, by decide⟩, by decide, by decide, by decide, by decide, by decide, by decide⟩
theorem check_AA : checkN netAA = 7 := by kernel_rfl
theorem node_pair : nodeL (pairN false) ⟨#[67]⟩ = (2, 0) := by kernel_rfl
theorem find_pair : FindL (pairN false) ⟨#[76, 50]⟩ = (⟨#[98, 114, 97, 110, 99, 104]⟩, 1, 0) := by kernel_rfl
def pairW : NetD := dropN (pairN false) branchB 0
theorem without_pair : withoutL (pairN false) ⟨#[76, 49]⟩ = (pairW, 0) := by kernel_rfl
theorem setL_pair : SetL (pairN false) ⟨#[83]⟩ true = (pairN true, 0) := by kernel_rfl
def zeroBr : BranchD := ⟨⟨#[]⟩, ⟨#[]⟩, ⟨#[]⟩, 0, 0, 0, 0, 0, 0⟩
theorem zeroBr_e : branchE zeroBr = 4 := by kernel_rfl

set_option maxRecDepth 100000 in
set_option maxHeartbeats 8000000 in
theorem netmodelFact_any (w : World) : Calls Tryz.prog 5 #[] w fun e w' => e = .returned (.bool true) ∧ Below w.heap.size w w' := by
  go_enter Tryz.func5, Tryz.ntmps5
  go_wp2_with fail
  have HP := Lib.hid (show Calls Tryz.prog 15 #[] w (fun e w' => ∃ v : NetV, e = .returned (.agg #[.slice v.na 3 v.nc, .slice v.sa 1 v.sc, .slice v.ba 2 v.bc, .slice v.ga 1 v.gc, .slice v.la 1 v.lc, .slice v.ta 0 v.tc]) ∧ NetIn w' (pairN false) v ∧ Below w.heap.size w w') from (pair_any w).mono fun _ _ ⟨v, h1, h2, _, h4⟩ => ⟨v, h1, h2, h4⟩)
  refine HP.out.mono ?_
  rintro e w1 ⟨v1, rfl, hin, hb⟩
  clear HP
  have hz := below_newF w1 (Obj.cells #[.slice v1.na 3 v1.nc, .slice v1.sa 1 v1.sc, .slice v1.ba 2 v1.bc, .slice v1.ga 1 v1.gc, .slice v1.la 1 v1.lc, .slice v1.ta 0 v1.tc] 29)
  have HG := Lib.hid (Blk.new w1 29 #[.slice v1.na 3 v1.nc, .slice v1.sa 1 v1.sc, .slice v1.ba 2 v1.bc, .slice v1.ga 1 v1.gc, .slice v1.la 1 v1.lc, .slice v1.ta 0 v1.tc])
  have HB := Lib.hid (hb.trans (hz.mono hb.size))
  have HIN := Lib.hid (hin.below hz)
  clear hin hb hz
  go_upto_region 2 with (fail)
  generalize w1.heap.size = g1 at *
  generalize w1.alloc (Obj.cells #[.slice v1.na 3 v1.nc, .slice v1.sa 1 v1.sc, .slice v1.ba 2 v1.bc, .slice v1.ga 1 v1.gc, .slice v1.la 1 v1.lc, .slice v1.ta 0 v1.tc] 29) = W1 at *
  have c0 := HG.out.cell 0
  have c1 := HG.out.cell 1
  have c2 := HG.out.cell 2
  have c3 := HG.out.cell 3
  have c4 := HG.out.cell 4
  have c5 := HG.out.cell 5
  have HP := Lib.hid (show Calls Tryz.prog 16 #[.agg #[.slice v1.na 3 v1.nc, .slice v1.sa 1 v1.sc, .slice v1.ba 2 v1.bc, .slice v1.ga 1 v1.gc, .slice v1.la 1 v1.lc, .slice v1.ta 0 v1.tc], .string ⟨#[67]⟩] W1 (fun e w' => e = .returned (.tuple #[I 2, I 0]) ∧ Below W1.heap.size W1 w') by have := Node_any (pairN false) v1 ⟨#[67]⟩ W1 (pair_net HIN.out); rw [node_pair] at this; exact this)
  go_wp2_with fail
  refine HP.out.mono ?_
  rintro e W2 ⟨rfl, hb⟩
  clear HP
  clear c0 c1 c2 c3 c4 c5
  replace HB := Lib.hid (HB.out.trans (hb.mono HB.out.size))
  replace HIN := Lib.hid (HIN.out.below hb)
  replace HG := Lib.hid (HG.out.blkF hb)
  clear hb
  have c0 := HG.out.cell 0
  have c1 := HG.out.cell 1
  have c2 := HG.out.cell 2
  have c3 := HG.out.cell 3
  have c4 := HG.out.cell 4
  have c5 := HG.out.cell 5
  have HP := Lib.hid (show Calls Tryz.prog 9 #[.agg #[.slice v1.na 3 v1.nc, .slice v1.sa 1 v1.sc, .slice v1.ba 2 v1.bc, .slice v1.ga 1 v1.gc, .slice v1.la 1 v1.lc, .slice v1.ta 0 v1.tc], .string ⟨#[76, 50]⟩] W2 (fun e w' => e = .returned (.tuple #[.string ⟨#[98, 114, 97, 110, 99, 104]⟩, I 1, I 0]) ∧ Below W2.heap.size W2 w') by have := Find_any (pairN false) v1 ⟨#[76, 50]⟩ W2 (pair_net HIN.out); rw [find_pair] at this; exact this)
  go_wp2_with fail
  refine HP.out.mono ?_
  rintro e W3 ⟨rfl, hb⟩
  clear HP
  clear c0 c1 c2 c3 c4 c5
  replace HB := Lib.hid (HB.out.trans (hb.mono HB.out.size))
  replace HIN := Lib.hid (HIN.out.below hb)
  replace HG := Lib.hid (HG.out.blkF hb)
  clear hb
  have c0 := HG.out.cell 0
  have c1 := HG.out.cell 1
  have c2 := HG.out.cell 2
  have c3 := HG.out.cell 3
  have c4 := HG.out.cell 4
  have c5 := HG.out.cell 5
  have HP := Lib.hid (show Calls Tryz.prog 7 #[.agg #[.slice v1.na 3 v1.nc, .slice v1.sa 1 v1.sc, .slice v1.ba 2 v1.bc, .slice v1.ga 1 v1.gc, .slice v1.la 1 v1.lc, .slice v1.ta 0 v1.tc], .string ⟨#[76, 49]⟩] W3 (fun e w' => ∃ v : NetV, e = .returned (.tuple #[.agg #[.slice v.na 3 v.nc, .slice v.sa 1 v.sc, .slice v.ba 1 v.bc, .slice v.ga 1 v.gc, .slice v.la 1 v.lc, .slice v.ta 0 v.tc], I 0]) ∧ NetIn w' pairW v ∧ Below W3.heap.size W3 w') by have := Without_any (pairN false) v1 ⟨#[76, 49]⟩ W3 (pair_net HIN.out); rw [without_pair] at this; exact this)
  go_wp2_with fail
  refine HP.out.mono ?_
  rintro e w4 ⟨v2, rfl, _, hb⟩
  clear HP
  clear c0 c1 c2 c3 c4 c5
  have hz := below_newF w4 (Obj.cells #[.slice v2.na 3 v2.nc, .slice v2.sa 1 v2.sc, .slice v2.ba 1 v2.bc, .slice v2.ga 1 v2.gc, .slice v2.la 1 v2.lc, .slice v2.ta 0 v2.tc] 29)
  have hbz := hb.trans (hz.mono hb.size)
  replace HB := Lib.hid (HB.out.trans (hbz.mono HB.out.size))
  replace HIN := Lib.hid (HIN.out.below hbz)
  replace HG := Lib.hid (HG.out.blkF hbz)
  have HG2 := Lib.hid (Blk.new w4 29 #[.slice v2.na 3 v2.nc, .slice v2.sa 1 v2.sc, .slice v2.ba 1 v2.bc, .slice v2.ga 1 v2.gc, .slice v2.la 1 v2.lc, .slice v2.ta 0 v2.tc])
  clear hb hz hbz
  go_upto_region 5 with (fail)
  generalize w4.heap.size = g2 at *
  generalize w4.alloc (Obj.cells #[.slice v2.na 3 v2.nc, .slice v2.sa 1 v2.sc, .slice v2.ba 1 v2.bc, .slice v2.ga 1 v2.gc, .slice v2.la 1 v2.lc, .slice v2.ta 0 v2.tc] 29) = W4 at *
  have c0 := HG.out.cell 0
  have c1 := HG.out.cell 1
  have c2 := HG.out.cell 2
  have c3 := HG.out.cell 3
  have c4 := HG.out.cell 4
  have c5 := HG.out.cell 5
  have HP := Lib.hid (show Calls Tryz.prog 10 #[.agg #[.slice v1.na 3 v1.nc, .slice v1.sa 1 v1.sc, .slice v1.ba 2 v1.bc, .slice v1.ga 1 v1.gc, .slice v1.la 1 v1.lc, .slice v1.ta 0 v1.tc], .string ⟨#[83]⟩, .bool true] W4 (fun e w' => ∃ v : NetV, e = .returned (.tuple #[.agg #[.slice v.na 3 v.nc, .slice v.sa 1 v.sc, .slice v.ba 2 v.bc, .slice v.ga 1 v.gc, .slice v.la 1 v.lc, .slice v.ta 0 v.tc], I 0]) ∧ NetIn w' (pairN true) v ∧ Below W4.heap.size W4 w') by have := Set_any (pairN false) v1 ⟨#[83]⟩ true W4 (pair_net HIN.out); rw [setL_pair] at this; exact this.mono fun _ _ ⟨v, h1, h2, h3, _⟩ => ⟨v, h1, h2, h3⟩)
  go_wp2_with fail
  refine HP.out.mono ?_
  rintro e w5 ⟨v3, rfl, hin, hb⟩
  clear HP
  clear c0 c1 c2 c3 c4 c5
  have hz := below_newF w5 (Obj.cells #[.slice v3.na 3 v3.nc, .slice v3.sa 1 v3.sc, .slice v3.ba 2 v3.bc, .slice v3.ga 1 v3.gc, .slice v3.la 1 v3.lc, .slice v3.ta 0 v3.tc] 29)
  have hbz := hb.trans (hz.mono hb.size)
  replace HB := Lib.hid (HB.out.trans (hbz.mono HB.out.size))
  replace HIN := Lib.hid (HIN.out.below hbz)
  replace HG := Lib.hid (HG.out.blkF hbz)
  replace HG2 := Lib.hid (HG2.out.blkF hbz)
  have HG3 := Lib.hid (Blk.new w5 29 #[.slice v3.na 3 v3.nc, .slice v3.sa 1 v3.sc, .slice v3.ba 2 v3.bc, .slice v3.ga 1 v3.gc, .slice v3.la 1 v3.lc, .slice v3.ta 0 v3.tc])
  have HIN3 := Lib.hid (hin.below hz)
  clear hin hb hz hbz
  go_upto_region 6 with (fail)
  generalize w5.heap.size = g3 at *
  generalize w5.alloc (Obj.cells #[.slice v3.na 3 v3.nc, .slice v3.sa 1 v3.sc, .slice v3.ba 2 v3.bc, .slice v3.ga 1 v3.gc, .slice v3.la 1 v3.lc, .slice v3.ta 0 v3.tc] 29) = W5 at *
  have c0 := HG.out.cell 0
  have c1 := HG.out.cell 1
  have c2 := HG.out.cell 2
  have c3 := HG.out.cell 3
  have c4 := HG.out.cell 4
  have c5 := HG.out.cell 5
  have HP := Lib.hid (show Calls Tryz.prog 13 #[.agg #[.slice v1.na 3 v1.nc, .slice v1.sa 1 v1.sc, .slice v1.ba 2 v1.bc, .slice v1.ga 1 v1.gc, .slice v1.la 1 v1.lc, .slice v1.ta 0 v1.tc]] W5 (fun e w' => ∃ v : NetV, e = .returned (.agg #[.slice v.na 3 v.nc, .slice v.sa 1 v.sc, .slice v.ba 2 v.bc, .slice v.ga 1 v.gc, .slice v.la 1 v.lc, .slice v.ta 0 v.tc]) ∧ NetIn w' (pairN false) v ∧ Below W5.heap.size W5 w') from (copy_all (pairN false) v1 W5 HIN.out (pair_le false).byt).mono fun _ _ ⟨v, h1, h2, _, h4⟩ => ⟨v, h1, h2, h4⟩)
  go_wp2_with fail
  refine HP.out.mono ?_
  rintro e w6 ⟨v4, rfl, hin, hb⟩
  clear HP
  clear c0 c1 c2 c3 c4 c5
  have hz := below_newF w6 (Obj.cells #[.slice v4.na 3 v4.nc, .slice v4.sa 1 v4.sc, .slice v4.ba 2 v4.bc, .slice v4.ga 1 v4.gc, .slice v4.la 1 v4.lc, .slice v4.ta 0 v4.tc] 29)
  have hbz := hb.trans (hz.mono hb.size)
  replace HB := Lib.hid (HB.out.trans (hbz.mono HB.out.size))
  replace HIN := Lib.hid (HIN.out.below hbz)
  replace HG := Lib.hid (HG.out.blkF hbz)
  replace HG2 := Lib.hid (HG2.out.blkF hbz)
  replace HG3 := Lib.hid (HG3.out.blkF hbz)
  replace HIN3 := Lib.hid (HIN3.out.below hbz)
  have HG4 := Lib.hid (Blk.new w6 29 #[.slice v4.na 3 v4.nc, .slice v4.sa 1 v4.sc, .slice v4.ba 2 v4.bc, .slice v4.ga 1 v4.gc, .slice v4.la 1 v4.lc, .slice v4.ta 0 v4.tc])
  have HIN4 := Lib.hid (hin.below hz)
  clear hin hb hz hbz
  go_upto_region 7 with (fail)
  generalize w6.heap.size = g4 at *
  generalize w6.alloc (Obj.cells #[.slice v4.na 3 v4.nc, .slice v4.sa 1 v4.sc, .slice v4.ba 2 v4.bc, .slice v4.ga 1 v4.gc, .slice v4.la 1 v4.lc, .slice v4.ta 0 v4.tc] 29) = W6 at *
  have hz := below_newF W6 (Obj.cells #[I 0, I 0, I 0, I 0] 31)
  have HP := Lib.hid (fine_ok 4 (some ⟨W6.heap.size, 0, none⟩) 4 (W6.alloc (Obj.cells #[I 0, I 0, I 0, I 0] 31)) _ (reads_many (Blk.new W6 31 #[I 0, I 0, I 0, I 0]) rfl rfl) (by decide))
  replace HB := Lib.hid (HB.out.trans (hz.mono HB.out.size))
  replace HIN := Lib.hid (HIN.out.below hz)
  replace HG := Lib.hid (HG.out.blkF hz)
  replace HG2 := Lib.hid (HG2.out.blkF hz)
  replace HG3 := Lib.hid (HG3.out.blkF hz)
  replace HIN3 := Lib.hid (HIN3.out.below hz)
  replace HG4 := Lib.hid (HG4.out.blkF hz)
  replace HIN4 := Lib.hid (HIN4.out.below hz)
  clear hz
  go_wp2_with fail
  refine HP.out.mono ?_
  rintro e w7 ⟨rfl, hw⟩
  rw [← hw]
  clear hw w7 HP
  generalize W6.alloc (Obj.cells #[I 0, I 0, I 0, I 0] 31) = W7 at *
  obtain ⟨sb, so, hsa, _, hsx⟩ := reads_by (f := SwitchD.cells) (sz := 5) (fun _ => rfl) (by decide) HIN3.out.switches (show 0 < (pairN true).switches.length by decide)
  have hs2 : W7.cell? ⟨sb, so + 4, none⟩ = some (.bool true) := hsx 4 _ rfl
  have k1 : W7.cell? ⟨g3, 1, none⟩ = some (.slice (some ⟨sb, so, none⟩) 1 v3.sc) := by rw [← hsa]; exact HG3.out.cell 1
  have k2 := HG2.out.cell 2
  have k4 := HG4.out.cell 0
  have c0 := HG.out.cell 0
  have c1 := HG.out.cell 1
  have c2 := HG.out.cell 2
  have c3 := HG.out.cell 3
  have c4 := HG.out.cell 4
  have c5 := HG.out.cell 5
  clear hsx hsa
  have HP := Lib.hid (show Calls Tryz.prog 17 #[.slice v4.na 3 v4.nc, .slice v1.na 3 v1.nc] W7 (fun e w' => e = .returned (.bool true) ∧ ∃ q, w' = W7.drewN q) by have := equalS_any (pairN false).nodes (pairN false).nodes 3 3 v4.na v1.na v4.nc v1.nc W7 _ _ HIN4.out.nodes HIN.out.nodes (by decide) (by decide); rw [decide_eq_true rfl] at this; exact this)
  go_wp2_with fail
  refine HP.out.mono ?_
  rintro e w8 ⟨rfl, q, rfl⟩
  clear HP hs2 k1 k2 k4
  clear c0 c1 c2 c3 c4 c5
  have hb := below_drewF W7 q
  clear HG2 HG3 HG4 HIN3 HIN4
  replace HB := Lib.hid (HB.out.trans (hb.mono HB.out.size))
  replace HIN := Lib.hid (HIN.out.below hb)
  replace HG := Lib.hid (HG.out.blkF hb)
  clear hb
  generalize W7.drewN q = W8 at *
  have c0 := HG.out.cell 0
  have c1 := HG.out.cell 1
  have c2 := HG.out.cell 2
  have c3 := HG.out.cell 3
  have c4 := HG.out.cell 4
  have c5 := HG.out.cell 5
  have HP := Lib.hid (show Calls Tryz.prog 8 #[.agg #[.slice v1.na 3 v1.nc, .slice v1.sa 1 v1.sc, .slice v1.ba 2 v1.bc, .slice v1.ga 1 v1.gc, .slice v1.la 1 v1.lc, .slice v1.ta 0 v1.tc]] W8 (fun e w' => e = .returned (I 0) ∧ Below W8.heap.size W8 w') by have := netCheck_any (pairN false) v1 W8 (pair_net HIN.out); rw [pair_check] at this; exact this)
  go_wp2_with fail
  refine HP.out.mono ?_
  rintro e W9 ⟨rfl, hb⟩
  clear HP HIN HG
  clear c0 c1 c2 c3 c4 c5
  replace HB := Lib.hid (HB.out.trans (hb.mono HB.out.size))
  clear hb
  have hz := below_newF W9 (Obj.cells #[S byA, S byA] 9)
  have HP := Lib.hid (show Calls Tryz.prog 8 #[.agg #[.slice (some ⟨W9.heap.size, 0, none⟩) 2 2, .slice none 0 0, .slice none 0 0, .slice none 0 0, .slice none 0 0, .slice none 0 0]] _ (fun e w' => e = .returned (I 7) ∧ Below _ _ w') by have := netCheck_any netAA _ _ (netAA_in (W9.alloc (Obj.cells #[S byA, S byA] 9)) W9.heap.size (reads_many (Blk.new W9 9 #[S byA, S byA]) rfl rfl)); rw [check_AA] at this; exact this)
  go_wp2_with fail
  refine HP.out.mono ?_
  rintro e WA ⟨rfl, hb⟩
  clear HP
  have hbz := hz.trans (hb.mono hz.size)
  replace HB := Lib.hid (HB.out.trans (hbz.mono HB.out.size))
  clear hb hz hbz
  have HP := Lib.hid (show Calls Tryz.prog 18 #[.string ⟨#[65, 49]⟩] WA (fun e w' => e = .returned (.bool true) ∧ Below WA.heap.size WA w') from name_any ⟨#[65, 49]⟩ WA (by decide))
  go_wp2_with fail
  refine HP.out.mono ?_
  rintro e WB ⟨rfl, hb⟩
  clear HP
  replace HB := Lib.hid (HB.out.trans (hb.mono HB.out.size))
  clear hb
  have HP := Lib.hid (show Calls Tryz.prog 19 #[zeroBr.val] WB (fun e w' => e = .returned (I 4) ∧ Below WB.heap.size WB w') by have := branch_any zeroBr WB; rw [zeroBr_e] at this; exact this)
  go_wp2_with fail
  refine HP.out.mono ?_
  rintro e WC ⟨rfl, hb⟩
  clear HP
  replace HB := Lib.hid (HB.out.trans (hb.mono HB.out.size))
  clear hb
  go_wp2
  go_ret
  exact ⟨rfl, HB.out⟩
end Go.Proofs.YtglbelmljdgaoaaGreatDoor
