/- netmodel.Find and netmodel.Set. -/
import Derived.Test.YtglbelmljdgaoaaGreatDoorFind
namespace Go.Proofs.YtglbelmljdgaoaaGreatDoor
open Go.RowKit

/-! ### a switch is set -/
def setOpn (o : Bool) (s : SwitchD) : SwitchD := ⟨s.name, s.a, s.b, s.breaker, o⟩
def setSw (n : NetD) (i : Nat) (o : Bool) : NetD := ⟨n.nodes, n.switches.modify i (setOpn o), n.branches, n.gens, n.loads, n.stores⟩
theorem cellsBy_modify (o : Bool) : ∀ (l : List SwitchD) (i : Nat), i < l.length → cellsBy SwitchD.cells (l.modify i (setOpn o)) = (cellsBy SwitchD.cells l).set (i * 5 + 4) (.bool o)
  | [], i, h => by simp at h
  | x :: l, 0, _ => by simp [cellsBy, SwitchD.cells, setOpn]
  | x :: l, i + 1, h => by
    have ih := cellsBy_modify o l i (by simpa using h)
    have e : (i + 1) * 5 + 4 = (i * 5 + 4) + 5 := by omega
    rw [e]
    simp only [cellsBy, List.modify_succ_cons, List.flatMap_cons] at ih ⊢
    rw [ih]
    rfl

theorem Row.set_at {w : World} {base g off n cap sz : Nat} {e : TypeId} {xs : List Value} (h : Row w base e sz (.slice (some ⟨g, off, none⟩) n cap) n xs) {j : Nat} (_hj : j < n * sz) (u : Value) :
    Row (w.setCell ⟨g, off + j, none⟩ u) base e sz (.slice (some ⟨g, off, none⟩) n cap) n (xs.set j u) := by
  rcases h.2 with ⟨hv, h0⟩ | ⟨g', off', cap', cur, hv, hb, hh, hnc, hm, hs, ht⟩
  · cases hv
  · injection hv with hA _ hc
    injection hA with hA
    injection hA with hg ho
    subst hg ho hc
    refine ⟨by simpa using h.1, .inr ⟨g, off, cap, _, rfl, hb, hh.set_ _ u, hnc, hm, by simpa using hs, ?_⟩⟩
    rw [← ht, Array.toList_setIfInBounds, List.drop_set]
    rw [if_neg (by omega), Nat.add_sub_cancel_left, List.take_set]
theorem Row.cell_at {w : World} {base g off n cap sz : Nat} {e : TypeId} {xs : List Value} (h : Row w base e sz (.slice (some ⟨g, off, none⟩) n cap) n xs) {j : Nat} {u : Value} (hu : xs[j]? = some u) : w.cell? ⟨g, off + j, none⟩ = some u := by
  have hn : 0 < n := by
    rcases Nat.eq_zero_or_pos n with h0 | h0
    · subst h0
      have : xs = [] := List.eq_nil_of_length_eq_zero (by have := h.1; omega)
      subst this
      simp at hu
    · exact h0
  obtain ⟨b, o, e', _, hc⟩ := h.reads.2 hn
  injection e' with e'
  injection e' with e1 e2
  subst e1 e2
  exact hc j u hu
theorem Row.frozen_at {w : World} {base g off n cap sz : Nat} {e : TypeId} {xs : List Value} (h : Row w base e sz (.slice (some ⟨g, off, none⟩) n cap) n xs) (j : Nat) : w.frozen? ⟨g, j, none⟩ = false := by
  rcases h.2 with ⟨hv, h0⟩ | ⟨g', off', cap', cur, hv, hb, hh, hnc, hm, hs, ht⟩
  · cases hv
  · injection hv with hA _ hc
    injection hA with hA
    injection hA with hg ho
    subst hg
    exact hh.frozen j

def notBool (u : Value) : Prop := ∀ b, u ≠ .bool b
theorem Reads.set_bool {w : World} {B sz n : Nat} {A : Option Addr} {xs : List Value} (h : Reads w B sz A n xs) (hk : ∀ u ∈ xs, notBool u) {p : Addr} {y : Bool} (hp : w.cell? p = some (.bool y)) (u : Value) : Reads (w.setCell p u) B sz A n xs := by
  refine ⟨h.1, fun hn => ?_⟩
  obtain ⟨b, off, e, hb, hc⟩ := h.2 hn
  refine ⟨b, off, e, hb, fun j x hx => ?_⟩
  have h1 := hc j x hx
  rw [World.cell?_setCell_other _ _ _ _ ?_]
  · exact h1
  · rintro rfl
    rw [h1] at hp
    injection hp with hp
    exact hk x (List.mem_of_getElem? hx) y hp
theorem nbS (l : List ByteArray) : ∀ u ∈ l.map S, notBool u := by
  intro u hu
  obtain ⟨x, _, rfl⟩ := List.mem_map.1 hu
  intro b hb
  cases hb
theorem nbBy {α : Type} {f : α → List Value} (hf : ∀ x, ∀ u ∈ f x, notBool u) (l : List α) : ∀ u ∈ cellsBy f l, notBool u := by
  intro u hu
  obtain ⟨x, _, hx⟩ := List.mem_flatMap.1 hu
  exact hf x u hx
theorem nbBranch (l : List BranchD) : ∀ u ∈ cellsBy BranchD.cells l, notBool u := nbBy (fun x u hu => by simp [BranchD.cells] at hu; rcases hu with rfl | rfl | rfl | rfl | rfl | rfl | rfl | rfl | rfl <;> (intro b hb; cases hb)) l
theorem nbGen (l : List GenD) : ∀ u ∈ cellsBy GenD.cells l, notBool u := nbBy (fun x u hu => by simp [GenD.cells] at hu; rcases hu with rfl | rfl | rfl | rfl | rfl <;> (intro b hb; cases hb)) l
theorem nbLoad (l : List LoadD) : ∀ u ∈ cellsBy LoadD.cells l, notBool u := nbBy (fun x u hu => by simp [LoadD.cells] at hu; rcases hu with rfl | rfl | rfl <;> (intro b hb; cases hb)) l
theorem nbStore (l : List StoreD) : ∀ u ∈ cellsBy StoreD.cells l, notBool u := nbBy (fun x u hu => by simp [StoreD.cells] at hu; rcases hu with rfl | rfl | rfl | rfl | rfl <;> (intro b hb; cases hb)) l

/-- the network behind a store to the state of switch i -/
theorem NetIn.swSet {w : World} {n : NetD} {v : NetV} {base g off : Nat} (h : NetIn w n v) (hA : v.sa = some ⟨g, off, none⟩) (hr : Row w base 39 5 (.slice v.sa n.switches.length v.sc) n.switches.length (cellsBy SwitchD.cells n.switches)) {i : Nat} (hi : i < n.switches.length) (o : Bool) :
    NetIn (w.setCell ⟨g, off + (i * 5 + 4), none⟩ (.bool o)) (setSw n i o) v ∧ Row (w.setCell ⟨g, off + (i * 5 + 4), none⟩ (.bool o)) base 39 5 (.slice v.sa n.switches.length v.sc) n.switches.length (cellsBy SwitchD.cells (setSw n i o).switches) := by
  rw [hA] at hr
  have hcell := hr.cell_at (j := i * 5 + 4) (by rw [cellsBy_at (f := SwitchD.cells) (sz := 5) (fun _ => rfl) n.switches i n.switches[i] (by simp [hi]) 4 (by omega)]; rfl)
  have hrow := hr.set_at (j := i * 5 + 4) (by omega) (.bool o)
  rw [← cellsBy_modify o _ _ hi] at hrow
  have hz : (w.setCell ⟨g, off + (i * 5 + 4), none⟩ (.bool o)).heap.size = w.heap.size := by simp [World.setCell]
  refine ⟨⟨?_, ?_, ?_, ?_, ?_, ?_⟩, by rw [hA]; exact hrow⟩
  · rw [hz]; exact h.nodes.set_bool (nbS _) hcell _
  · rw [hA]
    have := hrow.reads
    simpa [setSw] using this
  · rw [hz]; exact h.branches.set_bool (nbBranch _) hcell _
  · rw [hz]; exact h.gens.set_bool (nbGen _) hcell _
  · rw [hz]; exact h.loads.set_bool (nbLoad _) hcell _
  · rw [hz]; exact h.stores.set_bool (nbStore _) hcell _

def notSlice (u : Value) : Prop := ∀ a n c, u ≠ .slice a n c
theorem Reads.set6 {w : World} {B sz n b : Nat} {A : Option Addr} {xs : List Value} {t : TypeId} {ds : Array Value} (h : Reads w B sz A n xs) (hk : ∀ u ∈ xs, notSlice u) (hB : Blk w b t ds) (hd : ∀ (i : Nat) u, ds[i]? = some u → ∃ a n c, u = .slice a n c) (x0 x1 x2 x3 x4 x5 : Value) :
    Reads (YtglbelmljdgaoaaGreatDoor.set6 w b x0 x1 x2 x3 x4 x5) B sz A n xs := by
  refine ⟨h.1, fun hn => ?_⟩
  obtain ⟨g, off, e, hb, hc⟩ := h.2 hn
  refine ⟨g, off, e, hb, fun j u hu => ?_⟩
  have h1 := hc j u hu
  have hne : g ≠ b := by
    rintro rfl
    rw [hB.cell] at h1
    obtain ⟨a, n, c, rfl⟩ := hd _ _ h1
    exact hk _ (List.mem_of_getElem? hu) a n c rfl
  have h2 := set6_heap w b x0 x1 x2 x3 x4 x5 g hne
  simp only [World.cell?] at h1 ⊢
  rw [h2]
  exact h1
theorem nsS (l : List ByteArray) : ∀ u ∈ l.map S, notSlice u := by
  intro u hu
  obtain ⟨x, _, rfl⟩ := List.mem_map.1 hu
  intro a n c hb
  cases hb
theorem nsBy {α : Type} {f : α → List Value} (hf : ∀ x, ∀ u ∈ f x, notSlice u) (l : List α) : ∀ u ∈ cellsBy f l, notSlice u := by
  intro u hu
  obtain ⟨x, _, hx⟩ := List.mem_flatMap.1 hu
  exact hf x u hx
theorem nsSwitch (l : List SwitchD) : ∀ u ∈ cellsBy SwitchD.cells l, notSlice u := nsBy (fun x u hu => by simp [SwitchD.cells] at hu; rcases hu with rfl | rfl | rfl | rfl | rfl <;> (intro a n c hb; cases hb)) l
theorem nsBranch (l : List BranchD) : ∀ u ∈ cellsBy BranchD.cells l, notSlice u := nsBy (fun x u hu => by simp [BranchD.cells] at hu; rcases hu with rfl | rfl | rfl | rfl | rfl | rfl | rfl | rfl | rfl <;> (intro a n c hb; cases hb)) l
theorem nsGen (l : List GenD) : ∀ u ∈ cellsBy GenD.cells l, notSlice u := nsBy (fun x u hu => by simp [GenD.cells] at hu; rcases hu with rfl | rfl | rfl | rfl | rfl <;> (intro a n c hb; cases hb)) l
theorem nsLoad (l : List LoadD) : ∀ u ∈ cellsBy LoadD.cells l, notSlice u := nsBy (fun x u hu => by simp [LoadD.cells] at hu; rcases hu with rfl | rfl | rfl <;> (intro a n c hb; cases hb)) l
theorem nsStore (l : List StoreD) : ∀ u ∈ cellsBy StoreD.cells l, notSlice u := nsBy (fun x u hu => by simp [StoreD.cells] at hu; rcases hu with rfl | rfl | rfl | rfl | rfl <;> (intro a n c hb; cases hb)) l
theorem NetIn.set6 {w : World} {n : NetD} {v : NetV} (h : NetIn w n v) {b : Nat} {t : TypeId} (hB : Blk w b t nils) (x0 x1 x2 x3 x4 x5 : Value) : NetIn (YtglbelmljdgaoaaGreatDoor.set6 w b x0 x1 x2 x3 x4 x5) n v := by
  have hd : ∀ (i : Nat) u, nils[i]? = some u → ∃ a n c, u = .slice a n c := by
    intro i u hu
    have hi : i < 6 := by have := (Array.getElem?_eq_some_iff.1 hu).1; exact this
    have : i = 0 ∨ i = 1 ∨ i = 2 ∨ i = 3 ∨ i = 4 ∨ i = 5 := by omega
    rcases this with rfl | rfl | rfl | rfl | rfl | rfl <;> exact ⟨none, 0, 0, (Option.some.inj hu).symm⟩
  have hz := set6_size w b x0 x1 x2 x3 x4 x5
  exact ⟨by rw [hz]; exact h.nodes.set6 (nsS _) hB hd _ _ _ _ _ _, by rw [hz]; exact h.switches.set6 (nsSwitch _) hB hd _ _ _ _ _ _, by rw [hz]; exact h.branches.set6 (nsBranch _) hB hd _ _ _ _ _ _,
    by rw [hz]; exact h.gens.set6 (nsGen _) hB hd _ _ _ _ _ _, by rw [hz]; exact h.loads.set6 (nsLoad _) hB hd _ _ _ _ _ _, by rw [hz]; exact h.stores.set6 (nsStore _) hB hd _ _ _ _ _ _⟩

def FindL (n : NetD) (x : ByteArray) : ByteArray × Int × Int :=
  if checkN n = 0 then (if (findL n x).2 < 0 then (⟨#[]⟩, 0, 6) else ((findL n x).1, (findL n x).2, 0)) else (⟨#[]⟩, 0, checkN n)
def RetFind3 (w : World) (r : ByteArray × Int × Int) (e : Ending) (w' : World) : Prop := e = .returned (.tuple #[.string r.1, I r.2.1, I r.2.2]) ∧ Below w.heap.size w w'
theorem small_le {n : NetD} (h : checkN n = 0) : NetLe n 1000000 := by
  obtain ⟨h1, _⟩ := checkN_devs h
  exact ⟨by omega, by omega, by omega, by omega, by omega, by omega⟩

set_option maxRecDepth 100000 in
set_option maxHeartbeats 1000000 in
theorem Find_any (n : NetD) (v : NetV) (x : ByteArray) (w : World) (hN : Net w n v) : Calls Tryz.prog 9 #[v.val n, .string x] w (RetFind3 w (FindL n x)) := by
  have hb0 : Below w.heap.size w (w.alloc (Obj.cells (v.parts n) 29)) := (Below.refl _ w).alloc (Nat.le_refl _) _
  have HC := Lib.hid (netCheck_any n v _ (hN.below hb0))
  have HN := Lib.hid hN
  have HBX := Lib.hid (Blk.new w 29 (v.parts n))
  have HFI := Lib.hid (fun w hn hl => find_any n v x w hn hl)
  have HD := Lib.hid (show FindL n x = if checkN n = 0 then (if (findL n x).2 < 0 then (⟨#[]⟩, 0, 6) else ((findL n x).1, (findL n x).2, 0)) else (⟨#[]⟩, 0, checkN n) from rfl)
  have HLE := Lib.hid (@small_le n)
  clear hb0 hN
  unfold NetV.val NetV.parts at *
  obtain ⟨er, her⟩ : ∃ er, checkN n = er := ⟨_, rfl⟩
  rw [her] at HC HD HLE
  clear her
  go_enter Tryz.func9, Tryz.ntmps9
  go_wp2_with fail
  refine HC.out.mono ?_
  rintro e w1 ⟨rfl, hb1⟩
  have HB1 := Lib.hid (box_below hb1)
  have HBX1 := Lib.hid (HBX.out.below hb1 (by simp))
  clear hb1 HC HBX
  by_cases h0 : er = 0
  · subst h0
    have HF := Lib.hid (HFI.out w1 (HN.out.below HB1.out).net (HLE.out rfl))
    have hlt : w.heap.size < w1.heap.size := HBX1.out.lt
    have x0 := HBX1.out.cell 0
    have x1 := HBX1.out.cell 1
    have x2 := HBX1.out.cell 2
    have x3 := HBX1.out.cell 3
    have x4 := HBX1.out.cell 4
    have x5 := HBX1.out.cell 5
    go_wp2_with fail
    refine HF.out.mono ?_
    rintro e w2 ⟨rfl, hb2⟩
    have HB2 := Lib.hid (HB1.out.trans (hb2.mono HB1.out.size))
    clear hb2 HF HFI x0 x1 x2 x3 x4 x5
    obtain ⟨r, hr⟩ : ∃ r, findL n x = r := ⟨_, rfl⟩
    rw [hr] at HD ⊢
    clear hr
    obtain ⟨s, i⟩ := r
    simp only at HD ⊢
    by_cases hi : i < 0
    · have HX := Lib.hid (show FindL n x = (⟨#[]⟩, 0, 6) by rw [HD.out]; simp [hi])
      go_wp2
      go_ret3
      rw [HX.out]
      exact ⟨rfl, HB2.out⟩
    · have HX := Lib.hid (show FindL n x = (s, i, 0) by rw [HD.out]; simp [hi])
      go_wp2
      go_ret3
      rw [HX.out]
      exact ⟨rfl, HB2.out⟩
  · have t1 : (er == 0) = false := beq_eq_false_iff_ne.2 h0
    have t2 : (er != 0) = true := by rw [bne_iff_ne]; exact h0
    have HX := Lib.hid (show FindL n x = (⟨#[]⟩, 0, er) by rw [HD.out, if_neg h0])
    clear h0
    go_wp2
    go_ret3
    rw [HX.out]
    exact ⟨rfl, HB1.out⟩

def noNet : NetD := ⟨[], [], [], [], [], []⟩
def swB : ByteArray := ⟨#[115, 119, 105, 116, 99, 104]⟩
def SetL (n : NetD) (x : ByteArray) (o : Bool) : NetD × Int :=
  if (FindL n x).2.2 = 0 then (if (FindL n x).1 = swB then (setSw n (FindL n x).2.1.toNat o, 0) else (noNet, 1)) else (noNet, (FindL n x).2.2)
def RetSet (w : World) (r : NetD × Int) (e : Ending) (w' : World) : Prop := ∃ v : NetV, e = .returned (.tuple #[v.val r.1, I r.2]) ∧ NetIn w' r.1 v ∧ Below w.heap.size w w' ∧ ∀ b off, v.sa = some ⟨b, off, none⟩ → w.heap.size ≤ b

theorem nmIdx_range {α : Type} (f : α → ByteArray) (x : ByteArray) : ∀ (l : List α) (i : Nat), nmIdx f x l i = -1 ∨ ((i : Int) ≤ nmIdx f x l i ∧ nmIdx f x l i < i + l.length)
  | [], _ => .inl rfl
  | z :: zs, i => by
    rw [nmIdx]
    split
    · right; simp; omega
    · rcases nmIdx_range f x zs (i + 1) with h | h
      · left; exact h
      · right; simp; omega
theorem findL_switch {n : NetD} {x : ByteArray} (h : (findL n x).1 = swB) : 0 ≤ (findL n x).2 ∧ (findL n x).2 < n.switches.length ∧ (findL n x).2 = nmIdx SwitchD.name x n.switches 0 ∧ Lib.idxOfS n.nodes x < 0 := by
  rw [findL, findE] at h ⊢
  generalize nmIdx BranchD.name x n.branches 0 = r2 at *
  generalize nmIdx GenD.name x n.gens 0 = r3 at *
  generalize nmIdx LoadD.name x n.loads 0 = r4 at *
  generalize nmIdx StoreD.name x n.stores 0 = r5 at *
  have hr := nmIdx_range SwitchD.name x n.switches 0
  generalize nmIdx SwitchD.name x n.switches 0 = r1 at *
  generalize Lib.idxOfS n.nodes x = r0 at *
  by_cases h0 : 0 ≤ r0
  · rw [if_pos h0] at h; exfalso; simp only at h; revert h; decide
  · rw [if_neg h0] at h ⊢
    by_cases h1 : 0 ≤ r1
    · rw [if_pos h1]; refine ⟨h1, by omega, rfl, by omega⟩
    · rw [if_neg h1] at h
      exfalso
      split at h
      · (simp only at h; revert h; decide)
      · split at h
        · (simp only at h; revert h; decide)
        · split at h
          · (simp only at h; revert h; decide)
          · split at h
            · (simp only at h; revert h; decide)
            · (simp only at h; revert h; decide)
theorem FindL_ok {n : NetD} {x : ByteArray} (h : (FindL n x).2.2 = 0) : checkN n = 0 ∧ 0 ≤ (findL n x).2 ∧ FindL n x = ((findL n x).1, (findL n x).2, 0) := by
  rw [FindL] at h ⊢
  by_cases h0 : checkN n = 0
  · rw [if_pos h0] at h ⊢
    by_cases h1 : (findL n x).2 < 0
    · rw [if_pos h1] at h; cases h
    · rw [if_neg h1]; exact ⟨h0, by omega, rfl⟩
  · rw [if_neg h0] at h; exact absurd h h0
theorem SetL_switch {n : NetD} {x : ByteArray} (h : (FindL n x).2.2 = 0) (hs : (FindL n x).1 = swB) : checkN n = 0 ∧ 0 ≤ (FindL n x).2.1 ∧ (FindL n x).2.1 < n.switches.length := by
  obtain ⟨h1, h2, h3⟩ := FindL_ok h
  rw [h3] at hs ⊢
  obtain ⟨k1, k2, _⟩ := findL_switch hs
  exact ⟨h1, k1, k2⟩

set_option maxRecDepth 100000 in
set_option maxHeartbeats 2000000 in
theorem Set_any (n : NetD) (v : NetV) (x : ByteArray) (o : Bool) (w : World) (hN : Net w n v) : Calls Tryz.prog 10 #[v.val n, .string x, .bool o] w (RetSet w (SetL n x o)) := by
  have hb0 := below2 w (Obj.cells (v.parts n) 29) (Obj.cells nils 29)
  have HFI := Lib.hid (Find_any n v x _ (hN.below hb0))
  have HB0 := Lib.hid hb0
  have HN := Lib.hid hN
  have HBX := Lib.hid ((Blk.new w 29 (v.parts n)).alloc (Obj.cells nils 29))
  have HRX : Hid (Blk ((w.alloc (Obj.cells (v.parts n) 29)).alloc (Obj.cells nils 29)) (w.heap.size + 1) 29 nils) := by
    have := Blk.new (w.alloc (Obj.cells (v.parts n) 29)) 29 nils
    rw [World.size_alloc w] at this
    exact this
  have HD := Lib.hid (show SetL n x o = if (FindL n x).2.2 = 0 then (if (FindL n x).1 = swB then (setSw n (FindL n x).2.1.toNat o, 0) else (noNet, 1)) else (noNet, (FindL n x).2.2) from rfl)
  have HSW := Lib.hid (@SetL_switch n x)
  clear hb0 hN
  unfold NetV.val NetV.parts at *
  obtain ⟨r, hr⟩ : ∃ r, FindL n x = r := ⟨_, rfl⟩
  rw [hr] at HFI HD HSW
  clear hr
  obtain ⟨s, i, er⟩ := r
  simp only at HFI HD HSW
  go_enter Tryz.func10, Tryz.ntmps10
  go_wp2_with fail
  refine HFI.out.mono ?_
  rintro e w1 ⟨rfl, hb1⟩
  have hz1 : w.heap.size + 1 + 1 ≤ w1.heap.size := by have := hb1.size; simpa using this
  have HBX1 := Lib.hid (HBX.out.below hb1 (by simp; omega))
  have HRX1 := Lib.hid (HRX.out.below hb1 (by simp))
  have HB1 := Lib.hid (HB0.out.trans (hb1.mono HB0.out.size))
  clear hb1 HFI HBX HRX HB0
  have f0 := HRX1.out.frozen 0
  have f1 := HRX1.out.frozen 1
  have f2 := HRX1.out.frozen 2
  have f3 := HRX1.out.frozen 3
  have f4 := HRX1.out.frozen 4
  have f5 := HRX1.out.frozen 5
  have y0 := HRX1.out.cell 0
  have y1 := HRX1.out.cell 1
  have y2 := HRX1.out.cell 2
  have y3 := HRX1.out.cell 3
  have y4 := HRX1.out.cell 4
  have y5 := HRX1.out.cell 5
  by_cases h0 : er = 0
  · subst h0
    by_cases hs : s = swB
    · subst hs
      obtain ⟨hck, hi0, hi1⟩ := HSW.out rfl rfl
      obtain ⟨k, rfl⟩ := Int.eq_ofNat_of_zero_le hi0
      have hk : k < n.switches.length := by omega
      have HX := Lib.hid (show SetL n x o = (setSw n k o, 0) by rw [HD.out]; simp)
      have HCP := Lib.hid (copy_any n v w1 (HN.out.below HB1.out).net (small_le hck))
      have HCK := Lib.hid hck
      have x0 := HBX1.out.cell 0
      have x1 := HBX1.out.cell 1
      have x2 := HBX1.out.cell 2
      have x3 := HBX1.out.cell 3
      have x4 := HBX1.out.cell 4
      have x5 := HBX1.out.cell 5
      unfold swB
      clear hck HD HSW hi0 hi1
      go_wp2_with fail
      refine HCP.out.mono ?_
      rintro e w2 ⟨v2, rfl, hin, hrow, hb2⟩
      have hro := hrow (by omega)
      obtain ⟨g, off, cap, cur, hv, hbg, hh, _⟩ := hro.form (by omega)
      injection hv with hsa _ hsc
      have hz2 := hb2.size
      have hgl := hh.lt
      have HRX2 := Lib.hid (HRX1.out.below hb2 HRX1.out.lt)
      have HB2 := Lib.hid (HB1.out.trans (hb2.mono HB1.out.size))
      have hro2 := hro
      rw [hsa] at hro2
      have d0 : w2.cell? ⟨g, off + k * 5 + 4, none⟩ = some (.bool n.switches[k].opn) := by
        have := hro2.cell_at (j := k * 5 + 4) (u := .bool n.switches[k].opn) (by rw [cellsBy_at (f := SwitchD.cells) (sz := 5) (fun _ => rfl) n.switches k n.switches[k] (by simp [hk]) 4 (by omega)]; rfl)
        rwa [← Nat.add_assoc] at this
      have d1 := hro2.frozen_at (off + k * 5 + 4)
      have HIN := Lib.hid hin
      have HRO := Lib.hid hro
      have HSA := Lib.hid hsa
      unfold NetV.val NetV.parts
      have g1 : g < w2.heap.size := hgl
      have g2 : ¬ g = w2.heap.size := by omega
      have g3 : ¬ g = w.heap.size + 1 := by omega
      have g4 : w.heap.size + 1 < w2.heap.size := by omega
      have g5 : ¬ w2.heap.size = w.heap.size + 1 := by omega
      have g6 : ¬ w.heap.size + 1 = w2.heap.size := by omega
      have g7 : ¬ w.heap.size + 1 = g := by omega
      have g8 : ¬ w2.heap.size = g := by omega
      have hk2 : (k : Int) < n.switches.length := by omega
      rw [hsa]
      clear hin hro hro2 hrow hb2 hh hsa hsc HCP x0 x1 x2 x3 x4 x5 y0 y1 y2 y3 y4 y5 f0 f1 f2 f3 f4 f5
      have f0 := HRX2.out.frozen 0
      have f1 := HRX2.out.frozen 1
      have f2 := HRX2.out.frozen 2
      have f3 := HRX2.out.frozen 3
      have f4 := HRX2.out.frozen 4
      have f5 := HRX2.out.frozen 5
      have y0 := HRX2.out.cell 0
      have y1 := HRX2.out.cell 1
      have y2 := HRX2.out.cell 2
      have y3 := HRX2.out.cell 3
      have y4 := HRX2.out.cell 4
      have y5 := HRX2.out.cell 5
      go_wp2
      rw [← set6_def]
      have hin2 := (HIN.out.swSet HSA.out HRO.out hk o).1
      rw [← Nat.add_assoc] at hin2
      have hR3 := HRX2.out.far (p := ⟨g, off + k * 5 + 4, none⟩) g7 (.bool o)
      have hin3 := (hin2.set6 hR3 (Value.slice v2.na n.nodes.length v2.nc) (Value.slice (some { block := g, off := off }) n.switches.length v2.sc) (Value.slice v2.ba n.branches.length v2.bc) (Value.slice v2.ga n.gens.length v2.gc) (Value.slice v2.la n.loads.length v2.lc) (Value.slice v2.ta n.stores.length v2.tc)).below ((Below.refl _ _).alloc (Nat.le_refl _) (Obj.cells #[Value.slice v2.na n.nodes.length v2.nc, Value.slice (some { block := g, off := off }) n.switches.length v2.sc, Value.slice v2.ba n.branches.length v2.bc, Value.slice v2.ga n.gens.length v2.gc, Value.slice v2.la n.loads.length v2.lc, Value.slice v2.ta n.stores.length v2.tc] 29))
      have hB3 := (set6_blk hR3 rfl (Value.slice v2.na n.nodes.length v2.nc) (Value.slice (some { block := g, off := off }) n.switches.length v2.sc) (Value.slice v2.ba n.branches.length v2.bc) (Value.slice v2.ga n.gens.length v2.gc) (Value.slice v2.la n.loads.length v2.lc) (Value.slice v2.ta n.stores.length v2.tc)).alloc (Obj.cells #[Value.slice v2.na n.nodes.length v2.nc, Value.slice (some { block := g, off := off }) n.switches.length v2.sc, Value.slice v2.ba n.branches.length v2.bc, Value.slice v2.ga n.gens.length v2.gc, Value.slice v2.la n.loads.length v2.lc, Value.slice v2.ta n.stores.length v2.tc] 29)
      have hbe := ((HB2.out.setCell (p := ⟨g, off + k * 5 + 4, none⟩) (by simp; omega) (.bool o)).trans (set6_below _ (w.heap.size + 1) w.heap.size (Value.slice v2.na n.nodes.length v2.nc) (Value.slice (some { block := g, off := off }) n.switches.length v2.sc) (Value.slice v2.ba n.branches.length v2.bc) (Value.slice v2.ga n.gens.length v2.gc) (Value.slice v2.la n.loads.length v2.lc) (Value.slice v2.ta n.stores.length v2.tc) (by omega))).alloc (by rw [set6_size]; simp [World.setCell]; omega) (Obj.cells #[Value.slice v2.na n.nodes.length v2.nc, Value.slice (some { block := g, off := off }) n.switches.length v2.sc, Value.slice v2.ba n.branches.length v2.bc, Value.slice v2.ga n.gens.length v2.gc, Value.slice v2.la n.loads.length v2.lc, Value.slice v2.ta n.stores.length v2.tc] 29)
      generalize (set6 (w2.setCell ⟨g, off + k * 5 + 4, none⟩ (.bool o)) (w.heap.size + 1) (Value.slice v2.na n.nodes.length v2.nc) (Value.slice (some { block := g, off := off }) n.switches.length v2.sc) (Value.slice v2.ba n.branches.length v2.bc) (Value.slice v2.ga n.gens.length v2.gc) (Value.slice v2.la n.loads.length v2.lc) (Value.slice v2.ta n.stores.length v2.tc)).alloc (Obj.cells #[Value.slice v2.na n.nodes.length v2.nc, Value.slice (some { block := g, off := off }) n.switches.length v2.sc, Value.slice v2.ba n.branches.length v2.bc, Value.slice v2.ga n.gens.length v2.gc, Value.slice v2.la n.loads.length v2.lc, Value.slice v2.ta n.stores.length v2.tc] 29) = W at *
      have z0 := hB3.cell 0
      have z1 := hB3.cell 1
      have z2 := hB3.cell 2
      have z3 := hB3.cell 3
      have z4 := hB3.cell 4
      have z5 := hB3.cell 5
      refine bodyPost_ret (v := .tuple #[.agg #[Value.slice v2.na n.nodes.length v2.nc, Value.slice (some { block := g, off := off }) n.switches.length v2.sc, Value.slice v2.ba n.branches.length v2.bc, Value.slice v2.ga n.gens.length v2.gc, Value.slice v2.la n.loads.length v2.lc, Value.slice v2.ta n.stores.length v2.tc], I 0]) (by simp [results, go_sem, z0, z1, z2, z3, z4, z5]) rfl ?_
      rw [HX.out]
      refine ⟨v2, ?_, hin3, hbe, fun b off hb => by rw [HSA.out] at hb; simp at hb; omega⟩
      unfold NetV.val NetV.parts setSw
      simp only [List.length_modify, HSA.out]
    · have hs' : (s.toList == [115, 119, 105, 116, 99, 104]) = false := by
        have := (Lib.bytes_beq_false_iff s swB).2 hs
        rwa [show swB.toList = [115, 119, 105, 116, 99, 104] by decide +kernel] at this
      have HX := Lib.hid (show SetL n x o = (noNet, 1) by rw [HD.out]; simp [hs])
      clear hs
      go_wp2
      have hB := set6_blk HRX1.out rfl (.slice none 0 0) (.slice none 0 0) (.slice none 0 0) (.slice none 0 0) (.slice none 0 0) (.slice none 0 0)
      rw [← set6_def]
      have HBE := Lib.hid (HB1.out.trans (set6_below w1 (w.heap.size + 1) w.heap.size (.slice none 0 0) (.slice none 0 0) (.slice none 0 0) (.slice none 0 0) (.slice none 0 0) (.slice none 0 0) (by omega)))
      generalize set6 w1 (w.heap.size + 1) (.slice none 0 0) (.slice none 0 0) (.slice none 0 0) (.slice none 0 0) (.slice none 0 0) (.slice none 0 0) = W at *
      have z0 := hB.cell 0
      have z1 := hB.cell 1
      have z2 := hB.cell 2
      have z3 := hB.cell 3
      have z4 := hB.cell 4
      have z5 := hB.cell 5
      refine bodyPost_ret (v := .tuple #[.agg nils, I 1]) (by simp [results, go_sem, z0, z1, z2, z3, z4, z5]) rfl ?_
      rw [HX.out]
      exact ⟨⟨none, 0, none, 0, none, 0, none, 0, none, 0, none, 0⟩, rfl, ⟨Reads.nil, Reads.nil, Reads.nil, Reads.nil, Reads.nil, Reads.nil⟩, HBE.out, fun b off hb => by cases hb⟩
  · have t1 : (er == 0) = false := beq_eq_false_iff_ne.2 h0
    have t2 : (er != 0) = true := by rw [bne_iff_ne]; exact h0
    have HX := Lib.hid (show SetL n x o = (noNet, er) by rw [HD.out, if_neg h0])
    clear h0
    go_wp2
    have hB := set6_blk HRX1.out rfl (.slice none 0 0) (.slice none 0 0) (.slice none 0 0) (.slice none 0 0) (.slice none 0 0) (.slice none 0 0)
    rw [← set6_def]
    have HBE := Lib.hid (HB1.out.trans (set6_below w1 (w.heap.size + 1) w.heap.size (.slice none 0 0) (.slice none 0 0) (.slice none 0 0) (.slice none 0 0) (.slice none 0 0) (.slice none 0 0) (by omega)))
    generalize set6 w1 (w.heap.size + 1) (.slice none 0 0) (.slice none 0 0) (.slice none 0 0) (.slice none 0 0) (.slice none 0 0) (.slice none 0 0) = W at *
    have z0 := hB.cell 0
    have z1 := hB.cell 1
    have z2 := hB.cell 2
    have z3 := hB.cell 3
    have z4 := hB.cell 4
    have z5 := hB.cell 5
    refine bodyPost_ret (v := .tuple #[.agg nils, I er]) (by simp [results, go_sem, z0, z1, z2, z3, z4, z5]) rfl ?_
    rw [HX.out]
    exact ⟨⟨none, 0, none, 0, none, 0, none, 0, none, 0, none, 0⟩, rfl, ⟨Reads.nil, Reads.nil, Reads.nil, Reads.nil, Reads.nil, Reads.nil⟩, HBE.out, fun b off hb => by cases hb⟩
end Go.Proofs.YtglbelmljdgaoaaGreatDoor
