/- A region that draws its order: loads are taken first although their cells are written by stores at the region's end (which wait for every load). No program here. Two more laws for regions that draw their order: a guarded operation that is wanted and comes up alone; an operation that looks at no memory is taken first. No program here. nettext.Diff. -/
import Derived.Deep.RegionHeld3
import Derived.Test.YtglbelmljdgaoaaGreatDoorNxC
namespace Go.Proofs.YtglbelmljdgaoaaGreatDoor
open Go

section
variable {P : Program} {ops : Array Oper} {Q : Exit → Act → World → Prop} {md : Region.Mode} {S : World → Prop} {c : Nat}
/-- whatever order is picked; S holds behind every operation that comes up before number c does -/
def wpAnyC (P : Program) (md : Region.Mode) (ops : Array Oper) (Q : Exit → Act → World → Prop) (S : World → Prop) (c : Nat) : Nat → Array Bool → Act → World → Prop
  | 0, listed, a, w => Region.ready md ops listed = [] ∧ Q .normal a w
  | fuel + 1, listed, a, w =>
    (Region.ready md ops listed = [] → Q .normal a w) ∧
    ∀ i ∈ Region.ready md ops listed, wpOp P ops Q i (fun a' w' => ((listed.setIfInBounds i true).getD c true = false → S w') ∧ wpAnyC P md ops Q S c fuel (listed.setIfInBounds i true) a' w') a w
theorem wpAny_of_c : ∀ (fuel : Nat) (listed : Array Bool) (a : Act) (w : World), wpAnyC P md ops Q S c fuel listed a w → wpAny P md ops Q fuel listed a w
  | 0, _, _, _, h => h
  | fuel + 1, _, _, _, h => ⟨h.1, fun i hi => wpOp_mono (fun a' w' h' => wpAny_of_c fuel _ a' w' h'.2) (h.2 i hi)⟩
/-- does number c wait for number i, directly or through others? -/
def reach (md : Region.Mode) (ops : Array Oper) (i : Nat) : Nat → Nat → Bool
  | 0, c => c == i
  | n + 1, c => c == i || match ops[c]? with
    | some oc => oc.after.any fun e => Region.binds md e && reach md ops i n e.on
    | none => false
/-- whatever has come up has come up behind what it waits for -/
def Closed (md : Region.Mode) (ops : Array Oper) (listed : Array Bool) : Prop := ∀ k ok, ops[k]? = some ok → listed.getD k true = true → ∀ e ∈ ok.after, Region.binds md e = true → listed.getD e.on true = true
def closedB (md : Region.Mode) (ops : Array Oper) (listed : Array Bool) : Bool := (List.range ops.size).all fun k => match ops[k]? with
  | some ok => !(listed.getD k true) || ok.after.all fun e => !(Region.binds md e) || listed.getD e.on true
  | none => true
theorem closed_of {listed : Array Bool} (h : closedB md ops listed = true) : Closed md ops listed := by
  intro k ok hk hl e he hb
  unfold closedB at h
  rw [List.all_eq_true] at h
  have h1 := h k (List.mem_range.2 (Array.getElem?_eq_some_iff.1 hk).1)
  rw [hk] at h1
  simp only [hl, Bool.not_true, Bool.false_or, Array.all_eq_true'] at h1
  have h2 := h1 e he
  simpa [hb] using h2
theorem reach_open {i : Nat} {listed : Array Bool} (hcl : Closed md ops listed) (hi : listed.getD i true = false) : ∀ (n c : Nat), reach md ops i n c = true → listed.getD c true = false
  | 0, c, h => by
    simp only [reach, beq_iff_eq] at h
    rw [h]; exact hi
  | n + 1, c, h => by
    simp only [reach, Bool.or_eq_true, beq_iff_eq] at h
    rcases h with h | h
    · rw [h]; exact hi
    · cases ho : ops[c]? with
      | none => rw [ho] at h; cases h
      | some oc =>
        rw [ho] at h
        simp only [Array.any_eq_true'] at h
        obtain ⟨e, he, h2⟩ := h
        rw [Bool.and_eq_true] at h2
        have h3 := reach_open hcl hi n e.on h2.2
        cases hc : listed.getD c true with
        | false => rfl
        | true => rw [hcl c oc ho hc e he h2.1] at h3; cases h3
theorem closed_set {listed : Array Bool} (hcl : Closed md ops listed) {j : Nat} (hj : j ∈ Region.ready md ops listed) : Closed md ops (listed.setIfInBounds j true) := by
  have mono : ∀ m, listed.getD m true = true → (listed.setIfInBounds j true).getD m true = true := by
    intro m hm
    by_cases h : j = m
    · subst h
      rcases Nat.lt_or_ge j listed.size with h' | h'
      · simp [h']
      · simp
    · rw [getD_set_ne true h]; exact hm
  intro k ok hk hl e he hb
  apply mono
  by_cases h : j = k
  · subst h
    obtain ⟨_, oj, hoj, hall⟩ := mem_ready.1 hj
    rw [hk] at hoj
    injection hoj with hoj
    subst hoj
    have h1 := hall e he hb
    rcases Nat.lt_or_ge e.on listed.size with h' | h'
    · simp [h'] at h1 ⊢; exact h1
    · simp [Array.getElem?_eq_none h'] at h1
  · rw [getD_set_ne true h] at hl
    exact hcl k ok hk hl e he hb
theorem wpAnyC_first {i : Nat} {oi : Oper} {v : Value} (hi : ops[i]? = some oi) (hsel : ∀ (j : Nat) (o : Oper) cs b, ops[j]? = some o → o.op ≠ .select cs b)
    (hQ : ∀ c a w, Q (.panic c) (a.put oi.dst v) w → Q (.panic c) a w) (hic : i ≠ c) {n : Nat} (hc : reach md ops i n c = true) :
    ∀ (fuel : Nat) (listed : Array Bool) (a : Act) (w : World), Closed md ops listed →
      (∀ j oj, ops[j]? = some oj → j ≠ i → listed.getD j true = false → (∀ e ∈ oj.after, Region.binds md e = true → e.on ≠ i) → oi.apart ops oj = true) →
      i ∈ Region.ready md ops listed → YieldsIf P ops S oi v a → S w →
      wpAnyC P md ops Q S c fuel (listed.setIfInBounds i true) (a.put oi.dst v) w → wpAnyC P md ops Q S c (fuel + 1) listed a w := by
  intro fuel
  induction fuel with
  | zero =>
    intro listed a w _ _ hr hy hS H
    refine ⟨fun h => (by rw [h] at hr; cases hr), fun j hj => ?_⟩
    by_cases hji : j = i
    · subst hji; exact hy.wpOp hi hS ⟨fun _ => hS, H⟩
    · have := ready_mono hj hji
      rw [H.1] at this
      cases this
  | succ fuel ih =>
    intro listed a w hcl hfree hr hy hS H
    refine ⟨fun h => (by rw [h] at hr; cases hr), fun j hj => ?_⟩
    by_cases hji : j = i
    · subst hji; exact hy.wpOp hi hS ⟨fun _ => hS, H⟩
    · have h1 := H.2 j (ready_mono hj hji)
      obtain ⟨hjun, oj, hoj, hall⟩ := mem_ready.1 hj
      have hnot : ∀ e ∈ oj.after, Region.binds md e = true → e.on ≠ i := fun e he hb heq => by
        have h1 := hall e he hb
        have h0 := (mem_ready.1 hr).1
        rw [heq] at h1
        rcases Nat.lt_or_ge i listed.size with h' | h'
        · simp [h'] at h0 h1; rw [h0] at h1; cases h1
        · simp [Array.getElem?_eq_none h'] at h1
      have hcl1 := closed_set hcl hj
      have hi1 : (listed.setIfInBounds j true).getD i true = false := by rw [getD_set_ne true hji]; exact (mem_ready.1 hr).1
      have hlc1 := reach_open hcl1 hi1 n c hc
      have hlc2 : ((listed.setIfInBounds i true).setIfInBounds j true).getD c true = false := by
        rw [← Array.setIfInBounds_comm _ _ hji, getD_set_ne true hic]; exact hlc1
      have h2 := wpOp_putIf hoj (hfree j oj hoj hji hjun hnot) (fun cs b => hsel i oi cs b hi) (fun cs b => hsel j oj cs b hoj) hQ hy h1
      have hfree' : ∀ m ok, ops[m]? = some ok → m ≠ i → (listed.setIfInBounds j true).getD m true = false →
          (∀ e ∈ ok.after, Region.binds md e = true → e.on ≠ i) → oi.apart ops ok = true := fun m ok hm hmi hun hno => by
        refine hfree m ok hm hmi ?_ hno
        by_cases hjm : j = m
        · subst hjm; exact hjun
        · rw [getD_set_ne true hjm] at hun; exact hun
      refine wpOp_mono (fun a' w' h3 => ⟨fun _ => h3.2.1 hlc2, ih (listed.setIfInBounds j true) a' w' hcl1 hfree' (ready_mono hr (Ne.symm hji)) h3.1 (h3.2.1 hlc2) ?_⟩) h2
      rw [Array.setIfInBounds_comm _ _ hji]
      exact h3.2.2
theorem wpAnyC_take {i : Nat} {oi : Oper} {v : Value} {fuel : Nat} {listed : Array Bool} {a : Act} {w : World} (hi : ops[i]? = some oi)
    (hs : Region.noSelect ops = true) (hf : Region.free md ops listed i = true) (hr : (Region.ready md ops listed).contains i = true) (hne : (i != c) = true) (hw : reach md ops i 4 c = true) (hcl : closedB md ops listed = true)
    (hQ : ∀ c a w, Q (.panic c) (a.put oi.dst v) w → Q (.panic c) a w) (hy : YieldsIf P ops S oi v a) (hS : S w)
    (h : wpAnyC P md ops Q S c fuel (listed.setIfInBounds i true) (a.put oi.dst v) w) : wpAnyC P md ops Q S c (fuel + 1) listed a w :=
  wpAnyC_first hi (Region.noSelect_spec hs) hQ (by simpa using hne) hw fuel listed a w (closed_of hcl) (Region.free_spec hi hf) (by simpa using hr) hy hS h
/-- the only one that may come up -/
theorem wpAnyC_one {i : Nat} {o : Oper} {fuel : Nat} {listed : Array Bool} {a : Act} {w : World} (hr : Region.ready md ops listed = [i]) (ho : ops[i]? = some o)
    (h : ∀ K' : Act → World → Prop, Shut (∀ a w, ((listed.setIfInBounds i true).getD c true = false → S w) → wpAnyC P md ops Q S c fuel (listed.setIfInBounds i true) a w → K' a w) → if Region.wanted o (yielded ops a.tmps) = true then Oper.wp P o a w K' Q else K' (a.put o.dst undef) w) : wpAnyC P md ops Q S c (fuel + 1) listed a w := by
  refine ⟨fun h0 => (by rw [hr] at h0; cases h0), fun j hj => ?_⟩
  rw [hr] at hj
  obtain rfl : j = i := by simpa using hj
  exact wpOp_step ho (fun K' hK => h K' (fun a w hS hW => hK a w ⟨hS, hW⟩))
theorem wpAnyC_done {listed : Array Bool} {a : Act} {w : World} (hr : Region.ready md ops listed = []) (h : Q .normal a w) : ∀ fuel, wpAnyC P md ops Q S c fuel listed a w
  | 0 => ⟨hr, h⟩
  | _ + 1 => ⟨fun _ => h, by rw [hr]; simp⟩
theorem wp_region_c (S : World → Prop) (c : Nat) {id : Nat} {a : Act} {w : World} (hm : P.follows .mixedOrders = true)
    (h : wpAnyC P .any ops Q S c ops.size (Array.replicate ops.size false) a w.drew) : (Code.region id ops true).wp P Q a w :=
  wp_region_any hm (wpAny_of_c _ _ _ _ h)
end
theorem wpAnyC_take8 {P : Program} {ops : Array Oper} {Q : Exit → Act → World → Prop} {md : Region.Mode} {S : World → Prop} {c : Nat} {i : Nat} {oi : Oper} {v : Value} {fuel : Nat} {listed : Array Bool} {a : Act} {w : World} (hi : ops[i]? = some oi)
    (hs : Region.noSelect ops = true) (hf : Region.free md ops listed i = true) (hr : (Region.ready md ops listed).contains i = true) (hne : (i != c) = true) (hw : reach md ops i 8 c = true) (hcl : closedB md ops listed = true)
    (hQ : ∀ c a w, Q (.panic c) (a.put oi.dst v) w → Q (.panic c) a w) (hy : YieldsIf P ops S oi v a) (hS : S w)
    (h : wpAnyC P md ops Q S c fuel (listed.setIfInBounds i true) (a.put oi.dst v) w) : wpAnyC P md ops Q S c (fuel + 1) listed a w :=
  wpAnyC_first hi (Region.noSelect_spec hs) hQ (by simpa using hne) hw fuel listed a w (closed_of hcl) (Region.free_spec hi hf) (by simpa using hr) hy hS h
end Go.Proofs.YtglbelmljdgaoaaGreatDoor
namespace Go.Proofs.YtglbelmljdgaoaaGreatDoor
open Go

theorem wpAnyC_oneW {P : Program} {ops : Array Oper} {Q : Exit → Act → World → Prop} {md : Region.Mode} {S : World → Prop} {c : Nat} {i : Nat} {o : Oper} {fuel : Nat} {listed : Array Bool} {a : Act} {w : World} (hr : Region.ready md ops listed = [i]) (ho : ops[i]? = some o) (hw : Region.wanted o (yielded ops a.tmps) = true)
    (h : ∀ K' : Act → World → Prop, Shut (∀ a w, ((listed.setIfInBounds i true).getD c true = false → S w) → wpAnyC P md ops Q S c fuel (listed.setIfInBounds i true) a w → K' a w) → Oper.wp P o a w K' Q) : wpAnyC P md ops Q S c (fuel + 1) listed a w :=
  wpAnyC_one hr ho fun K' hK => by rw [if_pos hw]; exact h K' hK
section
variable {P : Program} {ops : Array Oper} {Q : Exit → Act → World → Prop} {md : Region.Mode} {S : World → Prop} {c : Nat}
/-- what looks at no memory may be taken first, whatever waits for it -/
theorem wpAnyC_pure {i : Nat} {oi : Oper} {v : Value} (hi : ops[i]? = some oi) (hsel : ∀ (j : Nat) (o : Oper) cs b, ops[j]? = some o → o.op ≠ .select cs b)
    (hQ : ∀ c a w, Q (.panic c) (a.put oi.dst v) w → Q (.panic c) a w) (hic : i ≠ c) :
    ∀ (fuel : Nat) (listed : Array Bool) (a : Act) (w : World),
      (∀ j oj, ops[j]? = some oj → j ≠ i → listed.getD j true = false → (∀ e ∈ oj.after, Region.binds md e = true → e.on ≠ i) → oi.apart ops oj = true) →
      i ∈ Region.ready md ops listed → YieldsIf P ops (fun _ => True) oi v a → (listed.getD c true = false → S w) →
      wpAnyC P md ops Q S c fuel (listed.setIfInBounds i true) (a.put oi.dst v) w → wpAnyC P md ops Q S c (fuel + 1) listed a w := by
  intro fuel
  induction fuel with
  | zero =>
    intro listed a w _ hr hy hS H
    refine ⟨fun h => (by rw [h] at hr; cases hr), fun j hj => ?_⟩
    by_cases hji : j = i
    · subst hji; exact hy.wpOp hi trivial ⟨fun h => hS (by rwa [getD_set_ne true hic] at h), H⟩
    · have := ready_mono hj hji
      rw [H.1] at this
      cases this
  | succ fuel ih =>
    intro listed a w hfree hr hy hS H
    refine ⟨fun h => (by rw [h] at hr; cases hr), fun j hj => ?_⟩
    by_cases hji : j = i
    · subst hji; exact hy.wpOp hi trivial ⟨fun h => hS (by rwa [getD_set_ne true hic] at h), H⟩
    · have h1 := H.2 j (ready_mono hj hji)
      obtain ⟨hjun, oj, hoj, hall⟩ := mem_ready.1 hj
      have hnot : ∀ e ∈ oj.after, Region.binds md e = true → e.on ≠ i := fun e he hb heq => by
        have h1 := hall e he hb
        have h0 := (mem_ready.1 hr).1
        rw [heq] at h1
        rcases Nat.lt_or_ge i listed.size with h' | h'
        · simp [h'] at h0 h1; rw [h0] at h1; cases h1
        · simp [Array.getElem?_eq_none h'] at h1
      have h2 := wpOp_putIf hoj (hfree j oj hoj hji hjun hnot) (fun cs b => hsel i oi cs b hi) (fun cs b => hsel j oj cs b hoj) hQ hy h1
      have hfree' : ∀ m ok, ops[m]? = some ok → m ≠ i → (listed.setIfInBounds j true).getD m true = false →
          (∀ e ∈ ok.after, Region.binds md e = true → e.on ≠ i) → oi.apart ops ok = true := fun m ok hm hmi hun hno => by
        refine hfree m ok hm hmi ?_ hno
        by_cases hjm : j = m
        · subst hjm; exact hjun
        · rw [getD_set_ne true hjm] at hun; exact hun
      have hcc : (listed.setIfInBounds j true).getD c true = false → ((listed.setIfInBounds i true).setIfInBounds j true).getD c true = false := fun h => by
        rw [← Array.setIfInBounds_comm _ _ hji, getD_set_ne true hic]; exact h
      refine wpOp_mono (fun a' w' h3 => ⟨fun h => h3.2.1 (hcc h), ih (listed.setIfInBounds j true) a' w' hfree' (ready_mono hr (Ne.symm hji)) h3.1 (fun h => h3.2.1 (hcc h)) ?_⟩) h2
      rw [Array.setIfInBounds_comm _ _ hji]
      exact h3.2.2
theorem wpAnyC_takeP {i : Nat} {oi : Oper} {v : Value} {fuel : Nat} {listed : Array Bool} {a : Act} {w : World} (hi : ops[i]? = some oi)
    (hs : Region.noSelect ops = true) (hf : Region.free md ops listed i = true) (hr : (Region.ready md ops listed).contains i = true) (hne : (i != c) = true)
    (hQ : ∀ c a w, Q (.panic c) (a.put oi.dst v) w → Q (.panic c) a w) (hy : YieldsIf P ops (fun _ => True) oi v a) (hS : S w)
    (h : wpAnyC P md ops Q S c fuel (listed.setIfInBounds i true) (a.put oi.dst v) w) : wpAnyC P md ops Q S c (fuel + 1) listed a w :=
  wpAnyC_pure hi (Region.noSelect_spec hs) hQ (by simpa using hne) fuel listed a w (Region.free_spec hi hf) (by simpa using hr) hy (fun _ => hS) h
end
end Go.Proofs.YtglbelmljdgaoaaGreatDoor
namespace Go.Proofs.YtglbelmljdgaoaaGreatDoor
open Go.RowKit

/-- what nettext.Diff returns -/
def RetDf (w : World) (r : List ByteArray × Int) (e : Ending) (w' : World) : Prop := ∃ A c, e = .returned (.tuple #[.slice A r.1.length c, I r.2]) ∧ Row w' w.heap.size 9 1 (.slice A r.1.length c) r.1.length (r.1.map S) ∧ Below w.heap.size w w'
theorem contS_any (l : List ByteArray) (n : Nat) (A : Option Addr) (c : Nat) (x : ByteArray) (w : World) (B : Nat) (hln : l.length = n) (hr : Reads w B 1 A n (l.map S)) (hl : n ≤ 1000000) :
    Calls Tryz.prog 30 #[.slice A n c, .string x] w fun e w' => e = .returned (.bool (Lib.containsS l x)) ∧ w' = w := (containsS_any l n A c x w B hln hr hl).mono fun _ _ h => ⟨h.1, h.2.symm⟩
theorem filter_take {α : Type} (p : α → Bool) {l : List α} {k : Nat} {x : α} (h : l[k]? = some x) : (l.take (k + 1)).filter p = (l.take k).filter p ++ if p x then [x] else [] := by
  rw [List.take_add_one, h, List.filter_append]
  cases hp : p x <;> simp [hp]
/-- six cells of a block -/
structure Six (w : World) (g : Nat) (x0 x1 x2 x3 x4 x5 : Value) : Prop where
  c0 : w.cell? ⟨g, 0, none⟩ = some x0
  c1 : w.cell? ⟨g, 1, none⟩ = some x1
  c2 : w.cell? ⟨g, 2, none⟩ = some x2
  c3 : w.cell? ⟨g, 3, none⟩ = some x3
  c4 : w.cell? ⟨g, 4, none⟩ = some x4
  c5 : w.cell? ⟨g, 5, none⟩ = some x5
theorem Six.of {w : World} {g : Nat} {t : TypeId} {x0 x1 x2 x3 x4 x5 : Value} (h : Blk w g t #[x0, x1, x2, x3, x4, x5]) : Six w g x0 x1 x2 x3 x4 x5 := ⟨h.cell 0, h.cell 1, h.cell 2, h.cell 3, h.cell 4, h.cell 5⟩
theorem Six.call {w w' : World} {g : Nat} {x0 x1 x2 x3 x4 x5 : Value} (h : Six w g x0 x1 x2 x3 x4 x5) (hb : Below w.heap.size w w') : Six w' g x0 x1 x2 x3 x4 x5 :=
  have k := World.block_lt_of_cell? w _ h.c0
  ⟨(hb.cell (p := ⟨g, 0, none⟩) k).trans h.c0, (hb.cell (p := ⟨g, 1, none⟩) k).trans h.c1, (hb.cell (p := ⟨g, 2, none⟩) k).trans h.c2, (hb.cell (p := ⟨g, 3, none⟩) k).trans h.c3, (hb.cell (p := ⟨g, 4, none⟩) k).trans h.c4, (hb.cell (p := ⟨g, 5, none⟩) k).trans h.c5⟩
theorem below_new0 (w : World) (o : Obj) : Below w.heap.size w (w.alloc o) := (Below.refl _ w).alloc (Nat.le_refl _) _
theorem below_draw0 (w : World) : Below w.heap.size w w.drew := ⟨rfl, rfl, rfl, Nat.le_refl _, fun _ _ => rfl⟩
/-- the differences so far -/
def difK (c : UInt8) (l m : List ByteArray) (k : Nat) : List ByteArray := ((l.take k).filter fun s => !Lib.containsS m s).map fun s => ba ([c, 32] ++ bs s)
theorem difK_succ {c : UInt8} {l m : List ByteArray} {k : Nat} {x : ByteArray} (h : l[k]? = some x) : difK c l m (k + 1) = difK c l m k ++ if Lib.containsS m x = true then [] else [⟨#[c, 32]⟩ ++ x] := by
  rw [difK, filter_take _ h, List.map_append, difK]
  congr 1
  cases hc : Lib.containsS m x
  · have e : ba (c :: 32 :: bs x) = ⟨#[c, 32]⟩ ++ x := bs_inj (by rw [bs_ba, bs_app]; rfl)
    simp [e]
  · simp
theorem difK_len (c : UInt8) (l m : List ByteArray) (k : Nat) : (difK c l m k).length ≤ k := by
  rw [difK, List.length_map]
  exact Nat.le_trans (List.length_filter_le _ _) (by rw [List.length_take]; omega)
set_option maxRecDepth 100000 in
set_option maxHeartbeats 8000000 in
theorem diff_any (a b : NetD) (u v : NetV) (w : World) (hA : Net w a u) (hB : Net w b v) (htab : Tab w) : Calls Tryz.prog 11 #[u.val a, v.val b] w (RetDf w (diffN a b)) := by
  have hb0 := below2 w (Obj.cells (u.parts a) 29) (Obj.cells (v.parts b) 29)
  have HA := Lib.hid (hA.below hb0)
  have HN := Lib.hid (hB.below hb0)
  have HB := Lib.hid hb0
  have HTB := Lib.hid htab
  have HX := Lib.hid (Six.of ((Blk.new w 29 (u.parts a)).alloc (Obj.cells (v.parts b) 29)))
  have HY := Lib.hid (Six.of (Blk.new (w.alloc (Obj.cells (u.parts a) 29)) 29 (v.parts b)))
  rw [World.size_alloc] at HY
  clear hA hB htab hb0
  obtain ⟨w2, hw2⟩ : ∃ w2, (w.alloc (Obj.cells (u.parts a) 29)).alloc (Obj.cells (v.parts b) 29) = w2 := ⟨_, rfl⟩
  have HS2 := Lib.hid (show w2.heap.size = w.heap.size + 1 + 1 by rw [← hw2, World.size_alloc, World.size_alloc])
  unfold NetV.val NetV.parts at *
  go_enter Tryz.func11, Tryz.ntmps11
  go_upto_region 1 with (fail)
  rw [hw2] at HA HN HB HX HY
  clear hw2
  have CA := Lib.hid fun W (h : Net W a u) => netCheck_any a u W h
  have CB := Lib.hid fun W (h : Net W b v) => netCheck_any b v W h
  unfold NetV.val NetV.parts at CA CB
  have x0 := HX.out.c0
  have x1 := HX.out.c1
  have x2 := HX.out.c2
  have x3 := HX.out.c3
  have x4 := HX.out.c4
  have x5 := HX.out.c5
  have y0 := HY.out.c0
  have y1 := HY.out.c1
  have y2 := HY.out.c2
  have y3 := HY.out.c3
  have y4 := HY.out.c4
  have y5 := HY.out.c5
  go_wp2
  refine wp_loop_rounds 3 ?_
  rw [rounds_succ]
  go_wp2_with fail
  have hz := below2 w2 (Obj.cells #[.slice u.na a.nodes.length u.nc, .slice u.sa a.switches.length u.sc, .slice u.ba a.branches.length u.bc, .slice u.ga a.gens.length u.gc, .slice u.la a.loads.length u.lc, .slice u.ta a.stores.length u.tc, .slice v.na b.nodes.length v.nc, .slice v.sa b.switches.length v.sc, .slice v.ba b.branches.length v.bc, .slice v.ga b.gens.length v.gc, .slice v.la b.loads.length v.lc, .slice v.ta b.stores.length v.tc] 29) (Obj.cells #[.slice u.na a.nodes.length u.nc, .slice u.sa a.switches.length u.sc, .slice u.ba a.branches.length u.bc, .slice u.ga a.gens.length u.gc, .slice u.la a.loads.length u.lc, .slice u.ta a.stores.length u.tc] 29)
  refine (CA.out _ (HA.out.below hz)).mono ?_
  rintro e w3 ⟨rfl, hb⟩
  have HZ := Lib.hid (show Blk w3 w2.heap.size 29 #[(.slice u.na a.nodes.length u.nc), (.slice u.sa a.switches.length u.sc), (.slice u.ba a.branches.length u.bc), (.slice u.ga a.gens.length u.gc), (.slice u.la a.loads.length u.lc), (.slice u.ta a.stores.length u.tc), (.slice v.na b.nodes.length v.nc), (.slice v.sa b.switches.length v.sc), (.slice v.ba b.branches.length v.bc), (.slice v.ga b.gens.length v.gc), (.slice v.la b.loads.length v.lc), (.slice v.ta b.stores.length v.tc)] from ((Blk.new w2 29 #[(.slice u.na a.nodes.length u.nc), (.slice u.sa a.switches.length u.sc), (.slice u.ba a.branches.length u.bc), (.slice u.ga a.gens.length u.gc), (.slice u.la a.loads.length u.lc), (.slice u.ta a.stores.length u.tc), (.slice v.na b.nodes.length v.nc), (.slice v.sa b.switches.length v.sc), (.slice v.ba b.branches.length v.bc), (.slice v.ga b.gens.length v.gc), (.slice v.la b.loads.length v.lc), (.slice v.ta b.stores.length v.tc)]).alloc _).below hb (by rw [World.size_alloc, World.size_alloc]; omega))
  replace hb := hz.trans (hb.mono hz.size)
  clear hz
  replace HA := Lib.hid (HA.out.below hb)
  replace HN := Lib.hid (HN.out.below hb)
  replace HB := Lib.hid (HB.out.trans (hb.mono HB.out.size))
  replace HX := Lib.hid (HX.out.call hb)
  replace HY := Lib.hid (HY.out.call hb)
  have HW := Lib.hid hb
  clear hb x0 x1 x2 x3 x4 x5 y0 y1 y2 y3 y4 y5
  by_cases h0 : checkN a = 0
  · have HC0 := Lib.hid h0
    rw [h0]
    clear h0
    have y0 := HZ.out.cell 6
    have y1 := HZ.out.cell 7
    have y2 := HZ.out.cell 8
    have y3 := HZ.out.cell 9
    have y4 := HZ.out.cell 10
    have y5 := HZ.out.cell 11
    go_wp2
    rw [rounds_succ]
    go_wp2_with fail
    have hz := below_new0 w3 (Obj.cells #[(.slice v.na b.nodes.length v.nc), (.slice v.sa b.switches.length v.sc), (.slice v.ba b.branches.length v.bc), (.slice v.ga b.gens.length v.gc), (.slice v.la b.loads.length v.lc), (.slice v.ta b.stores.length v.tc)] 29)
    refine (CB.out _ (HN.out.below hz)).mono ?_
    rintro e w4 ⟨rfl, hb⟩
    replace hb := hz.trans (hb.mono hz.size)
    clear hz HZ y0 y1 y2 y3 y4 y5
    replace HA := Lib.hid (HA.out.below hb)
    replace HN := Lib.hid (HN.out.below hb)
    replace HB := Lib.hid (HB.out.trans (hb.mono HB.out.size))
    replace HX := Lib.hid (HX.out.call hb)
    replace HY := Lib.hid (HY.out.call hb)
    clear hb HW
    by_cases h1 : checkN b = 0
    · have HC1 := Lib.hid h1
      rw [h1]
      clear h1
      go_wp2
      rw [rounds_succ]
      go_upto_region 8 with (fail)
      have hd := below_draw0 w4
      replace HA := Lib.hid (HA.out.below hd)
      replace HN := Lib.hid (HN.out.below hd)
      replace HB := Lib.hid (HB.out.trans (hd.mono HB.out.size))
      replace HX := Lib.hid (HX.out.call hd)
      replace HY := Lib.hid (HY.out.call hd)
      clear hd
      refine wp_region_c (fun w' => w'.cell? ⟨w.heap.size, 0, none⟩ = some (.slice u.na a.nodes.length u.nc) ∧ w'.cell? ⟨w.heap.size, 1, none⟩ = some (.slice u.sa a.switches.length u.sc) ∧ w'.cell? ⟨w.heap.size, 2, none⟩ = some (.slice u.ba a.branches.length u.bc) ∧ w'.cell? ⟨w.heap.size, 3, none⟩ = some (.slice u.ga a.gens.length u.gc) ∧ w'.cell? ⟨w.heap.size, 4, none⟩ = some (.slice u.la a.loads.length u.lc) ∧ w'.cell? ⟨w.heap.size, 5, none⟩ = some (.slice u.ta a.stores.length u.tc) ∧ w'.cell? ⟨w.heap.size + 1, 0, none⟩ = some (.slice v.na b.nodes.length v.nc) ∧ w'.cell? ⟨w.heap.size + 1, 1, none⟩ = some (.slice v.sa b.switches.length v.sc) ∧ w'.cell? ⟨w.heap.size + 1, 2, none⟩ = some (.slice v.ba b.branches.length v.bc) ∧ w'.cell? ⟨w.heap.size + 1, 3, none⟩ = some (.slice v.ga b.gens.length v.gc) ∧ w'.cell? ⟨w.heap.size + 1, 4, none⟩ = some (.slice v.la b.loads.length v.lc) ∧ w'.cell? ⟨w.heap.size + 1, 5, none⟩ = some (.slice v.ta b.stores.length v.tc)) 3 (by kernel_rfl) ?_
      generalize w4.drew = W1 at *
      refine wpAnyC_take8 (i := 0) (oi := _) (v := .agg #[.slice u.na a.nodes.length u.nc, .slice u.sa a.switches.length u.sc, .slice u.ba a.branches.length u.bc, .slice u.ga a.gens.length u.gc, .slice u.la a.loads.length u.lc, .slice u.ta a.stores.length u.tc]) rfl (by kernel_rfl) (by kernel_rfl) (by kernel_rfl) (by kernel_rfl) (by kernel_rfl) (by kernel_rfl) (fun _ _ _ h => h) (Or.inl ⟨by rfl, ?_⟩) ⟨HX.out.c0, HX.out.c1, HX.out.c2, HX.out.c3, HX.out.c4, HX.out.c5, HY.out.c0, HY.out.c1, HY.out.c2, HY.out.c3, HY.out.c4, HY.out.c5⟩ ?_
      · intro w hSw
        obtain ⟨s0, s1, s2, s3, s4, s5, s6, s7, s8, s9, s10, s11⟩ := hSw
        go_simp
      try simp only [Act.put, List.setIfInBounds_toArray]
      refine wpAnyC_take8 (i := 2) (oi := _) (v := .agg #[.slice v.na b.nodes.length v.nc, .slice v.sa b.switches.length v.sc, .slice v.ba b.branches.length v.bc, .slice v.ga b.gens.length v.gc, .slice v.la b.loads.length v.lc, .slice v.ta b.stores.length v.tc]) rfl (by kernel_rfl) (by kernel_rfl) (by kernel_rfl) (by kernel_rfl) (by kernel_rfl) (by kernel_rfl) (fun _ _ _ h => h) (Or.inl ⟨by rfl, ?_⟩) ⟨HX.out.c0, HX.out.c1, HX.out.c2, HX.out.c3, HX.out.c4, HX.out.c5, HY.out.c0, HY.out.c1, HY.out.c2, HY.out.c3, HY.out.c4, HY.out.c5⟩ ?_
      · intro w hSw
        obtain ⟨s0, s1, s2, s3, s4, s5, s6, s7, s8, s9, s10, s11⟩ := hSw
        go_simp
      try simp only [Act.put]
      have L1 := Lib.hid (lines_any a u W1 HA.out.net HC0.out (tab_below HTB.out HB.out))
      unfold NetV.val NetV.parts at L1
      refine wpAnyC_one (i := 1) (by kernel_rfl) rfl (fun K hK => ?_)
      go_simp
      go_at_call 29
      refine (L1.out).mono ?_
      rintro e w5 ⟨v1, rfl, hr1, hb⟩
      have R1 := Lib.hid hr1
      clear hr1 L1
      replace HA := Lib.hid (HA.out.below hb)
      replace HN := Lib.hid (HN.out.below hb)
      replace HB := Lib.hid (HB.out.trans (hb.mono HB.out.size))
      replace HX := Lib.hid (HX.out.call hb)
      replace HY := Lib.hid (HY.out.call hb)
      clear hb
      refine hK.out _ _ (fun _ => ⟨HX.out.c0, HX.out.c1, HX.out.c2, HX.out.c3, HX.out.c4, HX.out.c5, HY.out.c0, HY.out.c1, HY.out.c2, HY.out.c3, HY.out.c4, HY.out.c5⟩) ?_
      clear hK K
      try simp only [Act.put, List.setIfInBounds_toArray, List.set_cons_zero, List.set_cons_succ]
      have L2 := Lib.hid (lines_any b v w5 HN.out.net HC1.out (tab_below HTB.out HB.out))
      unfold NetV.val NetV.parts at L2
      refine wpAnyC_one (i := 3) (by kernel_rfl) rfl (fun K hK => ?_)
      go_simp
      go_at_call 29
      refine (L2.out).mono ?_
      rintro e w6 ⟨v2, rfl, hr2, hb⟩
      have R2 := Lib.hid hr2
      clear hr2 L2
      replace HA := Lib.hid (HA.out.below hb)
      replace HN := Lib.hid (HN.out.below hb)
      replace HB := Lib.hid (HB.out.trans (hb.mono HB.out.size))
      replace HX := Lib.hid (HX.out.call hb)
      replace HY := Lib.hid (HY.out.call hb)
      replace R1 := Lib.hid (R1.out.call hb)
      clear hb
      refine hK.out _ _ (fun _ => ⟨HX.out.c0, HX.out.c1, HX.out.c2, HX.out.c3, HX.out.c4, HX.out.c5, HY.out.c0, HY.out.c1, HY.out.c2, HY.out.c3, HY.out.c4, HY.out.c5⟩) ?_
      clear hK K
      try simp only [Act.put, List.setIfInBounds_toArray, List.set_cons_zero, List.set_cons_succ]
      refine wpAnyC_one (i := 4) (by kernel_rfl) rfl (fun K hK => ?_)
      go_simp
      refine hK.out _ _ (fun _ => ⟨HX.out.c0, HX.out.c1, HX.out.c2, HX.out.c3, HX.out.c4, HX.out.c5, HY.out.c0, HY.out.c1, HY.out.c2, HY.out.c3, HY.out.c4, HY.out.c5⟩) ?_
      clear hK K
      try simp only [Act.put, List.setIfInBounds_toArray, List.set_cons_zero, List.set_cons_succ]
      refine wpAnyC_one (i := 5) (by kernel_rfl) rfl (fun K hK => ?_)
      go_simp
      refine hK.out _ _ (fun h => absurd h (by decide)) ?_
      clear hK K
      try simp only [Act.put, List.setIfInBounds_toArray, List.set_cons_zero, List.set_cons_succ]
      refine wpAnyC_done (by kernel_rfl) ?_ _
      have HLS1 := Lib.hid (lines_size (nok HC0.out))
      have HLS2 := Lib.hid (lines_size (nok HC1.out))
      have hl1 := lines_len (vnet HC0.out)
      have hl2 := lines_len (vnet HC1.out)
      have HP := Lib.hid (show diffN a b = (diffL (linesN a) (linesN b), 0) by rw [diffN, if_neg (fun k => k HC0.out), if_neg (fun k => k HC1.out)])
      clear HA HN HX HY HC0 HC1 HTB CA CB HS2
      generalize linesN a = la at *
      generalize linesN b = lb at *
      obtain ⟨n1, hn1⟩ : ∃ n1, la.length = n1 := ⟨_, rfl⟩
      rw [hn1] at R1 hl1
      have HM1 := Lib.hid hn1
      obtain ⟨A1, c1, rfl⟩ : ∃ A1 c1, v1 = .slice A1 n1 c1 := R1.out.val
      have G1 := Lib.hid (show Reads w6 w6.heap.size 1 A1 n1 (la.map S) from R1.out.reads)
      clear hn1 R1
      obtain ⟨n2, hn2⟩ : ∃ n2, lb.length = n2 := ⟨_, rfl⟩
      rw [hn2] at R2 hl2
      have HM2 := Lib.hid hn2
      obtain ⟨A2, c2, rfl⟩ : ∃ A2 c2, v2 = .slice A2 n2 c2 := R2.out.val
      have G2 := Lib.hid (show Reads w6 w6.heap.size 1 A2 n2 (lb.map S) from R2.out.reads)
      clear hn2 R2
      have H0 := Lib.hid (Below.refl w6.heap.size w6)
      have HN0 := Lib.hid (show Row w6 w6.heap.size 9 1 (.slice none 0 0) (difK 45 la lb 0).length ((difK 45 la lb 0).map S) from Row.nil _ _ _ _)
      go_wp2
      go_loopg [11, 36] (n1 - 0) (fun r o t wr => ∃ k : Nat, ∃ vo : Value, o = vo ∧ r = n1 - k ∧ t = I k ∧ k ≤ n1 ∧ Hid (Row wr w6.heap.size 9 1 vo (difK 45 la lb k).length ((difK 45 la lb k).map S)) ∧ Hid (Below w6.heap.size w6 wr))
      case atStart => exact ⟨0, _, rfl, rfl, rfl, by omega, HN0, H0⟩
      case round =>
        clear HN0 H0
        obtain ⟨k, vo, hvo, rfl, rfl, hk, HN0, H0⟩ := hrel
        replace hvo := hvo.symm
        subst hvo
        obtain ⟨wa, rfl⟩ : ∃ wa : World, wa = wr := ⟨_, rfl⟩
        by_cases hlt : k < n1
        · obtain ⟨bb, off, xv, rfl, _, hu, hc⟩ := (G1.out.below H0.out).at1 hlt
          obtain ⟨x, hx⟩ : ∃ x, la[k]? = some x := ⟨_, List.getElem?_eq_getElem (by rw [HM1.out]; exact hlt)⟩
          obtain rfl : xv = S x := by rw [List.getElem?_map, hx] at hu; simpa using hu.symm
          have hxs := HLS1.out x (List.mem_of_getElem? hx)
          have HT := Lib.hid (difK_succ (c := 45) (m := lb) hx)
          have hdl := difK_len 45 la lb k
          clear hu hx
          have HCT := Lib.hid (contS_any lb n2 A2 c2 x wa _ HM2.out (G2.out.below H0.out) (by omega))
          go_wp2_with fail
          refine HCT.out.mono ?_
          rintro e w7 ⟨rfl, hw7⟩
          rw [hw7]
          clear HCT hw7 w7
          cases hct : Lib.containsS lb x with
          | true =>
            have HT2 := Lib.hid (show difK 45 la lb (k + 1) = difK 45 la lb k by rw [HT.out, if_pos hct, List.append_nil])
            go_wp2
            go_roundg (n1 - (k + 1))
            case measure => omega
            case rel => exact ⟨k + 1, _, rfl, rfl, by go_num, by omega, by rw [HT2.out]; exact HN0, H0⟩
          | false =>
            have HT2 := Lib.hid (show difK 45 la lb (k + 1) = difK 45 la lb k ++ [⟨#[45, 32]⟩ ++ x] by rw [HT.out, if_neg (by rw [hct]; decide)])
            have hql : (difK 45 la lb k).length ≤ 1000000 := by omega
            generalize difK 45 la lb k = q at *
            have q1 := run_string_add_sum (P := Tryz.prog) wa ⟨#[45, 32]⟩ x (by have e2 : (⟨#[45, 32]⟩ : ByteArray).size = 2 := rfl; omega)
            generalize (⟨#[45, 32]⟩ : ByteArray) ++ x = tx at *
            go_wp2_with (at_builtin; refine wpList_appS rfl _ _ rfl w6.heap.size vo q tx wa.heap.size rfl rfl rfl HN0.out hql H0.out.size ?_)
            intro v9 w9 hrow hb2
            have HNN := Lib.hid (show Row w9 w6.heap.size 9 1 v9 (difK 45 la lb (k + 1)).length ((difK 45 la lb (k + 1)).map S) by rw [HT2.out, List.length_append, List.map_append]; exact hrow)
            have HBN := Lib.hid (H0.out.trans (((Below.refl _ wa).alloc (Nat.le_refl _) _).mono H0.out.size |>.trans hb2))
            clear hrow hb2 HN0 H0 HT HT2
            go_wp2
            go_roundg (n1 - (k + 1))
            case measure => omega
            case rel => exact ⟨k + 1, _, rfl, rfl, by go_num, by omega, HNN, HBN⟩
        · obtain rfl : k = n1 := by omega
          have hq0 := difK_len 45 la lb k
          have HQ := Lib.hid (show difK 45 la lb k = (la.filter fun s => !Lib.containsS lb s).map (fun s => ba ([45, 32] ++ bs s)) by rw [difK, List.take_of_length_le (by rw [HM1.out]; exact Nat.le_refl _)])
          generalize difK 45 la lb k = q0 at *
          obtain ⟨n1, rfl⟩ : ∃ n1 : Nat, n1 = k := ⟨_, rfl⟩
          replace HN0 := Lib.hid (show Row wa w6.heap.size 9 1 vo (q0 ++ difK 43 lb la 0).length ((q0 ++ difK 43 lb la 0).map S) by rw [show difK 43 lb la 0 = [] from rfl, List.append_nil]; exact HN0.out)
          go_wp2
          go_loopg [11, 52] (n2 - 0) (fun r o t wr => ∃ k : Nat, ∃ vo : Value, o = vo ∧ r = n2 - k ∧ t = I k ∧ k ≤ n2 ∧ Hid (Row wr w6.heap.size 9 1 vo ((q0 ++ difK 43 lb la k)).length (((q0 ++ difK 43 lb la k)).map S)) ∧ Hid (Below w6.heap.size w6 wr))
          case atStart => exact ⟨0, _, rfl, rfl, rfl, by omega, HN0, H0⟩
          case round =>
            clear HN0 H0
            obtain ⟨k, vo, hvo, rfl, rfl, hk, HN0, H0⟩ := hrel
            replace hvo := hvo.symm
            subst hvo
            obtain ⟨wa, rfl⟩ : ∃ wa : World, wa = wr := ⟨_, rfl⟩
            by_cases hlt : k < n2
            · obtain ⟨bb, off, xv, rfl, _, hu, hc⟩ := (G2.out.below H0.out).at1 hlt
              obtain ⟨x, hx⟩ : ∃ x, lb[k]? = some x := ⟨_, List.getElem?_eq_getElem (by rw [HM2.out]; exact hlt)⟩
              obtain rfl : xv = S x := by rw [List.getElem?_map, hx] at hu; simpa using hu.symm
              have hxs := HLS2.out x (List.mem_of_getElem? hx)
              have HT := Lib.hid (difK_succ (c := 43) (m := la) hx)
              have hdl := difK_len 43 lb la k
              clear hu hx
              have HCT := Lib.hid (contS_any la n1 A1 c1 x wa _ HM1.out (G1.out.below H0.out) (by omega))
              go_wp2_with fail
              refine HCT.out.mono ?_
              rintro e w7 ⟨rfl, hw7⟩
              rw [hw7]
              clear HCT hw7 w7
              cases hct : Lib.containsS la x with
              | true =>
                have HT2 := Lib.hid (show q0 ++ difK 43 lb la (k + 1) = q0 ++ difK 43 lb la k by rw [HT.out, if_pos hct, List.append_nil])
                go_wp2
                go_roundg (n2 - (k + 1))
                case measure => omega
                case rel => exact ⟨k + 1, _, rfl, rfl, by go_num, by omega, by rw [HT2.out]; exact HN0, H0⟩
              | false =>
                have HT2 := Lib.hid (show q0 ++ difK 43 lb la (k + 1) = (q0 ++ difK 43 lb la k) ++ [⟨#[43, 32]⟩ ++ x] by rw [HT.out, if_neg (by rw [hct]; decide), List.append_assoc])
                have hql : (q0 ++ difK 43 lb la k).length ≤ 1000000 := by rw [List.length_append]; omega
                generalize (q0 ++ difK 43 lb la k) = q at *
                have q1 := run_string_add_sum (P := Tryz.prog) wa ⟨#[43, 32]⟩ x (by have e2 : (⟨#[43, 32]⟩ : ByteArray).size = 2 := rfl; omega)
                generalize (⟨#[43, 32]⟩ : ByteArray) ++ x = tx at *
                go_wp2_with (at_builtin; refine wpList_appS rfl _ _ rfl w6.heap.size vo q tx wa.heap.size rfl rfl rfl HN0.out hql H0.out.size ?_)
                intro v9 w9 hrow hb2
                have HNN := Lib.hid (show Row w9 w6.heap.size 9 1 v9 ((q0 ++ difK 43 lb la (k + 1))).length (((q0 ++ difK 43 lb la (k + 1))).map S) by rw [HT2.out, List.length_append, List.map_append]; exact hrow)
                have HBN := Lib.hid (H0.out.trans (((Below.refl _ wa).alloc (Nat.le_refl _) _).mono H0.out.size |>.trans hb2))
                clear hrow hb2 HN0 H0 HT HT2
                go_wp2
                go_roundg (n2 - (k + 1))
                case measure => omega
                case rel => exact ⟨k + 1, _, rfl, rfl, by go_num, by omega, HNN, HBN⟩
            · obtain rfl : k = n2 := by omega
              have HD := Lib.hid (show q0 ++ difK 43 lb la k = diffL la lb by rw [diffL, HQ.out, difK, List.take_of_length_le (by rw [HM2.out]; exact Nat.le_refl _)])
              rw [HD.out] at HN0
              obtain ⟨A9, c9, rfl⟩ : ∃ A9 c9, vo = .slice A9 (diffL la lb).length c9 := HN0.out.val
              go_wp2
              go_ret2
              rw [HP.out]
              exact ⟨A9, c9, rfl, HN0.out.less HB.out.size, HB.out.trans (H0.out.mono HB.out.size)⟩
    · have HP0 := Lib.hid h1
      have tc : (checkN b != 0) = true := bne_iff_ne.2 h1
      have HP := Lib.hid (show diffN a b = ([], checkN b) by rw [diffN, if_neg (fun k => k HC0.out), if_pos HP0.out])
      clear h1
      generalize checkN b = cc at *
      go_wp2
      go_ret2
      rw [HP.out]
      exact ⟨none, 0, rfl, Row.nil _ _ _ _, HB.out⟩
  · have HP0 := Lib.hid h0
    have tc : (checkN a != 0) = true := bne_iff_ne.2 h0
    have HP := Lib.hid (show diffN a b = ([], checkN a) by rw [diffN, if_pos HP0.out])
    clear h0
    generalize checkN a = cc at *
    go_wp2
    go_ret2
    rw [HP.out]
    exact ⟨none, 0, rfl, Row.nil _ _ _ _, HB.out⟩
end Go.Proofs.YtglbelmljdgaoaaGreatDoor
