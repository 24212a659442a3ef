/- A region that draws its order: loads are taken first although their cells are written by stores at the region's end (which wait for every load). No program here. -/
import Derived.Deep.RegionHeld3
namespace Go.Proofs.YtenbglfkdldheaaGreatDoor
open Go
section
variable {P : Program} {ops : Array Oper} {Q : Exit → Act → World → Prop} {md : Region.Mode} {S : World → Prop} {c : Nat}
def cL (P : Program) (md : Region.Mode) (ops : Array Oper) (Q : Exit → Act → World → Prop) (S : World → Prop) (c : Nat) : Nat → Array Bool → Act → World → Prop
 | 0, listed, a, w => Region.ready md ops listed = [] ∧ Q .normal a w
 | fuel + 1, listed, a, w =>
  (Region.ready md ops listed = [] → Q .normal a w) ∧
  ∀ i ∈ Region.ready md ops listed, wpOp P ops Q i (fun a' w' => ((listed.setIfInBounds i true).getD c true = false → S w') ∧ cL P md ops Q S c fuel (listed.setIfInBounds i true) a' w') a w
theorem vA : ∀ (fuel : Nat) (listed : Array Bool) (a : Act) (w : World), cL P md ops Q S c fuel listed a w → wpAny P md ops Q fuel listed a w
 | 0, _, _, _, h => h
 | fuel + 1, _, _, _, h => ⟨h.1, fun i hi => wpOp_mono (fun a' w' h' => vA fuel _ a' w' h'.2) (h.2 i hi)⟩
def oY (md : Region.Mode) (ops : Array Oper) (i : Nat) : Nat → Nat → Bool
 | 0, c => c == i
 | n + 1, c => c == i || match ops[c]? with
  | some oc => oc.after.any fun e => Region.binds md e && oY md ops i n e.on
  | none => false
def vB (md : Region.Mode) (ops : Array Oper) (listed : Array Bool) : Prop := ∀ k ok, ops[k]? = some ok → listed.getD k true = true → ∀ e ∈ ok.after, Region.binds md e = true → listed.getD e.on true = true
def lP (md : Region.Mode) (ops : Array Oper) (listed : Array Bool) : Bool := (List.range ops.size).all fun k => match ops[k]? with
 | some ok => !(listed.getD k true) || ok.after.all fun e => !(Region.binds md e) || listed.getD e.on true
 | none => true
theorem yU {listed : Array Bool} (h : lP md ops listed = true) : vB md ops listed := by
 intro k ok hk hl e he hb
 unfold lP at h
 rw [List.all_eq_true] at h
 have h1 := h k (List.mem_range.2 (Array.getElem?_eq_some_iff.1 hk).1)
 rw [hk] at h1
 simp only [hl, Bool.not_true, Bool.false_or, Array.all_eq_true'] at h1
 have h2 := h1 e he
 simpa [hb] using h2
theorem vC {i : Nat} {listed : Array Bool} (hcl : vB md ops listed) (hi : listed.getD i true = false) : ∀ (n c : Nat), oY md ops i n c = true → listed.getD c true = false
 | 0, c, h => by
  simp only [oY, beq_iff_eq] at h
  rw [h]; exact hi
 | n + 1, c, h => by
  simp only [oY, Bool.or_eq_true, beq_iff_eq] at h
  rcases h with h | h
  ·rw [h]; exact hi
  ·cases ho : ops[c]? with
   | none => rw [ho] at h; cases h
   | some oc =>
    rw [ho] at h
    simp only [Array.any_eq_true'] at h
    obtain ⟨e, he, h2⟩ := h
    rw [Bool.and_eq_true] at h2
    have h3 := vC hcl hi n e.on h2.2
    cases hc : listed.getD c true with
    | false => rfl
    | true => rw [hcl c oc ho hc e he h2.1] at h3; cases h3
theorem aGk {listed : Array Bool} (hcl : vB md ops listed) {j : Nat} (hj : j ∈ Region.ready md ops listed) : vB md ops (listed.setIfInBounds j true) := by
 have mono : ∀ m, listed.getD m true = true → (listed.setIfInBounds j true).getD m true = true := by
  intro m hm
  by_cases h : j = m
  ·subst h
   rcases Nat.lt_or_ge j listed.size with h' | h'
   ·simp [h']
   ·simp
  ·rw [getD_set_ne true h]; exact hm
 intro k ok hk hl e he hb
 apply mono
 by_cases h : j = k
 ·subst h
  obtain ⟨_, oj, hoj, hall⟩ := mem_ready.1 hj
  rw [hk] at hoj
  injection hoj with hoj
  subst hoj
  have h1 := hall e he hb
  rcases Nat.lt_or_ge e.on listed.size with h' | h'
  ·simp [h'] at h1 ⊢; exact h1
  ·simp [Array.getElem?_eq_none h'] at h1
 ·rw [getD_set_ne true h] at hl
  exact hcl k ok hk hl e he hb
theorem qF {i : Nat} {oi : Oper} {v : Value} (hi : ops[i]? = some oi) (hsel : ∀ (j : Nat) (o : Oper) cs b, ops[j]? = some o → o.op ≠ .select cs b)
  (hQ : ∀ c a w, Q (.panic c) (a.put oi.dst v) w → Q (.panic c) a w) (hic : i ≠ c) {n : Nat} (hc : oY md ops i n c = true) :
  ∀ (fuel : Nat) (listed : Array Bool) (a : Act) (w : World), vB md ops listed →
   (∀ j oj, ops[j]? = some oj → j ≠ i → listed.getD j true = false → (∀ e ∈ oj.after, Region.binds md e = true → e.on ≠ i) → oi.apart ops oj = true) →
   i ∈ Region.ready md ops listed → YieldsIf P ops S oi v a → S w →
   cL P md ops Q S c fuel (listed.setIfInBounds i true) (a.put oi.dst v) w → cL P md ops Q S c (fuel + 1) listed a w := by
 intro fuel
 induction fuel with
 | zero =>
  intro listed a w _ _ hr hy hS H
  refine ⟨fun h => (by rw [h] at hr; cases hr), fun j hj => ?_⟩
  by_cases hji : j = i
  ·subst hji; exact hy.wpOp hi hS ⟨fun _ => hS, H⟩
  ·have := ready_mono hj hji
   rw [H.1] at this
   cases this
 | succ fuel ih =>
  intro listed a w hcl hfree hr hy hS H
  refine ⟨fun h => (by rw [h] at hr; cases hr), fun j hj => ?_⟩
  by_cases hji : j = i
  ·subst hji; exact hy.wpOp hi hS ⟨fun _ => hS, H⟩
  ·have h1 := H.2 j (ready_mono hj hji)
   obtain ⟨hjun, oj, hoj, hall⟩ := mem_ready.1 hj
   have hnot : ∀ e ∈ oj.after, Region.binds md e = true → e.on ≠ i := fun e he hb heq => by
    have h1 := hall e he hb
    have h0 := (mem_ready.1 hr).1
    rw [heq] at h1
    rcases Nat.lt_or_ge i listed.size with h' | h'
    ·simp [h'] at h0 h1; rw [h0] at h1; cases h1
    ·simp [Array.getElem?_eq_none h'] at h1
   have hcl1 := aGk hcl hj
   have hi1 : (listed.setIfInBounds j true).getD i true = false := by rw [getD_set_ne true hji]; exact (mem_ready.1 hr).1
   have hlc1 := vC hcl1 hi1 n c hc
   have hlc2 : ((listed.setIfInBounds i true).setIfInBounds j true).getD c true = false := by
    rw [← Array.setIfInBounds_comm _ _ hji, getD_set_ne true hic]; exact hlc1
   have h2 := wpOp_putIf hoj (hfree j oj hoj hji hjun hnot) (fun cs b => hsel i oi cs b hi) (fun cs b => hsel j oj cs b hoj) hQ hy h1
   have hfree' : ∀ m ok, ops[m]? = some ok → m ≠ i → (listed.setIfInBounds j true).getD m true = false →
     (∀ e ∈ ok.after, Region.binds md e = true → e.on ≠ i) → oi.apart ops ok = true := fun m ok hm hmi hun hno => by
    refine hfree m ok hm hmi ?_ hno
    by_cases hjm : j = m
    ·subst hjm; exact hjun
    ·rw [getD_set_ne true hjm] at hun; exact hun
   refine wpOp_mono (fun a' w' h3 => ⟨fun _ => h3.2.1 hlc2, ih (listed.setIfInBounds j true) a' w' hcl1 hfree' (ready_mono hr (Ne.symm hji)) h3.1 (h3.2.1 hlc2) ?_⟩) h2
   rw [Array.setIfInBounds_comm _ _ hji]
   exact h3.2.2
theorem eA {i : Nat} {oi : Oper} {v : Value} {fuel : Nat} {listed : Array Bool} {a : Act} {w : World} (hi : ops[i]? = some oi)
  (hs : Region.noSelect ops = true) (hf : Region.free md ops listed i = true) (hr : (Region.ready md ops listed).contains i = true) (hne : (i != c) = true) (hw : oY md ops i 4 c = true) (hcl : lP md ops listed = true)
  (hQ : ∀ c a w, Q (.panic c) (a.put oi.dst v) w → Q (.panic c) a w) (hy : YieldsIf P ops S oi v a) (hS : S w)
  (h : cL P md ops Q S c fuel (listed.setIfInBounds i true) (a.put oi.dst v) w) : cL P md ops Q S c (fuel + 1) listed a w :=
 qF hi (Region.noSelect_spec hs) hQ (by simpa using hne) hw fuel listed a w (yU hcl) (Region.free_spec hi hf) (by simpa using hr) hy hS h
theorem aGl {i : Nat} {o : Oper} {fuel : Nat} {listed : Array Bool} {a : Act} {w : World} (hr : Region.ready md ops listed = [i]) (ho : ops[i]? = some o)
  (h : ∀ K' : Act → World → Prop, Shut (∀ a w, ((listed.setIfInBounds i true).getD c true = false → S w) → cL P md ops Q S c fuel (listed.setIfInBounds i true) a w → K' a w) → if Region.wanted o (yielded ops a.tmps) = true then Oper.wp P o a w K' Q else K' (a.put o.dst undef) w) : cL P md ops Q S c (fuel + 1) listed a w := by
 refine ⟨fun h0 => (by rw [hr] at h0; cases h0), fun j hj => ?_⟩
 rw [hr] at hj
 obtain rfl : j = i := by simpa using hj
 exact wpOp_step ho (fun K' hK => h K' (fun a w hS hW => hK a w ⟨hS, hW⟩))
theorem aG {listed : Array Bool} {a : Act} {w : World} (hr : Region.ready md ops listed = []) (h : Q .normal a w) : ∀ fuel, cL P md ops Q S c fuel listed a w
 | 0 => ⟨hr, h⟩
 | _ + 1 => ⟨fun _ => h, by rw [hr]; simp⟩
theorem aJ (S : World → Prop) (c : Nat) {id : Nat} {a : Act} {w : World} (hm : P.follows .mixedOrders = true)
  (h : cL P .any ops Q S c ops.size (Array.replicate ops.size false) a w.drew) : (Code.region id ops true).wp P Q a w :=
 wp_region_any hm (vA _ _ _ _ h)
end
theorem wpAnyC_take8 {P : Program} {ops : Array Oper} {Q : Exit → Act → World → Prop} {md : Region.Mode} {S : World → Prop} {c : Nat} {i : Nat} {oi : Oper} {v : Value} {fuel : Nat} {listed : Array Bool} {a : Act} {w : World} (hi : ops[i]? = some oi)
  (hs : Region.noSelect ops = true) (hf : Region.free md ops listed i = true) (hr : (Region.ready md ops listed).contains i = true) (hne : (i != c) = true) (hw : oY md ops i 8 c = true) (hcl : lP md ops listed = true)
  (hQ : ∀ c a w, Q (.panic c) (a.put oi.dst v) w → Q (.panic c) a w) (hy : YieldsIf P ops S oi v a) (hS : S w)
  (h : cL P md ops Q S c fuel (listed.setIfInBounds i true) (a.put oi.dst v) w) : cL P md ops Q S c (fuel + 1) listed a w :=
 qF hi (Region.noSelect_spec hs) hQ (by simpa using hne) hw fuel listed a w (yU hcl) (Region.free_spec hi hf) (by simpa using hr) hy hS h
theorem bCf {α : Type} (l : List α) (i : Nat) (x : α) : l.toArray.setIfInBounds i x = (l.set i x).toArray := List.setIfInBounds_toArray l i x
theorem bCg {α : Type} (x y : α) (l : List α) : (x :: l).set 0 y = y :: l := rfl
theorem bCh {α : Type} (x y : α) (l : List α) (n : Nat) : (x :: l).set (n + 1) y = x :: l.set n y := rfl
theorem tk8 {P : Program} {ops : Array Oper} {Q : Exit → Act → World → Prop} {md : Region.Mode} {S : World → Prop} {c : Nat} (i : Nat) (v : Value) {oi : Oper} {fuel : Nat} {listed : Array Bool} {a : Act} {w : World} (hi : ops[i]? = some oi) (hy : YieldsIf P ops S oi v a) (hS : S w)
  (h : cL P md ops Q S c fuel (listed.setIfInBounds i true) (a.put oi.dst v) w) (hs : Region.noSelect ops = true := by kernel_rfl) (hf : Region.free md ops listed i = true := by kernel_rfl) (hr : (Region.ready md ops listed).contains i = true := by kernel_rfl) (hne : (i != c) = true := by kernel_rfl)
  (hw : oY md ops i 8 c = true := by kernel_rfl) (hcl : lP md ops listed = true := by kernel_rfl) (hQ : ∀ c a w, Q (.panic c) (a.put oi.dst v) w → Q (.panic c) a w := by exact fun _ _ _ h => h) : cL P md ops Q S c (fuel + 1) listed a w :=
 wpAnyC_take8 hi hs hf hr hne hw hcl hQ hy hS h
theorem tq {P : Program} {ops : Array Oper} {Q : Exit → Act → World → Prop} {md : Region.Mode} {S : World → Prop} {c : Nat} (i : Nat) (v : Value) {oi : Oper} {fuel : Nat} {listed : Array Bool} {a : Act} {w : World} (hi : ops[i]? = some oi) (hy : ∀ w, S w → (execOp a.eval oi).run P w = .ok (.value v) w) (hS : S w)
  (h : cL P md ops Q S c fuel (listed.setIfInBounds i true) (a.put oi.dst v) w) (hs : Region.noSelect ops = true := by kernel_rfl) (hf : Region.free md ops listed i = true := by kernel_rfl) (hr : (Region.ready md ops listed).contains i = true := by kernel_rfl) (hne : (i != c) = true := by kernel_rfl)
  (hw : oY md ops i 8 c = true := by kernel_rfl) (hcl : lP md ops listed = true := by kernel_rfl) (hQ : ∀ c a w, Q (.panic c) (a.put oi.dst v) w → Q (.panic c) a w := by exact fun _ _ _ h => h) (ht : Region.wanted oi (yielded ops a.tmps) = true := by first | kernel_rfl | rfl) : cL P md ops Q S c (fuel + 1) listed a w :=
 wpAnyC_take8 hi hs hf hr hne hw hcl hQ (Or.inl ⟨ht, hy⟩) hS h
theorem aZ {P : Program} {ops : Array Oper} {Q : Exit → Act → World → Prop} {md : Region.Mode} {S : World → Prop} {c : Nat} (i : Nat) (v : Value) {oi : Oper} {fuel : Nat} {listed : Array Bool} {a : Act} {w : World} (hi : ops[i]? = some oi) (hS : S w)
  (h : cL P md ops Q S c fuel (listed.setIfInBounds i true) (a.put oi.dst v) w) (hy : ∀ w, S w → (execOp a.eval oi).run P w = .ok (.value v) w := by intro w hS; (repeat (obtain ⟨_, hS⟩ := hS)); go_simp) (hs : Region.noSelect ops = true := by kernel_rfl) (hf : Region.free md ops listed i = true := by kernel_rfl) (hr : (Region.ready md ops listed).contains i = true := by kernel_rfl) (hne : (i != c) = true := by kernel_rfl)
  (hw : oY md ops i 8 c = true := by kernel_rfl) (hcl : lP md ops listed = true := by kernel_rfl) (hQ : ∀ c a w, Q (.panic c) (a.put oi.dst v) w → Q (.panic c) a w := by exact fun _ _ _ h => h) (ht : Region.wanted oi (yielded ops a.tmps) = true := by first | kernel_rfl | rfl) : cL P md ops Q S c (fuel + 1) listed a w :=
 wpAnyC_take8 hi hs hf hr hne hw hcl hQ (Or.inl ⟨ht, hy⟩) hS h
theorem on1 {P : Program} {ops : Array Oper} {Q : Exit → Act → World → Prop} {md : Region.Mode} {S : World → Prop} {c : Nat} (i : Nat) {o : Oper} {fuel : Nat} {listed : Array Bool} {a : Act} {w : World} (h : ∀ K' : Act → World → Prop, Shut (∀ a w, ((listed.setIfInBounds i true).getD c true = false → S w) → cL P md ops Q S c fuel (listed.setIfInBounds i true) a w → K' a w) → if Region.wanted o (yielded ops a.tmps) = true then Oper.wp P o a w K' Q else K' (a.put o.dst undef) w)
  (ho : ops[i]? = some o := by rfl) (hr : Region.ready md ops listed = [i] := by kernel_rfl) : cL P md ops Q S c (fuel + 1) listed a w := aGl hr ho h
theorem tkS {P : Program} {ops : Array Oper} {Q : Exit → Act → World → Prop} {md : Region.Mode} {S : World → Prop} {c : Nat} {fuel : Nat} {listed : Array Bool} {a : Act} {w : World} (hS : S w) (h : S w → cL P md ops Q S c fuel listed a w) : cL P md ops Q S c fuel listed a w := h hS
end Go.Proofs.YtenbglfkdldheaaGreatDoor
