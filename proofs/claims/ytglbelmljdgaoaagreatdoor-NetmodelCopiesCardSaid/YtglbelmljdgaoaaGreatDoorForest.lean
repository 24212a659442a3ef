/- The tree of a graph: it connects what the graph connects, without cycles; cycles and bridges. No program here. -/
import Derived.Test.YtglbelmljdgaoaaGreatDoorConn
import Derived.Test.YtglbelmljdgaoaaGreatDoorCyc
import Derived.Test.YtglbelmljdgaoaaGreatDoorWays
namespace Go.Proofs.YtglbelmljdgaoaaGreatDoor

section
variable {l l' : List (Int × Int)} {S T : Int → Prop} {u v : Int}
theorem inc_congr {k k' : Int} (h : edgeAt l k = edgeAt l' k') (a : Int) : inc l a k = inc l' a k' := by unfold inc; rw [h]
theorem nxt_congr {k k' : Int} (h : edgeAt l k = edgeAt l' k') (a : Int) : nxt l a k = nxt l' a k' := by unfold nxt; rw [h]
/-- ways depend on the nodes of the edges alone -/
theorem Conn.carry (hc : Conn l S u v) (hS : ∀ k, S k → ∃ k', T k' ∧ edgeAt l k = edgeAt l' k') : Conn l' T u v := by
  obtain ⟨m, hw⟩ := hc
  induction hw with
  | nil => exact Conn.refl _ _ _
  | cons k hk hi h ih =>
    obtain ⟨k', h1, h2⟩ := hS k hk
    refine Conn.trans ?_ ih
    rw [nxt_congr h2]
    exact Conn.edge k' h1 (by rw [← inc_congr h2]; exact hi)
/-- .. and each edge may be replaced by a way -/
theorem Conn.lift (hc : Conn l S u v) (hS : ∀ k, S k → Conn l T (edgeAt l k).1 (edgeAt l k).2) : Conn l T u v := by
  obtain ⟨m, hw⟩ := hc
  induction hw with
  | nil => exact Conn.refl _ _ _
  | @cons m u v k hk hi h ih =>
    refine Conn.trans ?_ ih
    have := hS k hk
    rw [inc_iff] at hi
    rcases hi with hi | hi
    · have e : nxt l u k = (edgeAt l k).2 := by unfold nxt; omega
      rw [e, ← hi]; exact this
    · have e : nxt l u k = (edgeAt l k).1 := by unfold nxt; omega
      rw [e, ← hi]; exact this.symm
theorem Conn.ends {k : Int} (hk : S k) : Conn l S (edgeAt l k).1 (edgeAt l k).2 := by
  have h := Conn.edge (l := l) (S := S) (u := (edgeAt l k).1) k hk (by rw [inc_iff]; exact .inl rfl)
  have e : nxt l (edgeAt l k).1 k = (edgeAt l k).2 := by unfold nxt; omega
  rwa [e] at h
/-- one edge more -/
theorem Conn.more {e : Int} (hc : Conn l (fun j => S j ∨ j = e) u v) : Conn l S u v ∨ (Conn l S u (edgeAt l e).1 ∧ Conn l S (edgeAt l e).2 v) ∨ (Conn l S u (edgeAt l e).2 ∧ Conn l S (edgeAt l e).1 v) := by
  obtain ⟨m, hw⟩ := hc
  induction hw with
  | nil => exact .inl (Conn.refl _ _ _)
  | @cons m u v k hk hi h ih =>
    rcases hk with hk | rfl
    · have h1 := Conn.edge (l := l) (S := S) k hk hi
      rcases ih with h2 | ⟨h2, h3⟩ | ⟨h2, h3⟩
      · exact .inl (h1.trans h2)
      · exact .inr (.inl ⟨h1.trans h2, h3⟩)
      · exact .inr (.inr ⟨h1.trans h2, h3⟩)
    · rw [inc_iff] at hi
      rcases hi with hi | hi
      · have e : nxt l u k = (edgeAt l k).2 := by unfold nxt; omega
        rw [e] at ih
        rw [← hi]
        rcases ih with h2 | ⟨h2, h3⟩ | ⟨h2, h3⟩
        · exact .inr (.inl ⟨Conn.refl _ _ _, h2⟩)
        · exact .inl (h2.symm.trans h3)
        · exact .inl h3
      · have e : nxt l u k = (edgeAt l k).1 := by unfold nxt; omega
        rw [e] at ih
        rw [← hi]
        rcases ih with h2 | ⟨h2, h3⟩ | ⟨h2, h3⟩
        · exact .inr (.inr ⟨Conn.refl _ _ _, h2⟩)
        · exact .inl h3
        · exact .inl (h2.symm.trans h3)
end

section
variable {n : Nat} {l : List (Int × Int)}
/-- edges before m -/
def Pre (m : Nat) (k : Int) : Prop := 0 ≤ k ∧ k < m
theorem edgeAt_take {m : Nat} {k : Int} (h : Pre m k) (_hm : m ≤ l.length) : edgeAt (l.take m) k = edgeAt l k := by
  have h1 : k.toNat < m := by have := h.2; have := h.1; omega
  simp [edgeAt, h1]
theorem trB_iff (hv : Valid n l) {k : Nat} (hk : k < l.length) : trB n l k = true ↔ ¬ Conn l (Pre k) (edgeAt l k).1 (edgeAt l k).2 := by
  have he := edgeAt_ok hv (k := (k : Int)) (by omega) (by omega)
  have hd : l.getD k (0, 0) = edgeAt l k := by simp [edgeAt]
  have hvt : Valid n (l.take k) := fun x hx => hv x (List.mem_of_mem_take hx)
  have hc := parts_conn (wo := -1) hvt ⟨he.1, he.2.1⟩ ⟨he.2.2.1, he.2.2.2⟩
  have hcc : Conn (l.take k) (But (l.take k) (-1)) (edgeAt l k).1 (edgeAt l k).2 ↔ Conn l (Pre k) (edgeAt l k).1 (edgeAt l k).2 := by
    constructor
    · refine fun h => h.carry fun j hj => ⟨j, ?_, ?_⟩
      · have := hj.2.1; simp at this; exact ⟨hj.1, by omega⟩
      · have := hj.2.1; simp at this; exact edgeAt_take ⟨hj.1, by omega⟩ (by omega)
    · refine fun h => h.carry fun j hj => ⟨j, ⟨hj.1, by have := hj.2; simp; omega, by have := hj.1; omega⟩, (edgeAt_take hj (by omega)).symm⟩
  rw [trB, apartB, hd, ← hcc, ← hc]
  unfold at_
  simp
theorem brB_iff (hv : Valid n l) {k : Nat} (hk : k < l.length) : brB n l k = true ↔ ¬ Conn l (But l k) (edgeAt l k).1 (edgeAt l k).2 := by
  have he := edgeAt_ok hv (k := (k : Int)) (by omega) (by omega)
  have hd : l.getD k (0, 0) = edgeAt l k := by simp [edgeAt]
  have hc := parts_conn (wo := (k : Int)) hv ⟨he.1, he.2.1⟩ ⟨he.2.2.1, he.2.2.2⟩
  rw [brB, apartB, hd, ← hc]
  unfold at_
  simp
theorem mem_tree {k : Int} : k ∈ treeL n l ↔ Pre l.length k ∧ trB n l k.toNat = true := by
  rw [treeL, mem_sel]
  constructor
  · rintro ⟨i, h1, h2, rfl⟩; exact ⟨⟨by omega, by omega⟩, by simpa using h2⟩
  · rintro ⟨⟨h0, h1⟩, h2⟩; exact ⟨k.toNat, by omega, h2, by omega⟩

/-- the tree connects the nodes of every edge -/
theorem tree_spans (hv : Valid n l) : ∀ (k : Nat), k < l.length → Conn l (· ∈ treeL n l) (edgeAt l k).1 (edgeAt l k).2 := by
  intro k
  induction k using Nat.strongRecOn with
  | _ k ih =>
    intro hk
    by_cases ht : trB n l k = true
    · exact Conn.ends (mem_tree.2 ⟨⟨by omega, by omega⟩, by simpa using ht⟩)
    · have hc : Conn l (Pre k) (edgeAt l k).1 (edgeAt l k).2 := Classical.not_not.1 (fun h => ht ((trB_iff hv hk).2 h))
      refine hc.lift fun j hj => ?_
      have := ih j.toNat (by have := hj.1; have := hj.2; omega) (by have := hj.1; have := hj.2; omega)
      rwa [Int.toNat_of_nonneg hj.1] at this
theorem tree_conn (hv : Valid n l) {u v : Int} : Conn l (But l (-1)) u v ↔ Conn l (· ∈ treeL n l) u v := by
  constructor
  · refine fun h => h.lift fun j hj => ?_
    have := tree_spans hv j.toNat (by have := hj.1; have := hj.2.1; omega)
    rwa [Int.toNat_of_nonneg hj.1] at this
  · exact fun h => h.mono fun _ hj => by have := (mem_tree.1 hj).1; exact ⟨this.1, this.2, by have := this.1; omega⟩
/-- .. without cycles -/
theorem tree_forest (hv : Valid n l) : ∀ (m : Nat), m ≤ l.length → ∀ k, k ∈ treeL n l → k < m → ¬ Conn l (fun j => (j ∈ treeL n l ∧ j < m) ∧ j ≠ k) (edgeAt l k).1 (edgeAt l k).2 := by
  intro m
  induction m with
  | zero =>
    intro _ k hk hkm
    have := (mem_tree.1 hk).1.1
    omega
  | succ m ih =>
    intro hm k hk hkm hc
    have hk0 := (mem_tree.1 hk).1.1
    by_cases hkm' : k = m
    · subst hkm'
      have ht := (mem_tree.1 hk).2
      simp only [Int.toNat_natCast] at ht
      refine (trB_iff hv (by omega)).1 ht (hc.mono fun j hj => ?_)
      have := (mem_tree.1 hj.1.1).1.1
      exact ⟨this, by have := hj.1.2; have := hj.2; omega⟩
    · have hlt : k < m := by omega
      by_cases hmt : (m : Int) ∈ treeL n l
      · have hc' : Conn l (fun j => ((j ∈ treeL n l ∧ j < m) ∧ j ≠ k) ∨ j = m) (edgeAt l k).1 (edgeAt l k).2 := hc.mono fun j hj => by
          by_cases e : j = m
          · exact .inr e
          · exact .inl ⟨⟨hj.1.1, by have := hj.1.2; omega⟩, hj.2⟩
        have hme : ¬ Conn l (Pre m) (edgeAt l m).1 (edgeAt l m).2 := by
          have ht := (mem_tree.1 hmt).2
          simp only [Int.toNat_natCast] at ht
          exact (trB_iff hv (by omega)).1 ht
        have up : ∀ {u v : Int}, Conn l (fun j => (j ∈ treeL n l ∧ j < m) ∧ j ≠ k) u v → Conn l (Pre m) u v := fun h => h.mono fun j hj => ⟨(mem_tree.1 hj.1.1).1.1, hj.1.2⟩
        have hkk : Conn l (Pre m) (edgeAt l k).1 (edgeAt l k).2 := Conn.ends ⟨hk0, hlt⟩
        rcases hc'.more with h | ⟨h1, h2⟩ | ⟨h1, h2⟩
        · exact ih (by omega) k hk hlt h
        · exact hme ((up h1).symm.trans (hkk.trans (up h2).symm))
        · exact hme ((up h2).trans (hkk.symm.trans (up h1)))
      · refine ih (by omega) k hk hlt (hc.mono fun j hj => ⟨⟨hj.1.1, ?_⟩, hj.2⟩)
        have : j ≠ m := fun e => hmt (e ▸ hj.1.1)
        have := hj.1.2
        omega
theorem tree_apart (hv : Valid n l) {k : Int} (hk : k ∈ treeL n l) : ¬ Conn l (fun j => j ∈ treeL n l ∧ j ≠ k) (edgeAt l k).1 (edgeAt l k).2 := fun h =>
  tree_forest hv l.length (Nat.le_refl _) k hk (mem_tree.1 hk).1.2 (h.mono fun _ hj => ⟨⟨hj.1, (mem_tree.1 hj.1).1.2⟩, hj.2⟩)
end

/-! ### one numbering for one relation -/
theorem num_unique {n : Nat} {l l' : List (Int × Int)} {wo wo' : Int} {m m' : Int} {o o' : List Int} (h : NumO n l wo n m o) (h' : NumO n l' wo' n m' o') (_hv : Valid n l) (_hv' : Valid n l')
    (hc : ∀ u v : Int, 0 ≤ u → u < n → 0 ≤ v → v < n → (at_ o u = at_ o v ↔ at_ o' u = at_ o' v)) : o = o' := by
  have key : ∀ (v : Nat), v < n → at_ o v = at_ o' v := by
    intro v
    induction v using Nat.strongRecOn with
    | _ v ih =>
      intro hvn
      have hlo := h.low v (by omega) (by omega)
      have hlo' := h'.low v (by omega) (by omega)
      rcases Int.lt_trichotomy (at_ o v) (at_ o' v) with hlt | heq | hgt
      · obtain ⟨u, u0, u1, u2⟩ := h'.rg v (by omega) (by omega) _ hlo hlt
        have hu := ih u.toNat (by omega) (by omega)
        rw [Int.toNat_of_nonneg u0] at hu
        have := (hc u v u0 (by omega) (by omega) (by omega)).1 (by omega)
        omega
      · exact heq
      · obtain ⟨u, u0, u1, u2⟩ := h.rg v (by omega) (by omega) _ hlo' hgt
        have hu := ih u.toNat (by omega) (by omega)
        rw [Int.toNat_of_nonneg u0] at hu
        have := (hc u v u0 (by omega) (by omega) (by omega)).2 (by omega)
        omega
  apply List.ext_getElem
  · rw [h.len, h'.len]
  · intro i h1 h2
    have := key i (by rw [← h.len]; exact h1)
    unfold at_ at this
    simpa [h1, h2] using this
theorem parts_same {n : Nat} {l l' : List (Int × Int)} {wo wo' : Int} (hv : Valid n l) (hv' : Valid n l') (hc : ∀ u v : Int, Conn l (But l wo) u v ↔ Conn l' (But l' wo') u v) : parts n l wo = parts n l' wo' := by
  obtain ⟨m, h⟩ := parts_num (wo := wo) hv
  obtain ⟨m', h'⟩ := parts_num (wo := wo') hv'
  refine num_unique h h' hv hv' fun u v u0 u1 v0 v1 => ?_
  rw [parts_conn hv ⟨u0, u1⟩ ⟨v0, v1⟩, parts_conn hv' ⟨u0, u1⟩ ⟨v0, v1⟩]
  exact hc u v

/-! ### the part of the tree's edges -/
section
variable {n : Nat} {l : List (Int × Int)}
def partOf (l : List (Int × Int)) (t : List Int) : List (Int × Int) := t.map (edgeAt l)
theorem part_edge {t : List Int} {i : Nat} (hi : i < t.length) : edgeAt (partOf l t) i = edgeAt l t[i] := by
  simp [partOf, edgeAt, hi]
theorem part_valid (hv : Valid n l) {t : List Int} (ht : Within l t) : Valid n (partOf l t) := by
  intro x hx
  obtain ⟨k, hk, rfl⟩ := List.mem_map.1 hx
  exact edgeAt_ok hv (ht k hk).1 (ht k hk).2
theorem part_conn {t : List Int} (u v : Int) : Conn (partOf l t) (But (partOf l t) (-1)) u v ↔ Conn l (· ∈ t) u v := by
  constructor
  · refine fun h => h.carry fun j hj => ?_
    have h1 : j.toNat < t.length := by have := hj.1; have := hj.2.1; simp [partOf] at this; omega
    refine ⟨t[j.toNat], List.getElem_mem h1, ?_⟩
    rw [← part_edge h1, Int.toNat_of_nonneg hj.1]
  · refine fun h => h.carry fun j hj => ?_
    obtain ⟨i, hi, e⟩ := List.getElem_of_mem hj
    exact ⟨i, ⟨by omega, by simp [partOf]; exact hi, by omega⟩, by rw [part_edge hi, e]⟩
theorem sel_nodup (p : Nat → Bool) (m : Nat) : (sel p m).Nodup := by
  unfold sel
  unfold List.Nodup
  rw [List.pairwise_map]
  exact (List.nodup_range.filter _).imp fun h e => h (Int.ofNat.inj e)
theorem part_bridge (hv : Valid n l) {i : Nat} (hi : i < (treeL n l).length) : brB n (partOf l (treeL n l)) i = true := by
  have hw := tree_within n l
  have hpv := part_valid hv hw
  have hl : (partOf l (treeL n l)).length = (treeL n l).length := by simp [partOf]
  rw [brB_iff hpv (by omega), part_edge hi]
  intro hc
  refine tree_apart hv (List.getElem_mem hi) (hc.carry fun j hj => ?_)
  have h1 : j.toNat < (treeL n l).length := by have := hj.1; have := hj.2.1; omega
  refine ⟨(treeL n l)[j.toNat], ⟨List.getElem_mem h1, fun e => ?_⟩, ?_⟩
  · have := (List.getElem_inj (sel_nodup _ _)).1 e
    have := hj.2.2
    have := hj.1
    omega
  · rw [← part_edge h1, Int.toNat_of_nonneg hj.1]
theorem sel_all {p : Nat → Bool} {m : Nat} (h : ∀ i, i < m → p i = true) : (sel p m).length = m := by
  unfold sel
  rw [List.length_map, List.filter_eq_self.2 (fun a ha => h a (List.mem_range.1 ha)), List.length_range]
/-- what GraphTrees asks -/
theorem trees_plain (hv : Valid n l) : parts n l (-1) = parts n (partOf l (treeL n l)) (-1) ∧ (bridgesL n (partOf l (treeL n l))).length = (treeL n l).length := by
  have hpv := part_valid hv (tree_within n l)
  refine ⟨parts_same hv hpv fun u v => by rw [tree_conn hv, part_conn], ?_⟩
  have hl : (partOf l (treeL n l)).length = (treeL n l).length := by simp [partOf]
  rw [bridgesL, sel_all (fun i hi => part_bridge hv (by omega)), hl]
end

/-! ### ways as lists of edges -/
def runTo (l : List (Int × Int)) : Int → List Int → Int
  | a, [] => a
  | a, k :: ks => runTo l (nxt l a k) ks
def okRun (l : List (Int × Int)) : Int → List Int → Prop
  | _, [] => True
  | a, k :: ks => inc l a k = true ∧ okRun l (nxt l a k) ks
section
variable {n : Nat} {l : List (Int × Int)} {es far : List Int} {tq : Int}
theorem back_step (h : FarInv n l es tq far []) {d : Nat} {a : Int} (a0 : 0 ≤ a) (a1 : a < n) (hd : at_ far a = (d + 1 : Nat)) : ∃ k, back l es far tq (d + 1 + 1) a = k :: back l es far tq (d + 1) (nxt l a k) ∧ k ∈ es ∧ inc l a k = true ∧ at_ far (nxt l a k) = d := by
  have hne : a ≠ tq := by rintro rfl; have := h.start; omega
  obtain ⟨k, hf, p1, p2, hi, hk⟩ := find_some h ⟨a0, a1, by omega⟩ hne
  exact ⟨k, by rw [back, if_neg hne, hf], hk, hi, by omega⟩
theorem back_zero (h : FarInv n l es tq far []) {a : Int} (a0 : 0 ≤ a) (a1 : a < n) (hd : at_ far a = 0) : a = tq ∧ back l es far tq 1 a = [] := by
  by_cases e : a = tq
  · exact ⟨e, by rw [back, if_pos e]⟩
  · obtain ⟨k, hf, p1, p2, _, _⟩ := find_some h ⟨a0, a1, by omega⟩ e
    omega
theorem back_run (hv : Valid n l) (hes : Within l es) (h : FarInv n l es tq far []) : ∀ (d : Nat) (a : Int), 0 ≤ a → a < n → at_ far a = d →
    okRun l a (back l es far tq (d + 1) a) ∧ runTo l a (back l es far tq (d + 1) a) = tq ∧ (∀ k ∈ back l es far tq (d + 1) a, k ∈ es) ∧
    (∀ k ∈ back l es far tq (d + 1) a, ∃ c : Int, inc l c k = true ∧ at_ far c ≤ d ∧ at_ far (nxt l c k) = at_ far c - 1) ∧ (back l es far tq (d + 1) a).Nodup
  | 0, a, a0, a1, hd => by
    obtain ⟨e1, e2⟩ := back_zero h a0 a1 (by omega)
    rw [e2]
    exact ⟨trivial, e1, by simp, by simp, List.nodup_nil⟩
  | d + 1, a, a0, a1, hd => by
    obtain ⟨k, e, hk, hi, hf⟩ := back_step h a0 a1 hd
    obtain ⟨k0, k1⟩ := hes k hk
    obtain ⟨t0, t1⟩ := nxt_ok hv k0 k1 hi
    obtain ⟨i1, i2, i3, i4, i5⟩ := back_run hv hes h d _ t0 t1 hf
    rw [e]
    refine ⟨⟨hi, i1⟩, i2, ?_, ?_, ?_⟩
    · intro j hj
      rcases List.mem_cons.1 hj with rfl | hj
      · exact hk
      · exact i3 j hj
    · intro j hj
      rcases List.mem_cons.1 hj with rfl | hj
      · exact ⟨a, hi, by omega, by omega⟩
      · obtain ⟨c, c1, c2, c3⟩ := i4 j hj
        exact ⟨c, c1, by omega, c3⟩
    · rw [List.nodup_cons]
      refine ⟨fun hm => ?_, i5⟩
      obtain ⟨c, c1, c2, c3⟩ := i4 k hm
      rw [inc_iff] at c1 hi
      have hcc : c = a ∨ c = nxt l a k := by unfold nxt; omega
      rcases hcc with rfl | rfl
      · omega
      · rw [nxt_nxt] at c3
        omega
theorem run_conn {a : Int} {ks : List Int} (h : okRun l a ks) : Conn l (· ∈ ks) a (runTo l a ks) := by
  induction ks generalizing a with
  | nil => exact Conn.refl _ _ _
  | cons k ks ih => exact (Conn.edge k (by simp) h.1).trans ((ih h.2).mono fun j hj => by simp [hj])
theorem run_split {a k : Int} {ks : List Int} (h : okRun l a ks) (hn : ks.Nodup) (hk : k ∈ ks) : ∃ c, inc l c k = true ∧ Conn l (fun j => j ∈ ks ∧ j ≠ k) a c ∧ Conn l (fun j => j ∈ ks ∧ j ≠ k) (nxt l c k) (runTo l a ks) := by
  induction ks generalizing a with
  | nil => simp at hk
  | cons j ks ih =>
    rw [List.nodup_cons] at hn
    by_cases e : k = j
    · subst e
      exact ⟨a, h.1, Conn.refl _ _ _, (run_conn h.2).mono fun i hi => ⟨by simp [hi], fun e => hn.1 (e ▸ hi)⟩⟩
    · obtain ⟨c, c1, c2, c3⟩ := ih h.2 hn.2 (by simpa [e] using hk)
      refine ⟨c, c1, (Conn.edge (S := fun i => i ∈ j :: ks ∧ i ≠ k) j ⟨by simp, fun e' => e e'.symm⟩ h.1).trans (c2.mono fun i hi => ⟨by simp [hi.1], hi.2⟩), c3.mono fun i hi => ⟨by simp [hi.1], hi.2⟩⟩
end

/-! ### the cycles -/
section
variable {n : Nat} {l : List (Int × Int)}
def way (n : Nat) (l : List (Int × Int)) (k : Nat) : List Int := (pathL n l (treeL n l) (edgeAt l k).2 (edgeAt l k).1).1
theorem way_ok (hv : Valid n l) {k : Nat} (hk : k < l.length) : okRun l (edgeAt l k).2 (way n l k) ∧ runTo l (edgeAt l k).2 (way n l k) = (edgeAt l k).1 ∧ (∀ j ∈ way n l k, j ∈ treeL n l) ∧ (way n l k).Nodup := by
  have he := edgeAt_ok hv (k := (k : Int)) (by omega) (by omega)
  have hw := tree_within n l
  have hfc := (far_conn hv hw ⟨he.1, he.2.1⟩ ⟨he.2.2.1, he.2.2.2⟩).2 (tree_spans hv k hk).symm
  have hb := back_run hv hw (far_inv hv hw ⟨he.1, he.2.1⟩) (at_ (farL n l (treeL n l) (edgeAt l k).1) (edgeAt l k).2).toNat _ he.2.2.1 he.2.2.2 (by omega)
  have e : way n l k = back l (treeL n l) (farL n l (treeL n l) (edgeAt l k).1) (edgeAt l k).1 ((at_ (farL n l (treeL n l) (edgeAt l k).1) (edgeAt l k).2).toNat + 1) (edgeAt l k).2 := by
    rw [way, pathL, if_neg]
    · rfl
    · have := hfc; unfold at_ at this; omega
  rw [← e] at hb
  exact ⟨hb.1, hb.2.1, hb.2.2.1, hb.2.2.2.2⟩
theorem cycleAt_eq (k : Nat) : cycleAt n l k = (k : Int) :: way n l k := rfl
theorem mem_cycles {y : List Int} : y ∈ cyclesL n l ↔ ∃ k : Nat, k < l.length ∧ (k : Int) ∉ treeL n l ∧ y = cycleAt n l k := by
  simp only [cyclesL, cycTo, List.mem_map, List.mem_filter, List.mem_range, cycB]
  constructor
  · rintro ⟨k, ⟨h1, h2⟩, rfl⟩; exact ⟨k, h1, by simpa using h2, rfl⟩
  · rintro ⟨k, h1, h2, rfl⟩; exact ⟨k, ⟨h1, by simpa using h2⟩, rfl⟩
/-- what GraphBridges asks: an edge is in a cycle exactly if it is no bridge -/
theorem bridges_plain (hv : Valid n l) {k : Nat} (hk : k < l.length) : ((cyclesL n l).any fun y => y.contains (k : Int)) = !(bridgesL n l).contains (k : Int) := by
  have hb : (bridgesL n l).contains (k : Int) = brB n l k := by
    rw [Bool.eq_iff_iff, List.contains_iff_mem, bridgesL, mem_sel]
    constructor
    · rintro ⟨i, _, h2, h3⟩
      have : k = i := by omega
      subst this; exact h2
    · intro h; exact ⟨k, hk, h, rfl⟩
  rw [hb]
  by_cases ht : (k : Int) ∈ treeL n l
  · by_cases hbr : brB n l k = true
    · rw [hbr]
      have hc := (brB_iff hv hk).1 hbr
      rw [Bool.not_true, Bool.eq_false_iff]
      intro h
      obtain ⟨y, hy, hyk⟩ := List.any_eq_true.1 h
      obtain ⟨e, he, hne, rfl⟩ := mem_cycles.1 hy
      rw [List.contains_iff_mem, cycleAt_eq] at hyk
      have hek : (k : Int) ≠ e := fun h => hne (h ▸ ht)
      have hkw : (k : Int) ∈ way n l e := by simpa [hek] using hyk
      obtain ⟨w1, w2, w3, w4⟩ := way_ok hv he
      obtain ⟨c, c1, c2, c3⟩ := run_split w1 w4 hkw
      rw [w2] at c3
      have up : ∀ {u v : Int}, Conn l (fun j => j ∈ way n l e ∧ j ≠ (k : Int)) u v → Conn l (But l k) u v := fun h => h.mono fun j hj => by
        have := (mem_tree.1 (w3 j hj.1)).1
        exact ⟨this.1, this.2, hj.2⟩
      have hee : Conn l (But l k) (edgeAt l e).1 (edgeAt l e).2 := Conn.ends ⟨by omega, by omega, fun h => hek h.symm⟩
      have hcc : Conn l (But l k) c (nxt l c k) := (up c2).symm.trans (hee.symm.trans (up c3).symm)
      rw [inc_iff] at c1
      rcases c1 with c1 | c1
      · have e2 : nxt l c k = (edgeAt l k).2 := by unfold nxt; omega
        rw [e2, ← c1] at hcc; exact hc hcc
      · have e2 : nxt l c k = (edgeAt l k).1 := by unfold nxt; omega
        rw [e2, ← c1] at hcc; exact hc hcc.symm
    · have hc : Conn l (But l k) (edgeAt l k).1 (edgeAt l k).2 := Classical.not_not.1 (fun h => hbr ((brB_iff hv hk).2 h))
      rw [Bool.eq_false_iff.2 hbr, Bool.not_false]
      refine Classical.byContradiction fun hn => tree_apart hv ht (hc.lift fun j hj => ?_)
      have hjn : j.toNat < l.length := by have := hj.1; have := hj.2.1; omega
      have hje : ((j.toNat : Nat) : Int) = j := Int.toNat_of_nonneg hj.1
      by_cases hjt : j ∈ treeL n l
      · exact Conn.ends ⟨hjt, hj.2.2⟩
      · obtain ⟨w1, w2, w3, w4⟩ := way_ok hv hjn
        rw [hje] at w1 w2
        have h1 := run_conn w1
        rw [w2] at h1
        refine (h1.mono fun i hi => ⟨w3 i hi, fun e => hn ?_⟩).symm
        refine List.any_eq_true.2 ⟨cycleAt n l j.toNat, mem_cycles.2 ⟨j.toNat, hjn, by rw [hje]; exact hjt, rfl⟩, ?_⟩
        rw [List.contains_iff_mem, cycleAt_eq]
        simp [← e, hi]
  · have hbf : brB n l k = false := by
      rw [Bool.eq_false_iff]
      intro h
      refine (brB_iff hv hk).1 h ?_
      have htf : ¬ trB n l k = true := fun h => ht (mem_tree.2 ⟨⟨by omega, by omega⟩, by simpa using h⟩)
      have hc : Conn l (Pre k) (edgeAt l k).1 (edgeAt l k).2 := Classical.not_not.1 (fun h => htf ((trB_iff hv hk).2 h))
      exact hc.mono fun j hj => ⟨hj.1, by have := hj.2; omega, by have := hj.2; omega⟩
    rw [hbf, Bool.not_false]
    refine List.any_eq_true.2 ⟨cycleAt n l k, mem_cycles.2 ⟨k, hk, ht, rfl⟩, ?_⟩
    rw [List.contains_iff_mem, cycleAt_eq]
    simp
theorem filter_split (p : Nat → Bool) (m : Nat) : ((List.range m).filter p).length + ((List.range m).filter fun i => !p i).length = m := by
  induction m with
  | zero => rfl
  | succ m ih =>
    rw [List.range_succ, List.filter_append, List.filter_append, List.length_append, List.length_append]
    cases h : p m <;> simp [h] <;> omega
theorem cycles_count : (cyclesL n l).length + (treeL n l).length = l.length := by
  have h := filter_split (trB n l) l.length
  have e : (List.range l.length).filter (cycB n l) = (List.range l.length).filter fun i => !trB n l i := by
    refine List.filter_congr fun i hi => ?_
    have hi' := List.mem_range.1 hi
    rw [cycB]
    congr 1
    rw [Bool.eq_iff_iff, List.contains_iff_mem, mem_tree]
    constructor
    · rintro ⟨_, h⟩; simpa using h
    · intro h; exact ⟨⟨by omega, by omega⟩, by simpa using h⟩
  simp only [cyclesL, cycTo, treeL, sel, List.length_map]
  rw [e]
  omega
end
end Go.Proofs.YtglbelmljdgaoaaGreatDoor
