/- StationJoins: the plain law. No program here. -/
import Derived.Test.YtphiiflcpeploaaIsoLaw
import Derived.Test.YtphiiflcpeploaaSFact
namespace Go.Proofs.Ytphiiflcpeploaa

/-! ### the switches of some names are closed -/
def closeSw (t : List ByteArray) (s : SwitchD) : SwitchD := if Lib.containsS t s.name = true then setOpn false s else s
def closeN (n : NetD) (t : List ByteArray) : NetD := ⟨n.nodes, n.switches.map (closeSw t), n.branches, n.gens, n.loads, n.stores⟩
theorem closeSw_name (t : List ByteArray) (s : SwitchD) : (closeSw t s).name = s.name ∧ (closeSw t s).a = s.a ∧ (closeSw t s).b = s.b := by
  unfold closeSw
  split <;> exact ⟨rfl, rfl, rfl⟩
theorem closeSw_opn (t : List ByteArray) (s : SwitchD) : (closeSw t s).opn = false ↔ s.opn = false ∨ s.name ∈ t := by
  unfold closeSw
  split
  · rename_i h
    exact ⟨fun _ => .inr ((Lib.containsS_iff _ _).1 h), fun _ => rfl⟩
  · rename_i h
    constructor
    · exact fun h1 => .inl h1
    · rintro (h1 | h1)
      · exact h1
      · exact absurd ((Lib.containsS_iff _ _).2 h1) h
theorem closeN_items (n : NetD) (t : List ByteArray) : (closeN n t).items = n.items := by
  simp only [NetD.items, closeN, List.map_map]
  congr 2
  apply List.map_congr_left
  intro s _
  have := closeSw_name t s
  simp only [Function.comp]
  rw [this.1, this.2.1, this.2.2]
theorem closeN_check (n : NetD) (t : List ByteArray) : checkN (closeN n t) = checkN n := by
  rw [checkN, checkN, closeN_items]
  simp [closeN]
theorem closeN_nil (n : NetD) : closeN n [] = n := by
  have : n.switches.map (closeSw []) = n.switches := by
    apply List.ext_getElem
    · simp
    · intro i h1 h2
      simp [closeSw, Lib.containsS, Lib.idxOfS, Lib.idxFromS]
  cases n
  simp only [closeN] at this ⊢
  rw [this]
theorem closeN_len (n : NetD) (t : List ByteArray) : (closeN n t).switches.length = n.switches.length := by simp [closeN]
theorem closeN_at {n : NetD} {t : List ByteArray} {i : Nat} (hi : i < n.switches.length) : (closeN n t).switches[i]'(by rw [closeN_len]; exact hi) = closeSw t n.switches[i] := by simp [closeN]
theorem sw_inj {n : NetD} (hc : checkN n = 0) {i j : Nat} (hi : i < n.switches.length) (hj : j < n.switches.length) (e : n.switches[i].name = n.switches[j].name) : i = j :=
  (List.getElem_inj (xs := n.switches.map (·.name)) (h₀ := by simpa using hi) (h₁ := by simpa using hj) (sw_names (vnet hc)).1).1 (by simpa using e)
theorem closeN_step {n : NetD} (hc : checkN n = 0) (t : List ByteArray) {i : Nat} (hi : i < n.switches.length) : SetL (closeN n t) n.switches[i].name false = (closeN n (t ++ [n.switches[i].name]), 0) := by
  have hc' : checkN (closeN n t) = 0 := by rw [closeN_check]; exact hc
  have hi' : i < (closeN n t).switches.length := by rw [closeN_len]; exact hi
  have h1 := set_switch hc' false hi'
  rw [closeN_at hi, (closeSw_name _ _).1] at h1
  rw [h1]
  congr 1
  have hn := (sw_names (vnet hc)).1
  have : (closeN n t).switches.modify i (setOpn false) = n.switches.map (closeSw (t ++ [n.switches[i].name])) := by
    apply List.ext_getElem
    · simp [closeN]
    · intro j h1 h2
      have hj : j < n.switches.length := by simpa [closeN] using h1
      rw [List.getElem_modify]
      simp only [List.getElem_map, closeN]
      by_cases hij : i = j
      · subst hij
        rw [if_pos rfl]
        unfold closeSw
        rw [contains_snoc]
        simp only [decide_true, Bool.or_true, if_true]
        split <;> rfl
      · rw [if_neg hij]
        unfold closeSw
        rw [contains_snoc]
        have hne : n.switches[j].name ≠ n.switches[i].name := fun e => hij (sw_inj hc hi hj e.symm)
        simp [hne]
  simp only [setSw, closeN] at this ⊢
  rw [this]

/-! ### buses -/
theorem edgesFrom_of {nodes : List ByteArray} {o : Bool} : ∀ {s : List SwitchD} {i j : Nat} (hj : j < s.length), s[j].opn = o → ((Lib.idxOfS nodes s[j].a, Lib.idxOfS nodes s[j].b), ((i + j : Nat) : Int)) ∈ edgesFrom nodes o i s
  | [], _, j, hj, _ => by simp at hj
  | x :: s, i, 0, _, ho => by
    rw [edgesFrom, if_pos (by simpa using ho)]
    simp
  | x :: s, i, j + 1, hj, ho => by
    have ih := edgesFrom_of (nodes := nodes) (s := s) (i := i + 1) (j := j) (by simpa using hj) (by simpa using ho)
    have e : i + (j + 1) = i + 1 + j := by omega
    simp only [List.getElem_cons_succ]
    rw [edgesFrom, e]
    split
    · exact List.mem_cons_of_mem _ ih
    · exact ih
/-- an edge of the closed switches belongs tt one -/
theorem edge_sw {n : NetD} {o : Bool} {k : Int} (hk : 0 ≤ k ∧ k < ((edgesL n o).map (·.1)).length) : ∃ j, ∃ hj : j < n.switches.length, n.switches[j].opn = o ∧ edgeAt ((edgesL n o).map (·.1)) k = (Lib.idxOfS n.nodes n.switches[j].a, Lib.idxOfS n.nodes n.switches[j].b) ∧ ((edgesL n o).map (·.2)).getD k.toNat 0 = (j : Int) := by
  have hkl : k.toNat < ((edgesL n o).map (·.1)).length := by omega
  have hkl2 : k.toNat < (edgesL n o).length := by simpa using hkl
  obtain ⟨j, hj, ho, hej⟩ := edgesFrom_mem (List.getElem_mem hkl2 : (edgesL n o)[k.toNat] ∈ edgesFrom n.nodes o 0 n.switches)
  refine ⟨j, hj, ho, ?_, ?_⟩
  · rw [edgeAt, List.getD_eq_getElem?_getD, List.getElem?_eq_getElem hkl, List.getElem_map, hej]; rfl
  · rw [List.getD_eq_getElem?_getD, List.getElem?_eq_getElem (by simpa using hkl2), List.getElem_map, hej]; simp
theorem bus_edge {m : NetD} (h : VNet m) {j : Nat} (hj : j < m.switches.length) (ho : m.switches[j].opn = false) : at_ (busesL m) (Lib.idxOfS m.nodes m.switches[j].a) = at_ (busesL m) (Lib.idxOfS m.nodes m.switches[j].b) := by
  obtain ⟨ha, hb, _, _⟩ := h.sw _ (List.getElem_mem hj)
  rw [buses_eq h, parts_conn (edges_valid h false) (idx_mem ha) (idx_mem hb)]
  have hm : ((Lib.idxOfS m.nodes m.switches[j].a, Lib.idxOfS m.nodes m.switches[j].b), ((0 + j : Nat) : Int)) ∈ edgesL m false := edgesFrom_of (i := 0) hj ho
  obtain ⟨k, hk, e⟩ := List.getElem_of_mem hm
  have h1 : edgeAt ((edgesL m false).map (·.1)) (k : Int) = (Lib.idxOfS m.nodes m.switches[j].a, Lib.idxOfS m.nodes m.switches[j].b) := by
    rw [edgeAt, List.getD_eq_getElem?_getD, Int.toNat_natCast, List.getElem?_eq_getElem (by simpa using hk), List.getElem_map, e]; rfl
  have h2 := Conn.ends (l := (edgesL m false).map (·.1)) (S := But ((edgesL m false).map (·.1)) (-1)) (k := (k : Int)) ⟨by omega, by simpa using hk, by omega⟩
  rw [h1] at h2
  exact h2
/-- what all closed switches keep, the nodes of a bus keep -/
theorem bus_keep {m : NetD} (h : VNet m) (P : Int → Prop) (hP : ∀ j (hj : j < m.switches.length), m.switches[j].opn = false → (P (Lib.idxOfS m.nodes m.switches[j].a) ↔ P (Lib.idxOfS m.nodes m.switches[j].b))) {u v : Int} (hu : 0 ≤ u ∧ u < m.nodes.length) (hv : 0 ≤ v ∧ v < m.nodes.length)
    (he : at_ (busesL m) u = at_ (busesL m) v) (hp : P u) : P v := by
  rw [buses_eq h, parts_conn (edges_valid h false) hu hv] at he
  refine he.keep P ?_ hp
  intro a k ha hk hi
  obtain ⟨j, hj, ho, e, _⟩ := edge_sw (n := m) (o := false) ⟨hk.1, hk.2.1⟩
  have h3 := hP j hj ho
  rw [inc_iff, e] at hi
  unfold nxt
  rw [e]
  rcases hi with hi | hi
  · simp only at hi ⊢
    rw [hi] at h3 ⊢
    have : a + Lib.idxOfS m.nodes m.switches[j].b - a = Lib.idxOfS m.nodes m.switches[j].b := by omega
    rw [this]
    exact h3.1 ha
  · simp only at hi ⊢
    rw [hi] at h3 ⊢
    have : Lib.idxOfS m.nodes m.switches[j].a + a - a = Lib.idxOfS m.nodes m.switches[j].a := by omega
    rw [this]
    exact h3.2 ha
theorem bus_mono {n : NetD} (hc : checkN n = 0) (t : List ByteArray) {u v : Int} (hu : 0 ≤ u ∧ u < n.nodes.length) (hv : 0 ≤ v ∧ v < n.nodes.length) (he : at_ (busesL n) u = at_ (busesL n) v) : at_ (busesL (closeN n t)) u = at_ (busesL (closeN n t)) v := by
  have hm : VNet (closeN n t) := vnet (by rw [closeN_check]; exact hc)
  refine bus_keep (vnet hc) (fun x => at_ (busesL (closeN n t)) u = at_ (busesL (closeN n t)) x) ?_ hu hv he rfl
  intro j hj ho
  have h1 := bus_edge hm (j := j) (by rw [closeN_len]; exact hj) (by rw [closeN_at hj, closeSw_opn]; exact .inl ho)
  rw [closeN_at hj, (closeSw_name _ _).2.1, (closeSw_name _ _).2.2] at h1
  have h2 : (closeN n t).nodes = n.nodes := rfl
  rw [h2] at h1
  rw [h1]
/-- Path returns no error exactly within a bus -/
theorem stPath_iff {m : NetD} {a b : ByteArray} (hc : checkN m = 0) (ha : a ∈ m.nodes) (hb : b ∈ m.nodes) : (stPath m a b).2 = 0 ↔ at_ (busesL m) (Lib.idxOfS m.nodes a) = at_ (busesL m) (Lib.idxOfS m.nodes b) := by
  have h := vnet hc
  have hw := h.hw
  have hn := h.hn
  have hs : stCheck m [a, b] = 0 := by
    rw [stCheck, if_pos hc, if_pos]
    simp [(Lib.containsS_iff _ _).2 ha, (Lib.containsS_iff _ _).2 hb]
  have hia := idx_mem ha
  have hib := idx_mem hb
  have hck := chk_of_valid hn (by have := edges_len m false; omega) (edges_valid h false)
  have hp : (stPath m a b).2 = (pathOf m a b).2 := by
    rw [stPath, if_pos hs]
    split
    · rename_i h0; rw [h0]
    · rfl
  rw [hp]
  obtain ⟨_, _, h3⟩ := ways_plain m.nodes.length ((edgesL m false).map (·.1)) (Lib.idxOfS m.nodes a) (Lib.idxOfS m.nodes b)
  have h4 : (pathOf m a b).2 = 0 ∨ (pathOf m a b).2 = 8 := by
    rw [pathOf, pathE, if_pos hck, if_neg (by omega)]
    split
    · exact .inl rfl
    · exact .inr rfl
  obtain ⟨_, _, _, _, _, h5⟩ := h3 h4
  rw [buses_eq h]
  unfold at_
  rw [Int.toNat_natCast] at h5
  rw [Bool.eq_iff_iff, beq_iff_eq, beq_iff_eq] at h5
  exact h5.symm

/-! ### the way of Join -/
section
variable {n : Nat} {l : List (Int × Int)} {es far : List Int} {tt : Int}
def FarEnds (l : List (Int × Int)) (far : List Int) (d k : Int) : Prop := (at_ far (edgeAt l k).1 = d ∧ at_ far (edgeAt l k).2 = d - 1) ∨ (at_ far (edgeAt l k).1 = d - 1 ∧ at_ far (edgeAt l k).2 = d)
/-- the ends of the way's edge j are as far as d - j and d - j - 1 -/
theorem back_far (hv : Valid n l) (hes : Within l es) (h : FarInv n l es tt far []) : ∀ (d : Nat) (a : Int), 0 ≤ a → a < n → at_ far a = d → ∀ (j : Nat) (hj : j < (back l es far tt (d + 1) a).length),
    (at_ far (edgeAt l (back l es far tt (d + 1) a)[j]).1 = d - j ∧ at_ far (edgeAt l (back l es far tt (d + 1) a)[j]).2 = d - j - 1) ∨ (at_ far (edgeAt l (back l es far tt (d + 1) a)[j]).1 = d - j - 1 ∧ at_ far (edgeAt l (back l es far tt (d + 1) a)[j]).2 = d - j)
  | 0, a, a0, a1, hd, j, hj => by
    have := (back_zero h a0 a1 (by omega)).2
    simp only [Nat.zero_add] at hj
    rw [this] at hj
    simp at hj
  | d + 1, a, a0, a1, hd, j, hj => by
    obtain ⟨k, e, hk, hi, hf⟩ := back_step h a0 a1 hd
    obtain ⟨k0, k1⟩ := hes k hk
    obtain ⟨t0, t1⟩ := nxt_ok hv k0 k1 hi
    have ih := back_far hv hes h d _ t0 t1 hf
    cases j with
    | zero =>
      have e0 : (back l es far tt (d + 1 + 1) a)[0] = k := by simp [e]
      rw [e0]
      rw [inc_iff] at hi
      unfold nxt at hf
      rcases hi with hi | hi
      · left
        have : (edgeAt l k).1 + (edgeAt l k).2 - a = (edgeAt l k).2 := by omega
        rw [this] at hf
        rw [hi]
        omega
      · right
        have : (edgeAt l k).1 + (edgeAt l k).2 - a = (edgeAt l k).1 := by omega
        rw [this] at hf
        rw [hi]
        omega
    | succ j =>
      have hj' : j < (back l es far tt (d + 1) (nxt l a k)).length := by rw [e] at hj; simpa using hj
      have e0 : (back l es far tt (d + 1 + 1) a)[j + 1] = (back l es far tt (d + 1) (nxt l a k))[j] := by simp [e]
      rw [e0]
      have := ih j hj'
      omega
end

/-- the names but that of number skip, of the first ones -/
def butN (skip : Int) (l : List ByteArray) : Nat → List ByteArray
  | 0 => []
  | j + 1 => if (j : Int) = skip then butN skip l j else butN skip l j ++ [l.getD j ⟨#[]⟩]
theorem mem_but {skip : Int} {l : List ByteArray} {x : ByteArray} : ∀ {j : Nat}, x ∈ butN skip l j ↔ ∃ i, i < j ∧ (i : Int) ≠ skip ∧ l.getD i ⟨#[]⟩ = x
  | 0 => by simp [butN]
  | j + 1 => by
    rw [butN]
    by_cases h : (j : Int) = skip
    · rw [if_pos h, mem_but]
      constructor
      · rintro ⟨i, h1, h2, h3⟩; exact ⟨i, by omega, h2, h3⟩
      · rintro ⟨i, h1, h2, h3⟩; exact ⟨i, by omega, h2, h3⟩
    · rw [if_neg h, List.mem_append, mem_but, List.mem_singleton]
      constructor
      · rintro (⟨i, h1, h2, h3⟩ | h1)
        · exact ⟨i, by omega, h2, h3⟩
        · exact ⟨j, by omega, h, h1.symm⟩
      · rintro ⟨i, h1, h2, h3⟩
        by_cases hij : i = j
        · subst hij; exact .inr h3.symm
        · exact .inl ⟨i, by omega, h2, h3⟩

theorem join_valid {n : NetD} (h : VNet n) : Valid n.nodes.length (joinEdges n) := by
  intro x hx
  obtain ⟨y, hy, rfl⟩ := List.mem_map.1 hx
  obtain ⟨y1, y2, y3, y4⟩ := edges_valid h true y hy
  have h1 := bus_range h _ y1 y2
  have h2 := bus_range h _ y3 y4
  exact ⟨h1.1, h1.2, h2.1, h2.2⟩
theorem join_len (n : NetD) : (joinEdges n).length = ((edgesL n true).map (·.1)).length := by simp [joinEdges]
/-- an edge of Join belongs tt an open switch -/
theorem join_sw {n : NetD} {k : Int} (hk : 0 ≤ k ∧ k < (joinEdges n).length) : ∃ j, ∃ hj : j < n.switches.length, n.switches[j].opn = true ∧ edgeAt (joinEdges n) k = (at_ (busesL n) (Lib.idxOfS n.nodes n.switches[j].a), at_ (busesL n) (Lib.idxOfS n.nodes n.switches[j].b)) ∧ swName n (((edgesL n true).map (·.2)).getD k.toNat 0) = n.switches[j].name := by
  rw [join_len] at hk
  obtain ⟨j, hj, ho, e, e2⟩ := edge_sw hk
  refine ⟨j, hj, ho, ?_, ?_⟩
  · have hkl : k.toNat < ((edgesL n true).map (·.1)).length := by omega
    have h1 : edgeAt ((edgesL n true).map (·.1)) k = ((edgesL n true).map (·.1))[k.toNat] := by
      rw [edgeAt, List.getD_eq_getElem?_getD, List.getElem?_eq_getElem hkl]; rfl
    rw [edgeAt, joinEdges, List.getD_eq_getElem?_getD, List.getElem?_map, List.getElem?_eq_getElem hkl, ← h1, e]; rfl
  · rw [e2, swName, Int.toNat_natCast, List.getElem?_eq_getElem hj]; rfl
/-- all that StationJoins asks of a valid network and two of its nodes -/
structure JoinOk (n : NetD) (a b : ByteArray) : Prop where
  bad : (stJoin n a b).2 ≠ 0 → (stJoin n a b).1 = [] ∧ (stPath n a b).2 ≠ 0
  none : (stJoin n a b).2 = 0 → ((stPath n a b).2 = 0 ↔ (stJoin n a b).1.length = 0)
  sw : ∀ s ∈ (stJoin n a b).1, ∃ i, ∃ hi : i < n.switches.length, n.switches[i].name = s
  all : (stJoin n a b).2 = 0 → (stPath (closeN n (butN (-1) (stJoin n a b).1 (stJoin n a b).1.length)) a b).2 = 0
  but : (stJoin n a b).2 = 0 → ∀ i : Nat, i < (stJoin n a b).1.length → (stPath (closeN n (butN i (stJoin n a b).1 (stJoin n a b).1.length)) a b).2 ≠ 0
theorem join_law {n : NetD} {a b : ByteArray} (hc : checkN n = 0) (ha : a ∈ n.nodes) (hb : b ∈ n.nodes) : JoinOk n a b := by
  have h := vnet hc
  have hw := h.hw
  have hn := h.hn
  have hs : stCheck n [a, b] = 0 := by
    rw [stCheck, if_pos hc, if_pos]
    simp [(Lib.containsS_iff _ _).2 ha, (Lib.containsS_iff _ _).2 hb]
  have hia := idx_mem ha
  have hib := idx_mem hb
  have hA := bus_range h _ hia.1 hia.2
  have hB := bus_range h _ hib.1 hib.2
  have hv := join_valid h
  have hes := all_within (joinEdges n)
  have hle : (joinEdges n).length ≤ 64 := by rw [join_len]; have := edges_len n true; omega
  have hck := chk_of_valid hn hle hv
  have hinv := far_inv hv hes hB
  have hpa := stPath_iff hc ha hb
  have hJ : joinPath n a b = if (pathL n.nodes.length (joinEdges n) (allL (joinEdges n).length) (at_ (busesL n) (Lib.idxOfS n.nodes a)) (at_ (busesL n) (Lib.idxOfS n.nodes b))).2 = true then
      ((pathL n.nodes.length (joinEdges n) (allL (joinEdges n).length) (at_ (busesL n) (Lib.idxOfS n.nodes a)) (at_ (busesL n) (Lib.idxOfS n.nodes b))).1, 0) else ([], 8) := by
    rw [joinPath, pathE, if_pos hck, if_neg (by omega), Int.toNat_natCast]
  have hSt : stJoin n a b = if (joinPath n a b).2 = 0 then (namesL n (joinPath n a b).1 ((edgesL n true).map (·.2)), 0) else ([], (joinPath n a b).2) := by rw [stJoin, if_pos hs]
  generalize hX : at_ (busesL n) (Lib.idxOfS n.nodes a) = X at *
  generalize hY : at_ (busesL n) (Lib.idxOfS n.nodes b) = Y at *
  by_cases hf : 0 ≤ at_ (farL n.nodes.length (joinEdges n) (allL (joinEdges n).length) Y) X
  · obtain ⟨p1, p2⟩ := path_yes hv hes hA hB hf
    rw [if_pos p1] at hJ
    rw [hJ, if_pos rfl] at hSt
    have hpl : (pathL n.nodes.length (joinEdges n) (allL (joinEdges n).length) X Y).1 = back (joinEdges n) (allL (joinEdges n).length) (farL n.nodes.length (joinEdges n) (allL (joinEdges n).length) Y) Y ((at_ (farL n.nodes.length (joinEdges n) (allL (joinEdges n).length) Y) X).toNat + 1) X := by
      rw [pathL, if_neg (by unfold at_ at hf; omega)]; rfl
    simp only at hSt
    have hbf := back_far hv hes hinv (at_ (farL n.nodes.length (joinEdges n) (allL (joinEdges n).length) Y) X).toNat X hA.1 hA.2 (by omega)
    obtain ⟨r1, r2, r3, _, _⟩ := back_run hv hes hinv (at_ (farL n.nodes.length (joinEdges n) (allL (joinEdges n).length) Y) X).toNat X hA.1 hA.2 (by omega)
    rw [← hpl] at r1 r2 r3
    have hbf2 : ∀ (j : Nat) (hj : j < (pathL n.nodes.length (joinEdges n) (allL (joinEdges n).length) X Y).1.length),
        FarEnds (joinEdges n) (farL n.nodes.length (joinEdges n) (allL (joinEdges n).length) Y) (at_ (farL n.nodes.length (joinEdges n) (allL (joinEdges n).length) Y) X - j) (pathL n.nodes.length (joinEdges n) (allL (joinEdges n).length) X Y).1[j] := fun j hj => by
      have := hbf j (by rw [← hpl]; exact hj)
      simp only [← hpl] at this
      have e : (((at_ (farL n.nodes.length (joinEdges n) (allL (joinEdges n).length) Y) X).toNat : Nat) : Int) = at_ (farL n.nodes.length (joinEdges n) (allL (joinEdges n).length) Y) X := by omega
      rw [e] at this
      exact this
    clear hbf hpl
    have hz : X = Y ↔ (at_ (farL n.nodes.length (joinEdges n) (allL (joinEdges n).length) Y) X).toNat = 0 := by
      constructor
      · rintro e; rw [e, hinv.start]; rfl
      · intro e; exact (back_zero hinv hA.1 hA.2 (by omega)).1
    have hzero : at_ (farL n.nodes.length (joinEdges n) (allL (joinEdges n).length) Y) Y = 0 := hinv.start
    generalize (pathL n.nodes.length (joinEdges n) (allL (joinEdges n).length) X Y).1 = way at *
    generalize farL n.nodes.length (joinEdges n) (allL (joinEdges n).length) Y = far at *
    have hlen : (stJoin n a b).1.length = way.length := by rw [hSt]; simp [namesL]
    have hway : ∀ k ∈ way, 0 ≤ k ∧ k < (joinEdges n).length := fun k hk => mem_all.1 (r3 k hk)
    have hname : ∀ i (hi : i < way.length), (stJoin n a b).1.getD i ⟨#[]⟩ = swName n (((edgesL n true).map (·.2)).getD way[i].toNat 0) := by
      intro i hi
      rw [hSt]
      simp [namesL, hi]
    refine ⟨fun h0 => absurd (by rw [hSt]) h0, fun _ => ?_, fun s hsm => ?_, fun _ => ?_, fun _ i hi => ?_⟩
    · rw [hpa, hlen, p2]; exact hz
    · rw [hSt] at hsm
      obtain ⟨k, hk, rfl⟩ := List.mem_map.1 hsm
      obtain ⟨j, hj, _, _, e⟩ := join_sw (hway k hk)
      exact ⟨j, hj, e.symm⟩
    · have hcm : checkN (closeN n (butN (-1) (stJoin n a b).1 (stJoin n a b).1.length)) = 0 := by rw [closeN_check]; exact hc
      have hin : ∀ k ∈ way, swName n (((edgesL n true).map (·.2)).getD k.toNat 0) ∈ butN (-1) (stJoin n a b).1 (stJoin n a b).1.length := by
        intro k hk
        obtain ⟨i, hi, rfl⟩ := List.getElem_of_mem hk
        exact mem_but.2 ⟨i, by omega, by omega, hname i hi⟩
      generalize butN (-1) (stJoin n a b).1 (stJoin n a b).1.length = t at *
      rw [stPath_iff hcm ha hb]
      have hvm := vnet hcm
      have hc2 := run_conn r1
      rw [r2] at hc2
      have key := hc2.keep (fun v => ∀ x : Int, 0 ≤ x ∧ x < n.nodes.length → at_ (busesL n) x = v → at_ (busesL (closeN n t)) (Lib.idxOfS n.nodes a) = at_ (busesL (closeN n t)) x) ?_ ?_
      · exact key _ hib hY
      · intro v k hp hk hi z hz1 hz2
        obtain ⟨j, hj, _, e, e2⟩ := join_sw (hway k hk)
        have hsw := h.sw _ (List.getElem_mem hj)
        have h1 := bus_edge hvm (j := j) (by rw [closeN_len]; exact hj) (by rw [closeN_at hj, closeSw_opn]; exact .inr (by rw [← e2]; exact hin k hk))
        rw [closeN_at hj, (closeSw_name _ _).2.1, (closeSw_name _ _).2.2] at h1
        have h2 : (closeN n t).nodes = n.nodes := rfl
        rw [h2] at h1
        have hxa := idx_mem hsw.1
        have hxb := idx_mem hsw.2.1
        rw [inc_iff, e] at hi
        unfold nxt at hz2
        rw [e] at hz2
        simp only at hi hz2
        rcases hi with hi | hi
        · have e3 : at_ (busesL n) (Lib.idxOfS n.nodes n.switches[j].b) = at_ (busesL n) z := by omega
          rw [hp _ hxa hi, h1]
          exact bus_mono hc t hxb hz1 e3
        · have e3 : at_ (busesL n) (Lib.idxOfS n.nodes n.switches[j].a) = at_ (busesL n) z := by omega
          rw [hp _ hxb hi, ← h1]
          exact bus_mono hc t hxa hz1 e3
      · intro x hx hxe
        exact bus_mono hc t hia hx (by rw [hX, hxe])
    · have hcm : checkN (closeN n (butN i (stJoin n a b).1 (stJoin n a b).1.length)) = 0 := by rw [closeN_check]; exact hc
      intro h0
      rw [stPath_iff hcm ha hb] at h0
      have hvm := vnet hcm
      have key := bus_keep hvm (fun v => at_ far X - i ≤ at_ far (at_ (busesL n) v)) ?_ hia hib h0 (by rw [hX]; omega)
      · rw [hY, hzero] at key
        omega
      · intro j hj ho
        have hj' : j < n.switches.length := by rw [closeN_len] at hj; exact hj
        have h2 : (closeN n (butN i (stJoin n a b).1 (stJoin n a b).1.length)).nodes = n.nodes := rfl
        rw [closeN_at hj', closeSw_opn] at ho
        rw [closeN_at hj', (closeSw_name _ _).2.1, (closeSw_name _ _).2.2, h2]
        rcases ho with ho | ho
        · rw [bus_edge h hj' ho]
        · obtain ⟨i2, hi2, hne, e⟩ := mem_but.1 ho
          rw [hname i2 (by omega)] at e
          obtain ⟨j2, hj2, _, e3, e4⟩ := join_sw (hway way[i2] (List.getElem_mem _))
          rw [e4] at e
          have hjj := sw_inj hc hj2 hj' e
          subst hjj
          have h5 := hbf2 i2 (by omega)
          unfold FarEnds at h5
          rw [e3] at h5
          simp only at h5
          have hne2 : i2 ≠ i := fun e => hne (by rw [e])
          omega
  · have hq := path_no (n := n.nodes.length) (l := joinEdges n) (es := allL (joinEdges n).length) (a := X) («to» := Y) (by omega)
    rw [hq, if_neg (by simp)] at hJ
    rw [hJ, if_neg (by simp)] at hSt
    have h8 : (stJoin n a b).2 = 8 := by rw [hSt]
    refine ⟨fun _ => ⟨by rw [hSt], fun h0 => ?_⟩, (fun h0 => by rw [h8] at h0; cases h0), (fun s hsm => by rw [hSt] at hsm; simp at hsm), (fun h0 => by rw [h8] at h0; cases h0), (fun h0 => by rw [h8] at h0; cases h0)⟩
    rw [hpa] at h0
    rw [h0, hinv.start] at hf
    omega
end Go.Proofs.Ytphiiflcpeploaa
